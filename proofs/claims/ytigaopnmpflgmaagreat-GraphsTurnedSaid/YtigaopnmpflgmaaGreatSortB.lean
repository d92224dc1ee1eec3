/-
  For countersignlaw16.GraphsTurned: contracts of the sort: insertion, pivots, heaps. No conditions beyond those that each theorem states.
-/
import Derived.Test.YtigaopnmpflgmaaGreatSortA
import Derived.Test.YtigaopnmpflgmaaGreatGraD
import Derived.Sort.AssemblyPlain
set_option linter.unusedSimpArgs false
set_option linter.unusedVariables false
section
/-
  The sort: an array of edges in memory, and what is done with it.
-/
namespace Go.Di
open Go.Ev
instance : Inhabited Edge := ⟨⟨0, 0, false⟩⟩
/-- less -/
def ltE (x y : Edge) : Bool := decide (cmpE x y < 0)
/-- a slice whose cells are edges, within a block -/
structure Sl where
  b : Nat
  q : Nat
  n : Nat
  m : Nat
  e : Bool
  pre : List AV
  suf : List AV
def Sl.v (s : Sl) : AV := .sl s.b s.pre.length s.n s.m s.e
noncomputable def Sl.blk (s : Sl) (d : Array Edge) : Blk := mkBlk s.q (s.pre ++ (ecells d.toList ++ s.suf))
theorem Sl.idx (s : Sl) {i : Nat} (h : i < s.n) : idxS 3 s.v (.int .i64 (.ofNat i)) = .val (.ptr s.b (s.pre.length + i * 3)) := idxS_n _ _ _ _ _ _ _ _ h
theorem Sl.rd (s : Sl) {d : Array Edge} {i : Nat} (h : i < d.size) : rdBlkN (s.blk d) (s.pre.length + i * 3) 3 = some (d[i]!).cells := by
  have hl : (ecells d.toList).length = d.size * 3 := by rw [ecells_len, Array.length_toList]
  unfold Sl.blk
  rw [rdBlkN_mk, if_pos (by simp only [List.length_append, hl]; omega)]
  have h2 : (s.pre ++ (ecells d.toList ++ s.suf)).drop (s.pre.length + i * 3) = (ecells d.toList).drop (i * 3) ++ s.suf := by
    rw [List.drop_append, List.drop_eq_nil_of_le (by omega), List.nil_append, Nat.add_sub_cancel_left, List.drop_append_of_le_length (by omega)]
  rw [h2, List.take_append_of_le_length (by rw [List.length_drop]; omega), ecells_at _ _ (by simpa using h)]
  simp [h]
theorem ecells_set : ∀ (l : List Edge) (i : Nat) (x : Edge) (r : List AV), i < l.length → setL (ecells l ++ r) (i * 3) x.cells = ecells (l.set i x) ++ r
  | y :: l, 0, x, r, _ => by simp [setL, ecells, Edge.cells]
  | y :: l, i + 1, x, r, h => by
    have ih := ecells_set l i x r (by simpa using h)
    simp only [setL] at ih ⊢
    have e1 : ecells (y :: l) ++ r = y.cells ++ (ecells l ++ r) := by simp [ecells]
    have e2 : ecells ((y :: l).set (i + 1) x) ++ r = y.cells ++ (ecells (l.set i x) ++ r) := by simp [ecells]
    rw [e1, e2, ← ih]
    have hy : y.cells.length = 3 := rfl
    rw [List.take_append, List.take_of_length_le (by omega), List.drop_append, List.drop_eq_nil_of_le (by omega), hy]
    rw [show (i + 1) * 3 - 3 = i * 3 by omega, show (i + 1) * 3 + x.cells.length - 3 = i * 3 + x.cells.length by omega]
    simp
theorem Sl.wr (s : Sl) {d : Array Edge} {i : Nat} (x : Edge) (h : i < d.size) : wrBlk (s.blk d) (s.pre.length + i * 3) x.cells = some (s.blk (d.setIfInBounds i x)) := by
  have hl : (ecells d.toList).length = d.size * 3 := by rw [ecells_len, Array.length_toList]
  have hx : x.cells.length = 3 := rfl
  unfold Sl.blk
  rw [wrBlk_mk, if_pos (by simp only [List.length_append, hl, hx]; omega)]
  congr 2
  have : setL (s.pre ++ (ecells d.toList ++ s.suf)) (s.pre.length + i * 3) x.cells = s.pre ++ setL (ecells d.toList ++ s.suf) (i * 3) x.cells := by
    unfold setL
    rw [List.take_append, List.take_of_length_le (by omega), List.drop_append, List.drop_eq_nil_of_le (by omega)]
    rw [show s.pre.length + i * 3 - s.pre.length = i * 3 by omega, show s.pre.length + i * 3 + x.cells.length - s.pre.length = i * 3 + x.cells.length by omega]
    simp
  rw [this, ecells_set _ _ _ _ (by simpa using h), Array.toList_setIfInBounds]
theorem cells_len (x : Edge) : x.cells.length = 3 := id rfl
theorem cells_eqF (x : Edge) : eqF 64 (.agg x.cells) (.agg x.cells) = true := eqF_agg _ (tr_i rfl)
theorem callV_fn (call : Ev.Call) (f : FuncId) (args : List AV) (H : Hp) : callV call (.fn f [] []) args H = call (.f f) args H := by
  show call (.f f) ([] ++ args ++ []) H = _
  rw [List.nil_append, List.append_nil]
/-- the array in memory -/
structure St (s : Sl) (d : Array Edge) (H : Hp) : Prop where
  get : H.get s.b = s.blk d
  lt : s.b < H.nx
  sz : d.size = s.n
theorem St.no {s : Sl} {d : Array Edge} {H H' : Hp} (h : St s d H) (f : Fm No H H') : St s d H' := ⟨(f.keep h.lt).trans h.get, Nat.lt_of_lt_of_le h.lt f.nx, h.sz⟩
/-- only the array is written -/
abbrev Fs (s : Sl) (H H' : Hp) : Prop := Fm (fun b => b = s.b) H H'
theorem Fm.fs {s : Sl} {H H' : Hp} (f : Fm No H H') : Fs s H H' := f.mono fun _ _ h => h.elim
/-- what the sort knows of its comparison -/
def CmpE (call : Ev.Call) (fc : FuncId) : Prop := ∀ (x y : Edge) (H : Hp), Ok (call (.f fc) [.agg x.cells, .agg y.cells] H) fun v H' => v = .int .i64 (cmpE x y) ∧ Fm No H H'
theorem lss0 (n : Int) : (n < Int.ofNat 0) = (n < 0) := id rfl
theorem ltE_eq (x y : Edge) : (decide (cmpE x y < 0)) = ltE x y := id rfl
theorem rdS {s : Sl} {d : Array Edge} {H : Hp} (h : St s d H) {i : Nat} (hi : i < d.size) : rdBlkN (H.get s.b) (s.pre.length + i * 3) 3 = some (d[i]!).cells := by rw [h.get, s.rd hi]
theorem St.put2 {s : Sl} {d d1 d2 : Array Edge} {H : Hp} (h : St s d H) (hz : d2.size = d.size) : St s d2 ((H.put s.b (s.blk d1)).put s.b (s.blk d2)) :=
  ⟨get_put_same _ _ _, h.lt, hz.trans h.sz⟩
theorem Fs.put2 {s : Sl} {d1 d2 : Array Edge} {H0 H : Hp} (h : Fs s H0 H) : Fs s H0 ((H.put s.b (s.blk d1)).put s.b (s.blk d2)) := (h.put _ _ fun _ => rfl).put _ _ fun _ => rfl
open Go.Sort in
theorem swp_size (d : Array Edge) (i j : Nat) : (swp d i j).size = d.size := by simp [swp]
end Go.Di
end

section
/-
  The sort: insertion.
-/
namespace Go.Di
open Go.Ev Go.Sort
theorem ins_in {call : Ev.Call} {fc : FuncId} (hc : CmpE call fc) {s : Sl} (hn : s.n < 900000) {a : Nat} {H0 : Hp} {q : Hp → R1} {Q : AV → Hp → Prop} :
    ∀ (k j : Nat) (d : Array Edge) (H : Hp), j < k → j < s.n → St s d H → Fs s H0 H → (∀ H', St s (insInner ltE a j d) H' → Fs s H0 H' → Ok (q H') Q) →
      Ok (s_ins_l4 call q s.v (.int .i64 (.ofNat a)) (.fn fc [] []) k (.int .i64 (.ofNat j)) H) Q
  | 0, j, _, _, h, _, _, _, _ => by omega
  | k + 1, j, d, H, hk, hj, hS, hF, hq => by
    show Ok (s_ins_b4 call _ _ _ _ (s_ins_l4 call _ _ _ _ k) _ H) Q
    unfold s_ins_b4
    have hsz := hS.sz
    have hg := hS.get
    by_cases h : a < j
    · obtain ⟨p, rfl⟩ : ∃ p, j = p + 1 := ⟨j - 1, by omega⟩
      rw [insInner] at hq
      simp (disch := first | omega | exact tr_i rfl | (simp only [nx_push, nx_put]; done) | (simp only [nx_push, nx_put, Array.size_setIfInBounds, swp_size]; omega)) only [go_sem, Nat.reduceAdd, Nat.reduceMul, Nat.reduceSub, Nat.reduceLeDiff, Nat.reduceEqDiff, Nat.reduceShiftRight, Nat.reduceAnd, Sl.idx, Sl.rd, Sl.wr, cells_len, cells_eqF, callV_fn, Array.size_setIfInBounds, swp_size, lss0, ltE_eq, hg, h, Nat.add_sub_cancel]
      refine Ok.deO (hc _ _ _) ?_
      rintro v H' ⟨rfl, f'⟩
      have hS' := hS.no f'
      have hg' := hS'.get
      simp (disch := first | omega | exact tr_i rfl | (simp only [nx_push, nx_put]; done) | (simp only [nx_push, nx_put, Array.size_setIfInBounds, swp_size]; omega)) only [go_sem, Nat.reduceAdd, Nat.reduceMul, Nat.reduceSub, Nat.reduceLeDiff, Nat.reduceEqDiff, Nat.reduceShiftRight, Nat.reduceAnd, Sl.idx, Sl.rd, Sl.wr, cells_len, cells_eqF, callV_fn, Array.size_setIfInBounds, swp_size, lss0, ltE_eq, hg', Nat.add_sub_cancel]
      cases hl : ltE d[p + 1]! d[p]! with
      | false =>
        rw [hl] at hq
        simp (disch := first | omega | exact tr_i rfl | (simp only [nx_push, nx_put]; done) | (simp only [nx_push, nx_put, Array.size_setIfInBounds, swp_size]; omega)) only [go_sem, Nat.reduceAdd, Nat.reduceMul, Nat.reduceSub, Nat.reduceLeDiff, Nat.reduceEqDiff, Nat.reduceShiftRight, Nat.reduceAnd, Sl.idx, Sl.rd, Sl.wr, cells_len, cells_eqF, callV_fn, Array.size_setIfInBounds, swp_size, lss0, ltE_eq]
        exact hq H' (by simpa using hS') (hF.trans f'.fs)
      | true =>
        rw [hl] at hq
        unfold s_ins_j26
        simp (disch := first | omega | exact tr_i rfl | (simp only [nx_push, nx_put]; done) | (simp only [nx_push, nx_put, Array.size_setIfInBounds, swp_size]; omega)) only [go_sem, Nat.reduceAdd, Nat.reduceMul, Nat.reduceSub, Nat.reduceLeDiff, Nat.reduceEqDiff, Nat.reduceShiftRight, Nat.reduceAnd, Sl.idx, Sl.rd, Sl.wr, cells_len, cells_eqF, callV_fn, Array.size_setIfInBounds, swp_size, lss0, ltE_eq, hg', Nat.add_sub_cancel]
        unfold s_ins_j6
        simp (disch := first | omega | exact tr_i rfl | (simp only [nx_push, nx_put]; done) | (simp only [nx_push, nx_put, Array.size_setIfInBounds, swp_size]; omega)) only [go_sem, Nat.reduceAdd, Nat.reduceMul, Nat.reduceSub, Nat.reduceLeDiff, Nat.reduceEqDiff, Nat.reduceShiftRight, Nat.reduceAnd, Sl.idx, Sl.rd, Sl.wr, cells_len, cells_eqF, callV_fn, Array.size_setIfInBounds, swp_size, lss0, ltE_eq, Nat.add_sub_cancel]
        exact ins_in hc hn k p (swp d (p + 1) p) _ (by omega) (by omega) (hS'.put2 (swp_size _ _ _)) (Fs.put2 (hF.trans f'.fs)) (by simpa [h] using hq)
    · simp (disch := first | omega | exact tr_i rfl | (simp only [nx_push, nx_put]; done) | (simp only [nx_push, nx_put, Array.size_setIfInBounds, swp_size]; omega)) only [go_sem, Nat.reduceAdd, Nat.reduceMul, Nat.reduceSub, Nat.reduceLeDiff, Nat.reduceEqDiff, Nat.reduceShiftRight, Nat.reduceAnd, Sl.idx, Sl.rd, Sl.wr, cells_len, cells_eqF, callV_fn, Array.size_setIfInBounds, swp_size, lss0, ltE_eq, h]
      refine hq H ?_ hF
      cases j with
      | zero => exact hS
      | succ j => rw [insInner]; simpa [show ¬ a < j + 1 from h] using hS
theorem insOuter_size (lt : Edge → Edge → Bool) (a : Nat) : ∀ (j : Nat) (d : Array Edge), (insInner lt a j d).size = d.size
  | 0, d => rfl
  | j + 1, d => by
    rw [insInner]
    split
    · rw [insOuter_size lt a j, swp_size]
    · rfl
theorem ins_out {call : Ev.Call} {fc : FuncId} (hc : CmpE call fc) {s : Sl} (hn : s.n < 900000) {a b : Nat} (hb : b ≤ s.n) {H0 : Hp} {q : Hp → R1} {Q : AV → Hp → Prop} :
    ∀ (k i : Nat) (d : Array Edge) (H : Hp), b - i < k → i ≤ 900001 → St s d H → Fs s H0 H → (∀ H', St s (insOuter ltE a b i d) H' → Fs s H0 H' → Ok (q H') Q) →
      Ok (s_ins_l1 call q s.v (.int .i64 (.ofNat a)) (.int .i64 (.ofNat b)) (.fn fc [] []) k (.int .i64 (.ofNat i)) H) Q
  | 0, i, _, _, h, _, _, _, _ => by omega
  | k + 1, i, d, H, hk, hi, hS, hF, hq => by
    show Ok (s_ins_b1 call _ _ _ _ _ (s_ins_l1 call _ _ _ _ _ k) _ H) Q
    unfold s_ins_b1
    rw [insOuter] at hq
    by_cases h : i < b
    · rw [if_pos h] at hq
      simp (disch := first | omega | exact tr_i rfl | (simp only [nx_push, nx_put]; done) | (simp only [nx_push, nx_put, Array.size_setIfInBounds, swp_size]; omega)) only [go_sem, Nat.reduceAdd, Nat.reduceMul, Nat.reduceSub, Nat.reduceLeDiff, Nat.reduceEqDiff, Nat.reduceShiftRight, Nat.reduceAnd, Sl.idx, Sl.rd, Sl.wr, cells_len, cells_eqF, callV_fn, Array.size_setIfInBounds, swp_size, lss0, ltE_eq, h]
      unfold s_ins_j45 s_ins_L4
      rw [fuelX_eq]
      refine ins_in hc hn loopFuel i d H (by rw [loopFuel_eq]; omega) (by omega) hS hF fun H' hS' hF' => ?_
      unfold s_ins_j3
      simp (disch := first | omega | exact tr_i rfl | (simp only [nx_push, nx_put]; done) | (simp only [nx_push, nx_put, Array.size_setIfInBounds, swp_size]; omega)) only [go_sem, Nat.reduceAdd, Nat.reduceMul, Nat.reduceSub, Nat.reduceLeDiff, Nat.reduceEqDiff, Nat.reduceShiftRight, Nat.reduceAnd, Sl.idx, Sl.rd, Sl.wr, cells_len, cells_eqF, callV_fn, Array.size_setIfInBounds, swp_size, lss0, ltE_eq]
      exact ins_out hc hn hb k (i + 1) _ H' (by omega) (by omega) hS' hF' hq
    · rw [if_neg h] at hq
      simp (disch := first | omega | exact tr_i rfl | (simp only [nx_push, nx_put]; done) | (simp only [nx_push, nx_put, Array.size_setIfInBounds, swp_size]; omega)) only [go_sem, Nat.reduceAdd, Nat.reduceMul, Nat.reduceSub, Nat.reduceLeDiff, Nat.reduceEqDiff, Nat.reduceShiftRight, Nat.reduceAnd, Sl.idx, Sl.rd, Sl.wr, cells_len, cells_eqF, callV_fn, Array.size_setIfInBounds, swp_size, lss0, ltE_eq, h]
      exact hq H hS hF
/-- data[a:b], sorted by insertion -/
theorem ins_ok {C : Nat → Ev.Call} (hC : LinksS C) {k : Nat} (hk : 1 ≤ k) {fc : FuncId} (hc : CmpE (C (k - 1)) fc) {s : Sl} (hn : s.n < 900000) {a b : Nat} (ha : a ≤ b) (hb : b ≤ s.n) {d : Array Edge} {H : Hp} (hS : St s d H) :
    Ok (C k (.f id_s_ins) [s.v, .int .i64 (.ofNat a), .int .i64 (.ofNat b), .fn fc [] []] H) fun r H' => r = .tup [] ∧ St s (insertionSort ltE d a b) H' ∧ Fs s H H' := by
  obtain ⟨j, rfl⟩ : ∃ j, k = j + 1 := ⟨k - 1, by omega⟩
  rw [(hC j).s_ins]
  unfold s_ins s_ins_c
  simp (disch := first | omega | exact tr_i rfl | (simp only [nx_push, nx_put]; done) | (simp only [nx_push, nx_put, Array.size_setIfInBounds, swp_size]; omega)) only [go_sem, Nat.reduceAdd, Nat.reduceMul, Nat.reduceSub, Nat.reduceLeDiff, Nat.reduceEqDiff, Nat.reduceShiftRight, Nat.reduceAnd, Sl.idx, Sl.rd, Sl.wr, cells_len, cells_eqF, callV_fn, Array.size_setIfInBounds, swp_size, lss0, ltE_eq]
  unfold s_ins_L1
  rw [fuelX_eq]
  exact ins_out hc hn hb loopFuel (a + 1) d H (by rw [loopFuel_eq]; omega) (by omega) hS (Fm.refl _ _) fun H' hS' hF' => Ok.ret ⟨rfl, hS', hF'⟩
end Go.Di
end

section
/-
  The sort: the pivot.
-/
namespace Go.Di
open Go.Ev Go.Sort
variable {C : Nat → Ev.Call}
/-- a number in a block of its own -/
structure Cnt (s : Sl) (pb w : Nat) (H : Hp) : Prop where
  get : H.get pb = mkBlk 0 [.int .i64 (.ofNat w)]
  lt : pb < H.nx
  ne : s.b ≠ pb
abbrev Fp (pb : Nat) (H H' : Hp) : Prop := Fm (fun b => b = pb) H H'
theorem Fm.fp {pb : Nat} {H H' : Hp} (f : Fm No H H') : Fp pb H H' := f.mono fun _ _ h => h.elim
theorem Cnt.no {s : Sl} {pb w : Nat} {H H' : Hp} (h : Cnt s pb w H) (f : Fm No H H') : Cnt s pb w H' := ⟨(f.keep h.lt).trans h.get, Nat.lt_of_lt_of_le h.lt f.nx, h.ne⟩
theorem St.fp {s : Sl} {d : Array Edge} {pb : Nat} {H H' : Hp} (h : St s d H) (f : Fp pb H H') (hne : s.b ≠ pb) : St s d H' := ⟨(f.get _ h.lt hne).trans h.get, Nat.lt_of_lt_of_le h.lt f.nx, h.sz⟩
theorem ord2_ok (hC : LinksS C) {k : Nat} (hk : 1 ≤ k) {fc : FuncId} (hc : CmpE (C (k - 1)) fc) {s : Sl} {d : Array Edge} {pb w i j lo hi : Nat} {H : Hp} (hS : St s d H) (hp : Cnt s pb w H) (hw : w < 900000)
    (hi1 : lo ≤ i ∧ i < hi) (hj1 : lo ≤ j ∧ j < hi) (hh : hi ≤ s.n) :
    Ok (C k (.f id_s_ord2) [s.v, .int .i64 (.ofNat i), .int .i64 (.ofNat j), .ptr pb 0, .fn fc [] []] H) fun r H' =>
      ∃ i' j' w', r = .tup [.int .i64 (.ofNat i'), .int .i64 (.ofNat j')] ∧ (lo ≤ i' ∧ i' < hi) ∧ (lo ≤ j' ∧ j' < hi) ∧ w' ≤ w + 1 ∧ St s d H' ∧ Cnt s pb w' H' ∧ Fp pb H H' := by
  obtain ⟨k, rfl⟩ : ∃ j, k = j + 1 := ⟨k - 1, by omega⟩
  rw [(hC k).s_ord2]
  unfold s_ord2 s_ord2_c
  have hsz := hS.sz
  have hg := hS.get
  simp (disch := first | omega | exact tr_i rfl | (simp only [nx_push, nx_put]; done) | (simp only [nx_push, nx_put, Array.size_setIfInBounds, swp_size]; omega)) only [go_sem, Nat.reduceAdd, Nat.reduceMul, Nat.reduceSub, Nat.reduceLeDiff, Nat.reduceEqDiff, Nat.reduceShiftRight, Nat.reduceAnd, Sl.idx, Sl.rd, Sl.wr, cells_len, cells_eqF, callV_fn, Array.size_setIfInBounds, swp_size, lss0, ltE_eq, hg]
  refine Ok.deO (hc _ _ _) ?_
  rintro v H' ⟨rfl, f'⟩
  have hS' := hS.no f'
  have hp' := hp.no f'
  have hg' := hS'.get
  have hpg := hp'.get
  simp (disch := first | omega | exact tr_i rfl | (simp only [nx_push, nx_put]; done) | (simp only [nx_push, nx_put, Array.size_setIfInBounds, swp_size]; omega)) only [go_sem, Nat.reduceAdd, Nat.reduceMul, Nat.reduceSub, Nat.reduceLeDiff, Nat.reduceEqDiff, Nat.reduceShiftRight, Nat.reduceAnd, Sl.idx, Sl.rd, Sl.wr, cells_len, cells_eqF, callV_fn, Array.size_setIfInBounds, swp_size, lss0, ltE_eq, hg']
  cases hl : ltE d[j]! d[i]! with
  | true =>
    simp (disch := first | omega | exact tr_i rfl | (simp only [nx_push, nx_put]; done) | (simp only [nx_push, nx_put, Array.size_setIfInBounds, swp_size]; omega)) only [go_sem, Nat.reduceAdd, Nat.reduceMul, Nat.reduceSub, Nat.reduceLeDiff, Nat.reduceEqDiff, Nat.reduceShiftRight, Nat.reduceAnd, Sl.idx, Sl.rd, Sl.wr, cells_len, cells_eqF, callV_fn, Array.size_setIfInBounds, swp_size, lss0, ltE_eq, hpg]
    have fp : Fp pb H' (H'.put pb (mkBlk 0 [.int .i64 (.ofNat (w + 1))])) := (Fm.refl _ _).put _ _ fun _ => rfl
    exact Ok.ret ⟨j, i, w + 1, rfl, hj1, hi1, Nat.le_refl _, hS'.fp fp hp.ne, ⟨get_put_same _ _ _, hp'.lt, hp.ne⟩, f'.fp.trans fp⟩
  | false =>
    simp (disch := first | omega | exact tr_i rfl | (simp only [nx_push, nx_put]; done) | (simp only [nx_push, nx_put, Array.size_setIfInBounds, swp_size]; omega)) only [go_sem, Nat.reduceAdd, Nat.reduceMul, Nat.reduceSub, Nat.reduceLeDiff, Nat.reduceEqDiff, Nat.reduceShiftRight, Nat.reduceAnd, Sl.idx, Sl.rd, Sl.wr, cells_len, cells_eqF, callV_fn, Array.size_setIfInBounds, swp_size, lss0, ltE_eq]
    unfold s_ord2_j0
    exact Ok.ret ⟨i, j, w, rfl, hi1, hj1, Nat.le_succ _, hS', hp', f'.fp⟩
theorem med_ok (hC : LinksS C) {k : Nat} (hk : 2 ≤ k) {fc : FuncId} (hc : CmpE (C (k - 2)) fc) {s : Sl} {d : Array Edge} {pb w a b c lo hi : Nat} {H : Hp} (hS : St s d H) (hp : Cnt s pb w H) (hw : w < 900)
    (ha : lo ≤ a ∧ a < hi) (hb : lo ≤ b ∧ b < hi) (hc1 : lo ≤ c ∧ c < hi) (hh : hi ≤ s.n) :
    Ok (C k (.f id_s_med) [s.v, .int .i64 (.ofNat a), .int .i64 (.ofNat b), .int .i64 (.ofNat c), .ptr pb 0, .fn fc [] []] H) fun r H' =>
      ∃ i' w', r = .int .i64 (.ofNat i') ∧ (lo ≤ i' ∧ i' < hi) ∧ w' ≤ w + 3 ∧ St s d H' ∧ Cnt s pb w' H' ∧ Fp pb H H' := by
  obtain ⟨k, rfl⟩ : ∃ j, k = j + 2 := ⟨k - 2, by omega⟩
  rw [(hC (k + 1)).s_med]
  unfold s_med s_med_c
  refine Ok.ve (ord2_ok hC (k := k + 1) (by omega) hc hS hp (by omega) ha hb hh) ?_
  rintro r H1 ⟨a1, b1, w1, rfl, ha1, hb1, hw1, hS1, hp1, f1⟩
  simp (disch := first | omega | exact tr_i rfl | (simp only [nx_push, nx_put]; done) | (simp only [nx_push, nx_put]; omega)) only [go_sem, Nat.reduceAdd, Nat.reduceMul, Nat.reduceSub, Nat.reduceLeDiff, Nat.reduceEqDiff, Nat.reduceShiftRight, Nat.reduceAnd]
  refine Ok.ve (ord2_ok hC (k := k + 1) (by omega) hc hS1 hp1 (by omega) hb1 hc1 hh) ?_
  rintro r H2 ⟨b2, c2, w2, rfl, hb2, hc2, hw2, hS2, hp2, f2⟩
  simp (disch := first | omega | exact tr_i rfl | (simp only [nx_push, nx_put]; done) | (simp only [nx_push, nx_put]; omega)) only [go_sem, Nat.reduceAdd, Nat.reduceMul, Nat.reduceSub, Nat.reduceLeDiff, Nat.reduceEqDiff, Nat.reduceShiftRight, Nat.reduceAnd]
  refine Ok.ve (ord2_ok hC (k := k + 1) (by omega) hc hS2 hp2 (by omega) ha1 hb2 hh) ?_
  rintro r H3 ⟨a3, b3, w3, rfl, ha3, hb3, hw3, hS3, hp3, f3⟩
  simp (disch := first | omega | exact tr_i rfl | (simp only [nx_push, nx_put]; done) | (simp only [nx_push, nx_put]; omega)) only [go_sem, Nat.reduceAdd, Nat.reduceMul, Nat.reduceSub, Nat.reduceLeDiff, Nat.reduceEqDiff, Nat.reduceShiftRight, Nat.reduceAnd]
  exact Ok.ret ⟨b3, w3, rfl, hb3, by omega, hS3, hp3, (f1.trans f2).trans f3⟩
theorem medadj_ok (hC : LinksS C) {k : Nat} (hk : 3 ≤ k) {fc : FuncId} (hc : CmpE (C (k - 3)) fc) {s : Sl} (hn : s.n < 900000) {d : Array Edge} {pb w a lo hi : Nat} {H : Hp} (hS : St s d H) (hp : Cnt s pb w H) (hw : w < 900)
    (ha : lo + 1 ≤ a ∧ a + 1 < hi) (hh : hi ≤ s.n) :
    Ok (C k (.f id_s_medadj) [s.v, .int .i64 (.ofNat a), .ptr pb 0, .fn fc [] []] H) fun r H' =>
      ∃ i' w', r = .int .i64 (.ofNat i') ∧ (lo ≤ i' ∧ i' < hi) ∧ w' ≤ w + 3 ∧ St s d H' ∧ Cnt s pb w' H' ∧ Fp pb H H' := by
  obtain ⟨k, rfl⟩ : ∃ j, k = j + 3 := ⟨k - 3, by omega⟩
  rw [(hC (k + 2)).s_medadj]
  unfold s_medadj s_medadj_c
  simp (disch := first | omega | exact tr_i rfl | (simp only [nx_push, nx_put]; done) | (simp only [nx_push, nx_put]; omega)) only [go_sem, Nat.reduceAdd, Nat.reduceMul, Nat.reduceSub, Nat.reduceLeDiff, Nat.reduceEqDiff, Nat.reduceShiftRight, Nat.reduceAnd]
  refine Ok.ve (med_ok hC (k := k + 2) (by omega) hc hS hp hw (lo := lo) (hi := hi) ⟨by omega, by omega⟩ ⟨by omega, by omega⟩ ⟨by omega, by omega⟩ hh) ?_
  rintro r H1 ⟨a1, w1, rfl, ha1, hw1, hS1, hp1, f1⟩
  exact Ok.ret ⟨a1, w1, rfl, ha1, hw1, hS1, hp1, f1⟩
theorem piv_fin {call : Ev.Call} {s : Sl} {d : Array Edge} {pb w i lo hi : Nat} {H0 H : Hp} (hS : St s d H) (hp : Cnt s pb w H) (hi1 : lo ≤ i ∧ i < hi) (hF : Fm No H0 H) :
    Ok (s_piv_j14 call (.ptr pb 0) (.int .i64 (.ofNat i)) H) fun r H' => ∃ i' h, r = .tup [.int .i64 (.ofNat i'), .int .i64 (.ofNat h)] ∧ (lo ≤ i' ∧ i' < hi) ∧ h < 3 ∧ St s d H' ∧ Fm No H0 H' := by
  unfold s_piv_j14
  have hg := hp.get
  by_cases h0 : w = 0
  · simp (disch := first | omega | exact tr_i rfl | (simp only [nx_push, nx_put]; done) | (simp only [nx_push, nx_put]; omega)) only [go_sem, Nat.reduceAdd, Nat.reduceMul, Nat.reduceSub, Nat.reduceLeDiff, Nat.reduceEqDiff, Nat.reduceShiftRight, Nat.reduceAnd, hg, h0]
    exact Ok.ret ⟨i, 1, rfl, hi1, by omega, hS, hF⟩
  · by_cases h1 : w = 12
    · simp (disch := first | omega | exact tr_i rfl | (simp only [nx_push, nx_put]; done) | (simp only [nx_push, nx_put]; omega)) only [go_sem, Nat.reduceAdd, Nat.reduceMul, Nat.reduceSub, Nat.reduceLeDiff, Nat.reduceEqDiff, Nat.reduceShiftRight, Nat.reduceAnd, hg, h0, h1]
      exact Ok.ret ⟨i, 2, rfl, hi1, by omega, hS, hF⟩
    · simp (disch := first | omega | exact tr_i rfl | (simp only [nx_push, nx_put]; done) | (simp only [nx_push, nx_put]; omega)) only [go_sem, Nat.reduceAdd, Nat.reduceMul, Nat.reduceSub, Nat.reduceLeDiff, Nat.reduceEqDiff, Nat.reduceShiftRight, Nat.reduceAnd, hg, h0, h1]
      exact Ok.ret ⟨i, 0, rfl, hi1, by omega, hS, hF⟩
/-- the pivot lies within -/
theorem piv_ok (hC : LinksS C) {k : Nat} (hk : 4 ≤ k) {fc : FuncId} (hc : CmpE (C (k - 4)) fc) (hc2 : CmpE (C (k - 3)) fc) {s : Sl} (hn : s.n < 900000) {d : Array Edge} {a b : Nat} {H : Hp} (hS : St s d H) (ha : a < b) (hb : b ≤ s.n) :
    Ok (C k (.f id_s_piv) [s.v, .int .i64 (.ofNat a), .int .i64 (.ofNat b), .fn fc [] []] H) fun r H' =>
      ∃ i h, r = .tup [.int .i64 (.ofNat i), .int .i64 (.ofNat h)] ∧ (a ≤ i ∧ i < b) ∧ h < 3 ∧ St s d H' ∧ Fm No H H' := by
  obtain ⟨k, rfl⟩ : ∃ j, k = j + 4 := ⟨k - 4, by omega⟩
  rw [(hC (k + 3)).s_piv]
  unfold s_piv s_piv_c
  have fH : Fm No H (pushH H (mkBlk 0 [.int .i64 (.ofNat 0)])) := (Fm.refl _ _).push _
  have hS0 := hS.no fH
  have hp0 : Cnt s H.nx 0 (pushH H (mkBlk 0 [.int .i64 (.ofNat 0)])) := ⟨get_push_new _ _, Nat.lt_succ_self _, Nat.ne_of_lt hS.lt⟩
  have back : ∀ {H'}, Fp H.nx (pushH H (mkBlk 0 [.int .i64 (.ofNat 0)])) H' → Fm No H H' := fun f => fH.then f fun c h1 h2 => by omega
  have fin : ∀ {i j m w : Nat} {H1 : Hp}, a ≤ i ∧ i < b → a ≤ j ∧ j < b → a ≤ m ∧ m < b → w < 900 → St s d H1 → Cnt s H.nx w H1 → Fm No H H1 →
      Ok (s_piv_j17 (C (k + 3)) s.v (.fn fc [] []) (.ptr H.nx 0) (.int .i64 (.ofNat i)) (.int .i64 (.ofNat j)) (.int .i64 (.ofNat m)) H1) fun r H' =>
        ∃ i h, r = .tup [.int .i64 (.ofNat i), .int .i64 (.ofNat h)] ∧ (a ≤ i ∧ i < b) ∧ h < 3 ∧ St s d H' ∧ Fm No H H' := by
    intro i j m w H1 hi hj hm hw hS1 hp1 f1
    unfold s_piv_j17
    refine Ok.ve (med_ok hC (k := k + 3) (by omega) hc2 hS1 hp1 hw hi hj hm hb) ?_
    rintro r H2 ⟨i2, w2, rfl, hi2, hw2, hS2, hp2, f2⟩
    exact piv_fin hS2 hp2 hi2 (f1.then f2 fun c h1 h2 => by omega)
  by_cases h8 : 8 ≤ b - a
  · by_cases h50 : 50 ≤ b - a
    · simp (disch := first | omega | exact tr_i rfl | (simp only [nx_push, nx_put]; done) | (simp only [nx_push, nx_put]; omega)) only [go_sem, Nat.reduceAdd, Nat.reduceMul, Nat.reduceSub, Nat.reduceLeDiff, Nat.reduceEqDiff, Nat.reduceShiftRight, Nat.reduceAnd, h8, h50]
      refine Ok.ve (medadj_ok hC (k := k + 3) (by omega) hc hn hS0 hp0 (by omega) (lo := a) (hi := b) ⟨by omega, by omega⟩ hb) ?_
      rintro r H1 ⟨i1, w1, rfl, hi1, hw1, hS1, hp1, f1⟩
      refine Ok.ve (medadj_ok hC (k := k + 3) (by omega) hc hn hS1 hp1 (by omega) (lo := a) (hi := b) ⟨by omega, by omega⟩ hb) ?_
      rintro r H2 ⟨i2, w2, rfl, hi2, hw2, hS2, hp2, f2⟩
      refine Ok.ve (medadj_ok hC (k := k + 3) (by omega) hc hn hS2 hp2 (by omega) (lo := a) (hi := b) ⟨by omega, by omega⟩ hb) ?_
      rintro r H3 ⟨i3, w3, rfl, hi3, hw3, hS3, hp3, f3⟩
      exact fin hi1 hi2 hi3 (by omega) hS3 hp3 (back ((f1.trans f2).trans f3))
    · simp (disch := first | omega | exact tr_i rfl | (simp only [nx_push, nx_put]; done) | (simp only [nx_push, nx_put]; omega)) only [go_sem, Nat.reduceAdd, Nat.reduceMul, Nat.reduceSub, Nat.reduceLeDiff, Nat.reduceEqDiff, Nat.reduceShiftRight, Nat.reduceAnd, h8, h50]
      exact fin ⟨by omega, by omega⟩ ⟨by omega, by omega⟩ ⟨by omega, by omega⟩ (w := 0) (by omega) hS0 hp0 fH
  · simp (disch := first | omega | exact tr_i rfl | (simp only [nx_push, nx_put]; done) | (simp only [nx_push, nx_put]; omega)) only [go_sem, Nat.reduceAdd, Nat.reduceMul, Nat.reduceSub, Nat.reduceLeDiff, Nat.reduceEqDiff, Nat.reduceShiftRight, Nat.reduceAnd, h8]
    exact piv_fin hS0 hp0 ⟨by omega, by omega⟩ fH
end Go.Di
end

section
/-
  The sort: the heap.
-/
namespace Go.Di
open Go.Ev Go.Sort
variable {C : Nat → Ev.Call}
theorem sift_46 {call : Ev.Call} {fc : FuncId} (hc : CmpE call fc) {s : Sl} (hn : s.n < 900000) {first root c : Nat} (h1 : first + root < s.n) (h2 : first + c < s.n) {d : Array Edge} {H0 H : Hp} {qr : Hp → R1} {g0 : AV → Hp → R1} {Q : AV → Hp → Prop}
    (hS : St s d H) (hF : Fs s H0 H) (hr : ltE d[first + root]! d[first + c]! = false → ∀ H', St s d H' → Fs s H0 H' → Ok (qr H') Q)
    (hg0 : ltE d[first + root]! d[first + c]! = true → ∀ H', St s (swp d (first + root) (first + c)) H' → Fs s H0 H' → Ok (g0 (.int .i64 (.ofNat c)) H') Q) :
    Ok (s_sift_j46 call qr g0 s.v (.int .i64 (.ofNat first)) (.fn fc [] []) (.int .i64 (.ofNat root)) (.int .i64 (.ofNat c)) H) Q := by
  unfold s_sift_j46
  have hsz := hS.sz
  have hg := hS.get
  simp (disch := first | omega | exact tr_i rfl | (simp only [nx_push, nx_put]; done) | (simp only [nx_push, nx_put, Array.size_setIfInBounds, swp_size]; omega)) only [go_sem, Nat.reduceAdd, Nat.reduceMul, Nat.reduceSub, Nat.reduceLeDiff, Nat.reduceEqDiff, Nat.reduceShiftRight, Nat.reduceAnd, Sl.idx, Sl.rd, Sl.wr, cells_len, cells_eqF, callV_fn, Array.size_setIfInBounds, swp_size, lss0, ltE_eq, hg]
  refine Ok.deO (hc _ _ _) ?_
  rintro v H' ⟨rfl, f'⟩
  have hS' := hS.no f'
  have hg' := hS'.get
  simp (disch := first | omega | exact tr_i rfl | (simp only [nx_push, nx_put]; done) | (simp only [nx_push, nx_put, Array.size_setIfInBounds, swp_size]; omega)) only [go_sem, Nat.reduceAdd, Nat.reduceMul, Nat.reduceSub, Nat.reduceLeDiff, Nat.reduceEqDiff, Nat.reduceShiftRight, Nat.reduceAnd, Sl.idx, Sl.rd, Sl.wr, cells_len, cells_eqF, callV_fn, Array.size_setIfInBounds, swp_size, lss0, ltE_eq, hg']
  cases hl : ltE d[first + root]! d[first + c]! with
  | false =>
    simp (disch := first | omega | exact tr_i rfl | (simp only [nx_push, nx_put]; done) | (simp only [nx_push, nx_put, Array.size_setIfInBounds, swp_size]; omega)) only [go_sem, Nat.reduceAdd, Nat.reduceMul, Nat.reduceSub, Nat.reduceLeDiff, Nat.reduceEqDiff, Nat.reduceShiftRight, Nat.reduceAnd, Sl.idx, Sl.rd, Sl.wr, cells_len, cells_eqF, callV_fn, Array.size_setIfInBounds, swp_size, lss0, ltE_eq]
    exact hr hl H' hS' (hF.trans f'.fs)
  | true =>
    simp (disch := first | omega | exact tr_i rfl | (simp only [nx_push, nx_put]; done) | (simp only [nx_push, nx_put, Array.size_setIfInBounds, swp_size]; omega)) only [go_sem, Nat.reduceAdd, Nat.reduceMul, Nat.reduceSub, Nat.reduceLeDiff, Nat.reduceEqDiff, Nat.reduceShiftRight, Nat.reduceAnd, Sl.idx, Sl.rd, Sl.wr, cells_len, cells_eqF, callV_fn, Array.size_setIfInBounds, swp_size, lss0, ltE_eq]
    unfold s_sift_j28
    simp (disch := first | omega | exact tr_i rfl | (simp only [nx_push, nx_put]; done) | (simp only [nx_push, nx_put, Array.size_setIfInBounds, swp_size]; omega)) only [go_sem, Nat.reduceAdd, Nat.reduceMul, Nat.reduceSub, Nat.reduceLeDiff, Nat.reduceEqDiff, Nat.reduceShiftRight, Nat.reduceAnd, Sl.idx, Sl.rd, Sl.wr, cells_len, cells_eqF, callV_fn, Array.size_setIfInBounds, swp_size, lss0, ltE_eq, hg']
    exact hg0 hl _ (hS'.put2 (swp_size _ _ _)) (Fs.put2 (hF.trans f'.fs))
theorem sift_in {call : Ev.Call} {fc : FuncId} (hc : CmpE call fc) {s : Sl} (hn : s.n < 900000) {first hi : Nat} (hh : first + hi ≤ s.n) {H0 : Hp} {qe qr : Hp → R1} {Q : AV → Hp → Prop} :
    ∀ (k root : Nat) (d : Array Edge) (H : Hp), hi - root < k → root < 900000 → St s d H → Fs s H0 H →
      (∀ H', St s (siftDown ltE hi first root d) H' → Fs s H0 H' → Ok (qe H') Q) → (∀ H', St s (siftDown ltE hi first root d) H' → Fs s H0 H' → Ok (qr H') Q) →
      Ok (s_sift_l0 call qe qr s.v (.int .i64 (.ofNat hi)) (.int .i64 (.ofNat first)) (.fn fc [] []) k (.int .i64 (.ofNat root)) H) Q
  | 0, _, _, _, h, _, _, _, _, _ => by omega
  | k + 1, root, d, H, hk, hr1, hS, hF, hqe, hqr => by
    show Ok (s_sift_b0 call _ _ _ _ _ _ (s_sift_l0 call _ _ _ _ _ _ k) _ H) Q
    unfold s_sift_b0
    have hsz := hS.sz
    have hg := hS.get
    by_cases h : hi ≤ 2 * root + 1
    · simp (disch := first | omega | exact tr_i rfl | (simp only [nx_push, nx_put]; done) | (simp only [nx_push, nx_put, Array.size_setIfInBounds, swp_size]; omega)) only [go_sem, Nat.reduceAdd, Nat.reduceMul, Nat.reduceSub, Nat.reduceLeDiff, Nat.reduceEqDiff, Nat.reduceShiftRight, Nat.reduceAnd, Sl.idx, Sl.rd, Sl.wr, cells_len, cells_eqF, callV_fn, Array.size_setIfInBounds, swp_size, lss0, ltE_eq, h]
      exact hqe H (by rw [siftDown]; simpa [h] using hS) hF
    · simp (disch := first | omega | exact tr_i rfl | (simp only [nx_push, nx_put]; done) | (simp only [nx_push, nx_put, Array.size_setIfInBounds, swp_size]; omega)) only [go_sem, Nat.reduceAdd, Nat.reduceMul, Nat.reduceSub, Nat.reduceLeDiff, Nat.reduceEqDiff, Nat.reduceShiftRight, Nat.reduceAnd, Sl.idx, Sl.rd, Sl.wr, cells_len, cells_eqF, callV_fn, Array.size_setIfInBounds, swp_size, lss0, ltE_eq, h]
      unfold s_sift_j71
      by_cases h2 : 2 * root + 1 + 1 < hi
      · simp (disch := first | omega | exact tr_i rfl | (simp only [nx_push, nx_put]; done) | (simp only [nx_push, nx_put, Array.size_setIfInBounds, swp_size]; omega)) only [go_sem, Nat.reduceAdd, Nat.reduceMul, Nat.reduceSub, Nat.reduceLeDiff, Nat.reduceEqDiff, Nat.reduceShiftRight, Nat.reduceAnd, Sl.idx, Sl.rd, Sl.wr, cells_len, cells_eqF, callV_fn, Array.size_setIfInBounds, swp_size, lss0, ltE_eq, hg, h2]
        refine Ok.deO (hc _ _ _) ?_
        rintro v H' ⟨rfl, f'⟩
        have hS' := hS.no f'
        have hg' := hS'.get
        simp (disch := first | omega | exact tr_i rfl | (simp only [nx_push, nx_put]; done) | (simp only [nx_push, nx_put, Array.size_setIfInBounds, swp_size]; omega)) only [go_sem, Nat.reduceAdd, Nat.reduceMul, Nat.reduceSub, Nat.reduceLeDiff, Nat.reduceEqDiff, Nat.reduceShiftRight, Nat.reduceAnd, Sl.idx, Sl.rd, Sl.wr, cells_len, cells_eqF, callV_fn, Array.size_setIfInBounds, swp_size, lss0, ltE_eq, hg']
        have h3 : 2 * root + 2 < hi := h2
        cases hl : ltE d[first + (2 * root + 1)]! d[first + (2 * root + 1) + 1]! with
        | true =>
          simp (disch := first | omega | exact tr_i rfl | (simp only [nx_push, nx_put]; done) | (simp only [nx_push, nx_put, Array.size_setIfInBounds, swp_size]; omega)) only [go_sem, Nat.reduceAdd, Nat.reduceMul, Nat.reduceSub, Nat.reduceLeDiff, Nat.reduceEqDiff, Nat.reduceShiftRight, Nat.reduceAnd, Sl.idx, Sl.rd, Sl.wr, cells_len, cells_eqF, callV_fn, Array.size_setIfInBounds, swp_size, lss0, ltE_eq]
          refine sift_46 hc hn (c := 2 * root + 2) (by omega) (by omega) hS' (hF.trans f'.fs) (fun hl2 H2 hS2 hF2 => hqr H2 ?_ hF2) fun hl2 H2 hS2 hF2 => ?_
          · rw [siftDown, dif_neg (by omega), if_pos (by rw [hl]; simp [h3]), if_pos (by rw [hl2]; rfl)]
            exact hS2
          · have e : siftDown ltE hi first root d = siftDown ltE hi first (2 * root + 2) (swp d (first + root) (first + (2 * root + 2))) := by
              rw [siftDown, dif_neg (by omega), if_pos (by rw [hl]; simp [h3]), if_neg (by rw [hl2]; simp), dif_pos h3]
            rw [e] at hqe hqr
            exact sift_in hc hn hh k (2 * root + 2) _ H2 (by omega) (by omega) hS2 hF2 hqe hqr
        | false =>
          simp (disch := first | omega | exact tr_i rfl | (simp only [nx_push, nx_put]; done) | (simp only [nx_push, nx_put, Array.size_setIfInBounds, swp_size]; omega)) only [go_sem, Nat.reduceAdd, Nat.reduceMul, Nat.reduceSub, Nat.reduceLeDiff, Nat.reduceEqDiff, Nat.reduceShiftRight, Nat.reduceAnd, Sl.idx, Sl.rd, Sl.wr, cells_len, cells_eqF, callV_fn, Array.size_setIfInBounds, swp_size, lss0, ltE_eq]
          refine sift_46 hc hn (c := 2 * root + 1) (by omega) (by omega) hS' (hF.trans f'.fs) (fun hl2 H2 hS2 hF2 => hqr H2 ?_ hF2) fun hl2 H2 hS2 hF2 => ?_
          · rw [siftDown, dif_neg (by omega), if_neg (by rw [hl]; simp), if_pos (by rw [hl2]; rfl)]
            exact hS2
          · have e : siftDown ltE hi first root d = siftDown ltE hi first (2 * root + 1) (swp d (first + root) (first + (2 * root + 1))) := by
              rw [siftDown, dif_neg (by omega), if_neg (by rw [hl]; simp), if_neg (by rw [hl2]; simp)]
            rw [e] at hqe hqr
            exact sift_in hc hn hh k (2 * root + 1) _ H2 (by omega) (by omega) hS2 hF2 hqe hqr
      · simp (disch := first | omega | exact tr_i rfl | (simp only [nx_push, nx_put]; done) | (simp only [nx_push, nx_put, Array.size_setIfInBounds, swp_size]; omega)) only [go_sem, Nat.reduceAdd, Nat.reduceMul, Nat.reduceSub, Nat.reduceLeDiff, Nat.reduceEqDiff, Nat.reduceShiftRight, Nat.reduceAnd, Sl.idx, Sl.rd, Sl.wr, cells_len, cells_eqF, callV_fn, Array.size_setIfInBounds, swp_size, lss0, ltE_eq, hg, h2]
        have hcond : ¬ ((decide (2 * root + 1 + 1 < hi) && ltE d[first + (2 * root + 1)]! d[first + (2 * root + 1) + 1]!) = true) := by simp [h2]
        refine sift_46 hc hn (c := 2 * root + 1) (by omega) (by omega) hS hF (fun hl2 H2 hS2 hF2 => hqr H2 ?_ hF2) fun hl2 H2 hS2 hF2 => ?_
        · rw [siftDown, dif_neg (by omega), if_neg hcond, if_pos (by rw [hl2]; rfl)]
          exact hS2
        · have e : siftDown ltE hi first root d = siftDown ltE hi first (2 * root + 1) (swp d (first + root) (first + (2 * root + 1))) := by
            rw [siftDown, dif_neg (by omega), if_neg hcond, if_neg (by rw [hl2]; simp)]
          rw [e] at hqe hqr
          exact sift_in hc hn hh k (2 * root + 1) _ H2 (by omega) (by omega) hS2 hF2 hqe hqr
theorem sift_ok (hC : LinksS C) {k : Nat} (hk : 1 ≤ k) {fc : FuncId} (hc : CmpE (C (k - 1)) fc) {s : Sl} (hn : s.n < 900000) {root hi first : Nat} (hh : first + hi ≤ s.n) (hr : root < 900000) {d : Array Edge} {H : Hp} (hS : St s d H) :
    Ok (C k (.f id_s_sift) [s.v, .int .i64 (.ofNat root), .int .i64 (.ofNat hi), .int .i64 (.ofNat first), .fn fc [] []] H) fun r H' => r = .tup [] ∧ St s (siftDown ltE hi first root d) H' ∧ Fs s H H' := by
  obtain ⟨j, rfl⟩ : ∃ j, k = j + 1 := ⟨k - 1, by omega⟩
  rw [(hC j).s_sift]
  unfold s_sift s_sift_c s_sift_L0
  rw [fuelX_eq]
  exact sift_in hc hn hh loopFuel root d H (by rw [loopFuel_eq]; omega) hr hS (Fm.refl _ _) (fun H' hS' hF' => Ok.ret ⟨rfl, hS', hF'⟩) fun H' hS' hF' => Ok.ret ⟨rfl, hS', hF'⟩
/-- one less, from -1 on -/
def dn : Nat → AV
  | 0 => .int .i64 (.negSucc 0)
  | r + 1 => .int .i64 (.ofNat r)
theorem sub_dn (i : Nat) (h : i < 900000) : intV (intBin .sub).f (.int .i64 (.ofNat i)) (.int .i64 (.ofNat 1)) = .val (dn i) := by
  cases i with
  | zero => rfl
  | succ i => rw [sub_nn _ _ (by omega) (by omega)]; rfl
theorem heap_build (hC : LinksS C) {j : Nat} (hj : 1 ≤ j) {fc : FuncId} (hc : CmpE (C (j - 1)) fc) {s : Sl} (hn : s.n < 900000) {first hi : Nat} (hh : first + hi ≤ s.n) {H0 : Hp} {q : Hp → R1} {Q : AV → Hp → Prop} :
    ∀ (k r : Nat) (d : Array Edge) (H : Hp), r < k → r < 900000 → St s d H → Fs s H0 H → (∀ H', St s (heapBuild ltE hi first r d) H' → Fs s H0 H' → Ok (q H') Q) →
      Ok (s_heap_l32 (C j) q s.v (.fn fc [] []) (.int .i64 (.ofNat first)) (.int .i64 (.ofNat hi)) k (dn r) H) Q
  | 0, _, _, _, h, _, _, _, _ => by omega
  | k + 1, 0, d, H, hk, hr, hS, hF, hq => by
    show Ok (s_heap_b32 (C j) _ _ _ _ _ (s_heap_l32 (C j) _ _ _ _ _ k) _ H) Q
    unfold s_heap_b32
    simp (disch := first | omega | exact tr_i rfl | (simp only [nx_push, nx_put]; done) | (simp only [nx_push, nx_put]; omega)) only [go_sem, Nat.reduceAdd, Nat.reduceMul, Nat.reduceSub, Nat.reduceLeDiff, Nat.reduceEqDiff, Nat.reduceShiftRight, Nat.reduceAnd, dn]
    exact hq H hS hF
  | k + 1, r + 1, d, H, hk, hr, hS, hF, hq => by
    show Ok (s_heap_b32 (C j) _ _ _ _ _ (s_heap_l32 (C j) _ _ _ _ _ k) _ H) Q
    unfold s_heap_b32
    simp (disch := first | omega | exact tr_i rfl | (simp only [nx_push, nx_put]; done) | (simp only [nx_push, nx_put]; omega)) only [go_sem, Nat.reduceAdd, Nat.reduceMul, Nat.reduceSub, Nat.reduceLeDiff, Nat.reduceEqDiff, Nat.reduceShiftRight, Nat.reduceAnd, dn, Nat.zero_le]
    unfold s_heap_j36
    refine Ok.ve (sift_ok hC hj hc hn hh (by omega) hS) ?_
    rintro v H' ⟨rfl, hS', hF'⟩
    unfold s_heap_j34
    have e := sub_dn r (by omega)
    simp only [e, vq_val]
    exact heap_build hC hj hc hn hh k r _ H' (by omega) (by omega) hS' (hF.trans hF') hq
theorem heap_pop (hC : LinksS C) {j : Nat} (hj : 1 ≤ j) {fc : FuncId} (hc : CmpE (C (j - 1)) fc) {s : Sl} (hn : s.n < 900000) {first : Nat} {H0 : Hp} {q : Hp → R1} {Q : AV → Hp → Prop} :
    ∀ (k r : Nat) (d : Array Edge) (H : Hp), r < k → first + r ≤ s.n → St s d H → Fs s H0 H → (∀ H', St s (heapPop ltE first r d) H' → Fs s H0 H' → Ok (q H') Q) →
      Ok (s_heap_l2 (C j) q s.v (.fn fc [] []) (.int .i64 (.ofNat first)) (.int .i64 (.ofNat 0)) k (dn r) H) Q
  | 0, _, _, _, h, _, _, _, _ => by omega
  | k + 1, 0, d, H, hk, hr, hS, hF, hq => by
    show Ok (s_heap_b2 (C j) _ _ _ _ _ (s_heap_l2 (C j) _ _ _ _ _ k) _ H) Q
    unfold s_heap_b2
    simp (disch := first | omega | exact tr_i rfl | (simp only [nx_push, nx_put]; done) | (simp only [nx_push, nx_put]; omega)) only [go_sem, Nat.reduceAdd, Nat.reduceMul, Nat.reduceSub, Nat.reduceLeDiff, Nat.reduceEqDiff, Nat.reduceShiftRight, Nat.reduceAnd, dn]
    exact hq H hS hF
  | k + 1, r + 1, d, H, hk, hr, hS, hF, hq => by
    show Ok (s_heap_b2 (C j) _ _ _ _ _ (s_heap_l2 (C j) _ _ _ _ _ k) _ H) Q
    unfold s_heap_b2
    have hsz := hS.sz
    have hg := hS.get
    simp (disch := first | omega | exact tr_i rfl | (simp only [nx_push, nx_put]; done) | (simp only [nx_push, nx_put]; omega)) only [go_sem, Nat.reduceAdd, Nat.reduceMul, Nat.reduceSub, Nat.reduceLeDiff, Nat.reduceEqDiff, Nat.reduceShiftRight, Nat.reduceAnd, dn, Nat.zero_le]
    unfold s_heap_j27
    simp (disch := first | omega | exact tr_i rfl | (simp only [nx_push, nx_put]; done) | (simp only [nx_push, nx_put, Array.size_setIfInBounds, swp_size]; omega)) only [go_sem, Nat.reduceAdd, Nat.reduceMul, Nat.reduceSub, Nat.reduceLeDiff, Nat.reduceEqDiff, Nat.reduceShiftRight, Nat.reduceAnd, Sl.idx, Sl.rd, Sl.wr, cells_len, cells_eqF, callV_fn, Array.size_setIfInBounds, swp_size, lss0, ltE_eq, hg]
    have hS1 := hS.put2 (d1 := d.setIfInBounds first d[first + r]!) (swp_size d first (first + r))
    refine Ok.ve (sift_ok hC hj hc hn (by omega) (by omega) hS1) ?_
    rintro v H' ⟨rfl, hS', hF'⟩
    unfold s_heap_j4
    have e := sub_dn r (by omega)
    simp only [e, vq_val]
    exact heap_pop hC hj hc hn k r _ H' (by omega) (by omega) hS' ((Fs.put2 hF).trans hF') hq
theorem heap_ok (hC : LinksS C) {k : Nat} (hk : 2 ≤ k) {fc : FuncId} (hc : CmpE (C (k - 2)) fc) {s : Sl} (hn : s.n < 900000) {a b : Nat} (ha : a < b) (hb : b ≤ s.n) {d : Array Edge} {H : Hp} (hS : St s d H) :
    Ok (C k (.f id_s_heap) [s.v, .int .i64 (.ofNat a), .int .i64 (.ofNat b), .fn fc [] []] H) fun r H' => r = .tup [] ∧ St s (heapSort ltE d a b) H' ∧ Fs s H H' := by
  obtain ⟨j, rfl⟩ : ∃ j, k = j + 2 := ⟨k - 2, by omega⟩
  rw [(hC (j + 1)).s_heap]
  unfold s_heap s_heap_c s_heap_L32
  rw [fuelX_eq]
  have e1 : (b - a - 1) / 2 < 900000 := by omega
  simp (disch := first | omega | exact tr_i rfl | (simp only [nx_push, nx_put]; done) | (simp only [nx_push, nx_put]; omega)) only [go_sem, Nat.reduceAdd, Nat.reduceMul, Nat.reduceSub, Nat.reduceLeDiff, Nat.reduceEqDiff, Nat.reduceShiftRight, Nat.reduceAnd]
  refine heap_build hC (j := j + 1) (by omega) hc hn (by omega) loopFuel ((b - a - 1) / 2 + 1) d H (by rw [loopFuel_eq]; omega) (by omega) hS (Fm.refl _ _) fun H' hS' hF' => ?_
  unfold s_heap_j29 s_heap_L2
  rw [fuelX_eq]
  have e := sub_dn (b - a) (by omega)
  simp only [e, vq_val]
  exact heap_pop hC (j := j + 1) (by omega) hc hn loopFuel (b - a) _ H' (by rw [loopFuel_eq]; omega) (by omega) hS' hF' fun H2 hS2 hF2 => Ok.ret ⟨rfl, hS2, hF2⟩
end Go.Di
end

section
/-
  The sort: turning round, and insertion of a few.
-/
namespace Go.Di
open Go.Ev Go.Sort
variable {C : Nat → Ev.Call}
theorem rev_in {call : Ev.Call} {s : Sl} (hn : s.n < 900000) {H0 : Hp} {q : Hp → R1} {Q : AV → Hp → Prop} :
    ∀ (k i j : Nat) (d : Array Edge) (H : Hp), j - i < k → i < 900000 → j < s.n → St s d H → Fs s H0 H → (∀ H', St s (reverseLoop i j d) H' → Fs s H0 H' → Ok (q H') Q) →
      Ok (s_rev_l1 call q s.v k (.int .i64 (.ofNat i)) (.int .i64 (.ofNat j)) H) Q
  | 0, _, _, _, _, h, _, _, _, _, _ => by omega
  | k + 1, i, j, d, H, hk, hi, hj, hS, hF, hq => by
    show Ok (s_rev_b1 call _ _ (s_rev_l1 call _ _ k) _ _ H) Q
    unfold s_rev_b1
    have hsz := hS.sz
    have hg := hS.get
    rw [reverseLoop] at hq
    by_cases h : i < j
    · rw [if_pos h] at hq
      simp (disch := first | omega | exact tr_i rfl | (simp only [nx_push, nx_put]; done) | (simp only [nx_push, nx_put, Array.size_setIfInBounds, swp_size]; omega)) only [go_sem, Nat.reduceAdd, Nat.reduceMul, Nat.reduceSub, Nat.reduceLeDiff, Nat.reduceEqDiff, Nat.reduceShiftRight, Nat.reduceAnd, Sl.idx, Sl.rd, Sl.wr, cells_len, cells_eqF, callV_fn, Array.size_setIfInBounds, swp_size, lss0, ltE_eq, h]
      unfold s_rev_j21
      simp (disch := first | omega | exact tr_i rfl | (simp only [nx_push, nx_put]; done) | (simp only [nx_push, nx_put, Array.size_setIfInBounds, swp_size]; omega)) only [go_sem, Nat.reduceAdd, Nat.reduceMul, Nat.reduceSub, Nat.reduceLeDiff, Nat.reduceEqDiff, Nat.reduceShiftRight, Nat.reduceAnd, Sl.idx, Sl.rd, Sl.wr, cells_len, cells_eqF, callV_fn, Array.size_setIfInBounds, swp_size, lss0, ltE_eq, hg]
      exact rev_in hn k (i + 1) (j - 1) _ _ (by omega) (by omega) (by omega) (hS.put2 (swp_size _ _ _)) (Fs.put2 hF) hq
    · rw [if_neg h] at hq
      simp (disch := first | omega | exact tr_i rfl | (simp only [nx_push, nx_put]; done) | (simp only [nx_push, nx_put, Array.size_setIfInBounds, swp_size]; omega)) only [go_sem, Nat.reduceAdd, Nat.reduceMul, Nat.reduceSub, Nat.reduceLeDiff, Nat.reduceEqDiff, Nat.reduceShiftRight, Nat.reduceAnd, Sl.idx, Sl.rd, Sl.wr, cells_len, cells_eqF, callV_fn, Array.size_setIfInBounds, swp_size, lss0, ltE_eq, h]
      exact hq H hS hF
theorem rev_ok (hC : LinksS C) {k : Nat} (hk : 1 ≤ k) {s : Sl} (hn : s.n < 900000) {a b : Nat} (ha : a < b) (hb : b ≤ s.n) {d : Array Edge} {H : Hp} (hS : St s d H) (c : AV) :
    Ok (C k (.f id_s_rev) [s.v, .int .i64 (.ofNat a), .int .i64 (.ofNat b), c] H) fun r H' => r = .tup [] ∧ St s (reverseRange d a b) H' ∧ Fs s H H' := by
  obtain ⟨j, rfl⟩ : ∃ j, k = j + 1 := ⟨k - 1, by omega⟩
  rw [(hC j).s_rev]
  unfold s_rev s_rev_c s_rev_L1
  rw [fuelX_eq]
  simp (disch := first | omega | exact tr_i rfl | (simp only [nx_push, nx_put]; done) | (simp only [nx_push, nx_put]; omega)) only [go_sem, Nat.reduceAdd, Nat.reduceMul, Nat.reduceSub, Nat.reduceLeDiff, Nat.reduceEqDiff, Nat.reduceShiftRight, Nat.reduceAnd]
  exact rev_in hn loopFuel a (b - 1) d H (by rw [loopFuel_eq]; omega) (by omega) (by omega) hS (Fm.refl _ _) fun H' hS' hF' => Ok.ret ⟨rfl, hS', hF'⟩
theorem pins_scan {call : Ev.Call} {fc : FuncId} (hc : CmpE call fc) {s : Sl} (hn : s.n < 900000) {b : Nat} (hb : b ≤ s.n) {d : Array Edge} {H0 : Hp} {q : AV → Hp → R1} {Q : AV → Hp → Prop} :
    ∀ (k i : Nat) (H : Hp), b - i < k → 1 ≤ i → i ≤ b → St s d H → Fs s H0 H → (∀ i' H', i ≤ i' → i' ≤ b → scanSorted ltE d b i = i' → St s d H' → Fs s H0 H' → Ok (q (.int .i64 (.ofNat i')) H') Q) →
      Ok (s_pins_l115 call q s.v (.int .i64 (.ofNat b)) (.fn fc [] []) k (.int .i64 (.ofNat i)) H) Q
  | 0, _, _, h, _, _, _, _, _ => by omega
  | k + 1, i, H, hk, h1, hib, hS, hF, hq => by
    show Ok (s_pins_b115 call _ _ _ _ (s_pins_l115 call _ _ _ _ k) _ H) Q
    unfold s_pins_b115
    have hsz := hS.sz
    have hg := hS.get
    rw [scanSorted] at hq
    by_cases h : i < b
    · simp (disch := first | omega | exact tr_i rfl | (simp only [nx_push, nx_put]; done) | (simp only [nx_push, nx_put, Array.size_setIfInBounds, swp_size]; omega)) only [go_sem, Nat.reduceAdd, Nat.reduceMul, Nat.reduceSub, Nat.reduceLeDiff, Nat.reduceEqDiff, Nat.reduceShiftRight, Nat.reduceAnd, Sl.idx, Sl.rd, Sl.wr, cells_len, cells_eqF, callV_fn, Array.size_setIfInBounds, swp_size, lss0, ltE_eq, hg, h]
      refine Ok.deO (hc _ _ _) ?_
      rintro v H' ⟨rfl, f'⟩
      have hS' := hS.no f'
      have hg' := hS'.get
      simp (disch := first | omega | exact tr_i rfl | (simp only [nx_push, nx_put]; done) | (simp only [nx_push, nx_put, Array.size_setIfInBounds, swp_size]; omega)) only [go_sem, Nat.reduceAdd, Nat.reduceMul, Nat.reduceSub, Nat.reduceLeDiff, Nat.reduceEqDiff, Nat.reduceShiftRight, Nat.reduceAnd, Sl.idx, Sl.rd, Sl.wr, cells_len, cells_eqF, callV_fn, Array.size_setIfInBounds, swp_size, lss0, ltE_eq, hg']
      cases hl : ltE d[i]! d[i - 1]! with
      | true =>
        rw [hl] at hq
        simp (disch := first | omega | exact tr_i rfl | (simp only [nx_push, nx_put]; done) | (simp only [nx_push, nx_put, Array.size_setIfInBounds, swp_size]; omega)) only [go_sem, Nat.reduceAdd, Nat.reduceMul, Nat.reduceSub, Nat.reduceLeDiff, Nat.reduceEqDiff, Nat.reduceShiftRight, Nat.reduceAnd, Sl.idx, Sl.rd, Sl.wr, cells_len, cells_eqF, callV_fn, Array.size_setIfInBounds, swp_size, lss0, ltE_eq]
        exact hq i H' (Nat.le_refl _) hib (by simp) hS' (hF.trans f'.fs)
      | false =>
        rw [hl] at hq
        simp (disch := first | omega | exact tr_i rfl | (simp only [nx_push, nx_put]; done) | (simp only [nx_push, nx_put, Array.size_setIfInBounds, swp_size]; omega)) only [go_sem, Nat.reduceAdd, Nat.reduceMul, Nat.reduceSub, Nat.reduceLeDiff, Nat.reduceEqDiff, Nat.reduceShiftRight, Nat.reduceAnd, Sl.idx, Sl.rd, Sl.wr, cells_len, cells_eqF, callV_fn, Array.size_setIfInBounds, swp_size, lss0, ltE_eq]
        unfold s_pins_j117
        simp (disch := first | omega | exact tr_i rfl | (simp only [nx_push, nx_put]; done) | (simp only [nx_push, nx_put, Array.size_setIfInBounds, swp_size]; omega)) only [go_sem, Nat.reduceAdd, Nat.reduceMul, Nat.reduceSub, Nat.reduceLeDiff, Nat.reduceEqDiff, Nat.reduceShiftRight, Nat.reduceAnd, Sl.idx, Sl.rd, Sl.wr, cells_len, cells_eqF, callV_fn, Array.size_setIfInBounds, swp_size, lss0, ltE_eq]
        exact pins_scan hc hn hb k (i + 1) H' (by omega) (by omega) (by omega) hS' (hF.trans f'.fs) fun i' H2 h2 h3 h4 => hq i' H2 (by omega) h3 (by simpa [h] using h4)
    · simp (disch := first | omega | exact tr_i rfl | (simp only [nx_push, nx_put]; done) | (simp only [nx_push, nx_put, Array.size_setIfInBounds, swp_size]; omega)) only [go_sem, Nat.reduceAdd, Nat.reduceMul, Nat.reduceSub, Nat.reduceLeDiff, Nat.reduceEqDiff, Nat.reduceShiftRight, Nat.reduceAnd, Sl.idx, Sl.rd, Sl.wr, cells_len, cells_eqF, callV_fn, Array.size_setIfInBounds, swp_size, lss0, ltE_eq, h]
      exact hq i H (Nat.le_refl _) hib (by simp [h]) hS hF
theorem pins_down {call : Ev.Call} {fc : FuncId} (hc : CmpE call fc) {s : Sl} (hn : s.n < 900000) {H0 : Hp} {q : Hp → R1} {Q : AV → Hp → Prop} :
    ∀ (k j : Nat) (d : Array Edge) (H : Hp), j < k → j < s.n → St s d H → Fs s H0 H → (∀ H', St s (shiftDown ltE j d) H' → Fs s H0 H' → Ok (q H') Q) →
      Ok (s_pins_l70 call q s.v (.fn fc [] []) k (.int .i64 (.ofNat j)) H) Q
  | 0, _, _, _, h, _, _, _, _ => by omega
  | k + 1, 0, d, H, hk, hj, hS, hF, hq => by
    show Ok (s_pins_b70 call _ _ _ (s_pins_l70 call _ _ _ k) _ H) Q
    unfold s_pins_b70
    simp (disch := first | omega | exact tr_i rfl | (simp only [nx_push, nx_put]; done) | (simp only [nx_push, nx_put]; omega)) only [go_sem, Nat.reduceAdd, Nat.reduceMul, Nat.reduceSub, Nat.reduceLeDiff, Nat.reduceEqDiff, Nat.reduceShiftRight, Nat.reduceAnd, Nat.not_succ_le_zero]
    exact hq H hS hF
  | k + 1, j + 1, d, H, hk, hj, hS, hF, hq => by
    show Ok (s_pins_b70 call _ _ _ (s_pins_l70 call _ _ _ k) _ H) Q
    unfold s_pins_b70
    have hsz := hS.sz
    have hg := hS.get
    have h1 : 1 ≤ j + 1 := by omega
    rw [shiftDown] at hq
    simp (disch := first | omega | exact tr_i rfl | (simp only [nx_push, nx_put]; done) | (simp only [nx_push, nx_put, Array.size_setIfInBounds, swp_size]; omega)) only [go_sem, Nat.reduceAdd, Nat.reduceMul, Nat.reduceSub, Nat.reduceLeDiff, Nat.reduceEqDiff, Nat.reduceShiftRight, Nat.reduceAnd, Sl.idx, Sl.rd, Sl.wr, cells_len, cells_eqF, callV_fn, Array.size_setIfInBounds, swp_size, lss0, ltE_eq, h1]
    unfold s_pins_j107
    simp (disch := first | omega | exact tr_i rfl | (simp only [nx_push, nx_put]; done) | (simp only [nx_push, nx_put, Array.size_setIfInBounds, swp_size]; omega)) only [go_sem, Nat.reduceAdd, Nat.reduceMul, Nat.reduceSub, Nat.reduceLeDiff, Nat.reduceEqDiff, Nat.reduceShiftRight, Nat.reduceAnd, Sl.idx, Sl.rd, Sl.wr, cells_len, cells_eqF, callV_fn, Array.size_setIfInBounds, swp_size, lss0, ltE_eq, hg, Nat.add_sub_cancel]
    refine Ok.deO (hc _ _ _) ?_
    rintro v H' ⟨rfl, f'⟩
    have hS' := hS.no f'
    have hg' := hS'.get
    simp (disch := first | omega | exact tr_i rfl | (simp only [nx_push, nx_put]; done) | (simp only [nx_push, nx_put, Array.size_setIfInBounds, swp_size]; omega)) only [go_sem, Nat.reduceAdd, Nat.reduceMul, Nat.reduceSub, Nat.reduceLeDiff, Nat.reduceEqDiff, Nat.reduceShiftRight, Nat.reduceAnd, Sl.idx, Sl.rd, Sl.wr, cells_len, cells_eqF, callV_fn, Array.size_setIfInBounds, swp_size, lss0, ltE_eq, hg', Nat.add_sub_cancel]
    cases hl : ltE d[j + 1]! d[j]! with
    | false =>
      rw [hl] at hq
      simp (disch := first | omega | exact tr_i rfl | (simp only [nx_push, nx_put]; done) | (simp only [nx_push, nx_put, Array.size_setIfInBounds, swp_size]; omega)) only [go_sem, Nat.reduceAdd, Nat.reduceMul, Nat.reduceSub, Nat.reduceLeDiff, Nat.reduceEqDiff, Nat.reduceShiftRight, Nat.reduceAnd, Sl.idx, Sl.rd, Sl.wr, cells_len, cells_eqF, callV_fn, Array.size_setIfInBounds, swp_size, lss0, ltE_eq]
      exact hq H' (by simpa using hS') (hF.trans f'.fs)
    | true =>
      rw [hl] at hq
      simp (disch := first | omega | exact tr_i rfl | (simp only [nx_push, nx_put]; done) | (simp only [nx_push, nx_put, Array.size_setIfInBounds, swp_size]; omega)) only [go_sem, Nat.reduceAdd, Nat.reduceMul, Nat.reduceSub, Nat.reduceLeDiff, Nat.reduceEqDiff, Nat.reduceShiftRight, Nat.reduceAnd, Sl.idx, Sl.rd, Sl.wr, cells_len, cells_eqF, callV_fn, Array.size_setIfInBounds, swp_size, lss0, ltE_eq]
      unfold s_pins_j92
      simp (disch := first | omega | exact tr_i rfl | (simp only [nx_push, nx_put]; done) | (simp only [nx_push, nx_put, Array.size_setIfInBounds, swp_size]; omega)) only [go_sem, Nat.reduceAdd, Nat.reduceMul, Nat.reduceSub, Nat.reduceLeDiff, Nat.reduceEqDiff, Nat.reduceShiftRight, Nat.reduceAnd, Sl.idx, Sl.rd, Sl.wr, cells_len, cells_eqF, callV_fn, Array.size_setIfInBounds, swp_size, lss0, ltE_eq, hg', Nat.add_sub_cancel]
      unfold s_pins_j72
      simp (disch := first | omega | exact tr_i rfl | (simp only [nx_push, nx_put]; done) | (simp only [nx_push, nx_put, Array.size_setIfInBounds, swp_size]; omega)) only [go_sem, Nat.reduceAdd, Nat.reduceMul, Nat.reduceSub, Nat.reduceLeDiff, Nat.reduceEqDiff, Nat.reduceShiftRight, Nat.reduceAnd, Sl.idx, Sl.rd, Sl.wr, cells_len, cells_eqF, callV_fn, Array.size_setIfInBounds, swp_size, lss0, ltE_eq, Nat.add_sub_cancel]
      exact pins_down hc hn k j (swp d (j + 1) j) _ (by omega) (by omega) (hS'.put2 (swp_size _ _ _)) (Fs.put2 (hF.trans f'.fs)) (by simpa using hq)
theorem pins_up {call : Ev.Call} {fc : FuncId} (hc : CmpE call fc) {s : Sl} (hn : s.n < 900000) {b : Nat} (hb : b ≤ s.n) {H0 : Hp} {q : Hp → R1} {Q : AV → Hp → Prop} :
    ∀ (k j : Nat) (d : Array Edge) (H : Hp), b - j < k → 1 ≤ j → j < 900000 → St s d H → Fs s H0 H → (∀ H', St s (shiftUp ltE b j d) H' → Fs s H0 H' → Ok (q H') Q) →
      Ok (s_pins_l27 call q s.v (.int .i64 (.ofNat b)) (.fn fc [] []) k (.int .i64 (.ofNat j)) H) Q
  | 0, _, _, _, h, _, _, _, _, _ => by omega
  | k + 1, j, d, H, hk, h1, h2, hS, hF, hq => by
    show Ok (s_pins_b27 call _ _ _ _ (s_pins_l27 call _ _ _ _ k) _ H) Q
    unfold s_pins_b27
    have hsz := hS.sz
    have hg := hS.get
    rw [shiftUp] at hq
    by_cases h : j < b
    · rw [if_pos h] at hq
      simp (disch := first | omega | exact tr_i rfl | (simp only [nx_push, nx_put]; done) | (simp only [nx_push, nx_put, Array.size_setIfInBounds, swp_size]; omega)) only [go_sem, Nat.reduceAdd, Nat.reduceMul, Nat.reduceSub, Nat.reduceLeDiff, Nat.reduceEqDiff, Nat.reduceShiftRight, Nat.reduceAnd, Sl.idx, Sl.rd, Sl.wr, cells_len, cells_eqF, callV_fn, Array.size_setIfInBounds, swp_size, lss0, ltE_eq, h]
      unfold s_pins_j64
      simp (disch := first | omega | exact tr_i rfl | (simp only [nx_push, nx_put]; done) | (simp only [nx_push, nx_put, Array.size_setIfInBounds, swp_size]; omega)) only [go_sem, Nat.reduceAdd, Nat.reduceMul, Nat.reduceSub, Nat.reduceLeDiff, Nat.reduceEqDiff, Nat.reduceShiftRight, Nat.reduceAnd, Sl.idx, Sl.rd, Sl.wr, cells_len, cells_eqF, callV_fn, Array.size_setIfInBounds, swp_size, lss0, ltE_eq, hg]
      refine Ok.deO (hc _ _ _) ?_
      rintro v H' ⟨rfl, f'⟩
      have hS' := hS.no f'
      have hg' := hS'.get
      simp (disch := first | omega | exact tr_i rfl | (simp only [nx_push, nx_put]; done) | (simp only [nx_push, nx_put, Array.size_setIfInBounds, swp_size]; omega)) only [go_sem, Nat.reduceAdd, Nat.reduceMul, Nat.reduceSub, Nat.reduceLeDiff, Nat.reduceEqDiff, Nat.reduceShiftRight, Nat.reduceAnd, Sl.idx, Sl.rd, Sl.wr, cells_len, cells_eqF, callV_fn, Array.size_setIfInBounds, swp_size, lss0, ltE_eq, hg']
      cases hl : ltE d[j]! d[j - 1]! with
      | false =>
        rw [hl] at hq
        simp (disch := first | omega | exact tr_i rfl | (simp only [nx_push, nx_put]; done) | (simp only [nx_push, nx_put, Array.size_setIfInBounds, swp_size]; omega)) only [go_sem, Nat.reduceAdd, Nat.reduceMul, Nat.reduceSub, Nat.reduceLeDiff, Nat.reduceEqDiff, Nat.reduceShiftRight, Nat.reduceAnd, Sl.idx, Sl.rd, Sl.wr, cells_len, cells_eqF, callV_fn, Array.size_setIfInBounds, swp_size, lss0, ltE_eq]
        exact hq H' (by simpa using hS') (hF.trans f'.fs)
      | true =>
        rw [hl] at hq
        simp (disch := first | omega | exact tr_i rfl | (simp only [nx_push, nx_put]; done) | (simp only [nx_push, nx_put, Array.size_setIfInBounds, swp_size]; omega)) only [go_sem, Nat.reduceAdd, Nat.reduceMul, Nat.reduceSub, Nat.reduceLeDiff, Nat.reduceEqDiff, Nat.reduceShiftRight, Nat.reduceAnd, Sl.idx, Sl.rd, Sl.wr, cells_len, cells_eqF, callV_fn, Array.size_setIfInBounds, swp_size, lss0, ltE_eq]
        unfold s_pins_j49
        simp (disch := first | omega | exact tr_i rfl | (simp only [nx_push, nx_put]; done) | (simp only [nx_push, nx_put, Array.size_setIfInBounds, swp_size]; omega)) only [go_sem, Nat.reduceAdd, Nat.reduceMul, Nat.reduceSub, Nat.reduceLeDiff, Nat.reduceEqDiff, Nat.reduceShiftRight, Nat.reduceAnd, Sl.idx, Sl.rd, Sl.wr, cells_len, cells_eqF, callV_fn, Array.size_setIfInBounds, swp_size, lss0, ltE_eq, hg']
        unfold s_pins_j29
        simp (disch := first | omega | exact tr_i rfl | (simp only [nx_push, nx_put]; done) | (simp only [nx_push, nx_put, Array.size_setIfInBounds, swp_size]; omega)) only [go_sem, Nat.reduceAdd, Nat.reduceMul, Nat.reduceSub, Nat.reduceLeDiff, Nat.reduceEqDiff, Nat.reduceShiftRight, Nat.reduceAnd, Sl.idx, Sl.rd, Sl.wr, cells_len, cells_eqF, callV_fn, Array.size_setIfInBounds, swp_size, lss0, ltE_eq]
        exact pins_up hc hn hb k (j + 1) (swp d j (j - 1)) _ (by omega) (by omega) (by omega) (hS'.put2 (swp_size _ _ _)) (Fs.put2 (hF.trans f'.fs)) (by simpa using hq)
    · rw [if_neg h] at hq
      simp (disch := first | omega | exact tr_i rfl | (simp only [nx_push, nx_put]; done) | (simp only [nx_push, nx_put, Array.size_setIfInBounds, swp_size]; omega)) only [go_sem, Nat.reduceAdd, Nat.reduceMul, Nat.reduceSub, Nat.reduceLeDiff, Nat.reduceEqDiff, Nat.reduceShiftRight, Nat.reduceAnd, Sl.idx, Sl.rd, Sl.wr, cells_len, cells_eqF, callV_fn, Array.size_setIfInBounds, swp_size, lss0, ltE_eq, h]
      exact hq H hS hF
theorem pins_in {call : Ev.Call} {fc : FuncId} (hc : CmpE call fc) {s : Sl} (hn : s.n < 900000) {a b : Nat} (hb : b ≤ s.n) {H0 : Hp} {qr : AV → Hp → R1} {qe : Hp → R1} {Q : AV → Hp → Prop} :
    ∀ (k st i : Nat) (d : Array Edge) (H : Hp), st < k → st ≤ 5 → a + 1 ≤ i → i ≤ b → St s d H → Fs s H0 H →
      (∀ r d' H', partialIns ltE a b st i d = (d', r) → St s d' H' → Fs s H0 H' → Ok (qr (.bool r) H') Q) → (∀ d' H', partialIns ltE a b st i d = (d', false) → St s d' H' → Fs s H0 H' → Ok (qe H') Q) →
      Ok (s_pins_l2 call qr qe s.v (.int .i64 (.ofNat a)) (.int .i64 (.ofNat b)) (.fn fc [] []) k (.int .i64 (.ofNat i)) (.int .i64 (.ofNat (5 - st))) H) Q
  | 0, _, _, _, _, h, _, _, _, _, _, _, _ => by omega
  | k + 1, 0, i, d, H, hk, h5, hi, hib, hS, hF, hqr, hqe => by
    show Ok (s_pins_b2 call _ _ _ _ _ _ (s_pins_l2 call _ _ _ _ _ _ k) _ _ H) Q
    unfold s_pins_b2
    simp (disch := first | omega | exact tr_i rfl | (simp only [nx_push, nx_put]; done) | (simp only [nx_push, nx_put]; omega)) only [go_sem, Nat.reduceAdd, Nat.reduceMul, Nat.reduceSub, Nat.reduceLeDiff, Nat.reduceEqDiff, Nat.reduceShiftRight, Nat.reduceAnd, show ¬ (5 < 5) by omega]
    exact hqe d H (by rw [partialIns]) hS hF
  | k + 1, st + 1, i, d, H, hk, h5, hi, hib, hS, hF, hqr, hqe => by
    show Ok (s_pins_b2 call _ _ _ _ _ _ (s_pins_l2 call _ _ _ _ _ _ k) _ _ H) Q
    unfold s_pins_b2
    rw [partialIns] at hqr hqe
    have h50 : 5 - (st + 1) < 5 := by omega
    simp (disch := first | omega | exact tr_i rfl | (simp only [nx_push, nx_put]; done) | (simp only [nx_push, nx_put]; omega)) only [go_sem, Nat.reduceAdd, Nat.reduceMul, Nat.reduceSub, Nat.reduceLeDiff, Nat.reduceEqDiff, Nat.reduceShiftRight, Nat.reduceAnd, h50]
    unfold s_pins_j137 s_pins_L115
    rw [fuelX_eq]
    refine pins_scan hc hn hb loopFuel i H (by rw [loopFuel_eq]; omega) (by omega) hib hS hF fun i' H1 h1 h2 h3 hS1 hF1 => ?_
    simp only [h3] at hqr hqe
    unfold s_pins_j114
    by_cases hb1 : i' = b
    · simp (disch := first | omega | exact tr_i rfl | (simp only [nx_push, nx_put]; done) | (simp only [nx_push, nx_put]; omega)) only [go_sem, Nat.reduceAdd, Nat.reduceMul, Nat.reduceSub, Nat.reduceLeDiff, Nat.reduceEqDiff, Nat.reduceShiftRight, Nat.reduceAnd, hb1]
      exact hqr true d H1 (by simp [hb1]) hS1 hF1
    · simp (disch := first | omega | exact tr_i rfl | (simp only [nx_push, nx_put]; done) | (simp only [nx_push, nx_put]; omega)) only [go_sem, Nat.reduceAdd, Nat.reduceMul, Nat.reduceSub, Nat.reduceLeDiff, Nat.reduceEqDiff, Nat.reduceShiftRight, Nat.reduceAnd, hb1]
      unfold s_pins_j112
      by_cases hb2 : b - a < 50
      · simp (disch := first | omega | exact tr_i rfl | (simp only [nx_push, nx_put]; done) | (simp only [nx_push, nx_put]; omega)) only [go_sem, Nat.reduceAdd, Nat.reduceMul, Nat.reduceSub, Nat.reduceLeDiff, Nat.reduceEqDiff, Nat.reduceShiftRight, Nat.reduceAnd, hb2]
        exact hqr false d H1 (by simp [hb1, hb2]) hS1 hF1
      · simp (disch := first | omega | exact tr_i rfl | (simp only [nx_push, nx_put]; done) | (simp only [nx_push, nx_put]; omega)) only [go_sem, Nat.reduceAdd, Nat.reduceMul, Nat.reduceSub, Nat.reduceLeDiff, Nat.reduceEqDiff, Nat.reduceShiftRight, Nat.reduceAnd, hb2]
        simp only [if_neg hb1, if_neg hb2] at hqr hqe
        unfold s_pins_j109
        have hsz := hS1.sz
        have hg := hS1.get
        simp (disch := first | omega | exact tr_i rfl | (simp only [nx_push, nx_put]; done) | (simp only [nx_push, nx_put, Array.size_setIfInBounds, swp_size]; omega)) only [go_sem, Nat.reduceAdd, Nat.reduceMul, Nat.reduceSub, Nat.reduceLeDiff, Nat.reduceEqDiff, Nat.reduceShiftRight, Nat.reduceAnd, Sl.idx, Sl.rd, Sl.wr, cells_len, cells_eqF, callV_fn, Array.size_setIfInBounds, swp_size, lss0, ltE_eq, hg]
        have hS2 := hS1.put2 (d1 := d.setIfInBounds i' d[i' - 1]!) (swp_size d i' (i' - 1))
        have hF2 := Fs.put2 (d1 := d.setIfInBounds i' d[i' - 1]!) (d2 := swp d i' (i' - 1)) hF1
        have last : ∀ {d2 : Array Edge} {H2 : Hp}, St s d2 H2 → Fs s H0 H2 → (if b - i' ≥ 2 then shiftUp ltE b (i' + 1) (if i' - a ≥ 2 then shiftDown ltE (i' - 1) (swp d i' (i' - 1)) else swp d i' (i' - 1)) else (if i' - a ≥ 2 then shiftDown ltE (i' - 1) (swp d i' (i' - 1)) else swp d i' (i' - 1))) = d2 →
            Ok (s_pins_j4 call (s_pins_l2 call qr qe s.v (.int .i64 (.ofNat a)) (.int .i64 (.ofNat b)) (.fn fc [] []) k) (.int .i64 (.ofNat i')) (.int .i64 (.ofNat (5 - (st + 1)))) H2) Q := by
          intro d2 H2 hS2 hF2 e
          unfold s_pins_j4
          have e5 : 5 - (st + 1) + 1 = 5 - st := by omega
          simp (disch := first | omega | exact tr_i rfl | (simp only [nx_push, nx_put]; done) | (simp only [nx_push, nx_put]; omega)) only [go_sem, Nat.reduceAdd, Nat.reduceMul, Nat.reduceSub, Nat.reduceLeDiff, Nat.reduceEqDiff, Nat.reduceShiftRight, Nat.reduceAnd, e5]
          subst e
          exact pins_in hc hn hb k st i' _ H2 (by omega) (by omega) (by omega) h2 hS2 hF2 hqr hqe
        have mid : ∀ {d2 : Array Edge} {H2 : Hp}, St s d2 H2 → Fs s H0 H2 → (if i' - a ≥ 2 then shiftDown ltE (i' - 1) (swp d i' (i' - 1)) else swp d i' (i' - 1)) = d2 →
            Ok (s_pins_j66 call (s_pins_l2 call qr qe s.v (.int .i64 (.ofNat a)) (.int .i64 (.ofNat b)) (.fn fc [] []) k) s.v (.int .i64 (.ofNat b)) (.fn fc [] []) (.int .i64 (.ofNat i')) (.int .i64 (.ofNat (5 - (st + 1)))) H2) Q := by
          intro d2 H2 hS2 hF2 e
          unfold s_pins_j66
          rw [e] at last
          by_cases h3 : 2 ≤ b - i'
          · simp (disch := first | omega | exact tr_i rfl | (simp only [nx_push, nx_put]; done) | (simp only [nx_push, nx_put]; omega)) only [go_sem, Nat.reduceAdd, Nat.reduceMul, Nat.reduceSub, Nat.reduceLeDiff, Nat.reduceEqDiff, Nat.reduceShiftRight, Nat.reduceAnd, h3]
            unfold s_pins_L27
            rw [fuelX_eq]
            exact pins_up hc hn hb loopFuel (i' + 1) _ H2 (by rw [loopFuel_eq]; omega) (by omega) (by omega) hS2 hF2 fun H3 hS3 hF3 => last hS3 hF3 (by simp [h3])
          · simp (disch := first | omega | exact tr_i rfl | (simp only [nx_push, nx_put]; done) | (simp only [nx_push, nx_put]; omega)) only [go_sem, Nat.reduceAdd, Nat.reduceMul, Nat.reduceSub, Nat.reduceLeDiff, Nat.reduceEqDiff, Nat.reduceShiftRight, Nat.reduceAnd, h3]
            exact last hS2 hF2 (by simp [h3])
        by_cases h3 : 2 ≤ i' - a
        · simp (disch := first | omega | exact tr_i rfl | (simp only [nx_push, nx_put]; done) | (simp only [nx_push, nx_put]; omega)) only [go_sem, Nat.reduceAdd, Nat.reduceMul, Nat.reduceSub, Nat.reduceLeDiff, Nat.reduceEqDiff, Nat.reduceShiftRight, Nat.reduceAnd, h3]
          unfold s_pins_L70
          rw [fuelX_eq]
          exact pins_down hc hn loopFuel (i' - 1) _ _ (by rw [loopFuel_eq]; omega) (by omega) hS2 hF2 fun H3 hS3 hF3 => mid hS3 hF3 (by simp [h3])
        · simp (disch := first | omega | exact tr_i rfl | (simp only [nx_push, nx_put]; done) | (simp only [nx_push, nx_put]; omega)) only [go_sem, Nat.reduceAdd, Nat.reduceMul, Nat.reduceSub, Nat.reduceLeDiff, Nat.reduceEqDiff, Nat.reduceShiftRight, Nat.reduceAnd, h3]
          exact mid hS2 hF2 (by simp [h3, swp])
theorem pins_ok (hC : LinksS C) {k : Nat} (hk : 1 ≤ k) {fc : FuncId} (hc : CmpE (C (k - 1)) fc) {s : Sl} (hn : s.n < 900000) {a b : Nat} (ha : a < b) (hb : b ≤ s.n) {d : Array Edge} {H : Hp} (hS : St s d H) :
    Ok (C k (.f id_s_pins) [s.v, .int .i64 (.ofNat a), .int .i64 (.ofNat b), .fn fc [] []] H) fun r H' => r = .bool (partialInsertionSort ltE d a b).2 ∧ St s (partialInsertionSort ltE d a b).1 H' ∧ Fs s H H' := by
  obtain ⟨j, rfl⟩ : ∃ j, k = j + 1 := ⟨k - 1, by omega⟩
  rw [(hC j).s_pins]
  unfold s_pins s_pins_c s_pins_L2
  rw [fuelX_eq]
  simp (disch := first | omega | exact tr_i rfl | (simp only [nx_push, nx_put]; done) | (simp only [nx_push, nx_put]; omega)) only [go_sem, Nat.reduceAdd, Nat.reduceMul, Nat.reduceSub, Nat.reduceLeDiff, Nat.reduceEqDiff, Nat.reduceShiftRight, Nat.reduceAnd]
  refine pins_in hc hn hb loopFuel 5 (a + 1) d H (by rw [loopFuel_eq]; omega) (by omega) (by omega) (by omega) hS (Fm.refl _ _) (fun r d' H' e hS' hF' => ?_) fun d' H' e hS' hF' => ?_
  · have e' : partialInsertionSort ltE d a b = (d', r) := e
    rw [e']
    exact Ok.ret ⟨rfl, hS', hF'⟩
  · have e' : partialInsertionSort ltE d a b = (d', false) := e
    rw [e']
    unfold s_pins_j1
    exact Ok.ret ⟨rfl, hS', hF'⟩
end Go.Di
end
