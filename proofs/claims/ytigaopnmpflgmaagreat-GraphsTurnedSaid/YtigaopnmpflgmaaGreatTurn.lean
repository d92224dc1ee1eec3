/-
  For countersignlaw16.GraphsTurned: turned graphs: contracts of the functions and of the law. No conditions beyond those that each theorem states.
-/
import Derived.Test.YtigaopnmpflgmaaGreatSortC
import Derived.Test.YtigaopnmpflgmaaGreatGraE
set_option linter.unusedSimpArgs false
set_option linter.unusedVariables false
section
/-
  Edges in order: the comparison is a total order; sorted, without doubles.
-/
namespace Go.Di
open Go.Ev Go.Sort
variable {C : Nat → Ev.Call}
def bn (b : Bool) : Nat := if b then 1 else 0
theorem bn_inj {a b : Bool} (h : bn a = bn b) : a = b := by cases a <;> cases b <;> first | rfl | (simp [bn] at h)
theorem sgn_bn (b : Bool) : sgn b = (bn b : Int) := by cases b <;> rfl
/-- ahead -/
def LtE (x y : Edge) : Prop := x.f < y.f ∨ (x.f = y.f ∧ (x.t < y.t ∨ (x.t = y.t ∧ bn x.s < bn y.s)))
theorem ltE_iff (x y : Edge) : ltE x y = true ↔ LtE x y := by
  unfold ltE cmpE LtE
  rw [sgn_bn, sgn_bn]
  simp only [orI, cmpI, Int.ofNat_eq_natCast, decide_eq_true_eq]
  (repeat' split) <;> omega
theorem ltE_not (x y : Edge) : ltE x y = false ↔ ¬ LtE x y := by
  rw [← ltE_iff]; cases ltE x y <;> simp
theorem swoE : SWO ltE where
  irrefl := fun x => by rw [ltE_not]; unfold LtE; omega
  trans := fun x y z => by simp only [ltE_iff]; unfold LtE; omega
  ntrans := fun x y z => by simp only [ltE_not]; unfold LtE; omega
theorem LtE.tri {x y : Edge} (h1 : ¬ LtE x y) (h2 : ¬ LtE y x) : x = y := by
  unfold LtE at h1 h2
  obtain ⟨a, b, c⟩ := x
  obtain ⟨d, e, f⟩ := y
  simp only at h1 h2
  have e1 : a = d := by omega
  have e2 : b = e := by omega
  have e3 : bn c = bn f := by omega
  subst e1; subst e2
  rw [bn_inj e3]
theorem LtE.irr (x : Edge) : ¬ LtE x x := by unfold LtE; omega
theorem LtE.trans {x y z : Edge} : LtE x y → LtE y z → LtE x z := by unfold LtE; omega
/-- strictly ascending -/
abbrev Asc (l : List Edge) : Prop := l.Pairwise LtE
theorem Asc.nodup {l : List Edge} (h : Asc l) : l.Nodup := List.Pairwise.imp (fun {a b} (h : LtE a b) (e : a = b) => LtE.irr b (e ▸ h)) h
theorem Asc.uniq : ∀ {l l' : List Edge}, Asc l → Asc l' → l.Perm l' → l = l'
  | [], l', _, _, hp => by rw [List.nil_perm.1 hp]
  | x :: l, [], _, _, hp => by have := hp.length_eq; simp at this
  | x :: l, y :: l', h, h', hp => by
    have h := List.pairwise_cons.1 h
    have h' := List.pairwise_cons.1 h'
    have exy : x = y := by
      have hx : x ∈ y :: l' := hp.mem_iff.1 (List.mem_cons.2 (Or.inl rfl))
      have hy : y ∈ x :: l := hp.mem_iff.2 (List.mem_cons.2 (Or.inl rfl))
      rcases List.mem_cons.1 hx with e | hx
      · exact e
      · rcases List.mem_cons.1 hy with e | hy
        · exact e.symm
        · exact absurd ((h.1 y hy).trans (h'.1 x hx)) (LtE.irr _)
    subst exy
    rw [Asc.uniq h.2 h'.2 ((List.perm_cons x).1 hp)]
theorem cmpE_neg {x y : Edge} : cmpE x y < 0 ↔ LtE x y := by rw [← ltE_iff]; unfold ltE; simp
theorem EdgesOk.asc {n : Nat} {es : List Edge} (h : EdgesOk n es) : Asc es := by
  refine List.pairwise_iff_getElem.2 ?_
  intro i j hi hj hij
  obtain ⟨k, rfl⟩ : ∃ k, j = i + 1 + k := ⟨j - i - 1, by omega⟩
  clear hij
  induction k with
  | zero => exact cmpE_neg.1 (h.ord i hj)
  | succ k ih => exact (ih (by omega)).trans (cmpE_neg.1 (h.ord (i + 1 + k) (by omega)))
theorem Asc.ok {n : Nat} {es : List Edge} (h : Asc es) (hr : ∀ e ∈ es, e.f < n ∧ e.t < n) : EdgesOk n es :=
  ⟨hr, fun i hi => cmpE_neg.2 (List.pairwise_iff_getElem.1 h i (i + 1) (by omega) hi (by omega))⟩
/-- sorted, from no doubles, is strictly ascending -/
theorem Sd.asc {d R : Array Edge} (h : Sd 0 d.size d R) (hn : d.toList.Nodup) : Asc R.toList ∧ R.toList.Perm d.toList ∧ R.size = d.size := by
  obtain ⟨⟨h1, _, h2⟩, h3⟩ := h
  have hp : R.toList.Perm d.toList := by
    have e1 : R.extract 0 d.size = R := by rw [← h1]; simp
    have e2 : d.extract 0 d.size = d := by simp
    rw [e1, e2] at h2; exact h2
  have hR : R.toList.Nodup := hp.nodup_iff.2 hn
  refine ⟨?_, hp, h1⟩
  refine List.pairwise_iff_getElem.2 ?_
  intro i j hi hj hij
  have hj' : j < R.size := by simpa using hj
  have hi' : i < R.size := by simpa using hi
  have h4 := h3 i j (Nat.zero_le _) hij (by omega)
  rw [ltE_not] at h4
  have e1 : R[j]! = R.toList[j] := by simp [hj']
  have e2 : R[i]! = R.toList[i] := by simp [hi']
  rw [e1, e2] at h4
  refine Classical.byContradiction fun h5 => ?_
  have := LtE.tri h5 h4
  have hne := List.pairwise_iff_getElem.1 hR i j hi hj hij
  exact hne this
theorem eq_cells (neg : Bool) (x y : Edge) : boolR neg (eqAgg (eqFields [(p1, ⟨eqInt⟩, 0), (p1, ⟨eqInt⟩, 1), (p1, ⟨eqBool⟩, 2)]) (.agg x.cells) (.agg y.cells)) = .val (.bool (bif neg then !decide (x = y) else decide (x = y))) := by
  have e : eqAgg (eqFields [(p1, ⟨eqInt⟩, 0), (p1, ⟨eqInt⟩, 1), (p1, ⟨eqBool⟩, 2)]) (.agg x.cells) (.agg y.cells) = some (decide (x = y)) := by
    show andThen (some (eqI (.ofNat x.f) (.ofNat y.f))) (andThen (some (eqI (.ofNat x.t) (.ofNat y.t))) (andThen (some (x.s == y.s)) (some true))) = _
    obtain ⟨a, b, c⟩ := x
    obtain ⟨d, e, f⟩ := y
    simp only [eqI_eq, ofNat_eq]
    by_cases h1 : a = d
    · by_cases h2 : b = e
      · cases c <;> cases f <;> simp [andThen, h1, h2]
      · simp [andThen, h1, h2]
    · simp [andThen, h1]
  rw [e]; rfl
theorem Compact_loop {call : Ev.Call} {H : Hp} {v : AV} {es : List Edge} (hv : IsE H v es) (ha : Asc es) (hn : es.length < 900000) {q : AV → Hp → R1} {qe : Hp → R1} :
    ∀ (k i : Nat), 1 ≤ i → i ≤ es.length → es.length - i < k → s_Compact_l1 call q qe v k (.int .i64 (.ofNat i)) H = qe H
  | 0, i, _, _, h => by omega
  | k + 1, i, h1, h2, h3 => by
    show s_Compact_b1 call _ _ _ (s_Compact_l1 call _ _ _ k) _ H = _
    unfold s_Compact_b1
    by_cases h : i < es.length
    · obtain ⟨b, o, e1, _, e2⟩ := hv.at h
      obtain ⟨b', o', e1', _, e2'⟩ := hv.at (show i - 1 < es.length by omega)
      have hne : (es[i] = es[i - 1]) = False := eq_false fun e => by
        have := List.pairwise_iff_getElem.1 ha (i - 1) i (by omega) h (by omega)
        rw [e] at this
        exact LtE.irr _ this
      simp (disch := first | omega | exact tr_i rfl | (simp only [nx_push, nx_put]; done) | (simp only [nx_push, nx_put]; omega)) only [go_sem, Nat.reduceAdd, Nat.reduceMul, Nat.reduceSub, Nat.reduceLeDiff, Nat.reduceEqDiff, Nat.reduceShiftRight, Nat.reduceAnd, hv.len, h]
      unfold s_Compact_j32
      simp (disch := first | omega | exact tr_i rfl | (simp only [nx_push, nx_put]; done) | (simp only [nx_push, nx_put]; omega)) only [go_sem, Nat.reduceAdd, Nat.reduceMul, Nat.reduceSub, Nat.reduceLeDiff, Nat.reduceEqDiff, Nat.reduceShiftRight, Nat.reduceAnd, e1, e2, e1', e2', eq_cells, hne]
      unfold s_Compact_j3
      simp (disch := first | omega | exact tr_i rfl | (simp only [nx_push, nx_put]; done) | (simp only [nx_push, nx_put]; omega)) only [go_sem, Nat.reduceAdd, Nat.reduceMul, Nat.reduceSub, Nat.reduceLeDiff, Nat.reduceEqDiff, Nat.reduceShiftRight, Nat.reduceAnd]
      exact Compact_loop hv ha hn k (i + 1) (by omega) (by omega) (by omega)
    · simp (disch := first | omega | exact tr_i rfl | (simp only [nx_push, nx_put]; done) | (simp only [nx_push, nx_put]; omega)) only [go_sem, Nat.reduceAdd, Nat.reduceMul, Nat.reduceSub, Nat.reduceLeDiff, Nat.reduceEqDiff, Nat.reduceShiftRight, Nat.reduceAnd, hv.len, h]
theorem Compact_ok (hC : LinksS C) {k : Nat} (hk : 1 ≤ k) {H : Hp} {v : AV} {es : List Edge} (hv : IsE H v es) (ha : Asc es) (hn : es.length < 900000) : C k (.f id_s_Compact) [v] H = .ok v H := by
  obtain ⟨j, rfl⟩ : ∃ j, k = j + 1 := ⟨k - 1, by omega⟩
  rw [(hC j).s_Compact]
  unfold s_Compact s_Compact_c
  by_cases h : es.length < 2
  · simp (disch := first | omega | exact tr_i rfl | (simp only [nx_push, nx_put]; done) | (simp only [nx_push, nx_put]; omega)) only [go_sem, Nat.reduceAdd, Nat.reduceMul, Nat.reduceSub, Nat.reduceLeDiff, Nat.reduceEqDiff, Nat.reduceShiftRight, Nat.reduceAnd, hv.len, h]
  · simp (disch := first | omega | exact tr_i rfl | (simp only [nx_push, nx_put]; done) | (simp only [nx_push, nx_put]; omega)) only [go_sem, Nat.reduceAdd, Nat.reduceMul, Nat.reduceSub, Nat.reduceLeDiff, Nat.reduceEqDiff, Nat.reduceShiftRight, Nat.reduceAnd, hv.len, h]
    unfold s_Compact_j35 s_Compact_L1
    rw [fuelX_eq, Compact_loop hv ha hn loopFuel 1 (by omega) (by omega) (by rw [loopFuel_eq]; omega)]
    rfl
theorem ClipE_ok (hC : LinksS C) {k : Nat} (hk : 1 ≤ k) {H : Hp} {v : AV} {es : List Edge} (hv : IsE H v es) :
    ∃ w, C k (.f id_s_ClipE) [v] H = .ok w H ∧ IsE H w es ∧ capV w = .val (.int .i64 (.ofNat es.length)) ∧ (∀ b, In w b → In v b) := by
  obtain ⟨j, rfl⟩ : ∃ j, k = j + 1 := ⟨k - 1, by omega⟩
  obtain ⟨w, e, h1, h2, h3⟩ := Gl.clip hv
  refine ⟨w, ?_, h1, h2, h3⟩
  rw [(hC j).s_ClipE]
  unfold s_ClipE s_ClipE_c
  simp (disch := first | omega | exact tr_i rfl | (simp only [nx_push, nx_put]; done) | (simp only [nx_push, nx_put]; omega)) only [go_sem, Nat.reduceAdd, Nat.reduceMul, Nat.reduceSub, Nat.reduceLeDiff, Nat.reduceEqDiff, Nat.reduceShiftRight, Nat.reduceAnd, hv.len, e]
end Go.Di
end

section
/-
  Contracts: edges put in order; a graph turned.
-/
namespace Go.Di
open Go.Ev Go.Sort
variable {C : Nat → Ev.Call}
theorem SortFunc_nil (hC : LinksS C) {k : Nat} (hk : 5 ≤ k) (fc : FuncId) (H : Hp) : C k (.f id_s_SortFunc) [.nilsl, .fn fc [] []] H = .ok (.tup []) H := by
  obtain ⟨k, rfl⟩ : ∃ j, k = j + 3 := ⟨k - 3, by omega⟩
  rw [(hC (k + 2)).s_SortFunc]
  unfold s_SortFunc s_SortFunc_c
  have e1 := conv_u64 .i64 0 (by omega)
  have e2 := Len_ok hC (k := k + 2) (by omega) 0 (by omega) H
  have e4 : bitsLen 0 = 0 := rfl
  rw [e4] at e2
  have e5 : C (k + 1) (.f id_s_ins) [.nilsl, .int .i64 (.ofNat 0), .int .i64 (.ofNat 0), .fn fc [] []] H = .ok (.tup []) H := by
    rw [(hC k).s_ins]
    unfold s_ins s_ins_c s_ins_L1
    rw [fuelX_eq, loopFuel_eq]
    simp (disch := first | omega | exact tr_i rfl | (simp only [nx_push, nx_put]; done) | (simp only [nx_push, nx_put]; omega)) only [go_sem, Nat.reduceAdd, Nat.reduceMul, Nat.reduceSub, Nat.reduceLeDiff, Nat.reduceEqDiff, Nat.reduceShiftRight, Nat.reduceAnd]
    show s_ins_b1 (C k) _ _ _ _ _ (s_ins_l1 (C k) _ _ _ _ _ 999999) _ H = _
    unfold s_ins_b1
    simp (disch := first | omega | exact tr_i rfl | (simp only [nx_push, nx_put]; done) | (simp only [nx_push, nx_put]; omega)) only [go_sem, Nat.reduceAdd, Nat.reduceMul, Nat.reduceSub, Nat.reduceLeDiff, Nat.reduceEqDiff, Nat.reduceShiftRight, Nat.reduceAnd, Nat.not_lt_zero]
  have e3 : C (k + 2) (.f id_s_pdq) [.nilsl, .int .i64 (.ofNat 0), .int .i64 (.ofNat 0), .int .i64 (.ofNat 0), .fn fc [] []] H = .ok (.tup []) H := by
    rw [(hC (k + 1)).s_pdq]
    unfold s_pdq s_pdq_c s_pdq_L0
    rw [fuelX_eq, loopFuel_eq]
    show s_pdq_b0 (C (k + 1)) _ _ _ (s_pdq_l0 (C (k + 1)) _ _ _ 999999) _ _ _ _ _ H = _
    unfold s_pdq_b0
    simp (disch := first | omega | exact tr_i rfl | (simp only [nx_push, nx_put]; done) | (simp only [nx_push, nx_put]; omega)) only [go_sem, Nat.reduceAdd, Nat.reduceMul, Nat.reduceSub, Nat.reduceLeDiff, Nat.reduceEqDiff, Nat.reduceShiftRight, Nat.reduceAnd, Nat.zero_le, e5]
  simp (disch := first | omega | exact tr_i rfl | (simp only [nx_push, nx_put]; done) | (simp only [nx_push, nx_put]; omega)) only [go_sem, Nat.reduceAdd, Nat.reduceMul, Nat.reduceSub, Nat.reduceLeDiff, Nat.reduceEqDiff, Nat.reduceShiftRight, Nat.reduceAnd, e1, e2, e3]
theorem ordered_ok (hC : Links C) (hS : LinksS C) {es : List Edge} (hn : es.length < 900000) {k : Nat} (hk : es.length + 20 ≤ k) {v : AV} {H : Hp} (hv : IsE H v es) (hd : es.Nodup) :
    Ok (C k (.f id_graphs_ordered) [v] H) fun r H' => ∃ es', Asc es' ∧ es'.Perm es ∧ IsE H' r es' ∧ capV r = .val (.int .i64 (.ofNat es.length)) ∧ Fm (In v) H H' ∧ (∀ b, In r b → In v b) := by
  obtain ⟨k, rfl⟩ : ∃ j, k = j + 1 := ⟨k - 1, by omega⟩
  rw [(hS k).graphs_ordered]
  unfold graphs_ordered graphs_ordered_c
  have fin : ∀ {es' : List Edge} {H' : Hp}, Asc es' → es'.Perm es → IsE H' v es' → Fm (In v) H H' →
      Ok (ve (C k (.f id_s_Compact) [v] H') fun a1 H => ve (C k (.f id_s_ClipE) [a1] H) fun a2 H => .ok a2 H) fun r H' => ∃ es', Asc es' ∧ es'.Perm es ∧ IsE H' r es' ∧ capV r = .val (.int .i64 (.ofNat es.length)) ∧ Fm (In v) H H' ∧ (∀ b, In r b → In v b) := by
    intro es' H' ha hp hv' hf
    have hl := hp.length_eq
    rw [Compact_ok hS (by omega) hv' ha (by omega), ve_ok]
    obtain ⟨w, e, h1, h2, h3⟩ := ClipE_ok hS (k := k) (by omega) hv'
    rw [e, ve_ok]
    exact Ok.ret ⟨es', ha, hp, h1, by rw [h2, hl], hf, h3⟩
  rcases hv.is with ⟨rfl, h0⟩ | ⟨b, o, e, q, L, rfl, h1, h2, h3, h4, h5⟩
  · have : es = [] := List.length_eq_zero_iff.1 h0
    subst this
    rw [SortFunc_nil hS (by omega), ve_ok]
    exact fin List.Pairwise.nil (List.Perm.refl _) hv (Fm.refl _ _)
  · let s : Sl := ⟨b, q, es.length, es.length, e, L.take o, []⟩
    have ho : (L.take o).length = o := by rw [List.length_take]; omega
    have hsv : s.v = .sl b o es.length es.length e := by show AV.sl b (L.take o).length _ _ _ = _; rw [ho]
    have hst : St s es.toArray H := ⟨by
      rw [h1]
      show mkBlk q L = mkBlk q (L.take o ++ (ecells es ++ []))
      rw [List.append_nil, ← h3, List.take_append_drop], h5, by simp [s]⟩
    have hsort := SortFunc_ok hS (k := k) (fc := id_graphs_compare) (fun k hk x y H => compare_ok hC hk x y H) (s := s) hn (by show es.length + 10 ≤ k; omega) swoE hst
    rw [hsv] at hsort
    refine Ok.ve hsort ?_
    rintro r H' ⟨rfl, R, hR, hst', hF⟩
    have hsz : s.n = es.toArray.size := by simp [s]
    rw [hsz] at hR
    obtain ⟨ha, hp, hrs⟩ := hR.asc (by simpa using hd)
    have hp : R.toList.Perm es := by simpa using hp
    refine fin ha hp ⟨ecells_len _, .inr ⟨b, o, e, q, L.take o ++ (ecells R.toList ++ []), ?_, hst'.get, ?_, ?_, h4, hst'.lt⟩⟩ (hF.mono fun c _ hc => ⟨o, es.length, es.length, e, congrArg (fun x => AV.sl x o es.length es.length e) (Eq.symm hc)⟩)
    · rw [hp.length_eq]
    · simp; omega
    · rw [List.append_nil, List.drop_append, List.drop_eq_nil_of_le (by omega), ho, Nat.sub_self, List.drop_zero, List.nil_append]
/-- an edge turned -/
def tw (e : Edge) : Edge := ⟨e.t, e.f, e.s⟩
theorem tw_tw (e : Edge) : tw (tw e) = e := rfl
theorem tw_nodup {l : List Edge} (h : l.Nodup) : (l.map tw).Nodup := by
  refine List.pairwise_map.2 (List.Pairwise.imp (fun {a b} (h : a ≠ b) (e : tw a = tw b) => h ?_) h)
  have := congrArg tw e
  exact this
theorem Turned_loop {call : Ev.Call} {n g : Nat} {es : List Edge} {v : AV} {H1 : Hp} (hlen : es.length ≤ 200000) {Q : AV → Hp → Prop} {q : Hp → R1}
    (hv : IsE H1 v es) (hvg : ∀ b, In v b → b ≠ g) (hg : g < H1.nx)
    (hq : ∀ w H, IsE H w (es.map tw) → H.get g = mkBlk 0 [.int .i64 (.ofNat n), w] → Fm (· = g) H1 H → (∀ b, In w b → H1.nx ≤ b) → Ok (q H) Q) :
    ∀ (k i : Nat) (w : AV) (H : Hp), i ≤ es.length → es.length - i < k → Gl 3 H w i (ecells ((es.take i).map tw)) → H.get g = mkBlk 0 [.int .i64 (.ofNat n), w] → Fm (· = g) H1 H → (∀ b, In w b → H1.nx ≤ b) →
      Ok (graphs_Turned_l18 call q (.ptr g 0) v (.int .i64 (.ofNat es.length)) k (.int .i64 (.ofNat i)) H) Q
  | 0, i, _, _, _, h, _, _, _, _ => by omega
  | k + 1, i, w, H, hi, hk, hw, hgw, hfm, hwn => by
    show Ok (graphs_Turned_b18 call _ _ _ _ (graphs_Turned_l18 call _ _ _ _ k) _ H) Q
    unfold graphs_Turned_b18
    by_cases hlt : i < es.length
    · simp (disch := first | omega | exact tr_i rfl | (simp only [nx_push, nx_put]; done) | (simp only [nx_push, nx_put]; omega)) only [go_sem, Nat.reduceAdd, Nat.reduceMul, Nat.reduceSub, Nat.reduceLeDiff, Nat.reduceEqDiff, Nat.reduceShiftRight, Nat.reduceAnd, hlt]
      unfold graphs_Turned_j39
      have hvH : IsE H v es := Gl.fm hv hfm hvg
      obtain ⟨b, o, e1, e2, e3⟩ := hvH.at hlt
      have n1 := hfm.nx
      simp (disch := first | omega | exact tr_i rfl | (simp only [nx_push, nx_put]; done) | (simp only [nx_push, nx_put]; omega)) only [go_sem, Nat.reduceAdd, Nat.reduceMul, Nat.reduceSub, Nat.reduceLeDiff, Nat.reduceEqDiff, Nat.reduceShiftRight, Nat.reduceAnd, hgw, e1, e3, Edge.cells]
      have fH : Fm No H (pushH ((pushH H (mkBlk 0 [.int .i64 (.ofNat 0), .int .i64 (.ofNat 0), .bool false])).put H.nx (mkBlk 0 [.int .i64 (.ofNat es[i].f), .int .i64 (.ofNat es[i].t), .bool es[i].s])) (mkBlk 0 [.int .i64 (.ofNat es[i].t), .int .i64 (.ofNat es[i].f), .bool es[i].s])) := by (repeat (first | exact Fm.refl _ _ | assumption | refine Fm.push ?_ _ | refine Fm.up2 ?_ (by (first | omega | (simp only [nx_push, nx_put]; omega))) | refine Fm.put_new ?_ _ _ (by (first | omega | (simp only [nx_push, nx_put]; omega)))))
      obtain ⟨H', e, gl', _, fm', nx'⟩ := (hw.no fH).append (k := 1) (w := 24) (x := (tw es[i]).cells) (by omega) rfl (by omega) (by omega)
      refine Ok.veE e ?_
      have hwg : ¬ In w g := fun h => by have := hwn g h; omega
      have k1 : H'.get g = mkBlk 0 [.int .i64 (.ofNat n), w] := (fm'.get g (by (first | omega | (simp only [nx_push, nx_put]; omega))) hwg).trans ((fH.keep (by omega)).trans hgw)
      simp (disch := first | omega | exact tr_i rfl | (simp only [nx_push, nx_put]; done) | (simp only [nx_push, nx_put]; omega)) only [go_sem, Nat.reduceAdd, Nat.reduceMul, Nat.reduceSub, Nat.reduceLeDiff, Nat.reduceEqDiff, Nat.reduceShiftRight, Nat.reduceAnd, k1]
      unfold graphs_Turned_j21
      simp (disch := first | omega | exact tr_i rfl | (simp only [nx_push, nx_put]; done) | (simp only [nx_push, nx_put]; omega)) only [go_sem, Nat.reduceAdd, Nat.reduceMul, Nat.reduceSub, Nat.reduceLeDiff, Nat.reduceEqDiff, Nat.reduceShiftRight, Nat.reduceAnd]
      rw [ecells_app] at gl'
      have ht : (es.take (i + 1)).map tw = (es.take i).map tw ++ [tw es[i]] := by
        rw [List.take_succ_eq_append_getElem hlt, List.map_append]; rfl
      rw [← ht] at gl'
      have f2 : Fm (· = g) H1 H' := (hfm.then fH fun _ _ h => h.elim).then fm' fun c hc h => by have := hwn c h; omega
      have nx2 : H'.nx = H.nx + 2 + 1 := nx'
      refine Turned_loop hlen hv hvg hg hq k (i + 1) _ _ (by omega) (by omega) (gl'.fm (S := (· = g)) (H' := H'.put g _) (by (repeat (first | exact Fm.refl _ _ | assumption | refine Fm.push ?_ _ | refine Fm.up2 ?_ (by (first | omega | (simp only [nx_push, nx_put]; omega))) | refine Fm.put_new ?_ _ _ (by (first | omega | (simp only [nx_push, nx_put]; omega))) | refine Fm.put ?_ _ _ (fun _ => rfl)))) fun b hb => ?_) (get_put_same _ _ _) (by (repeat (first | exact Fm.refl _ _ | assumption | refine Fm.push ?_ _ | refine Fm.up2 ?_ (by (first | omega | (simp only [nx_push, nx_put]; omega))) | refine Fm.put_new ?_ _ _ (by (first | omega | (simp only [nx_push, nx_put]; omega))) | refine Fm.put ?_ _ _ (fun _ => rfl)))) fun b hb => ?_
      · obtain ⟨_, _, _, _, h⟩ := hb
        cases h
        show ¬ H.nx + 1 + 1 = g
        omega
      · obtain ⟨_, _, _, _, h⟩ := hb
        cases h
        show H1.nx ≤ H.nx + 1 + 1
        omega
    · have : i = es.length := by omega
      simp (disch := first | omega | exact tr_i rfl | (simp only [nx_push, nx_put]; done) | (simp only [nx_push, nx_put]; omega)) only [go_sem, Nat.reduceAdd, Nat.reduceMul, Nat.reduceSub, Nat.reduceLeDiff, Nat.reduceEqDiff, Nat.reduceShiftRight, Nat.reduceAnd, hlt]
      rw [this, List.take_length] at hw
      refine hq w H ?_ hgw hfm hwn
      show Gl 3 H w (es.map tw).length _
      rw [List.length_map]; exact hw
/-- the edges of a turned graph -/
structure TwOk (n : Nat) (es es' : List Edge) : Prop where
  asc : Asc es'
  perm : es'.Perm (es.map tw)
theorem TwOk.ok {n : Nat} {es es' : List Edge} (h : TwOk n es es') (hE : EdgesOk n es) : EdgesOk n es' := h.asc.ok fun e he => by
  obtain ⟨x, hx, rfl⟩ := List.mem_map.1 (h.perm.mem_iff.1 he)
  exact ⟨(hE.rng x hx).2, (hE.rng x hx).1⟩
theorem TwOk.back {n : Nat} {es es' es2 : List Edge} (h : TwOk n es es') (h2 : TwOk n es' es2) (hE : EdgesOk n es) : es2 = es := by
  refine Asc.uniq h2.asc hE.asc (h2.perm.trans ((h.perm.map tw).trans ?_))
  rw [List.map_map]
  have : tw ∘ tw = id := rfl
  rw [this, List.map_id]
theorem TwOk.len {n : Nat} {es es' : List Edge} (h : TwOk n es es') : es'.length = es.length := by rw [h.perm.length_eq, List.length_map]
theorem Turned_ok (hC : Links C) (hS : LinksS C) {n : Nat} {es : List Edge} (hE : EdgesOk n es) (hn : n ≤ 256) (hlen : es.length < 100000) {k : Nat} (hk : es.length + 30 ≤ k) {v : AV} {H : Hp} (hv : IsE H v es) :
    Ok (C k (.f id_graphs_Turned) [.agg [.int .i64 (.ofNat n), v]] H) fun r H' => ∃ w es', r = .tup [.agg [.int .i64 (.ofNat n), w], .int .i64 (.ofNat 0)] ∧ TwOk n es es' ∧ IsE H' w es' ∧ Fm No H H' ∧ (∀ b, In w b → H.nx ≤ b) ∧ capV w = .val (.int .i64 (.ofNat es.length)) := by
  obtain ⟨k, rfl⟩ : ∃ j, k = j + 1 := ⟨k - 1, by omega⟩
  rw [(hS k).graphs_Turned]
  unfold graphs_Turned graphs_Turned_c
  have fH : Fm No H (pushH (pushH H (mkBlk 0 [.int .i64 (.ofNat n), v])) (mkBlk 0 [.int .i64 (.ofNat 0), .nilsl])) := by (repeat (first | exact Fm.refl _ _ | assumption | refine Fm.push ?_ _ | refine Fm.up2 ?_ (by (first | omega | (simp only [nx_push, nx_put]; omega))) | refine Fm.put_new ?_ _ _ (by (first | omega | (simp only [nx_push, nx_put]; omega)))))
  simp (disch := first | omega | exact tr_i rfl | (simp only [nx_push, nx_put]; done) | (simp only [nx_push, nx_put]; omega)) only [go_sem, Nat.reduceAdd, Nat.reduceMul, Nat.reduceSub, Nat.reduceLeDiff, Nat.reduceEqDiff, Nat.reduceShiftRight, Nat.reduceAnd]
  refine Ok.ve (Check_ok hC (k := k) (by omega) hE hn (by omega) (Gl.no hv fH)) ?_
  rintro r H1 ⟨rfl, f1⟩
  have f01 := fH.trans f1
  have n1 := f1.nx
  have k1 : H1.get H.nx = mkBlk 0 [.int .i64 (.ofNat n), v] := (f1.keep (by (first | omega | (simp only [nx_push, nx_put]; omega)))).trans (by simp (disch := first | omega | exact tr_i rfl | (simp only [nx_push, nx_put]; done) | (simp only [nx_push, nx_put]; omega)) only [go_sem, Nat.reduceAdd, Nat.reduceMul, Nat.reduceSub, Nat.reduceLeDiff, Nat.reduceEqDiff, Nat.reduceShiftRight, Nat.reduceAnd])
  have k2 : H1.get (H.nx + 1) = mkBlk 0 [.int .i64 (.ofNat 0), .nilsl] := (f1.keep (by (first | omega | (simp only [nx_push, nx_put]; omega)))).trans (by simp (disch := first | omega | exact tr_i rfl | (simp only [nx_push, nx_put]; done) | (simp only [nx_push, nx_put]; omega)) only [go_sem, Nat.reduceAdd, Nat.reduceMul, Nat.reduceSub, Nat.reduceLeDiff, Nat.reduceEqDiff, Nat.reduceShiftRight, Nat.reduceAnd])
  simp only [nx_push] at n1
  have hv1 : IsE H1 v es := Gl.no hv f01
  simp (disch := first | omega | exact tr_i rfl | (simp only [nx_push, nx_put]; done) | (simp only [nx_push, nx_put]; omega)) only [go_sem, Nat.reduceAdd, Nat.reduceMul, Nat.reduceSub, Nat.reduceLeDiff, Nat.reduceEqDiff, Nat.reduceShiftRight, Nat.reduceAnd]
  unfold graphs_Turned_j40
  simp (disch := first | omega | exact tr_i rfl | (simp only [nx_push, nx_put]; done) | (simp only [nx_push, nx_put]; omega)) only [go_sem, Nat.reduceAdd, Nat.reduceMul, Nat.reduceSub, Nat.reduceLeDiff, Nat.reduceEqDiff, Nat.reduceShiftRight, Nat.reduceAnd, k1, hv1.len]
  unfold graphs_Turned_L18
  rw [fuelX_eq]
  have fz : Fm No H1 ((pushH H1 (mkBlk 0 [.int .i64 (.ofNat 0), .nilsl])).put H1.nx (mkBlk 0 [.int .i64 (.ofNat n), .nilsl])) := by (repeat (first | exact Fm.refl _ _ | assumption | refine Fm.push ?_ _ | refine Fm.up2 ?_ (by (first | omega | (simp only [nx_push, nx_put]; omega))) | refine Fm.put_new ?_ _ _ (by (first | omega | (simp only [nx_push, nx_put]; omega)))))
  have hvz : ∀ b, In v b → b ≠ H1.nx := fun b hb => by have := Gl.lt hv1 hb; omega
  refine Turned_loop (by omega) (Gl.no hv1 fz) hvz (by (first | omega | (simp only [nx_push, nx_put]; omega))) (fun w H2 hw hg hf hwn => ?_) loopFuel 0 .nilsl _ (Nat.zero_le _) (by rw [loopFuel_eq]; omega) (Gl.nil _ _) (get_put_same _ _ _) (Fm.refl _ _) (fun b hb => by obtain ⟨_, _, _, _, h⟩ := hb; cases h)
  have f12 : Fm No H1 H2 := fz.then hf fun c hc h => by omega
  unfold graphs_Turned_j14
  simp (disch := first | omega | exact tr_i rfl | (simp only [nx_push, nx_put]; done) | (simp only [nx_push, nx_put]; omega)) only [go_sem, Nat.reduceAdd, Nat.reduceMul, Nat.reduceSub, Nat.reduceLeDiff, Nat.reduceEqDiff, Nat.reduceShiftRight, Nat.reduceAnd, hg]
  refine Ok.ve (ordered_ok hC hS (es := es.map tw) (by rw [List.length_map]; omega) (k := k) (by rw [List.length_map]; omega) hw (tw_nodup hE.asc.nodup)) ?_
  rintro r H3 ⟨es', ha, hp, hr, hcp, f3, hrw⟩
  rw [List.length_map] at hcp
  have hnx1 : H1.nx + 1 ≤ H2.nx := by have := hf.nx; simpa only [nx_put, nx_push] using this
  have hwn' : ∀ b, In w b → H1.nx + 1 ≤ b := fun b hb => by have := hwn b hb; simpa only [nx_put, nx_push] using this
  have f13 : Fm No H1 H3 := f12.then f3 fun c hc h => by have := hwn' c h; omega
  have n3 := f13.nx
  have g1 : H3.get H1.nx = mkBlk 0 [.int .i64 (.ofNat n), w] := (f3.get _ (by omega) fun h => by have := hwn' _ h; omega).trans hg
  have g2 : H3.get (H.nx + 1) = mkBlk 0 [.int .i64 (.ofNat 0), .nilsl] := (f13.keep (by omega)).trans k2
  have hst : ∃ b, store1 H3 (.ptr H1.nx 1) r = .ok .undef (H3.put H1.nx (mkBlk 0 [.int .i64 (.ofNat n), r])) ∧ b = 0 := by
    refine ⟨0, ?_, rfl⟩
    rcases hr.is with ⟨rfl, _⟩ | ⟨_, _, _, _, _, rfl, _⟩
    · simp (disch := first | omega | exact tr_i rfl | (simp only [nx_push, nx_put]; done) | (simp only [nx_push, nx_put]; omega)) only [go_sem, Nat.reduceAdd, Nat.reduceMul, Nat.reduceSub, Nat.reduceLeDiff, Nat.reduceEqDiff, Nat.reduceShiftRight, Nat.reduceAnd, g1]; rfl
    · simp (disch := first | omega | exact tr_i rfl | (simp only [nx_push, nx_put]; done) | (simp only [nx_push, nx_put]; omega)) only [go_sem, Nat.reduceAdd, Nat.reduceMul, Nat.reduceSub, Nat.reduceLeDiff, Nat.reduceEqDiff, Nat.reduceShiftRight, Nat.reduceAnd, g1]; rfl
  obtain ⟨_, hst, _⟩ := hst
  have hne : H1.nx ≠ H.nx + 1 := by omega
  have g3 : (H3.put H1.nx (mkBlk 0 [.int .i64 (.ofNat n), r])).get (H.nx + 1) = mkBlk 0 [.int .i64 (.ofNat 0), .nilsl] := (get_put_ne _ _ _ _ (Ne.symm hne)).trans g2
  simp (disch := first | omega | exact tr_i rfl | (simp only [nx_push, nx_put]; done) | (simp only [nx_push, nx_put]; omega)) only [go_sem, Nat.reduceAdd, Nat.reduceMul, Nat.reduceSub, Nat.reduceLeDiff, Nat.reduceEqDiff, Nat.reduceShiftRight, Nat.reduceAnd, hst, g3]
  have fS : Fm (fun b => b = H1.nx ∨ b = H.nx + 1) H3 ((H3.put H1.nx (mkBlk 0 [.int .i64 (.ofNat n), r])).put (H.nx + 1) (mkBlk 0 [.int .i64 (.ofNat n), r])) :=
    ((Fm.refl _ _).put _ _ fun _ => .inl rfl).put _ _ fun _ => .inr rfl
  refine Ok.ret ⟨r, es', rfl, ⟨ha, hp⟩, Gl.fm hr fS fun b hb hx => ?_, ((f01.trans f13).put_new _ _ (by omega)).put_new _ _ (by omega), ?_⟩
  · have := hwn' b (hrw b hb)
    rcases hx with h | h <;> omega
  · refine ⟨fun b hb => ?_, hcp⟩
    have := hwn' b (hrw b hb)
    omega
end Go.Di
end

section
/-
  Contracts: the edges from a node, and to one.
-/
namespace Go.Di
open Go.Ev Go.Sort
variable {C : Nat → Ev.Call}
theorem Out_loop {call : Ev.Call} {es : List Edge} {v : AV} {H1 : Hp} (hlen : es.length ≤ 200000) {a : Nat} {Q : AV → Hp → Prop} {q : AV → Hp → R1} (hv : IsE H1 v es)
    (hq : ∀ w H, IsE H w (es.filter fun e => decide (e.f = a)) → Fm No H1 H → (∀ b, In w b → H1.nx ≤ b) → Ok (q w H) Q) :
    ∀ (k i : Nat) (w : AV) (H : Hp), i ≤ es.length → es.length - i < k → IsE H w ((es.take i).filter fun e => decide (e.f = a)) → Fm No H1 H → (∀ b, In w b → H1.nx ≤ b) →
      Ok (graphs_Out_l6 call q (.int .i64 (.ofNat a)) v (.int .i64 (.ofNat es.length)) k w (.int .i64 (.ofNat i)) H) Q
  | 0, i, _, _, _, h, _, _, _ => by omega
  | k + 1, i, w, H, hi, hk, hw, hfm, hwn => by
    show Ok (graphs_Out_b6 call _ _ _ _ (graphs_Out_l6 call _ _ _ _ k) _ _ H) Q
    unfold graphs_Out_b6
    by_cases hlt : i < es.length
    · simp (disch := first | omega | exact tr_i rfl | (simp only [nx_push, nx_put]; done) | (simp only [nx_push, nx_put]; omega)) only [go_sem, Nat.reduceAdd, Nat.reduceMul, Nat.reduceSub, Nat.reduceLeDiff, Nat.reduceEqDiff, Nat.reduceShiftRight, Nat.reduceAnd, hlt]
      unfold graphs_Out_j20
      have hvH : IsE H v es := Gl.no hv hfm
      obtain ⟨b, o, e1, e2, e3⟩ := hvH.at hlt
      have n1 := hfm.nx
      have ht : (es.take (i + 1)).filter (fun e => decide (e.f = a)) = (es.take i).filter (fun e => decide (e.f = a)) ++ if es[i].f = a then [es[i]] else [] := by
        rw [List.take_succ_eq_append_getElem hlt, List.filter_append]
        by_cases h : es[i].f = a <;> simp [h]
      have fH0 : Fm No H ((pushH H (mkBlk 0 [.int .i64 (.ofNat 0), .int .i64 (.ofNat 0), .bool false])).put H.nx (mkBlk 0 [.int .i64 (.ofNat es[i].f), .int .i64 (.ofNat es[i].t), .bool es[i].s])) := by (repeat (first | exact Fm.refl _ _ | assumption | refine Fm.push ?_ _ | refine Fm.up2 ?_ (by (first | omega | (simp only [nx_push, nx_put]; omega))) | refine Fm.put_new ?_ _ _ (by (first | omega | (simp only [nx_push, nx_put]; omega)))))
      by_cases h : es[i].f = a
      · have hd : (es[i].f = a) = True := eq_true h
        simp (disch := first | omega | exact tr_i rfl | (simp only [nx_push, nx_put]; done) | (simp only [nx_push, nx_put]; omega)) only [go_sem, Nat.reduceAdd, Nat.reduceMul, Nat.reduceSub, Nat.reduceLeDiff, Nat.reduceEqDiff, Nat.reduceShiftRight, Nat.reduceAnd, e1, e3, Edge.cells, hd]
        rw [if_pos h] at ht
        have fH := fH0.push (mkBlk 0 [.int .i64 (.ofNat es[i].f), .int .i64 (.ofNat es[i].t), .bool es[i].s])
        have hll : ((es.take i).filter fun e => decide (e.f = a)).length ≤ es.length := Nat.le_trans (List.length_filter_le _ _) (by rw [List.length_take]; omega)
        obtain ⟨H', e, gl', _, fm', nx'⟩ := (Gl.no hw fH).append (k := 1) (w := 24) (x := es[i].cells) (by omega) rfl (by omega) (by omega)
        refine Ok.veE e ?_
        unfold graphs_Out_j9
        simp (disch := first | omega | exact tr_i rfl | (simp only [nx_push, nx_put]; done) | (simp only [nx_push, nx_put]; omega)) only [go_sem, Nat.reduceAdd, Nat.reduceMul, Nat.reduceSub, Nat.reduceLeDiff, Nat.reduceEqDiff, Nat.reduceShiftRight, Nat.reduceAnd]
        rw [ecells_app] at gl'
        have f2 : Fm No H1 H' := (hfm.trans fH).then fm' fun c hc h => by have := hwn c h; omega
        refine Out_loop hlen hv hq k (i + 1) _ _ (by omega) (by omega) ?_ f2 fun b hb => ?_
        · rw [ht]; show Gl 3 H' _ _ _
          rw [List.length_append]; exact gl'
        · obtain ⟨_, _, _, _, h⟩ := hb
          cases h
          show H1.nx ≤ H.nx + 1 + 1
          omega
      · simp (disch := first | omega | exact tr_i rfl | (simp only [nx_push, nx_put]; done) | (simp only [nx_push, nx_put]; omega)) only [go_sem, Nat.reduceAdd, Nat.reduceMul, Nat.reduceSub, Nat.reduceLeDiff, Nat.reduceEqDiff, Nat.reduceShiftRight, Nat.reduceAnd, e1, e3, Edge.cells, h]
        unfold graphs_Out_j9
        simp (disch := first | omega | exact tr_i rfl | (simp only [nx_push, nx_put]; done) | (simp only [nx_push, nx_put]; omega)) only [go_sem, Nat.reduceAdd, Nat.reduceMul, Nat.reduceSub, Nat.reduceLeDiff, Nat.reduceEqDiff, Nat.reduceShiftRight, Nat.reduceAnd]
        rw [if_neg h, List.append_nil] at ht
        exact Out_loop hlen hv hq k (i + 1) _ _ (by omega) (by omega) (by rw [ht]; exact Gl.no hw fH0) (hfm.trans fH0) hwn
    · have : i = es.length := by omega
      simp (disch := first | omega | exact tr_i rfl | (simp only [nx_push, nx_put]; done) | (simp only [nx_push, nx_put]; omega)) only [go_sem, Nat.reduceAdd, Nat.reduceMul, Nat.reduceSub, Nat.reduceLeDiff, Nat.reduceEqDiff, Nat.reduceShiftRight, Nat.reduceAnd, hlt]
      rw [this, List.take_length] at hw
      exact hq w H hw hfm hwn
theorem Out_ok (hC : Links C) (hS : LinksS C) {n : Nat} {es : List Edge} (hE : EdgesOk n es) (hn : n ≤ 256) (hlen : es.length < 100000) {k : Nat} (hk : 10 ≤ k) {v : AV} {H : Hp} (hv : IsE H v es) {a : Nat} (ha : a < n) :
    Ok (C k (.f id_graphs_Out) [.agg [.int .i64 (.ofNat n), v], .int .i64 (.ofNat a)] H) fun r H' => ∃ w, r = .tup [w, .int .i64 (.ofNat 0)] ∧ IsE H' w (es.filter fun e => decide (e.f = a)) ∧ capV w = .val (.int .i64 (.ofNat (es.filter fun e => decide (e.f = a)).length)) ∧ Fm No H H' ∧ (∀ b, In w b → H.nx ≤ b) := by
  obtain ⟨k, rfl⟩ : ∃ j, k = j + 1 := ⟨k - 1, by omega⟩
  rw [(hS k).graphs_Out]
  unfold graphs_Out graphs_Out_c
  have fH : Fm No H (pushH H (mkBlk 0 [.int .i64 (.ofNat n), v])) := by (repeat (first | exact Fm.refl _ _ | assumption | refine Fm.push ?_ _ | refine Fm.up2 ?_ (by (first | omega | (simp only [nx_push, nx_put]; omega))) | refine Fm.put_new ?_ _ _ (by (first | omega | (simp only [nx_push, nx_put]; omega)))))
  simp (disch := first | omega | exact tr_i rfl | (simp only [nx_push, nx_put]; done) | (simp only [nx_push, nx_put]; omega)) only [go_sem, Nat.reduceAdd, Nat.reduceMul, Nat.reduceSub, Nat.reduceLeDiff, Nat.reduceEqDiff, Nat.reduceShiftRight, Nat.reduceAnd]
  refine Ok.ve (of_ok hC (k := k) (by omega) hE hn (by omega) (Gl.no hv fH) (.ofNat a)) ?_
  rintro r H1 ⟨rfl, f1⟩
  have f01 := fH.trans f1
  have n1 := f1.nx
  simp only [nx_push] at n1
  have k1 : H1.get H.nx = mkBlk 0 [.int .i64 (.ofNat n), v] := (f1.keep (by (first | omega | (simp only [nx_push, nx_put]; omega)))).trans (by simp (disch := first | omega | exact tr_i rfl | (simp only [nx_push, nx_put]; done) | (simp only [nx_push, nx_put]; omega)) only [go_sem, Nat.reduceAdd, Nat.reduceMul, Nat.reduceSub, Nat.reduceLeDiff, Nat.reduceEqDiff, Nat.reduceShiftRight, Nat.reduceAnd])
  have hv1 : IsE H1 v es := Gl.no hv f01
  have hra : (0 ≤ Int.ofNat a ∧ Int.ofNat a < (n : Int)) := by simp only [Int.ofNat_eq_natCast]; omega
  rw [if_pos hra]
  simp (disch := first | omega | exact tr_i rfl | (simp only [nx_push, nx_put]; done) | (simp only [nx_push, nx_put]; omega)) only [go_sem, Nat.reduceAdd, Nat.reduceMul, Nat.reduceSub, Nat.reduceLeDiff, Nat.reduceEqDiff, Nat.reduceShiftRight, Nat.reduceAnd]
  unfold graphs_Out_j21
  simp (disch := first | omega | exact tr_i rfl | (simp only [nx_push, nx_put]; done) | (simp only [nx_push, nx_put]; omega)) only [go_sem, Nat.reduceAdd, Nat.reduceMul, Nat.reduceSub, Nat.reduceLeDiff, Nat.reduceEqDiff, Nat.reduceShiftRight, Nat.reduceAnd, k1, hv1.len]
  unfold graphs_Out_L6
  rw [fuelX_eq]
  refine Out_loop (by omega) hv1 (fun w H2 hw hf hwn => ?_) loopFuel 0 .nilsl H1 (Nat.zero_le _) (by rw [loopFuel_eq]; omega) (Gl.nil _ _) (Fm.refl _ _) (fun b hb => by obtain ⟨_, _, _, _, h⟩ := hb; cases h)
  unfold graphs_Out_j2
  obtain ⟨w2, e, h1, h2, h3⟩ := ClipE_ok hS (k := k) (by omega) hw
  simp (disch := first | omega | exact tr_i rfl | (simp only [nx_push, nx_put]; done) | (simp only [nx_push, nx_put]; omega)) only [go_sem, Nat.reduceAdd, Nat.reduceMul, Nat.reduceSub, Nat.reduceLeDiff, Nat.reduceEqDiff, Nat.reduceShiftRight, Nat.reduceAnd, e]
  exact Ok.ret ⟨w2, rfl, h1, h2, f01.trans hf, fun b hb => by have := hwn b (h3 b hb); omega⟩
theorem Out_err (hC : Links C) (hS : LinksS C) {n : Nat} {es : List Edge} (hE : EdgesOk n es) (hn : n ≤ 256) (hlen : es.length < 100000) {k : Nat} (hk : 10 ≤ k) {v : AV} {H : Hp} (hv : IsE H v es) {a : Int} (ha : ¬ (0 ≤ a ∧ a < n)) :
    Ok (C k (.f id_graphs_Out) [.agg [.int .i64 (.ofNat n), v], .int .i64 a] H) fun r H' => r = .tup [.nilsl, .int .i64 (.ofNat 4)] ∧ Fm No H H' := by
  obtain ⟨k, rfl⟩ : ∃ j, k = j + 1 := ⟨k - 1, by omega⟩
  rw [(hS k).graphs_Out]
  unfold graphs_Out graphs_Out_c
  have fH : Fm No H (pushH H (mkBlk 0 [.int .i64 (.ofNat n), v])) := by (repeat (first | exact Fm.refl _ _ | assumption | refine Fm.push ?_ _ | refine Fm.up2 ?_ (by (first | omega | (simp only [nx_push, nx_put]; omega))) | refine Fm.put_new ?_ _ _ (by (first | omega | (simp only [nx_push, nx_put]; omega)))))
  simp (disch := first | omega | exact tr_i rfl | (simp only [nx_push, nx_put]; done) | (simp only [nx_push, nx_put]; omega)) only [go_sem, Nat.reduceAdd, Nat.reduceMul, Nat.reduceSub, Nat.reduceLeDiff, Nat.reduceEqDiff, Nat.reduceShiftRight, Nat.reduceAnd]
  refine Ok.ve (of_ok hC (k := k) (by omega) hE hn (by omega) (Gl.no hv fH) a) ?_
  rintro r H1 ⟨rfl, f1⟩
  rw [if_neg ha]
  have h4 : ¬ ((4 : Nat) = 0) := by omega
  simp (disch := first | omega | exact tr_i rfl | (simp only [nx_push, nx_put]; done) | (simp only [nx_push, nx_put]; omega)) only [go_sem, Nat.reduceAdd, Nat.reduceMul, Nat.reduceSub, Nat.reduceLeDiff, Nat.reduceEqDiff, Nat.reduceShiftRight, Nat.reduceAnd, h4]
  exact Ok.ret ⟨rfl, fH.trans f1⟩
theorem In_loop {call : Ev.Call} {es : List Edge} {v : AV} {H1 : Hp} (hlen : es.length ≤ 200000) {a : Nat} {Q : AV → Hp → Prop} {q : AV → Hp → R1} (hv : IsE H1 v es)
    (hq : ∀ w H, IsE H w (es.filter fun e => decide (e.t = a)) → Fm No H1 H → (∀ b, In w b → H1.nx ≤ b) → Ok (q w H) Q) :
    ∀ (k i : Nat) (w : AV) (H : Hp), i ≤ es.length → es.length - i < k → IsE H w ((es.take i).filter fun e => decide (e.t = a)) → Fm No H1 H → (∀ b, In w b → H1.nx ≤ b) →
      Ok (graphs_In_l6 call q (.int .i64 (.ofNat a)) v (.int .i64 (.ofNat es.length)) k w (.int .i64 (.ofNat i)) H) Q
  | 0, i, _, _, _, h, _, _, _ => by omega
  | k + 1, i, w, H, hi, hk, hw, hfm, hwn => by
    show Ok (graphs_In_b6 call _ _ _ _ (graphs_In_l6 call _ _ _ _ k) _ _ H) Q
    unfold graphs_In_b6
    by_cases hlt : i < es.length
    · simp (disch := first | omega | exact tr_i rfl | (simp only [nx_push, nx_put]; done) | (simp only [nx_push, nx_put]; omega)) only [go_sem, Nat.reduceAdd, Nat.reduceMul, Nat.reduceSub, Nat.reduceLeDiff, Nat.reduceEqDiff, Nat.reduceShiftRight, Nat.reduceAnd, hlt]
      unfold graphs_In_j20
      have hvH : IsE H v es := Gl.no hv hfm
      obtain ⟨b, o, e1, e2, e3⟩ := hvH.at hlt
      have n1 := hfm.nx
      have ht : (es.take (i + 1)).filter (fun e => decide (e.t = a)) = (es.take i).filter (fun e => decide (e.t = a)) ++ if es[i].t = a then [es[i]] else [] := by
        rw [List.take_succ_eq_append_getElem hlt, List.filter_append]
        by_cases h : es[i].t = a <;> simp [h]
      have fH0 : Fm No H ((pushH H (mkBlk 0 [.int .i64 (.ofNat 0), .int .i64 (.ofNat 0), .bool false])).put H.nx (mkBlk 0 [.int .i64 (.ofNat es[i].f), .int .i64 (.ofNat es[i].t), .bool es[i].s])) := by (repeat (first | exact Fm.refl _ _ | assumption | refine Fm.push ?_ _ | refine Fm.up2 ?_ (by (first | omega | (simp only [nx_push, nx_put]; omega))) | refine Fm.put_new ?_ _ _ (by (first | omega | (simp only [nx_push, nx_put]; omega)))))
      by_cases h : es[i].t = a
      · have hd : (es[i].t = a) = True := eq_true h
        simp (disch := first | omega | exact tr_i rfl | (simp only [nx_push, nx_put]; done) | (simp only [nx_push, nx_put]; omega)) only [go_sem, Nat.reduceAdd, Nat.reduceMul, Nat.reduceSub, Nat.reduceLeDiff, Nat.reduceEqDiff, Nat.reduceShiftRight, Nat.reduceAnd, e1, e3, Edge.cells, hd]
        rw [if_pos h] at ht
        have fH := fH0.push (mkBlk 0 [.int .i64 (.ofNat es[i].f), .int .i64 (.ofNat es[i].t), .bool es[i].s])
        have hll : ((es.take i).filter fun e => decide (e.t = a)).length ≤ es.length := Nat.le_trans (List.length_filter_le _ _) (by rw [List.length_take]; omega)
        obtain ⟨H', e, gl', _, fm', nx'⟩ := (Gl.no hw fH).append (k := 1) (w := 24) (x := es[i].cells) (by omega) rfl (by omega) (by omega)
        refine Ok.veE e ?_
        unfold graphs_In_j9
        simp (disch := first | omega | exact tr_i rfl | (simp only [nx_push, nx_put]; done) | (simp only [nx_push, nx_put]; omega)) only [go_sem, Nat.reduceAdd, Nat.reduceMul, Nat.reduceSub, Nat.reduceLeDiff, Nat.reduceEqDiff, Nat.reduceShiftRight, Nat.reduceAnd]
        rw [ecells_app] at gl'
        have f2 : Fm No H1 H' := (hfm.trans fH).then fm' fun c hc h => by have := hwn c h; omega
        refine In_loop hlen hv hq k (i + 1) _ _ (by omega) (by omega) ?_ f2 fun b hb => ?_
        · rw [ht]; show Gl 3 H' _ _ _
          rw [List.length_append]; exact gl'
        · obtain ⟨_, _, _, _, h⟩ := hb
          cases h
          show H1.nx ≤ H.nx + 1 + 1
          omega
      · simp (disch := first | omega | exact tr_i rfl | (simp only [nx_push, nx_put]; done) | (simp only [nx_push, nx_put]; omega)) only [go_sem, Nat.reduceAdd, Nat.reduceMul, Nat.reduceSub, Nat.reduceLeDiff, Nat.reduceEqDiff, Nat.reduceShiftRight, Nat.reduceAnd, e1, e3, Edge.cells, h]
        unfold graphs_In_j9
        simp (disch := first | omega | exact tr_i rfl | (simp only [nx_push, nx_put]; done) | (simp only [nx_push, nx_put]; omega)) only [go_sem, Nat.reduceAdd, Nat.reduceMul, Nat.reduceSub, Nat.reduceLeDiff, Nat.reduceEqDiff, Nat.reduceShiftRight, Nat.reduceAnd]
        rw [if_neg h, List.append_nil] at ht
        exact In_loop hlen hv hq k (i + 1) _ _ (by omega) (by omega) (by rw [ht]; exact Gl.no hw fH0) (hfm.trans fH0) hwn
    · have : i = es.length := by omega
      simp (disch := first | omega | exact tr_i rfl | (simp only [nx_push, nx_put]; done) | (simp only [nx_push, nx_put]; omega)) only [go_sem, Nat.reduceAdd, Nat.reduceMul, Nat.reduceSub, Nat.reduceLeDiff, Nat.reduceEqDiff, Nat.reduceShiftRight, Nat.reduceAnd, hlt]
      rw [this, List.take_length] at hw
      exact hq w H hw hfm hwn
theorem In_ok (hC : Links C) (hS : LinksS C) {n : Nat} {es : List Edge} (hE : EdgesOk n es) (hn : n ≤ 256) (hlen : es.length < 100000) {k : Nat} (hk : 10 ≤ k) {v : AV} {H : Hp} (hv : IsE H v es) {a : Nat} (ha : a < n) :
    Ok (C k (.f id_graphs_In) [.agg [.int .i64 (.ofNat n), v], .int .i64 (.ofNat a)] H) fun r H' => ∃ w, r = .tup [w, .int .i64 (.ofNat 0)] ∧ IsE H' w (es.filter fun e => decide (e.t = a)) ∧ capV w = .val (.int .i64 (.ofNat (es.filter fun e => decide (e.t = a)).length)) ∧ Fm No H H' ∧ (∀ b, In w b → H.nx ≤ b) := by
  obtain ⟨k, rfl⟩ : ∃ j, k = j + 1 := ⟨k - 1, by omega⟩
  rw [(hS k).graphs_In]
  unfold graphs_In graphs_In_c
  have fH : Fm No H (pushH H (mkBlk 0 [.int .i64 (.ofNat n), v])) := by (repeat (first | exact Fm.refl _ _ | assumption | refine Fm.push ?_ _ | refine Fm.up2 ?_ (by (first | omega | (simp only [nx_push, nx_put]; omega))) | refine Fm.put_new ?_ _ _ (by (first | omega | (simp only [nx_push, nx_put]; omega)))))
  simp (disch := first | omega | exact tr_i rfl | (simp only [nx_push, nx_put]; done) | (simp only [nx_push, nx_put]; omega)) only [go_sem, Nat.reduceAdd, Nat.reduceMul, Nat.reduceSub, Nat.reduceLeDiff, Nat.reduceEqDiff, Nat.reduceShiftRight, Nat.reduceAnd]
  refine Ok.ve (of_ok hC (k := k) (by omega) hE hn (by omega) (Gl.no hv fH) (.ofNat a)) ?_
  rintro r H1 ⟨rfl, f1⟩
  have f01 := fH.trans f1
  have n1 := f1.nx
  simp only [nx_push] at n1
  have k1 : H1.get H.nx = mkBlk 0 [.int .i64 (.ofNat n), v] := (f1.keep (by (first | omega | (simp only [nx_push, nx_put]; omega)))).trans (by simp (disch := first | omega | exact tr_i rfl | (simp only [nx_push, nx_put]; done) | (simp only [nx_push, nx_put]; omega)) only [go_sem, Nat.reduceAdd, Nat.reduceMul, Nat.reduceSub, Nat.reduceLeDiff, Nat.reduceEqDiff, Nat.reduceShiftRight, Nat.reduceAnd])
  have hv1 : IsE H1 v es := Gl.no hv f01
  have hra : (0 ≤ Int.ofNat a ∧ Int.ofNat a < (n : Int)) := by simp only [Int.ofNat_eq_natCast]; omega
  rw [if_pos hra]
  simp (disch := first | omega | exact tr_i rfl | (simp only [nx_push, nx_put]; done) | (simp only [nx_push, nx_put]; omega)) only [go_sem, Nat.reduceAdd, Nat.reduceMul, Nat.reduceSub, Nat.reduceLeDiff, Nat.reduceEqDiff, Nat.reduceShiftRight, Nat.reduceAnd]
  unfold graphs_In_j21
  simp (disch := first | omega | exact tr_i rfl | (simp only [nx_push, nx_put]; done) | (simp only [nx_push, nx_put]; omega)) only [go_sem, Nat.reduceAdd, Nat.reduceMul, Nat.reduceSub, Nat.reduceLeDiff, Nat.reduceEqDiff, Nat.reduceShiftRight, Nat.reduceAnd, k1, hv1.len]
  unfold graphs_In_L6
  rw [fuelX_eq]
  refine In_loop (by omega) hv1 (fun w H2 hw hf hwn => ?_) loopFuel 0 .nilsl H1 (Nat.zero_le _) (by rw [loopFuel_eq]; omega) (Gl.nil _ _) (Fm.refl _ _) (fun b hb => by obtain ⟨_, _, _, _, h⟩ := hb; cases h)
  unfold graphs_In_j2
  obtain ⟨w2, e, h1, h2, h3⟩ := ClipE_ok hS (k := k) (by omega) hw
  simp (disch := first | omega | exact tr_i rfl | (simp only [nx_push, nx_put]; done) | (simp only [nx_push, nx_put]; omega)) only [go_sem, Nat.reduceAdd, Nat.reduceMul, Nat.reduceSub, Nat.reduceLeDiff, Nat.reduceEqDiff, Nat.reduceShiftRight, Nat.reduceAnd, e]
  exact Ok.ret ⟨w2, rfl, h1, h2, f01.trans hf, fun b hb => by have := hwn b (h3 b hb); omega⟩
theorem In_err (hC : Links C) (hS : LinksS C) {n : Nat} {es : List Edge} (hE : EdgesOk n es) (hn : n ≤ 256) (hlen : es.length < 100000) {k : Nat} (hk : 10 ≤ k) {v : AV} {H : Hp} (hv : IsE H v es) {a : Int} (ha : ¬ (0 ≤ a ∧ a < n)) :
    Ok (C k (.f id_graphs_In) [.agg [.int .i64 (.ofNat n), v], .int .i64 a] H) fun r H' => r = .tup [.nilsl, .int .i64 (.ofNat 4)] ∧ Fm No H H' := by
  obtain ⟨k, rfl⟩ : ∃ j, k = j + 1 := ⟨k - 1, by omega⟩
  rw [(hS k).graphs_In]
  unfold graphs_In graphs_In_c
  have fH : Fm No H (pushH H (mkBlk 0 [.int .i64 (.ofNat n), v])) := by (repeat (first | exact Fm.refl _ _ | assumption | refine Fm.push ?_ _ | refine Fm.up2 ?_ (by (first | omega | (simp only [nx_push, nx_put]; omega))) | refine Fm.put_new ?_ _ _ (by (first | omega | (simp only [nx_push, nx_put]; omega)))))
  simp (disch := first | omega | exact tr_i rfl | (simp only [nx_push, nx_put]; done) | (simp only [nx_push, nx_put]; omega)) only [go_sem, Nat.reduceAdd, Nat.reduceMul, Nat.reduceSub, Nat.reduceLeDiff, Nat.reduceEqDiff, Nat.reduceShiftRight, Nat.reduceAnd]
  refine Ok.ve (of_ok hC (k := k) (by omega) hE hn (by omega) (Gl.no hv fH) a) ?_
  rintro r H1 ⟨rfl, f1⟩
  rw [if_neg ha]
  have h4 : ¬ ((4 : Nat) = 0) := by omega
  simp (disch := first | omega | exact tr_i rfl | (simp only [nx_push, nx_put]; done) | (simp only [nx_push, nx_put]; omega)) only [go_sem, Nat.reduceAdd, Nat.reduceMul, Nat.reduceSub, Nat.reduceLeDiff, Nat.reduceEqDiff, Nat.reduceShiftRight, Nat.reduceAnd, h4]
  exact Ok.ret ⟨rfl, fH.trans f1⟩
end Go.Di
end

section
/-
  Contract: edges are those of the definition.
-/
namespace Go.Di
open Go.Ev Go.Sort
variable {C : Nat → Ev.Call}
theorem ecells_getD {es : List Edge} {i j : Nat} (hi : i < es.length) (hj : j < 3) : (ecells es).getD (i * 3 + j) .undef = es[i].cells.getD j .undef := by
  rw [← ecells_at es i hi]
  simp [List.getD_eq_getElem?_getD, List.getElem?_take, List.getElem?_drop, hj]
theorem IsE.at1 {H : Hp} {v : AV} {es : List Edge} (h : IsE H v es) {i : Nat} (hi : i < es.length) :
    ∃ b o, idxS 3 v (.int .i64 (.ofNat i)) = .val (.ptr b o) ∧ rdBlk1 (H.get b) o = .val (.int .i64 (.ofNat es[i].f)) ∧ rdBlk1 (H.get b) (o + 1) = .val (.int .i64 (.ofNat es[i].t)) ∧ rdBlk1 (H.get b) (o + 2) = .val (.bool es[i].s) := by
  obtain ⟨b, o, e1, _, _, _, e3⟩ := h.atN hi
  refine ⟨b, o, e1, ?_, ?_, ?_⟩
  · have := e3 0 (by omega); rw [ecells_getD hi (by omega)] at this; exact this
  · have := e3 1 (by omega); rw [ecells_getD hi (by omega)] at this; exact this
  · have := e3 2 (by omega); rw [ecells_getD hi (by omega)] at this; exact this
theorem eqb_neg (a b : Bool) : boolR true (eqBool (.bool a) (.bool b)) = .val (.bool (!(a == b))) := id rfl
theorem edges_loop {call : Ev.Call} {H : Hp} {v w : AV} {ts : List T3} (hv : IsE H v (ts.map toE)) (hw : Gl 3 H w ts.length (tcells ts)) (hn : ts.length < 900000) :
    ∀ (k i : Nat), i ≤ ts.length → ts.length - i < k → law16_edges_l1 call (fun x4 H => .ok x4 H) (fun H => law16_edges_j0 call H) v w k (.int .i64 (.ofNat i)) H = .ok (.bool true) H
  | 0, i, _, h => by omega
  | k + 1, i, hi, hk => by
    show law16_edges_b1 call _ _ _ _ (law16_edges_l1 call _ _ _ _ k) _ H = _
    unfold law16_edges_b1
    by_cases hlt : i < ts.length
    · simp (disch := first | omega | exact tr_i rfl | (simp only [nx_push, nx_put]; done) | (simp only [nx_push, nx_put]; omega)) only [go_sem, Nat.reduceAdd, Nat.reduceMul, Nat.reduceSub, Nat.reduceLeDiff, Nat.reduceEqDiff, Nat.reduceShiftRight, Nat.reduceAnd, hlt, hw.lenV]
      unfold law16_edges_j36
      obtain ⟨b, o, e1, e2, e3, e4⟩ := hv.at1 (i := i) (by simpa using hlt)
      obtain ⟨b', o', g1, _, _, g2, g3, g4⟩ := T3_at hw hlt
      simp only [List.getElem_map, toE] at e2 e3 e4
      simp (disch := first | omega | exact tr_i rfl | (simp only [nx_push, nx_put]; done) | (simp only [nx_push, nx_put]; omega)) only [go_sem, Nat.reduceAdd, Nat.reduceMul, Nat.reduceSub, Nat.reduceLeDiff, Nat.reduceEqDiff, Nat.reduceShiftRight, Nat.reduceAnd, e1, e2, e3, e4, g1, g2, g3, g4, eqb_neg]
      unfold law16_edges_j3
      simp (disch := first | omega | exact tr_i rfl | (simp only [nx_push, nx_put]; done) | (simp only [nx_push, nx_put]; omega)) only [go_sem, Nat.reduceAdd, Nat.reduceMul, Nat.reduceSub, Nat.reduceLeDiff, Nat.reduceEqDiff, Nat.reduceShiftRight, Nat.reduceAnd]
      exact edges_loop hv hw hn k (i + 1) (by omega) (by omega)
    · simp (disch := first | omega | exact tr_i rfl | (simp only [nx_push, nx_put]; done) | (simp only [nx_push, nx_put]; omega)) only [go_sem, Nat.reduceAdd, Nat.reduceMul, Nat.reduceSub, Nat.reduceLeDiff, Nat.reduceEqDiff, Nat.reduceShiftRight, Nat.reduceAnd, hlt, hw.lenV]
      unfold law16_edges_j0
      rfl
theorem edges_ok2 (hS : LinksS C) {k : Nat} (hk : 1 ≤ k) {H : Hp} {v w : AV} {ts : List T3} (hv : IsE H v (ts.map toE)) (hc : capV v = .val (.int .i64 (.ofNat ts.length))) (hw : Gl 3 H w ts.length (tcells ts)) (hn : ts.length < 900000) :
    C k (.f id_law16_edges) [v, w] H = .ok (.bool true) H := by
  obtain ⟨j, rfl⟩ : ∃ j, k = j + 1 := ⟨k - 1, by omega⟩
  rw [(hS j).law16_edges]
  unfold law16_edges law16_edges_c
  have hl : lenSl v = .val (.int .i64 (.ofNat ts.length)) := by rw [hv.len, List.length_map]
  simp (disch := first | omega | exact tr_i rfl | (simp only [nx_push, nx_put]; done) | (simp only [nx_push, nx_put]; omega)) only [go_sem, Nat.reduceAdd, Nat.reduceMul, Nat.reduceSub, Nat.reduceLeDiff, Nat.reduceEqDiff, Nat.reduceShiftRight, Nat.reduceAnd, hl, hw.lenV, hc]
  unfold law16_edges_j39 law16_edges_L1
  rw [fuelX_eq]
  exact edges_loop hv hw hn loopFuel 0 (Nat.zero_le _) (by rw [loopFuel_eq]; omega)
end Go.Di
end

section
/-
  The law of turned graphs: its loops within.
-/
namespace Go.Di
open Go.Ev Go.Sort
variable {C : Nat → Ev.Call}
theorem tcells_app1 (ts : List T3) (e : T3) : tcells ts ++ e.cells = tcells (ts ++ [e]) := by simp [tcells]
abbrev IsT (H : Hp) (v : AV) (ts : List T3) : Prop := Gl 3 H v ts.length (tcells ts)
theorem T3_at2 {H : Hp} {v : AV} {ts : List T3} (h : IsT H v ts) {i : Nat} (hi : i < ts.length) :
    ∃ b o, idxS 3 v (.int .i64 (.ofNat i)) = .val (.ptr b o) ∧ rdBlk1 (H.get b) o = .val (.int .i64 (.ofNat ts[i].f)) ∧ rdBlk1 (H.get b) (o + 1) = .val (.int .i64 (.ofNat ts[i].t)) ∧ rdBlk1 (H.get b) (o + 2) = .val (.int .i64 (.ofNat ts[i].s)) ∧ rdBlkN (H.get b) o 3 = some ts[i].cells := by
  obtain ⟨b, o, e1, e2, e3, e5, e4⟩ := h.atN hi
  have hc : ((tcells ts).drop (i * 3)).take 3 = ts[i].cells := by
    refine List.ext_getElem (by rw [List.length_take, List.length_drop, tcells_len]; show min 3 _ = 3; omega) fun j h1 h2 => ?_
    have hj : j < 3 := h2
    have := tcells_at ts i j hi hj
    rw [List.getElem_take, List.getElem_drop]
    rw [List.getD_eq_getElem?_getD, List.getElem?_eq_getElem (by rw [tcells_len]; omega)] at this
    rw [List.getD_eq_getElem?_getD, List.getElem?_eq_getElem h2] at this
    simpa using this
  refine ⟨b, o, e1, ?_, ?_, ?_, by rw [e5, hc]⟩
  · have := e4 0 (by omega); rw [tcells_at _ _ _ hi (by omega)] at this; exact this
  · have := e4 1 (by omega); rw [tcells_at _ _ _ hi (by omega)] at this; exact this
  · have := e4 2 (by omega); rw [tcells_at _ _ _ hi (by omega)] at this; exact this
theorem ft_loop {call : Ev.Call} {ts : List T3} {v : AV} {H1 : Hp} (hlen : ts.length ≤ 200000) {a : Nat} {Q : AV → Hp → Prop} {q : AV → AV → Hp → R1} (hv : IsT H1 v ts)
    (hq : ∀ w u H, IsT H w (ts.filter fun e => decide (e.f = a)) → IsT H u (ts.filter fun e => decide (e.t = a)) → Fm No H1 H → Ok (q w u H) Q) :
    ∀ (k i : Nat) (w u : AV) (H : Hp), i ≤ ts.length → ts.length - i < k → IsT H w ((ts.take i).filter fun e => decide (e.f = a)) → IsT H u ((ts.take i).filter fun e => decide (e.t = a)) → Fm No H1 H →
      (∀ b, In w b → H1.nx ≤ b) → (∀ b, In u b → H1.nx ≤ b) → (∀ b, In w b → ¬ In u b) →
      Ok (law16_GraphsTurned_l129 call q v (.int .i64 (.ofNat a)) k w u (.int .i64 (.ofNat i)) H) Q
  | 0, i, _, _, _, _, h, _, _, _, _, _, _ => by omega
  | k + 1, i, w, u, H, hi, hk, hw, hu, hfm, hwn, hun, hd => by
    show Ok (law16_GraphsTurned_b129 call _ _ _ (law16_GraphsTurned_l129 call _ _ _ k) _ _ _ H) Q
    unfold law16_GraphsTurned_b129
    by_cases hlt : i < ts.length
    · simp (disch := first | omega | exact tr_i rfl | (simp only [nx_push, nx_put]; done) | (simp only [nx_push, nx_put]; omega)) only [go_sem, Nat.reduceAdd, Nat.reduceMul, Nat.reduceSub, Nat.reduceLeDiff, Nat.reduceEqDiff, Nat.reduceShiftRight, Nat.reduceAnd, hlt, hv.lenV]
      have n1 := hfm.nx
      have take1 : ∀ (p : T3 → Bool), (ts.take (i + 1)).filter p = (ts.take i).filter p ++ if p ts[i] = true then [ts[i]] else [] := by
        intro p
        rw [List.take_succ_eq_append_getElem hlt, List.filter_append]
        by_cases h : p ts[i] = true <;> simp [h]
      have hll : ∀ p : T3 → Bool, ((ts.take i).filter p).length ≤ 200000 := fun p => Nat.le_trans (List.length_filter_le _ _) (by rw [List.length_take]; omega)
      -- the second half: w2 is done
      have second : ∀ (w2 : AV) (H2 : Hp), IsT H2 w2 ((ts.take (i + 1)).filter fun e => decide (e.f = a)) → IsT H2 u ((ts.take i).filter fun e => decide (e.t = a)) → Fm No H1 H2 → (∀ b, In w2 b → H1.nx ≤ b) → (∀ b, In w2 b → ¬ In u b) → H.nx ≤ H2.nx →
          Ok (law16_GraphsTurned_j140 call (law16_GraphsTurned_l129 call q v (.int .i64 (.ofNat a)) k) v (.int .i64 (.ofNat a)) w2 u (.int .i64 (.ofNat i)) H2) Q := by
        intro w2 H2 hw2 hu2 hf2 hwn2 hd2 hn2
        unfold law16_GraphsTurned_j140
        have hvH : IsT H2 v ts := Gl.no hv hf2
        obtain ⟨b, o, e1, e2, e3, e4, e5⟩ := T3_at2 hvH hlt
        have n2 := hf2.nx
        by_cases h : ts[i].t = a
        · have hd1 : (ts[i].t = a) = True := eq_true h
          simp (disch := first | omega | exact tr_i rfl | (simp only [nx_push, nx_put]; done) | (simp only [nx_push, nx_put]; omega)) only [go_sem, Nat.reduceAdd, Nat.reduceMul, Nat.reduceSub, Nat.reduceLeDiff, Nat.reduceEqDiff, Nat.reduceShiftRight, Nat.reduceAnd, e1, e2, e3, e4, e5, T3.cells, hd1]
          have fH : Fm No H2 (pushH H2 (mkBlk 0 [.int .i64 (.ofNat ts[i].f), .int .i64 (.ofNat ts[i].t), .int .i64 (.ofNat ts[i].s)])) := by (repeat (first | exact Fm.refl _ _ | assumption | refine Fm.push ?_ _ | refine Fm.up2 ?_ (by (first | omega | (simp only [nx_push, nx_put]; omega))) | refine Fm.put_new ?_ _ _ (by (first | omega | (simp only [nx_push, nx_put]; omega)))))
          have hl2 := hll fun e => decide (e.t = a)
          obtain ⟨H', e, gl', _, fm', nx'⟩ := (Gl.no hu2 fH).append (k := 1) (w := 24) (x := ts[i].cells) (by omega) rfl (by omega) (by omega)
          refine Ok.veE e ?_
          unfold law16_GraphsTurned_j131
          simp (disch := first | omega | exact tr_i rfl | (simp only [nx_push, nx_put]; done) | (simp only [nx_push, nx_put]; omega)) only [go_sem, Nat.reduceAdd, Nat.reduceMul, Nat.reduceSub, Nat.reduceLeDiff, Nat.reduceEqDiff, Nat.reduceShiftRight, Nat.reduceAnd]
          rw [tcells_app1] at gl'
          have f2 : Fm No H1 H' := (hf2.trans fH).then fm' fun c hc h => by have := hun c h; omega
          have t1 := take1 fun e => decide (e.t = a)
          rw [if_pos (by simpa using h)] at t1
          refine ft_loop hlen hv hq k (i + 1) _ _ _ (by omega) (by omega) (Gl.fm (Gl.no hw2 fH) fm' hd2) ?_ f2 hwn2 (fun b hb => ?_) fun b hb hb2 => ?_
          · rw [t1]; show Gl 3 H' _ _ _
            rw [List.length_append]; exact gl'
          · obtain ⟨_, _, _, _, h⟩ := hb
            cases h
            show H1.nx ≤ H2.nx + 1
            omega
          · obtain ⟨_, _, _, _, h⟩ := hb2
            cases h
            have := Gl.lt hw2 hb
            have h2 : H2.nx + 1 < H2.nx := this
            omega
        · simp (disch := first | omega | exact tr_i rfl | (simp only [nx_push, nx_put]; done) | (simp only [nx_push, nx_put]; omega)) only [go_sem, Nat.reduceAdd, Nat.reduceMul, Nat.reduceSub, Nat.reduceLeDiff, Nat.reduceEqDiff, Nat.reduceShiftRight, Nat.reduceAnd, e1, e2, e3, e4, e5, T3.cells, h]
          unfold law16_GraphsTurned_j131
          simp (disch := first | omega | exact tr_i rfl | (simp only [nx_push, nx_put]; done) | (simp only [nx_push, nx_put]; omega)) only [go_sem, Nat.reduceAdd, Nat.reduceMul, Nat.reduceSub, Nat.reduceLeDiff, Nat.reduceEqDiff, Nat.reduceShiftRight, Nat.reduceAnd]
          have t1 := take1 fun e => decide (e.t = a)
          rw [if_neg (by simpa using h), List.append_nil] at t1
          exact ft_loop hlen hv hq k (i + 1) _ _ _ (by omega) (by omega) hw2 (by rw [t1]; exact hu2) hf2 hwn2 hun hd2
      unfold law16_GraphsTurned_j149
      have hvH : IsT H v ts := Gl.no hv hfm
      obtain ⟨b, o, e1, e2, e3, e4, e5⟩ := T3_at2 hvH hlt
      have t1 := take1 fun e => decide (e.f = a)
      by_cases h : ts[i].f = a
      · have hd1 : (ts[i].f = a) = True := eq_true h
        simp (disch := first | omega | exact tr_i rfl | (simp only [nx_push, nx_put]; done) | (simp only [nx_push, nx_put]; omega)) only [go_sem, Nat.reduceAdd, Nat.reduceMul, Nat.reduceSub, Nat.reduceLeDiff, Nat.reduceEqDiff, Nat.reduceShiftRight, Nat.reduceAnd, e1, e2, e3, e4, e5, T3.cells, hd1]
        have fH : Fm No H (pushH H (mkBlk 0 [.int .i64 (.ofNat ts[i].f), .int .i64 (.ofNat ts[i].t), .int .i64 (.ofNat ts[i].s)])) := by (repeat (first | exact Fm.refl _ _ | assumption | refine Fm.push ?_ _ | refine Fm.up2 ?_ (by (first | omega | (simp only [nx_push, nx_put]; omega))) | refine Fm.put_new ?_ _ _ (by (first | omega | (simp only [nx_push, nx_put]; omega)))))
        have hl2 := hll fun e => decide (e.f = a)
        obtain ⟨H', e, gl', _, fm', nx'⟩ := (Gl.no hw fH).append (k := 1) (w := 24) (x := ts[i].cells) (by omega) rfl (by omega) (by omega)
        refine Ok.veE e ?_
        rw [tcells_app1] at gl'
        rw [if_pos (by simpa using h)] at t1
        have f2 : Fm No H1 H' := (hfm.trans fH).then fm' fun c hc h => by have := hwn c h; omega
        refine second _ H' ?_ (Gl.fm (Gl.no hu fH) fm' fun b hb hb2 => hd b hb2 hb) f2 (fun b hb => ?_) (fun b hb hb2 => ?_) (by rw [nx']; show H.nx ≤ H.nx + 1 + 1; omega)
        · rw [t1]; show Gl 3 H' _ _ _
          rw [List.length_append]; exact gl'
        · obtain ⟨_, _, _, _, h⟩ := hb
          cases h
          show H1.nx ≤ H.nx + 1
          omega
        · obtain ⟨_, _, _, _, h⟩ := hb
          cases h
          have := Gl.lt hu hb2
          have h2 : H.nx + 1 < H.nx := this
          omega
      · simp (disch := first | omega | exact tr_i rfl | (simp only [nx_push, nx_put]; done) | (simp only [nx_push, nx_put]; omega)) only [go_sem, Nat.reduceAdd, Nat.reduceMul, Nat.reduceSub, Nat.reduceLeDiff, Nat.reduceEqDiff, Nat.reduceShiftRight, Nat.reduceAnd, e1, e2, e3, e4, e5, T3.cells, h]
        rw [if_neg (by simpa using h), List.append_nil] at t1
        exact second w H (by rw [t1]; exact hw) hu hfm hwn hd (Nat.le_refl _)
    · have : i = ts.length := by omega
      simp (disch := first | omega | exact tr_i rfl | (simp only [nx_push, nx_put]; done) | (simp only [nx_push, nx_put]; omega)) only [go_sem, Nat.reduceAdd, Nat.reduceMul, Nat.reduceSub, Nat.reduceLeDiff, Nat.reduceEqDiff, Nat.reduceShiftRight, Nat.reduceAnd, hlt, hv.lenV]
      rw [this, List.take_length] at hw hu
      exact hq w u H hw hu hfm
theorem c_loop {call : Ev.Call} {H : Hp} {v w : AV} {ts : List T3} {a : Nat} (hv : IsE H v ((ts.map toE).map tw)) (hw : IsT H w ts) (ha : ∀ e ∈ ts, e.t = a) (hn : ts.length < 900000) {qr : AV → Hp → R1} {qe : Hp → R1} :
    ∀ (k i : Nat), i ≤ ts.length → ts.length - i < k → law16_GraphsTurned_l73 call qr qe (.int .i64 (.ofNat a)) w v k (.int .i64 (.ofNat i)) H = qe H
  | 0, i, _, h => by omega
  | k + 1, i, hi, hk => by
    show law16_GraphsTurned_b73 call _ _ _ _ _ (law16_GraphsTurned_l73 call _ _ _ _ _ k) _ H = _
    unfold law16_GraphsTurned_b73
    by_cases hlt : i < ts.length
    · simp (disch := first | omega | exact tr_i rfl | (simp only [nx_push, nx_put]; done) | (simp only [nx_push, nx_put]; omega)) only [go_sem, Nat.reduceAdd, Nat.reduceMul, Nat.reduceSub, Nat.reduceLeDiff, Nat.reduceEqDiff, Nat.reduceShiftRight, Nat.reduceAnd, hlt, hw.lenV]
      unfold law16_GraphsTurned_j105
      obtain ⟨b, o, e1, e2, e3, e4⟩ := hv.at1 (i := i) (by simpa using hlt)
      obtain ⟨b', o', g1, g2, g3, g4, _⟩ := T3_at2 hw hlt
      have ht := ha ts[i] (List.getElem_mem hlt)
      simp only [List.getElem_map, toE, tw, ht] at e2 e3 e4
      simp (disch := first | omega | exact tr_i rfl | (simp only [nx_push, nx_put]; done) | (simp only [nx_push, nx_put]; omega)) only [go_sem, Nat.reduceAdd, Nat.reduceMul, Nat.reduceSub, Nat.reduceLeDiff, Nat.reduceEqDiff, Nat.reduceShiftRight, Nat.reduceAnd, e1, e2, e3, e4, g1, g2, g3, g4, eqb_neg]
      unfold law16_GraphsTurned_j75
      simp (disch := first | omega | exact tr_i rfl | (simp only [nx_push, nx_put]; done) | (simp only [nx_push, nx_put]; omega)) only [go_sem, Nat.reduceAdd, Nat.reduceMul, Nat.reduceSub, Nat.reduceLeDiff, Nat.reduceEqDiff, Nat.reduceShiftRight, Nat.reduceAnd]
      exact c_loop hv hw ha hn k (i + 1) (by omega) (by omega)
    · simp (disch := first | omega | exact tr_i rfl | (simp only [nx_push, nx_put]; done) | (simp only [nx_push, nx_put]; omega)) only [go_sem, Nat.reduceAdd, Nat.reduceMul, Nat.reduceSub, Nat.reduceLeDiff, Nat.reduceEqDiff, Nat.reduceShiftRight, Nat.reduceAnd, hlt, hw.lenV]
end Go.Di
end

section
/-
  The law of turned graphs, over pure facts.
-/
namespace Go.Di
open Go.Ev Go.Sort
variable {C : Nat → Ev.Call}
theorem filt_f (ts : List T3) (a : Nat) : (ts.map toE).filter (fun e => decide (e.f = a)) = (ts.filter fun e => decide (e.f = a)).map toE := by
  rw [List.filter_map]; rfl
theorem filt_t (ts : List T3) (a : Nat) : (ts.map toE).filter (fun e => decide (e.t = a)) = (ts.filter fun e => decide (e.t = a)).map toE := by
  rw [List.filter_map]; rfl
/-- the edges from a node of the turned graph are those to it -/
theorem out_tw {n a : Nat} {ts : List T3} {es' : List Edge} (hE : EdgesOk n (ts.map toE)) (h : TwOk n (ts.map toE) es') :
    es'.filter (fun e => decide (e.f = a)) = ((ts.filter fun e => decide (e.t = a)).map toE).map tw := by
  rw [← filt_t]
  refine Asc.uniq (h.asc.filter _) ?_ ?_
  · refine List.pairwise_map.2 (List.Pairwise.imp_of_mem (fun {x y} hx hy hlt => ?_) (hE.asc.filter _))
    have h1 : x.t = a := by have := (List.mem_filter.1 hx).2; simpa using this
    have h2 : y.t = a := by have := (List.mem_filter.1 hy).2; simpa using this
    unfold LtE at hlt ⊢
    simp only [tw]
    omega
  · refine (h.perm.filter _).trans ?_
    rw [List.filter_map]
    exact List.Perm.refl _
structure TEnv (H : Hp) (n : Nat) (ts : List T3) (es' : List Edge) (a3 a7 a13 : Nat) (mv gv tv av : AV) : Prop where
  m : H.get a3 = mkBlk 0 [.int .i64 (.ofNat n), mv]
  ml : a3 < H.nx
  g : H.get a7 = mkBlk 0 [.int .i64 (.ofNat n), gv]
  gl : a7 < H.nx
  t : H.get a13 = mkBlk 0 [.int .i64 (.ofNat n), tv]
  tl : a13 < H.nx
  e : IsE H gv (ts.map toE)
  e' : IsE H tv es'
  all : IsT H av ts
theorem TEnv.fm {H H' : Hp} {n : Nat} {ts : List T3} {es' : List Edge} {a3 a7 a13 : Nat} {mv gv tv av : AV} (h : TEnv H n ts es' a3 a7 a13 mv gv tv av) (f : Fm No H H') : TEnv H' n ts es' a3 a7 a13 mv gv tv av :=
  ⟨(f.keep h.ml).trans h.m, Nat.lt_of_lt_of_le h.ml f.nx, (f.keep h.gl).trans h.g, Nat.lt_of_lt_of_le h.gl f.nx, (f.keep h.tl).trans h.t, Nat.lt_of_lt_of_le h.tl f.nx, Gl.no h.e f, Gl.no h.e' f, Gl.no h.all f⟩
theorem LawT_out (hC : Links C) (hS : LinksS C) {j : Nat} (hj : 12 ≤ j) {n : Nat} (hn : n ≤ 256) {ts : List T3} (hl : ts.length < 1000) (hE : EdgesOk n (ts.map toE)) {es' : List Edge} (hT : TwOk n (ts.map toE) es') {a3 a7 a13 : Nat} {mv gv tv av : AV} {Q : AV → Hp → Prop} {qe : Hp → R1} {qr : AV → Hp → R1}
    (hq : ∀ H, TEnv H n ts es' a3 a7 a13 mv gv tv av → Ok (qe H) Q) :
    ∀ (k i : Nat) (H : Hp), i ≤ n → n - i < k → TEnv H n ts es' a3 a7 a13 mv gv tv av →
      Ok (law16_GraphsTurned_l58 (C j) qr qe (.ptr a3 0) (.ptr a7 0) (.ptr a13 0) av k (.int .i64 (.ofNat i)) H) Q
  | 0, i, _, _, h, _ => by omega
  | k + 1, i, H, hi, hk, E => by
    show Ok (law16_GraphsTurned_b58 (C j) _ _ _ _ _ _ (law16_GraphsTurned_l58 (C j) _ _ _ _ _ _ k) _ H) Q
    unfold law16_GraphsTurned_b58
    by_cases hlt : i < n
    · simp (disch := first | omega | exact tr_i rfl | (simp only [nx_push, nx_put]; done) | (simp only [nx_push, nx_put]; omega)) only [go_sem, Nat.reduceAdd, Nat.reduceMul, Nat.reduceSub, Nat.reduceLeDiff, Nat.reduceEqDiff, Nat.reduceShiftRight, Nat.reduceAnd, E.m, hlt]
      unfold law16_GraphsTurned_j152 law16_GraphsTurned_L129
      rw [fuelX_eq]
      refine ft_loop (by omega) E.all (fun w u H1 hw hu f1 => ?_) loopFuel 0 .nilsl .nilsl H (Nat.zero_le _) (by rw [loopFuel_eq]; omega) (Gl.nil _ _) (Gl.nil _ _) (Fm.refl _ _) (fun b hb => by obtain ⟨_, _, _, _, h⟩ := hb; cases h) (fun b hb => by obtain ⟨_, _, _, _, h⟩ := hb; cases h) (fun b hb => by obtain ⟨_, _, _, _, h⟩ := hb; cases h)
      have E1 := E.fm f1
      have hl' : (ts.map toE).length < 100000 := by rw [List.length_map]; omega
      have hlf : ∀ p : T3 → Bool, (ts.filter p).length < 900000 := fun p => Nat.lt_of_le_of_lt (List.length_filter_le _ _) (by omega)
      unfold law16_GraphsTurned_j128
      simp (disch := first | omega | exact tr_i rfl | (simp only [nx_push, nx_put]; done) | (simp only [nx_push, nx_put]; omega)) only [go_sem, Nat.reduceAdd, Nat.reduceMul, Nat.reduceSub, Nat.reduceLeDiff, Nat.reduceEqDiff, Nat.reduceShiftRight, Nat.reduceAnd, E1.g]
      refine Ok.ve (Out_ok hC hS hE hn hl' (k := j) (by omega) E1.e hlt) ?_
      rintro r H2 ⟨o1, rfl, ho1, hc1, f2, _⟩
      have E2 := E1.fm f2
      simp (disch := first | omega | exact tr_i rfl | (simp only [nx_push, nx_put]; done) | (simp only [nx_push, nx_put]; omega)) only [go_sem, Nat.reduceAdd, Nat.reduceMul, Nat.reduceSub, Nat.reduceLeDiff, Nat.reduceEqDiff, Nat.reduceShiftRight, Nat.reduceAnd, E2.g]
      refine Ok.ve (In_ok hC hS hE hn hl' (k := j) (by omega) E2.e hlt) ?_
      rintro r H3 ⟨o2, rfl, ho2, hc2, f3, _⟩
      have E3 := E2.fm f3
      simp (disch := first | omega | exact tr_i rfl | (simp only [nx_push, nx_put]; done) | (simp only [nx_push, nx_put]; omega)) only [go_sem, Nat.reduceAdd, Nat.reduceMul, Nat.reduceSub, Nat.reduceLeDiff, Nat.reduceEqDiff, Nat.reduceShiftRight, Nat.reduceAnd, E3.t]
      refine Ok.ve (Out_ok hC hS (hT.ok hE) hn (by rw [hT.len]; exact hl') (k := j) (by omega) E3.e' hlt) ?_
      rintro r H4 ⟨o3, rfl, ho3, hc3, f4, _⟩
      have E4 := E3.fm f4
      rw [filt_f] at ho1 hc1
      rw [filt_t] at ho2 hc2
      rw [out_tw hE hT] at ho3
      rw [List.length_map] at hc1 hc2
      have f34 := f3.trans f4
      have f24 := f2.trans f34
      have g1 := edges_ok2 hS (k := j) (by omega) (Gl.no ho1 f34) hc1 (Gl.no hw f24) (hlf _)
      have g2 := edges_ok2 hS (k := j) (by omega) (Gl.no ho2 f4) hc2 (Gl.no hu f24) (hlf _)
      have l3 : lenSl o3 = .val (.int .i64 (.ofNat (ts.filter fun e => decide (e.t = i)).length)) := by rw [ho3.len, List.length_map, List.length_map]
      have lu := Gl.lenV hu
      simp (disch := first | omega | exact tr_i rfl | (simp only [nx_push, nx_put]; done) | (simp only [nx_push, nx_put]; omega)) only [go_sem, Nat.reduceAdd, Nat.reduceMul, Nat.reduceSub, Nat.reduceLeDiff, Nat.reduceEqDiff, Nat.reduceShiftRight, Nat.reduceAnd, g1, g2, l3, lu]
      unfold law16_GraphsTurned_j108 law16_GraphsTurned_L73
      rw [fuelX_eq, c_loop ho3 (Gl.no hu f24) (fun e he => by have := (List.mem_filter.1 he).2; simpa using this) (hlf _) loopFuel 0 (Nat.zero_le _) (by rw [loopFuel_eq]; have := hlf fun e => decide (e.t = i); omega)]
      unfold law16_GraphsTurned_j60
      simp (disch := first | omega | exact tr_i rfl | (simp only [nx_push, nx_put]; done) | (simp only [nx_push, nx_put]; omega)) only [go_sem, Nat.reduceAdd, Nat.reduceMul, Nat.reduceSub, Nat.reduceLeDiff, Nat.reduceEqDiff, Nat.reduceShiftRight, Nat.reduceAnd]
      exact LawT_out hC hS hj hn hl hE hT hq k (i + 1) H4 (by omega) (by omega) E4
    · simp (disch := first | omega | exact tr_i rfl | (simp only [nx_push, nx_put]; done) | (simp only [nx_push, nx_put]; omega)) only [go_sem, Nat.reduceAdd, Nat.reduceMul, Nat.reduceSub, Nat.reduceLeDiff, Nat.reduceEqDiff, Nat.reduceShiftRight, Nat.reduceAnd, E.m, hlt]
      exact hq H E
theorem LawT_end (hC : Links C) (hS : LinksS C) {j : Nat} (hj : 12 ≤ j) {n : Nat} (hn : n ≤ 256) {ts : List T3} (hl : ts.length < 1000) (hE : EdgesOk n (ts.map toE)) {es' : List Edge} {a3 a7 a13 : Nat} {mv gv tv av : AV}
    (hlive : ∀ H, C j (.f id_law16_lives) [] H = .ok (.bool true) H) (x : Int) {H : Hp} (E : TEnv H n ts es' a3 a7 a13 mv gv tv av) :
    Ok (law16_GraphsTurned_j57 (C j) (.int .i64 x) (.ptr a3 0) (.ptr a7 0) H) fun r _ => r = .bool true := by
  unfold law16_GraphsTurned_j57
  have hl' : (ts.map toE).length < 100000 := by rw [List.length_map]; omega
  have q1 : (Int.ofNat 0 ≤ x) = (0 ≤ x) := rfl
  have q2 : (x < Int.ofNat n) = (x < n) := rfl
  simp (disch := first | omega | exact tr_i rfl | (simp only [nx_push, nx_put]; done) | (simp only [nx_push, nx_put]; omega)) only [go_sem, Nat.reduceAdd, Nat.reduceMul, Nat.reduceSub, Nat.reduceLeDiff, Nat.reduceEqDiff, Nat.reduceShiftRight, Nat.reduceAnd, E.g]
  by_cases h : 0 ≤ x ∧ x < n
  · obtain ⟨a, rfl⟩ : ∃ a : Nat, x = Int.ofNat a := ⟨x.toNat, by simp only [Int.ofNat_eq_natCast]; omega⟩
    have ha : a < n := by have := h.2; simp only [Int.ofNat_eq_natCast] at this; omega
    refine Ok.ve (Out_ok hC hS hE hn hl' (k := j) (by omega) E.e ha) ?_
    rintro r H2 ⟨o1, rfl, _, _, f2, _⟩
    have E2 := E.fm f2
    simp (disch := first | omega | exact tr_i rfl | (simp only [nx_push, nx_put]; done) | (simp only [nx_push, nx_put]; omega)) only [go_sem, Nat.reduceAdd, Nat.reduceMul, Nat.reduceSub, Nat.reduceLeDiff, Nat.reduceEqDiff, Nat.reduceShiftRight, Nat.reduceAnd, E2.g]
    refine Ok.ve (In_ok hC hS hE hn hl' (k := j) (by omega) E2.e ha) ?_
    rintro r H3 ⟨o2, rfl, _, _, f3, _⟩
    have E3 := E2.fm f3
    simp (disch := first | omega | exact tr_i rfl | (simp only [nx_push, nx_put]; done) | (simp only [nx_push, nx_put]; omega)) only [go_sem, Nat.reduceAdd, Nat.reduceMul, Nat.reduceSub, Nat.reduceLeDiff, Nat.reduceEqDiff, Nat.reduceShiftRight, Nat.reduceAnd, E3.m, Nat.zero_le, ha, hlive]
    exact Ok.ret rfl
  · refine Ok.ve (Out_err hC hS hE hn hl' (k := j) (by omega) E.e h) ?_
    rintro r H2 ⟨rfl, f2⟩
    have E2 := E.fm f2
    simp (disch := first | omega | exact tr_i rfl | (simp only [nx_push, nx_put]; done) | (simp only [nx_push, nx_put]; omega)) only [go_sem, Nat.reduceAdd, Nat.reduceMul, Nat.reduceSub, Nat.reduceLeDiff, Nat.reduceEqDiff, Nat.reduceShiftRight, Nat.reduceAnd, E2.g]
    refine Ok.ve (In_err hC hS hE hn hl' (k := j) (by omega) E2.e h) ?_
    rintro r H3 ⟨rfl, f3⟩
    have E3 := E2.fm f3
    have fin : Ok (law16_GraphsTurned_j44 (C j) (.int .i64 (.ofNat 4)) (.int .i64 (.ofNat 4)) .nilsl .nilsl H3) fun r _ => r = .bool true := by
      unfold law16_GraphsTurned_j44
      simp (disch := first | omega | exact tr_i rfl | (simp only [nx_push, nx_put]; done) | (simp only [nx_push, nx_put]; omega)) only [go_sem, Nat.reduceAdd, Nat.reduceMul, Nat.reduceSub, Nat.reduceLeDiff, Nat.reduceEqDiff, Nat.reduceShiftRight, Nat.reduceAnd, hlive]
      exact Ok.ret rfl
    by_cases h1 : 0 ≤ x
    · have h2 : ¬ x < n := fun h2 => h ⟨h1, h2⟩
      simp (disch := first | omega | exact tr_i rfl | (simp only [nx_push, nx_put]; done) | (simp only [nx_push, nx_put]; omega)) only [go_sem, Nat.reduceAdd, Nat.reduceMul, Nat.reduceSub, Nat.reduceLeDiff, Nat.reduceEqDiff, Nat.reduceShiftRight, Nat.reduceAnd, E3.m, q1, q2, h1, h2]
      exact fin
    · simp (disch := first | omega | exact tr_i rfl | (simp only [nx_push, nx_put]; done) | (simp only [nx_push, nx_put]; omega)) only [go_sem, Nat.reduceAdd, Nat.reduceMul, Nat.reduceSub, Nat.reduceLeDiff, Nat.reduceEqDiff, Nat.reduceShiftRight, Nat.reduceAnd, E3.m, q1, q2, h1]
      exact fin
end Go.Di
end

section
/-
  The law of turned graphs.
-/
namespace Go.Di
open Go.Ev Go.Sort
variable {C : Nat → Ev.Call}
theorem GraphsTurned_ok (hC : Links C) (hS : LinksS C) {k : Nat} (hk : 1200 ≤ k) (hlive : ∀ k H, 1 ≤ k → C k (.f id_law16_lives) [] H = .ok (.bool true) H) {call : Ev.Call} (hcall : call = C k)
    (hedge : ∀ n ms, MOk n ms → n < 13 → EdgesOk n (edgesOf n ms) ∧ (edgesOf n ms).length < 1000) {N cnt : Nat} {v : AV} {H : Hp} (hv : Arg3 H v cnt) (x : Int) :
    Ok (law16_GraphsTurned call (.agg [.int .u8 (.ofNat N), v]) (.int .i64 x) H) fun r _ => r = .bool true := by
  subst hcall
  unfold law16_GraphsTurned law16_GraphsTurned_c
  have fH : Fm No H (pushH H (mkBlk 0 [.int .u8 (.ofNat N), v])) := by (repeat (first | exact Fm.refl _ _ | assumption | refine Fm.push ?_ _ | refine Fm.up2 ?_ (by (first | omega | (simp only [nx_push, nx_put]; omega))) | refine Fm.put_new ?_ _ _ (by (first | omega | (simp only [nx_push, nx_put]; omega)))))
  simp (disch := first | omega | exact tr_i rfl | (simp only [nx_push, nx_put]; done) | (simp only [nx_push, nx_put]; omega)) only [go_sem, Nat.reduceAdd, Nat.reduceMul, Nat.reduceSub, Nat.reduceLeDiff, Nat.reduceEqDiff, Nat.reduceShiftRight, Nat.reduceAnd, law16_GraphsTurned_m1_eq, law16_GraphsTurned_m10, law16_GraphsTurned_m2_eq, law16_GraphsTurned_m20, law16_GraphsTurned_m3_eq, law16_GraphsTurned_m30, law16_GraphsTurned_m4_eq, law16_GraphsTurned_m40]
  refine Ok.ve (H_Matrix_ok hC (by omega) (hv.fm fH)) ?_
  rintro r H1 ⟨mb, ms, hM, hmb, f1⟩
  generalize hn : N % 13 = n at *
  have hn13 : n < 13 := by omega
  have hr := hM.hv
  subst hr
  obtain ⟨hE, hl⟩ := hedge n ms hM.ok hn13
  have hlen : (eM n ms n).length < 1000 := by
    have h := hl
    unfold edgesOf at h
    rw [List.length_map] at h
    exact h
  simp (disch := first | omega | exact tr_i rfl | (simp only [nx_push, nx_put]; done) | (simp only [nx_push, nx_put]; omega)) only [go_sem, Nat.reduceAdd, Nat.reduceMul, Nat.reduceSub, Nat.reduceLeDiff, Nat.reduceEqDiff, Nat.reduceShiftRight, Nat.reduceAnd, law16_GraphsTurned_m1_eq, law16_GraphsTurned_m10, law16_GraphsTurned_m2_eq, law16_GraphsTurned_m20, law16_GraphsTurned_m3_eq, law16_GraphsTurned_m30, law16_GraphsTurned_m4_eq, law16_GraphsTurned_m40]
  have fa : Fm No H1 ((pushH H1 (mkBlk 0 [.int .i64 (.ofNat 0), .nilsl])).put H1.nx (mkBlk 0 [.int .i64 (.ofNat n), .sl mb 0 (n * n) (n * n) true])) := by (repeat (first | exact Fm.refl _ _ | assumption | refine Fm.push ?_ _ | refine Fm.up2 ?_ (by (first | omega | (simp only [nx_push, nx_put]; omega))) | refine Fm.put_new ?_ _ _ (by (first | omega | (simp only [nx_push, nx_put]; omega)))))
  refine Ok.ve (Graph_ok hC (by omega) (hM.fm fa)) ?_
  rintro r H2 ⟨w, rfl, hG, f2, hw⟩
  simp (disch := first | omega | exact tr_i rfl | (simp only [nx_push, nx_put]; done) | (simp only [nx_push, nx_put]; omega)) only [go_sem, Nat.reduceAdd, Nat.reduceMul, Nat.reduceSub, Nat.reduceLeDiff, Nat.reduceEqDiff, Nat.reduceShiftRight, Nat.reduceAnd, law16_GraphsTurned_m1_eq, law16_GraphsTurned_m10, law16_GraphsTurned_m2_eq, law16_GraphsTurned_m20, law16_GraphsTurned_m3_eq, law16_GraphsTurned_m30, law16_GraphsTurned_m4_eq, law16_GraphsTurned_m40]
  have n2 : H1.nx + 1 ≤ H2.nx := f2.nx
  have m2 : H2.get H1.nx = mkBlk 0 [.int .i64 (.ofNat n), .sl mb 0 (n * n) (n * n) true] := (f2.keep (by (first | omega | (simp only [nx_push, nx_put]; omega)))).trans (get_put_same _ _ _)
  have fb : Fm No H2 ((pushH H2 (mkBlk 0 [.int .i64 (.ofNat 0), .nilsl])).put H2.nx (mkBlk 0 [.int .i64 (.ofNat n), w])) := by (repeat (first | exact Fm.refl _ _ | assumption | refine Fm.push ?_ _ | refine Fm.up2 ?_ (by (first | omega | (simp only [nx_push, nx_put]; omega))) | refine Fm.put_new ?_ _ _ (by (first | omega | (simp only [nx_push, nx_put]; omega)))))
  skip
  refine Ok.ve (Turned_ok hC hS hE (by omega) (by omega) (k := k) (by omega) (Gl.no hG fb)) ?_
  rintro r H3 ⟨w', es', rfl, hT, hW, f3, _, _⟩
  simp (disch := first | omega | exact tr_i rfl | (simp only [nx_push, nx_put]; done) | (simp only [nx_push, nx_put]; omega)) only [go_sem, Nat.reduceAdd, Nat.reduceMul, Nat.reduceSub, Nat.reduceLeDiff, Nat.reduceEqDiff, Nat.reduceShiftRight, Nat.reduceAnd, law16_GraphsTurned_m1_eq, law16_GraphsTurned_m10, law16_GraphsTurned_m2_eq, law16_GraphsTurned_m20, law16_GraphsTurned_m3_eq, law16_GraphsTurned_m30, law16_GraphsTurned_m4_eq, law16_GraphsTurned_m40]
  have n3 : H2.nx + 1 ≤ H3.nx := f3.nx
  have m3 : H3.get H1.nx = mkBlk 0 [.int .i64 (.ofNat n), .sl mb 0 (n * n) (n * n) true] := ((fb.trans f3).keep (by omega)).trans m2
  have g3 : H3.get H2.nx = mkBlk 0 [.int .i64 (.ofNat n), w] := (f3.keep (by (first | omega | (simp only [nx_push, nx_put]; omega)))).trans (get_put_same _ _ _)
  have fc : Fm No H3 ((pushH H3 (mkBlk 0 [.int .i64 (.ofNat 0), .nilsl])).put H3.nx (mkBlk 0 [.int .i64 (.ofNat n), w'])) := by (repeat (first | exact Fm.refl _ _ | assumption | refine Fm.push ?_ _ | refine Fm.up2 ?_ (by (first | omega | (simp only [nx_push, nx_put]; omega))) | refine Fm.put_new ?_ _ _ (by (first | omega | (simp only [nx_push, nx_put]; omega)))))
  refine Ok.ve (Turned_ok hC hS (hT.ok hE) (by omega) (by rw [hT.len]; omega) (k := k) (by rw [hT.len]; omega) (Gl.no hW fc)) ?_
  rintro r H4 ⟨w2, es2, rfl, hT2, hW2, f4, _, hcp2⟩
  have hes : es2 = edgesOf n ms := hT.back hT2 hE
  subst hes
  simp (disch := first | omega | exact tr_i rfl | (simp only [nx_push, nx_put]; done) | (simp only [nx_push, nx_put]; omega)) only [go_sem, Nat.reduceAdd, Nat.reduceMul, Nat.reduceSub, Nat.reduceLeDiff, Nat.reduceEqDiff, Nat.reduceShiftRight, Nat.reduceAnd, law16_GraphsTurned_m1_eq, law16_GraphsTurned_m10, law16_GraphsTurned_m2_eq, law16_GraphsTurned_m20, law16_GraphsTurned_m3_eq, law16_GraphsTurned_m30, law16_GraphsTurned_m4_eq, law16_GraphsTurned_m40]
  have n4 : H3.nx + 1 ≤ H4.nx := f4.nx
  have m4 : H4.get H1.nx = mkBlk 0 [.int .i64 (.ofNat n), .sl mb 0 (n * n) (n * n) true] := ((fc.trans f4).keep (by omega)).trans m3
  have g4 : H4.get H2.nx = mkBlk 0 [.int .i64 (.ofNat n), w] := ((fc.trans f4).keep (by omega)).trans g3
  have t4 : H4.get H3.nx = mkBlk 0 [.int .i64 (.ofNat n), w'] := (f4.keep (by (first | omega | (simp only [nx_push, nx_put]; omega)))).trans (get_put_same _ _ _)
  have fd : Fm No H4 ((pushH H4 (mkBlk 0 [.int .i64 (.ofNat 0), .nilsl])).put H4.nx (mkBlk 0 [.int .i64 (.ofNat n), w2])) := by (repeat (first | exact Fm.refl _ _ | assumption | refine Fm.push ?_ _ | refine Fm.up2 ?_ (by (first | omega | (simp only [nx_push, nx_put]; omega))) | refine Fm.put_new ?_ _ _ (by (first | omega | (simp only [nx_push, nx_put]; omega)))))
  simp (disch := first | omega | exact tr_i rfl | (simp only [nx_push, nx_put]; done) | (simp only [nx_push, nx_put]; omega)) only [go_sem, Nat.reduceAdd, Nat.reduceMul, Nat.reduceSub, Nat.reduceLeDiff, Nat.reduceEqDiff, Nat.reduceShiftRight, Nat.reduceAnd, m4, law16_GraphsTurned_m1_eq, law16_GraphsTurned_m10, law16_GraphsTurned_m2_eq, law16_GraphsTurned_m20, law16_GraphsTurned_m3_eq, law16_GraphsTurned_m30, law16_GraphsTurned_m4_eq, law16_GraphsTurned_m40]
  have f14 : Fm No H1 H4 := ((((fa.trans f2).trans fb).trans f3).trans fc).trans f4
  refine Ok.ve (Edges_ok hC (by omega) ((hM.fm f14).fm fd)) ?_
  rintro av H5 ⟨hA, f5, _⟩
  have n5 : H4.nx + 1 ≤ H5.nx := f5.nx
  have m5 : H5.get H1.nx = mkBlk 0 [.int .i64 (.ofNat n), .sl mb 0 (n * n) (n * n) true] := ((fd.trans f5).keep (by omega)).trans m4
  have g5 : H5.get H2.nx = mkBlk 0 [.int .i64 (.ofNat n), w] := ((fd.trans f5).keep (by omega)).trans g4
  have t5 : H5.get H3.nx = mkBlk 0 [.int .i64 (.ofNat n), w'] := ((fd.trans f5).keep (by omega)).trans t4
  have b5 : H5.get H4.nx = mkBlk 0 [.int .i64 (.ofNat n), w2] := (f5.keep (by (first | omega | (simp only [nx_push, nx_put]; omega)))).trans (get_put_same _ _ _)
  have hW25 : IsE H5 w2 ((eM n ms n).map toE) := Gl.no hW2 (fd.trans f5)
  have hcap : capV w2 = .val (.int .i64 (.ofNat (eM n ms n).length)) := by
    rw [hcp2, hT.len]; unfold edgesOf; rw [List.length_map]
  have hedges := edges_ok2 hS (k := k) (by omega) hW25 hcap hA (by omega)
  have hW5 : IsE H5 w' es' := Gl.no hW ((fc.trans f4).trans (fd.trans f5))
  have lw : lenSl w' = .val (.int .i64 (.ofNat (eM n ms n).length)) := by rw [hW5.len, hT.len]; unfold edgesOf; rw [List.length_map]
  unfold law16_GraphsTurned_m
  simp (disch := first | omega | exact tr_i rfl | (simp only [nx_push, nx_put]; done) | (simp only [nx_push, nx_put]; omega)) only [go_sem, Nat.reduceAdd, Nat.reduceMul, Nat.reduceSub, Nat.reduceLeDiff, Nat.reduceEqDiff, Nat.reduceShiftRight, Nat.reduceAnd, m5, t5, b5, hedges, lw, hA.lenV]
  refine Ok.ve (Check_ok hC (k := k) (by omega) (hT.ok hE) (by omega) (by rw [hT.len]; omega) hW5) ?_
  rintro r H6 ⟨rfl, f6⟩
  simp (disch := first | omega | exact tr_i rfl | (simp only [nx_push, nx_put]; done) | (simp only [nx_push, nx_put]; omega)) only [go_sem, Nat.reduceAdd, Nat.reduceMul, Nat.reduceSub, Nat.reduceLeDiff, Nat.reduceEqDiff, Nat.reduceShiftRight, Nat.reduceAnd, law16_GraphsTurned_m1_eq, law16_GraphsTurned_m10, law16_GraphsTurned_m2_eq, law16_GraphsTurned_m20, law16_GraphsTurned_m3_eq, law16_GraphsTurned_m30, law16_GraphsTurned_m4_eq, law16_GraphsTurned_m40]
  have E : TEnv H5 n (eM n ms n) es' H1.nx H2.nx H3.nx (.sl mb 0 (n * n) (n * n) true) w w' av :=
    ⟨m5, by omega, g5, by omega, t5, by omega, Gl.no hG (((fb.trans f3).trans (fc.trans f4)).trans (fd.trans f5)), hW5, hA⟩
  unfold law16_GraphsTurned_j156 law16_GraphsTurned_L58
  rw [fuelX_eq]
  exact LawT_out hC hS (by omega) (by omega) hlen hE hT (fun H7 E7 => LawT_end hC hS (by omega) (by omega) hlen hE (fun H => hlive k H (by omega)) x E7) loopFuel 0 H6 (Nat.zero_le _) (by rw [loopFuel_eq]; omega) (E.fm f6)
end Go.Di
end
