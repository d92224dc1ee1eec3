/-
  For countersignlaw16.GraphsTurned: contracts of the reference and of the law, over pure facts of graphs. No conditions beyond those that each theorem states.
-/
import Derived.Test.YtigaopnmpflgmaaGreatGraD
set_option linter.unusedSimpArgs false
set_option linter.unusedVariables false
section
/-
  Contracts: the edges of a matrix.
-/
namespace Go.Di
open Go.Ev
variable {C : Nat → Ev.Call}
def ent (n : Nat) (ms : List Nat) (i k : Nat) : List T3 := (if ms.getD (i * n + k) 0 % 2 = 1 then [⟨i, k, 0⟩] else []) ++ (if 1 < ms.getD (i * n + k) 0 then [⟨i, k, 1⟩] else [])
def eR (n : Nat) (ms : List Nat) (i : Nat) : Nat → List T3
  | 0 => []
  | k + 1 => eR n ms i k ++ ent n ms i k
def eM (n : Nat) (ms : List Nat) : Nat → List T3
  | 0 => []
  | i + 1 => eM n ms i ++ eR n ms i n
theorem ent_len (n : Nat) (ms : List Nat) (i k : Nat) : (ent n ms i k).length ≤ 2 := by
  unfold ent; split <;> split <;> simp
theorem eR_len (n : Nat) (ms : List Nat) (i : Nat) : ∀ k, (eR n ms i k).length ≤ 2 * k
  | 0 => Nat.le_refl _
  | k + 1 => by
    have h1 := eR_len n ms i k
    have h2 := ent_len n ms i k
    simp only [eR, List.length_append]; omega
theorem eM_len (n : Nat) (ms : List Nat) : ∀ i, (eM n ms i).length ≤ 2 * (i * n)
  | 0 => by simp [eM]
  | i + 1 => by
    have h1 := eM_len n ms i
    have h2 := eR_len n ms i n
    simp only [eM, List.length_append, Nat.add_mul, Nat.one_mul]; omega
theorem Edges_in {call : Ev.Call} {n i g : Nat} {ms : List Nat} {mv : AV} {mb : Nat} {H1 : Hp} {Q : AV → Hp → Prop} {q5 : AV → Hp → R1} (pre : List T3)
    (hM : IsM H1 mv mb n ms) (hg : g < H1.nx) (hgv : H1.get g = mkBlk 0 [.int .i64 (.ofNat n), .sl mb 0 (n * n) (n * n) true]) (hin : i < n) (hpre : pre.length ≤ 2 * (i * n))
    (hq : ∀ w H, Gl 3 H w (pre ++ eR n ms i n).length (tcells (pre ++ eR n ms i n)) → Fm No H1 H → (∀ b, In w b → H1.nx ≤ b) → Ok (q5 w H) Q) :
    ∀ (k c : Nat) (w : AV) (H : Hp), c ≤ n → n - c < k → Gl 3 H w (pre ++ eR n ms i c).length (tcells (pre ++ eR n ms i c)) → Fm No H1 H → (∀ b, In w b → H1.nx ≤ b) →
      Ok (ref16_Edges_l5 call q5 (.ptr g 0) (.int .i64 (.ofNat i)) k w (.int .i64 (.ofNat c)) H) Q
  | 0, c, _, _, _, h, _, _, _ => by omega
  | k + 1, c, w, H, hc, hk, hw, hfm, hwn => by
    show Ok (ref16_Edges_b5 call _ _ _ (ref16_Edges_l5 call _ _ _ k) _ _ H) Q
    unfold ref16_Edges_b5
    have k1 : H.get g = mkBlk 0 [.int .i64 (.ofNat n), .sl mb 0 (n * n) (n * n) true] := (hfm.keep hg).trans hgv
    have hsq := sq_le hM.ok.hn
    have n1 := hfm.nx
    by_cases hlt : c < n
    · simp (disch := first | omega | exact tr_i rfl | (simp only [nx_push, nx_put]; done) | (simp only [nx_push, nx_put]; omega)) only [go_sem, Nat.reduceAdd, Nat.reduceMul, Nat.reduceSub, Nat.reduceLeDiff, Nat.reduceEqDiff, Nat.reduceShiftRight, Nat.reduceAnd, k1, hlt]
      unfold ref16_Edges_j34
      have hi := idx_lt hin hlt
      have hl := hM.ok.len
      have hget : (nats ms)[i * n + c]? = some (.int .i64 (.ofNat (ms.getD (i * n + c) 0))) := by
        rw [nats_get _ _ (by omega)]; simp [List.getD_eq_getElem?_getD, show i * n + c < ms.length by omega]
      have kM : H.get mb = mkBlk 0 (nats ms) := (hfm.keep hM.lt).trans hM.get
      have hpl := eR_len n ms i c
      have hlen : (pre ++ eR n ms i c).length ≤ 200000 := by rw [List.length_append]; omega
      have hnx : eR n ms i (c + 1) = eR n ms i c ++ ent n ms i c := rfl
      -- the second half
      have half : ∀ (w : AV) (H : Hp) (l : List T3), pre ++ eR n ms i (c + 1) = l ++ (if 1 < ms.getD (i * n + c) 0 then [⟨i, c, 1⟩] else []) → l.length ≤ 300000 → Gl 3 H w l.length (tcells l) → Fm No H1 H → (∀ b, In w b → H1.nx ≤ b) →
          Ok (ref16_Edges_j20 call (ref16_Edges_l5 call q5 (.ptr g 0) (.int .i64 (.ofNat i)) k) (.ptr g 0) w (.int .i64 (.ofNat i)) (.int .i64 (.ofNat c)) H) Q := by
        intro w H l hl2 hll hw hfm hwn
        unfold ref16_Edges_j20
        have k1 : H.get g = mkBlk 0 [.int .i64 (.ofNat n), .sl mb 0 (n * n) (n * n) true] := (hfm.keep hg).trans hgv
        have kM : H.get mb = mkBlk 0 (nats ms) := (hfm.keep hM.lt).trans hM.get
        have n1 := hfm.nx
        by_cases h1 : 1 < ms.getD (i * n + c) 0
        · simp (disch := first | omega | exact tr_i rfl | (simp only [nx_push, nx_put]; done) | (simp only [nx_push, nx_put]; omega)) only [go_sem, Nat.reduceAdd, Nat.reduceMul, Nat.reduceSub, Nat.reduceLeDiff, Nat.reduceEqDiff, Nat.reduceShiftRight, Nat.reduceAnd, k1, kM, hget, h1]
          rw [if_pos h1] at hl2
          have fH : Fm No H (pushH H (mkBlk 0 [.int .i64 (.ofNat i), .int .i64 (.ofNat c), .int .i64 (.ofNat 1)])) := by (repeat (first | exact Fm.refl _ _ | assumption | refine Fm.push ?_ _ | refine Fm.up2 ?_ (by (first | omega | (simp only [nx_push, nx_put]; omega))) | refine Fm.put_new ?_ _ _ (by (first | omega | (simp only [nx_push, nx_put]; omega)))))
          obtain ⟨H', e, gl', _, fm', nx'⟩ := (hw.no fH).append (k := 1) (w := 24) (x := (⟨i, c, 1⟩ : T3).cells) (by omega) rfl (by omega) (by omega)
          refine Ok.veE e ?_
          unfold ref16_Edges_j7
          simp (disch := first | omega | exact tr_i rfl | (simp only [nx_push, nx_put]; done) | (simp only [nx_push, nx_put]; omega)) only [go_sem, Nat.reduceAdd, Nat.reduceMul, Nat.reduceSub, Nat.reduceLeDiff, Nat.reduceEqDiff, Nat.reduceShiftRight, Nat.reduceAnd]
          rw [tcells_app, ← hl2] at gl'
          refine Edges_in pre hM hg hgv hin hpre hq k (c + 1) _ H' (by omega) (by omega) (by rw [hl2] at gl' ⊢; rw [List.length_append]; exact gl') ((hfm.trans fH).then fm' fun c hc h => by have := hwn c h; omega) (fun b hb => ?_)
          obtain ⟨_, _, _, _, h⟩ := hb
          cases h; (first | omega | (simp only [nx_push, nx_put]; omega))
        · simp (disch := first | omega | exact tr_i rfl | (simp only [nx_push, nx_put]; done) | (simp only [nx_push, nx_put]; omega)) only [go_sem, Nat.reduceAdd, Nat.reduceMul, Nat.reduceSub, Nat.reduceLeDiff, Nat.reduceEqDiff, Nat.reduceShiftRight, Nat.reduceAnd, k1, kM, hget, h1]
          rw [if_neg h1, List.append_nil] at hl2
          unfold ref16_Edges_j7
          simp (disch := first | omega | exact tr_i rfl | (simp only [nx_push, nx_put]; done) | (simp only [nx_push, nx_put]; omega)) only [go_sem, Nat.reduceAdd, Nat.reduceMul, Nat.reduceSub, Nat.reduceLeDiff, Nat.reduceEqDiff, Nat.reduceShiftRight, Nat.reduceAnd]
          exact Edges_in pre hM hg hgv hin hpre hq k (c + 1) w H (by omega) (by omega) (by rw [hl2]; exact hw) hfm hwn
      by_cases h2 : ms.getD (i * n + c) 0 % 2 = 1
      · simp (disch := first | omega | exact tr_i rfl | (simp only [nx_push, nx_put]; done) | (simp only [nx_push, nx_put]; omega)) only [go_sem, Nat.reduceAdd, Nat.reduceMul, Nat.reduceSub, Nat.reduceLeDiff, Nat.reduceEqDiff, Nat.reduceShiftRight, Nat.reduceAnd, k1, kM, hget, h2]
        have fH : Fm No H (pushH H (mkBlk 0 [.int .i64 (.ofNat i), .int .i64 (.ofNat c), .int .i64 (.ofNat 0)])) := by (repeat (first | exact Fm.refl _ _ | assumption | refine Fm.push ?_ _ | refine Fm.up2 ?_ (by (first | omega | (simp only [nx_push, nx_put]; omega))) | refine Fm.put_new ?_ _ _ (by (first | omega | (simp only [nx_push, nx_put]; omega)))))
        obtain ⟨H', e, gl', _, fm', nx'⟩ := (hw.no fH).append (k := 1) (w := 24) (x := (⟨i, c, 0⟩ : T3).cells) (by omega) rfl (by omega) (by omega)
        refine Ok.veE e ?_
        rw [tcells_app] at gl'
        refine half _ H' (pre ++ eR n ms i c ++ [⟨i, c, 0⟩]) ?_ (by have : (pre ++ eR n ms i c ++ [(⟨i, c, 0⟩ : T3)]).length = (pre ++ eR n ms i c).length + 1 := List.length_append; omega) (by rw [show (pre ++ eR n ms i c ++ [(⟨i, c, 0⟩ : T3)]).length = (pre ++ eR n ms i c).length + 1 from List.length_append]; exact gl') ((hfm.trans fH).then fm' fun c hc h => by have := hwn c h; omega) (fun b hb => ?_)
        · rw [hnx]; unfold ent; rw [if_pos h2]; simp only [List.append_assoc]
        · obtain ⟨_, _, _, _, h⟩ := hb
          cases h; (first | omega | (simp only [nx_push, nx_put]; omega))
      · simp (disch := first | omega | exact tr_i rfl | (simp only [nx_push, nx_put]; done) | (simp only [nx_push, nx_put]; omega)) only [go_sem, Nat.reduceAdd, Nat.reduceMul, Nat.reduceSub, Nat.reduceLeDiff, Nat.reduceEqDiff, Nat.reduceShiftRight, Nat.reduceAnd, k1, kM, hget, h2]
        refine half w H (pre ++ eR n ms i c) ?_ (by omega) hw hfm hwn
        rw [hnx]; unfold ent; rw [if_neg h2]; simp only [List.append_assoc, List.nil_append]
    · have : c = n := by omega
      simp (disch := first | omega | exact tr_i rfl | (simp only [nx_push, nx_put]; done) | (simp only [nx_push, nx_put]; omega)) only [go_sem, Nat.reduceAdd, Nat.reduceMul, Nat.reduceSub, Nat.reduceLeDiff, Nat.reduceEqDiff, Nat.reduceShiftRight, Nat.reduceAnd, k1, hlt]
      rw [this] at hw
      exact hq w H hw hfm hwn
theorem Edges_out {call : Ev.Call} {n g : Nat} {ms : List Nat} {mv : AV} {mb : Nat} {H1 : Hp} {Q : AV → Hp → Prop} {q2 : AV → Hp → R1}
    (hM : IsM H1 mv mb n ms) (hg : g < H1.nx) (hgv : H1.get g = mkBlk 0 [.int .i64 (.ofNat n), .sl mb 0 (n * n) (n * n) true])
    (hq : ∀ w H, Gl 3 H w (eM n ms n).length (tcells (eM n ms n)) → Fm No H1 H → (∀ b, In w b → H1.nx ≤ b) → Ok (q2 w H) Q) :
    ∀ (k i : Nat) (w : AV) (H : Hp), i ≤ n → n - i < k → Gl 3 H w (eM n ms i).length (tcells (eM n ms i)) → Fm No H1 H → (∀ b, In w b → H1.nx ≤ b) →
      Ok (ref16_Edges_l2 call q2 (.ptr g 0) k w (.int .i64 (.ofNat i)) H) Q
  | 0, i, _, _, _, h, _, _, _ => by omega
  | k + 1, i, w, H, hi, hk, hw, hfm, hwn => by
    show Ok (ref16_Edges_b2 call _ _ (ref16_Edges_l2 call _ _ k) _ _ H) Q
    unfold ref16_Edges_b2
    have k1 : H.get g = mkBlk 0 [.int .i64 (.ofNat n), .sl mb 0 (n * n) (n * n) true] := (hfm.keep hg).trans hgv
    by_cases hlt : i < n
    · simp (disch := first | omega | exact tr_i rfl | (simp only [nx_push, nx_put]; done) | (simp only [nx_push, nx_put]; omega)) only [go_sem, Nat.reduceAdd, Nat.reduceMul, Nat.reduceSub, Nat.reduceLeDiff, Nat.reduceEqDiff, Nat.reduceShiftRight, Nat.reduceAnd, k1, hlt]
      unfold ref16_Edges_j38 ref16_Edges_L5
      rw [fuelX_eq]
      have hn := hM.ok.hn
      refine Edges_in (eM n ms i) hM hg hgv hlt (eM_len n ms i) (fun w' H' gw f' hw' => ?_) loopFuel 0 w H (Nat.zero_le _) (by rw [loopFuel_eq]; omega) (by rw [show eM n ms i ++ eR n ms i 0 = eM n ms i from List.append_nil _]; exact hw) hfm hwn
      unfold ref16_Edges_j4
      simp (disch := first | omega | exact tr_i rfl | (simp only [nx_push, nx_put]; done) | (simp only [nx_push, nx_put]; omega)) only [go_sem, Nat.reduceAdd, Nat.reduceMul, Nat.reduceSub, Nat.reduceLeDiff, Nat.reduceEqDiff, Nat.reduceShiftRight, Nat.reduceAnd]
      exact Edges_out hM hg hgv hq k (i + 1) w' H' (by omega) (by omega) gw f' hw'
    · have : i = n := by omega
      simp (disch := first | omega | exact tr_i rfl | (simp only [nx_push, nx_put]; done) | (simp only [nx_push, nx_put]; omega)) only [go_sem, Nat.reduceAdd, Nat.reduceMul, Nat.reduceSub, Nat.reduceLeDiff, Nat.reduceEqDiff, Nat.reduceShiftRight, Nat.reduceAnd, k1, hlt]
      rw [this] at hw
      exact hq w H hw hfm hwn
theorem Edges_ok (hC : Links C) {k : Nat} (hk : 1 ≤ k) {n mb : Nat} {ms : List Nat} {mv : AV} {H : Hp} (hM : IsM H mv mb n ms) :
    Ok (C k (.f id_ref16_Edges) [mv] H) fun w H' => Gl 3 H' w (eM n ms n).length (tcells (eM n ms n)) ∧ Fm No H H' ∧ (∀ b, In w b → H.nx ≤ b) := by
  obtain ⟨j, rfl⟩ : ∃ j, k = j + 1 := ⟨k - 1, by omega⟩
  have hr := hM.hv
  subst hr
  rw [(hC j).ref16_Edges]
  unfold ref16_Edges ref16_Edges_c ref16_Edges_L2
  have fH : Fm No H (pushH H (mkBlk 0 [.int .i64 (.ofNat n), .sl mb 0 (n * n) (n * n) true])) := by (repeat (first | exact Fm.refl _ _ | assumption | refine Fm.push ?_ _ | refine Fm.up2 ?_ (by (first | omega | (simp only [nx_push, nx_put]; omega))) | refine Fm.put_new ?_ _ _ (by (first | omega | (simp only [nx_push, nx_put]; omega)))))
  simp (disch := first | omega | exact tr_i rfl | (simp only [nx_push, nx_put]; done) | (simp only [nx_push, nx_put]; omega)) only [go_sem, Nat.reduceAdd, Nat.reduceMul, Nat.reduceSub, Nat.reduceLeDiff, Nat.reduceEqDiff, Nat.reduceShiftRight, Nat.reduceAnd]
  rw [fuelX_eq]
  have hn := hM.ok.hn
  refine Edges_out (H1 := pushH H (mkBlk 0 [.int .i64 (.ofNat n), .sl mb 0 (n * n) (n * n) true])) (hM.fm fH) (by (first | omega | (simp only [nx_push, nx_put]; omega))) (get_push_new _ _) (fun w H' gw f' hw => ?_) loopFuel 0 _ _ (Nat.zero_le _) (by rw [loopFuel_eq]; omega) (Gl.nil _ _) (Fm.refl _ _) (fun b hb => by obtain ⟨_, _, _, _, h⟩ := hb; cases h)
  unfold ref16_Edges_j1
  exact Ok.ret ⟨gw, fH.trans f', fun b hb => Nat.le_trans (Nat.le_succ _) (hw b hb)⟩
end Go.Di
end

section
/-
  Contracts: the graph of a matrix.
-/
namespace Go.Di
open Go.Ev
variable {C : Nat → Ev.Call}
def toE (e : T3) : Edge := ⟨e.f, e.t, decide (e.s = 1)⟩
def edgesOf (n : Nat) (ms : List Nat) : List Edge := (eM n ms n).map toE
theorem ecells_app (es : List Edge) (e : Edge) : ecells es ++ e.cells = ecells (es ++ [e]) := by simp [ecells]
theorem Graph_loop {call : Ev.Call} {n g : Nat} {ts : List T3} {v : AV} {H1 : Hp} (hlen : ts.length ≤ 200000) {Q : AV → Hp → Prop} {q12 : Hp → R1}
    (hv : Gl 3 H1 v ts.length (tcells ts)) (hvg : ∀ b, In v b → b ≠ g) (hg : g < H1.nx)
    (hq : ∀ w H, IsE H w (ts.map toE) → H.get g = mkBlk 0 [.int .i64 (.ofNat n), w] → Fm (· = g) H1 H → (∀ b, In w b → H1.nx ≤ b) → Ok (q12 H) Q) :
    ∀ (k i : Nat) (w : AV) (H : Hp), i ≤ ts.length → ts.length - i < k → Gl 3 H w i (ecells ((ts.take i).map toE)) → H.get g = mkBlk 0 [.int .i64 (.ofNat n), w] → Fm (· = g) H1 H → (∀ b, In w b → H1.nx ≤ b) →
      Ok (law16_Graph_l12 call q12 (.ptr g 0) v k (.int .i64 (.ofNat i)) H) Q
  | 0, i, _, _, _, h, _, _, _, _ => by omega
  | k + 1, i, w, H, hi, hk, hw, hgw, hfm, hwn => by
    show Ok (law16_Graph_b12 call _ _ _ (law16_Graph_l12 call _ _ _ k) _ H) Q
    unfold law16_Graph_b12
    by_cases hlt : i < ts.length
    · simp (disch := first | omega | exact tr_i rfl | (simp only [nx_push, nx_put]; done) | (simp only [nx_push, nx_put]; omega)) only [go_sem, Nat.reduceAdd, Nat.reduceMul, Nat.reduceSub, Nat.reduceLeDiff, Nat.reduceEqDiff, Nat.reduceShiftRight, Nat.reduceAnd, hlt, hv.lenV]
      unfold law16_Graph_j39
      obtain ⟨b, o, e1, e2, e3, e4, e5, e6⟩ := T3_at (hv.fm hfm hvg) hlt
      have hwf := eqF_flat hw.flat 63
      have n1 := hfm.nx
      simp (disch := first | omega | exact tr_i rfl | (simp only [nx_push, nx_put]; done) | (simp only [nx_push, nx_put]; omega)) only [go_sem, Nat.reduceAdd, Nat.reduceMul, Nat.reduceSub, Nat.reduceLeDiff, Nat.reduceEqDiff, Nat.reduceShiftRight, Nat.reduceAnd, hgw, e1, e4, e5, e6]
      have fH : Fm No H (Hp.put ⟨H.t, H.nx + 23⟩ (H.nx + 19) (mkBlk 0 [.int .i64 (.ofNat ts[i].f), .int .i64 (.ofNat ts[i].t), .bool (decide (ts[i].s = 1))])) := by (repeat (first | exact Fm.refl _ _ | assumption | refine Fm.push ?_ _ | refine Fm.up2 ?_ (by (first | omega | (simp only [nx_push, nx_put]; omega))) | refine Fm.put_new ?_ _ _ (by (first | omega | (simp only [nx_push, nx_put]; omega)))))
      obtain ⟨H', e, gl', _, fm', nx'⟩ := (hw.no fH).append (k := 1) (w := 24) (x := (toE ts[i]).cells) (by omega) rfl (by omega) (by omega)
      refine Ok.deE e ?_
      have hwg : ¬ In w g := fun h => by have := hwn g h; omega
      have k1 : H'.get g = mkBlk 0 [.int .i64 (.ofNat n), w] := (fm'.get g (by (first | omega | (simp only [nx_push, nx_put]; omega))) hwg).trans ((fH.keep (by omega)).trans hgw)
      simp (disch := first | omega | exact tr_i rfl | (simp only [nx_push, nx_put]; done) | (simp only [nx_push, nx_put]; omega)) only [go_sem, Nat.reduceAdd, Nat.reduceMul, Nat.reduceSub, Nat.reduceLeDiff, Nat.reduceEqDiff, Nat.reduceShiftRight, Nat.reduceAnd, k1]
      unfold law16_Graph_j14
      simp (disch := first | omega | exact tr_i rfl | (simp only [nx_push, nx_put]; done) | (simp only [nx_push, nx_put]; omega)) only [go_sem, Nat.reduceAdd, Nat.reduceMul, Nat.reduceSub, Nat.reduceLeDiff, Nat.reduceEqDiff, Nat.reduceShiftRight, Nat.reduceAnd]
      rw [ecells_app] at gl'
      have ht : (ts.take (i + 1)).map toE = (ts.take i).map toE ++ [toE ts[i]] := by
        rw [List.take_succ_eq_append_getElem hlt, List.map_append]; rfl
      rw [← ht] at gl'
      have f2 : Fm (· = g) H1 H' := (hfm.then fH fun _ _ h => h.elim).then fm' fun c hc h => by have := hwn c h; omega
      have nx2 : H'.nx = H.nx + 23 + 1 := nx'
      refine Graph_loop hlen hv hvg hg hq k (i + 1) _ _ (by omega) (by omega) (gl'.fm (S := (· = g)) (H' := H'.put g _) (by (repeat (first | exact Fm.refl _ _ | assumption | refine Fm.push ?_ _ | refine Fm.up2 ?_ (by (first | omega | (simp only [nx_push, nx_put]; omega))) | refine Fm.put_new ?_ _ _ (by (first | omega | (simp only [nx_push, nx_put]; omega))) | refine Fm.put ?_ _ _ (fun _ => rfl)))) fun b hb => ?_) (get_put_same _ _ _) (by (repeat (first | exact Fm.refl _ _ | assumption | refine Fm.push ?_ _ | refine Fm.up2 ?_ (by (first | omega | (simp only [nx_push, nx_put]; omega))) | refine Fm.put_new ?_ _ _ (by (first | omega | (simp only [nx_push, nx_put]; omega))) | refine Fm.put ?_ _ _ (fun _ => rfl)))) fun b hb => ?_
      · obtain ⟨_, _, _, _, h⟩ := hb
        cases h
        show ¬ H.nx + 23 = g
        omega
      · obtain ⟨_, _, _, _, h⟩ := hb
        cases h
        show H1.nx ≤ H.nx + 23
        omega
    · have : i = ts.length := by omega
      simp (disch := first | omega | exact tr_i rfl | (simp only [nx_push, nx_put]; done) | (simp only [nx_push, nx_put]; omega)) only [go_sem, Nat.reduceAdd, Nat.reduceMul, Nat.reduceSub, Nat.reduceLeDiff, Nat.reduceEqDiff, Nat.reduceShiftRight, Nat.reduceAnd, hlt, hv.lenV]
      rw [this, List.take_length] at hw
      refine hq w H ?_ hgw hfm hwn
      show Gl 3 H w (ts.map toE).length _
      rw [List.length_map]; exact hw
theorem Graph_ok (hC : Links C) {k : Nat} (hk : 2 ≤ k) {n mb : Nat} {ms : List Nat} {mv : AV} {H : Hp} (hM : IsM H mv mb n ms) :
    Ok (C k (.f id_law16_Graph) [mv] H) fun r H' => ∃ w, r = .agg [.int .i64 (.ofNat n), w] ∧ IsE H' w (edgesOf n ms) ∧ Fm No H H' ∧ (∀ b, In w b → H.nx ≤ b) := by
  obtain ⟨j, rfl⟩ : ∃ j, k = j + 1 := ⟨k - 1, by omega⟩
  have hr := hM.hv
  subst hr
  rw [(hC j).law16_Graph]
  unfold law16_Graph law16_Graph_c
  simp (disch := first | omega | exact tr_i rfl | (simp only [nx_push, nx_put]; done) | (simp only [nx_push, nx_put]; omega)) only [go_sem, Nat.reduceAdd, Nat.reduceMul, Nat.reduceSub, Nat.reduceLeDiff, Nat.reduceEqDiff, Nat.reduceShiftRight, Nat.reduceAnd]
  have fH : Fm No H ((pushH (pushH (pushH H (mkBlk 0 [.int .i64 (.ofNat n), .sl mb 0 (n * n) (n * n) true])) (mkBlk 0 [.int .i64 (.ofNat 0), .nilsl])) (mkBlk 0 [.int .i64 (.ofNat 0), .nilsl])).put (H.nx + 1 + 1) (mkBlk 0 [.int .i64 (.ofNat n), .nilsl])) := by (repeat (first | exact Fm.refl _ _ | assumption | refine Fm.push ?_ _ | refine Fm.up2 ?_ (by (first | omega | (simp only [nx_push, nx_put]; omega))) | refine Fm.put_new ?_ _ _ (by (first | omega | (simp only [nx_push, nx_put]; omega)))))
  refine Ok.ve (Edges_ok hC (by omega) (hM.fm fH)) ?_
  rintro w H1 ⟨gw, f1, hw⟩
  have n1 := f1.nx
  have n1' : H.nx + 1 + 1 + 1 ≤ H1.nx := n1
  have k1 : H1.get (H.nx + 1 + 1) = mkBlk 0 [.int .i64 (.ofNat n), .nilsl] := (f1.keep (by (first | omega | (simp only [nx_push, nx_put]; omega)))).trans (by simp (disch := first | omega | exact tr_i rfl | (simp only [nx_push, nx_put]; done) | (simp only [nx_push, nx_put]; omega)) only [go_sem, Nat.reduceAdd, Nat.reduceMul, Nat.reduceSub, Nat.reduceLeDiff, Nat.reduceEqDiff, Nat.reduceShiftRight, Nat.reduceAnd])
  have k2 : H1.get (H.nx + 1) = mkBlk 0 [.int .i64 (.ofNat 0), .nilsl] := (f1.keep (by (first | omega | (simp only [nx_push, nx_put]; omega)))).trans (by simp (disch := first | omega | exact tr_i rfl | (simp only [nx_push, nx_put]; done) | (simp only [nx_push, nx_put]; omega)) only [go_sem, Nat.reduceAdd, Nat.reduceMul, Nat.reduceSub, Nat.reduceLeDiff, Nat.reduceEqDiff, Nat.reduceShiftRight, Nat.reduceAnd])
  have f2 := fH.trans f1
  have n2 := f2.nx
  unfold law16_Graph_L12
  rw [fuelX_eq]
  have hl := eM_len n ms n
  have hsq := sq_le hM.ok.hn
  refine Graph_loop (H1 := H1) (by omega) gw (fun b hb => ?_) (by omega) (fun w' H2 hE hg2 f3 hw' => ?_) loopFuel 0 .nilsl H1 (Nat.zero_le _) (by rw [loopFuel_eq]; omega) (Gl.nil _ _) k1 (Fm.refl _ _) (fun b hb => by obtain ⟨_, _, _, _, h⟩ := hb; cases h)
  · have := hw b hb
    have : H.nx + 1 + 1 + 1 ≤ b := this
    omega
  · unfold law16_Graph_j11
    have k3 : H2.get (H.nx + 1) = mkBlk 0 [.int .i64 (.ofNat 0), .nilsl] := (f3.get _ (by omega) (by omega)).trans k2
    have n3 := f3.nx
    simp (disch := first | omega | exact tr_i rfl | (simp only [nx_push, nx_put]; done) | (simp only [nx_push, nx_put]; omega)) only [go_sem, Nat.reduceAdd, Nat.reduceMul, Nat.reduceSub, Nat.reduceLeDiff, Nat.reduceEqDiff, Nat.reduceShiftRight, Nat.reduceAnd, hg2, k3]
    have f4 : Fm No H H2 := f2.then f3 fun c hc h => by omega
    refine Ok.ret ⟨w', rfl, ?_, by (repeat (first | exact Fm.refl _ _ | assumption | refine Fm.push ?_ _ | refine Fm.up2 ?_ (by (first | omega | (simp only [nx_push, nx_put]; omega))) | refine Fm.put_new ?_ _ _ (by (first | omega | (simp only [nx_push, nx_put]; omega))))), fun b hb => by have := hw' b hb; omega⟩
    refine Gl.fm hE (S := (· = H.nx + 1)) ((Fm.refl _ _).put _ _ fun _ => rfl) fun b hb => ?_
    have := hw' b hb
    omega
end Go.Di
end

section
/-
  Contracts: the matrix of plain data.
-/
namespace Go.Di
open Go.Ev
variable {C : Nat → Ev.Call}
/-- a slice that came as an argument: triples of bytes -/
structure Arg3 (H : Hp) (v : AV) (cnt : Nat) : Prop where
  flat : flatA v = true
  len : lenSl v = .val (.int .i64 (.ofNat cnt))
  at' : ∀ i, i < cnt → ∃ b o, idxS 3 v (.int .i64 (.ofNat i)) = .val (.ptr b o) ∧ b < H.nx ∧ ∀ j, j < 3 → ∃ x, x < 256 ∧ rdBlk1 (H.get b) (o + j) = .val (.int .u8 (.ofNat x))
theorem Arg3.fm {H H' : Hp} {v : AV} {cnt : Nat} (h : Arg3 H v cnt) (a : Fm No H H') : Arg3 H' v cnt := ⟨h.flat, h.len, fun i hi => by
  obtain ⟨b, o, e1, e2, e3⟩ := h.at' i hi
  exact ⟨b, o, e1, Nat.lt_of_lt_of_le e2 a.nx, fun j hj => by obtain ⟨x, h1, h2⟩ := e3 j hj; exact ⟨x, h1, by rw [a.keep e2]; exact h2⟩⟩⟩
theorem convI_u8 (x : Nat) (h : x < 256) : convI .i64 (.int .u8 (.ofNat x)) = .val (.int .i64 (.ofNat x)) := by
  show R0.val (.int .i64 (awrap .i64 (.ofNat x))) = _
  rw [awrap_nat _ (by omega)]
theorem HM_loop {call : Ev.Call} {n g cnt : Nat} {b0 : AV} {v : AV} {H1 : Hp} {Q : AV → Hp → Prop} {q9 : AV → Hp → R1}
    (hv : Arg3 H1 v cnt) (hn : n ≤ 256) (hg : g < H1.nx) (hgv : H1.get g = mkBlk 0 [b0, v])
    (hq : ∀ w ts H, ts.length ≤ 40 → (∀ e ∈ ts, e.f < n ∧ e.t < n) → Gl 3 H w ts.length (tcells ts) → Fm No H1 H → (∀ b, In w b → H1.nx ≤ b) → Ok (q9 w H) Q) :
    ∀ (k : Nat) (ts : List T3) (w : AV) (H : Hp), ts.length ≤ 40 → 40 - ts.length < k → (∀ e ∈ ts, e.f < n ∧ e.t < n) → Gl 3 H w ts.length (tcells ts) → Fm No H1 H → (∀ b, In w b → H1.nx ≤ b) →
      Ok (law16_H_Matrix_l9 call q9 (.ptr g 0) (.int .i64 (.ofNat n)) k w (.int .i64 (.ofNat ts.length)) H) Q
  | 0, ts, _, _, _, h, _, _, _, _ => by omega
  | k + 1, ts, w, H, hi, hk, hT, hw, hfm, hwn => by
    show Ok (law16_H_Matrix_b9 call _ _ _ (law16_H_Matrix_l9 call _ _ _ k) _ _ H) Q
    unfold law16_H_Matrix_b9
    have k1 : H.get g = mkBlk 0 [b0, v] := (hfm.keep hg).trans hgv
    have n1 := hfm.nx
    by_cases h0 : 0 < n
    · by_cases h1 : ts.length < cnt
      · by_cases h2 : ts.length < 40
        · simp (disch := first | omega | exact tr_i rfl | (simp only [nx_push, nx_put]; done) | (simp only [nx_push, nx_put]; omega)) only [go_sem, Nat.reduceAdd, Nat.reduceMul, Nat.reduceSub, Nat.reduceLeDiff, Nat.reduceEqDiff, Nat.reduceShiftRight, Nat.reduceAnd, h0, h1, h2, k1, hv.len]
          unfold law16_H_Matrix_j44
          obtain ⟨b, o, e1, e2, e3⟩ := (hv.fm hfm).at' _ h1
          obtain ⟨x0, l0, r0⟩ := e3 0 (by omega)
          obtain ⟨x1, l1, r1⟩ := e3 1 (by omega)
          obtain ⟨x2, l2, r2⟩ := e3 2 (by omega)
          rw [Nat.add_zero] at r0
          have hvf := eqF_flat hv.flat 63
          simp (disch := first | omega | exact tr_i rfl | (simp only [nx_push, nx_put]; done) | (simp only [nx_push, nx_put]; omega)) only [go_sem, Nat.reduceAdd, Nat.reduceMul, Nat.reduceSub, Nat.reduceLeDiff, Nat.reduceEqDiff, Nat.reduceShiftRight, Nat.reduceAnd, k1, e1, r0, r1, r2, hvf, convI_u8, show x2 % 2 < 256 by omega]
          have fH : Fm No H (Hp.put ⟨H.t, H.nx + 31⟩ (H.nx + 28) (mkBlk 0 [.int .i64 (.ofNat (x0 % n)), .int .i64 (.ofNat (x1 % n)), .int .i64 (.ofNat (x2 % 2))])) := by (repeat (first | exact Fm.refl _ _ | assumption | refine Fm.push ?_ _ | refine Fm.up2 ?_ (by (first | omega | (simp only [nx_push, nx_put]; omega))) | refine Fm.put_new ?_ _ _ (by (first | omega | (simp only [nx_push, nx_put]; omega)))))
          obtain ⟨H', e, gl', _, fm', nx'⟩ := (hw.no fH).append (k := 1) (w := 24) (x := (⟨x0 % n, x1 % n, x2 % 2⟩ : T3).cells) (by omega) rfl (by omega) (by omega)
          refine Ok.deE e ?_
          simp (disch := first | omega | exact tr_i rfl | (simp only [nx_push, nx_put]; done) | (simp only [nx_push, nx_put]; omega)) only [go_sem, Nat.reduceAdd, Nat.reduceMul, Nat.reduceSub, Nat.reduceLeDiff, Nat.reduceEqDiff, Nat.reduceShiftRight, Nat.reduceAnd]
          unfold law16_H_Matrix_j11
          simp (disch := first | omega | exact tr_i rfl | (simp only [nx_push, nx_put]; done) | (simp only [nx_push, nx_put]; omega)) only [go_sem, Nat.reduceAdd, Nat.reduceMul, Nat.reduceSub, Nat.reduceLeDiff, Nat.reduceEqDiff, Nat.reduceShiftRight, Nat.reduceAnd]
          rw [tcells_app] at gl'
          have hl : (ts ++ [(⟨x0 % n, x1 % n, x2 % 2⟩ : T3)]).length = ts.length + 1 := List.length_append
          have nx2 : H'.nx = H.nx + 31 + 1 := nx'
          rw [← hl]
          refine HM_loop hv hn hg hgv hq k (ts ++ [⟨x0 % n, x1 % n, x2 % 2⟩]) _ H' (by omega) (by omega) (fun y hy => ?_) (by rw [← hl] at gl'; exact gl') ((hfm.trans fH).then fm' fun c hc h => by have := hwn c h; omega) (fun b hb => ?_)
          · rcases List.mem_append.1 hy with h | h
            · exact hT y h
            · rw [List.mem_singleton] at h
              subst h
              exact ⟨Nat.mod_lt _ h0, Nat.mod_lt _ h0⟩
          · obtain ⟨_, _, _, _, h⟩ := hb
            cases h
            show H1.nx ≤ H.nx + 31
            omega
        · simp (disch := first | omega | exact tr_i rfl | (simp only [nx_push, nx_put]; done) | (simp only [nx_push, nx_put]; omega)) only [go_sem, Nat.reduceAdd, Nat.reduceMul, Nat.reduceSub, Nat.reduceLeDiff, Nat.reduceEqDiff, Nat.reduceShiftRight, Nat.reduceAnd, h0, h1, h2, k1, hv.len]
          exact hq w ts H hi hT hw hfm hwn
      · simp (disch := first | omega | exact tr_i rfl | (simp only [nx_push, nx_put]; done) | (simp only [nx_push, nx_put]; omega)) only [go_sem, Nat.reduceAdd, Nat.reduceMul, Nat.reduceSub, Nat.reduceLeDiff, Nat.reduceEqDiff, Nat.reduceShiftRight, Nat.reduceAnd, h0, h1, k1, hv.len]
        exact hq w ts H hi hT hw hfm hwn
    · simp (disch := first | omega | exact tr_i rfl | (simp only [nx_push, nx_put]; done) | (simp only [nx_push, nx_put]; omega)) only [go_sem, Nat.reduceAdd, Nat.reduceMul, Nat.reduceSub, Nat.reduceLeDiff, Nat.reduceEqDiff, Nat.reduceShiftRight, Nat.reduceAnd, h0]
      exact hq w ts H hi hT hw hfm hwn
theorem H_Matrix_ok (hC : Links C) {k : Nat} (hk : 3 ≤ k) {N cnt : Nat} {v : AV} {H : Hp} (hv : Arg3 H v cnt) :
    Ok (C k (.f id_law16_H_Matrix) [.agg [.int .u8 (.ofNat N), v]] H) fun r H' => ∃ b ms, IsM H' r b (N % 13) ms ∧ H.nx ≤ b ∧ Fm No H H' := by
  obtain ⟨j, rfl⟩ : ∃ j, k = j + 1 := ⟨k - 1, by omega⟩
  rw [(hC j).law16_H_Matrix]
  unfold law16_H_Matrix law16_H_Matrix_c
  have h13 : N % 13 < 13 := Nat.mod_lt _ (by omega)
  simp (disch := first | omega | exact tr_i rfl | (simp only [nx_push, nx_put]; done) | (simp only [nx_push, nx_put]; omega)) only [go_sem, Nat.reduceAdd, Nat.reduceMul, Nat.reduceSub, Nat.reduceLeDiff, Nat.reduceEqDiff, Nat.reduceShiftRight, Nat.reduceAnd, convI_u8, show N % 13 < 256 by omega]
  unfold law16_H_Matrix_L9
  rw [fuelX_eq]
  have fH : Fm No H (pushH (pushH H (mkBlk 0 [.int .u8 (.ofNat N), v])) (mkBlk 0 [.int .i64 (.ofNat 0), .nilsl])) := by (repeat (first | exact Fm.refl _ _ | assumption | refine Fm.push ?_ _ | refine Fm.up2 ?_ (by (first | omega | (simp only [nx_push, nx_put]; omega))) | refine Fm.put_new ?_ _ _ (by (first | omega | (simp only [nx_push, nx_put]; omega)))))
  refine HM_loop (H1 := pushH (pushH H (mkBlk 0 [.int .u8 (.ofNat N), v])) (mkBlk 0 [.int .i64 (.ofNat 0), .nilsl])) (g := H.nx) (b0 := .int .u8 (.ofNat N)) (hv.fm fH) (by omega) (by (first | omega | (simp only [nx_push, nx_put]; omega))) (by simp (disch := first | omega | exact tr_i rfl | (simp only [nx_push, nx_put]; done) | (simp only [nx_push, nx_put]; omega)) only [go_sem, Nat.reduceAdd, Nat.reduceMul, Nat.reduceSub, Nat.reduceLeDiff, Nat.reduceEqDiff, Nat.reduceShiftRight, Nat.reduceAnd]) (fun w ts H1 hl hT gw f1 hw => ?_) loopFuel [] .nilsl _ (by simp) (by rw [loopFuel_eq]; simp) (fun e he => by cases he) (Gl.nil _ _) (Fm.refl _ _) (fun b hb => by obtain ⟨_, _, _, _, h⟩ := hb; cases h)
  unfold law16_H_Matrix_j8
  refine Ok.ve (Matrix_ok hC (by omega) (show N % 13 ≤ 256 by omega) hT (by omega) gw) ?_
  rintro r H2 ⟨b, ms, hM, hb, f2⟩
  have f3 := fH.trans (f1.trans f2)
  have k1 : H2.get (H.nx + 1) = mkBlk 0 [.int .i64 (.ofNat 0), .nilsl] := ((f1.trans f2).keep (by (first | omega | (simp only [nx_push, nx_put]; omega)))).trans (by simp (disch := first | omega | exact tr_i rfl | (simp only [nx_push, nx_put]; done) | (simp only [nx_push, nx_put]; omega)) only [go_sem, Nat.reduceAdd, Nat.reduceMul, Nat.reduceSub, Nat.reduceLeDiff, Nat.reduceEqDiff, Nat.reduceShiftRight, Nat.reduceAnd])
  have hr := hM.hv
  subst hr
  simp (disch := first | omega | exact tr_i rfl | (simp only [nx_push, nx_put]; done) | (simp only [nx_push, nx_put]; omega)) only [go_sem, Nat.reduceAdd, Nat.reduceMul, Nat.reduceSub, Nat.reduceLeDiff, Nat.reduceEqDiff, Nat.reduceShiftRight, Nat.reduceAnd, k1]
  have n1 := f1.nx
  have n1' : H.nx + 1 + 1 ≤ H1.nx := n1
  refine Ok.ret ⟨b, ms, ⟨rfl, hM.lt, ?_, hM.ok⟩, by omega, by (repeat (first | exact Fm.refl _ _ | assumption | refine Fm.push ?_ _ | refine Fm.up2 ?_ (by (first | omega | (simp only [nx_push, nx_put]; omega))) | refine Fm.put_new ?_ _ _ (by (first | omega | (simp only [nx_push, nx_put]; omega)))))⟩
  rw [get_put_ne _ _ _ _ (by omega)]; exact hM.get
end Go.Di
end

section
/-
  Contracts: distances.
-/
namespace Go.Di
open Go.Ev
variable {C : Nat → Ev.Call}
/- the pure function -/
def stepD (n : Nat) (d : List Int) (k i j : Nat) : List Int :=
  if 0 ≤ d.getD (i * n + k) 0 ∧ 0 ≤ d.getD (k * n + j) 0 ∧ (d.getD (i * n + j) 0 < 0 ∨ d.getD (i * n + k) 0 + d.getD (k * n + j) 0 < d.getD (i * n + j) 0)
  then d.set (i * n + j) (d.getD (i * n + k) 0 + d.getD (k * n + j) 0) else d
def fJ (n : Nat) (d : List Int) (k i : Nat) : Nat → List Int
  | 0 => d
  | j + 1 => stepD n (fJ n d k i j) k i j
def fI (n : Nat) (d : List Int) (k : Nat) : Nat → List Int
  | 0 => d
  | i + 1 => fJ n (fI n d k i) k i n
def fK (n : Nat) (d : List Int) : Nat → List Int
  | 0 => d
  | k + 1 => fI n (fK n d k) k n
def dg (n : Nat) (d : List Int) : Nat → List Int
  | 0 => d
  | i + 1 => (dg n d i).set (i * n + i) 0
def d1 (ms : List Nat) : List Int := ms.map fun v => if 0 < v then 1 else -1
def dist (n : Nat) (ms : List Nat) : List Int := fK n (dg n (d1 ms) n) n
theorem stepD_len (n : Nat) (d : List Int) (k i j : Nat) : (stepD n d k i j).length = d.length := by
  unfold stepD; split <;> simp
theorem fJ_len (n : Nat) (d : List Int) (k i : Nat) : ∀ j, (fJ n d k i j).length = d.length
  | 0 => rfl
  | j + 1 => by rw [fJ, stepD_len, fJ_len n d k i j]
theorem fI_len (n : Nat) (d : List Int) (k : Nat) : ∀ i, (fI n d k i).length = d.length
  | 0 => rfl
  | i + 1 => by rw [fI, fJ_len, fI_len n d k i]
theorem fK_len (n : Nat) (d : List Int) : ∀ k, (fK n d k).length = d.length
  | 0 => rfl
  | k + 1 => by rw [fK, fI_len, fK_len n d k]
theorem dg_len (n : Nat) (d : List Int) : ∀ i, (dg n d i).length = d.length
  | 0 => rfl
  | i + 1 => by rw [dg, List.length_set, dg_len n d i]
def Bnd (d : List Int) : Prop := ∀ x, -1 ≤ d.getD x 0 ∧ d.getD x 0 ≤ 1099511627776
theorem add_int (a b : Int) (h1 : -9223372036854775808 ≤ a + b) (h2 : a + b < 9223372036854775808) : intV (intBin .add).f (.int .i64 a) (.int .i64 b) = .val (.int .i64 (a + b)) := by
  rw [add_ii, awrap_i64 _ h1 h2]
theorem ints_getD (d : List Int) (i : Nat) (h : i < d.length) : (ints d)[i]? = some (.int .i64 (d.getD i 0)) := by
  rw [ints_get _ _ h]; simp [List.getD_eq_getElem?_getD, h]
theorem D_J {call : Ev.Call} {n g db k i : Nat} {s : AV} {H1 : Hp} {Q : AV → Hp → Prop} {q14 : Hp → R1} (hn : n ≤ 256) (hg : g < H1.nx) (hgd : g ≠ db) (hgv : H1.get g = mkBlk 0 [.int .i64 (.ofNat n), s]) (hdb : db < H1.nx)
    (hk : k < n) (hi : i < n) (d : List Int) (hl : d.length = n * n) (hB : ∀ j, j ≤ n → Bnd (fJ n d k i j))
    (hq : ∀ H, H.get db = mkBlk 0 (ints (fJ n d k i n)) → Fm (· = db) H1 H → Ok (q14 H) Q) :
    ∀ (f j : Nat) (H : Hp), j ≤ n → n - j < f → H.get db = mkBlk 0 (ints (fJ n d k i j)) → Fm (· = db) H1 H →
      Ok (ref16_Distance_l14 call q14 (.ptr g 0) (.sl db 0 (n * n) (n * n) true) (.int .i64 (.ofNat k)) (.int .i64 (.ofNat i)) f (.int .i64 (.ofNat j)) H) Q
  | 0, j, _, _, h, _, _ => by omega
  | f + 1, j, H, hj, hf, hd, hfm => by
    show Ok (ref16_Distance_b14 call _ _ _ _ _ (ref16_Distance_l14 call _ _ _ _ _ f) _ H) Q
    unfold ref16_Distance_b14
    have k1 : H.get g = mkBlk 0 [.int .i64 (.ofNat n), s] := (hfm.get g hg hgd).trans hgv
    by_cases hlt : j < n
    · simp (disch := first | omega | exact tr_i rfl | (simp only [nx_push, nx_put]; done) | (simp only [nx_push, nx_put]; omega)) only [go_sem, Nat.reduceAdd, Nat.reduceMul, Nat.reduceSub, Nat.reduceLeDiff, Nat.reduceEqDiff, Nat.reduceShiftRight, Nat.reduceAnd, k1, hlt]
      unfold ref16_Distance_j66
      have hsq := sq_le hn
      have i1 := idx_lt hi hk
      have i2 := idx_lt hk hlt
      have i3 := idx_lt hi hlt
      have ln := fJ_len n d k i j
      have gA := ints_getD (fJ n d k i j) (i * n + k) (by omega)
      have gB := ints_getD (fJ n d k i j) (k * n + j) (by omega)
      have gC := ints_getD (fJ n d k i j) (i * n + j) (by omega)
      have bA := hB j hj (i * n + k)
      have bB := hB j hj (k * n + j)
      have hst : fJ n d k i (j + 1) = stepD n (fJ n d k i j) k i j := rfl
      unfold stepD at hst
      generalize (fJ n d k i j).getD (i * n + k) 0 = A at *
      generalize (fJ n d k i j).getD (k * n + j) 0 = B at *
      generalize (fJ n d k i j).getD (i * n + j) 0 = Cc at *
      have h1 : i * n + j + 1 ≤ n * n := i3
      have fin : fJ n d k i (j + 1) = (fJ n d k i j).set (i * n + j) (A + B) → Ok (ref16_Distance_j16 call (ref16_Distance_l14 call q14 (.ptr g 0) (.sl db 0 (n * n) (n * n) true) (.int .i64 (.ofNat k)) (.int .i64 (.ofNat i)) f) (.int .i64 (.ofNat j)) (H.put db (mkBlk 0 (ints ((fJ n d k i j).set (i * n + j) (A + B)))))) Q := by
        intro he
        unfold ref16_Distance_j16
        simp (disch := first | omega | exact tr_i rfl | (simp only [nx_push, nx_put]; done) | (simp only [nx_push, nx_put]; omega)) only [go_sem, Nat.reduceAdd, Nat.reduceMul, Nat.reduceSub, Nat.reduceLeDiff, Nat.reduceEqDiff, Nat.reduceShiftRight, Nat.reduceAnd]
        exact D_J hn hg hgd hgv hdb hk hi d hl hB hq f (j + 1) _ (by omega) (by omega) (by rw [he]; exact get_put_same _ _ _) (by (repeat (first | exact Fm.refl _ _ | assumption | refine Fm.push ?_ _ | refine Fm.up2 ?_ (by (first | omega | (simp only [nx_push, nx_put]; omega))) | refine Fm.put_new ?_ _ _ (by (first | omega | (simp only [nx_push, nx_put]; omega))) | refine Fm.put ?_ _ _ (fun _ => rfl))))
      have non : fJ n d k i (j + 1) = fJ n d k i j → Ok (ref16_Distance_j16 call (ref16_Distance_l14 call q14 (.ptr g 0) (.sl db 0 (n * n) (n * n) true) (.int .i64 (.ofNat k)) (.int .i64 (.ofNat i)) f) (.int .i64 (.ofNat j)) H) Q := by
        intro he
        unfold ref16_Distance_j16
        simp (disch := first | omega | exact tr_i rfl | (simp only [nx_push, nx_put]; done) | (simp only [nx_push, nx_put]; omega)) only [go_sem, Nat.reduceAdd, Nat.reduceMul, Nat.reduceSub, Nat.reduceLeDiff, Nat.reduceEqDiff, Nat.reduceShiftRight, Nat.reduceAnd]
        exact D_J hn hg hgd hgv hdb hk hi d hl hB hq f (j + 1) _ (by omega) (by omega) (by rw [he]; exact hd) hfm
      by_cases hA : Int.ofNat 0 ≤ A
      · by_cases hBb : Int.ofNat 0 ≤ B
        · by_cases hCn : Cc < Int.ofNat 0
          · simp (disch := first | omega | exact tr_i rfl | (simp only [nx_push, nx_put]; done) | (simp only [nx_push, nx_put]; omega)) only [go_sem, Nat.reduceAdd, Nat.reduceMul, Nat.reduceSub, Nat.reduceLeDiff, Nat.reduceEqDiff, Nat.reduceShiftRight, Nat.reduceAnd, k1, hd, gA, gB, gC, hA, hBb, hCn, add_int, ints_len, ln, hl, h1, ints_set]
            exact fin (by rw [hst, if_pos ⟨hA, hBb, .inl hCn⟩])
          · by_cases hlt2 : A + B < Cc
            · simp (disch := first | omega | exact tr_i rfl | (simp only [nx_push, nx_put]; done) | (simp only [nx_push, nx_put]; omega)) only [go_sem, Nat.reduceAdd, Nat.reduceMul, Nat.reduceSub, Nat.reduceLeDiff, Nat.reduceEqDiff, Nat.reduceShiftRight, Nat.reduceAnd, k1, hd, gA, gB, gC, hA, hBb, hCn, hlt2, add_int, ints_len, ln, hl, h1, ints_set]
              exact fin (by rw [hst, if_pos ⟨hA, hBb, .inr hlt2⟩])
            · simp (disch := first | omega | exact tr_i rfl | (simp only [nx_push, nx_put]; done) | (simp only [nx_push, nx_put]; omega)) only [go_sem, Nat.reduceAdd, Nat.reduceMul, Nat.reduceSub, Nat.reduceLeDiff, Nat.reduceEqDiff, Nat.reduceShiftRight, Nat.reduceAnd, k1, hd, gA, gB, gC, hA, hBb, hCn, hlt2, add_int]
              exact non (by rw [hst, if_neg (fun h => h.2.2.elim hCn hlt2)])
        · simp (disch := first | omega | exact tr_i rfl | (simp only [nx_push, nx_put]; done) | (simp only [nx_push, nx_put]; omega)) only [go_sem, Nat.reduceAdd, Nat.reduceMul, Nat.reduceSub, Nat.reduceLeDiff, Nat.reduceEqDiff, Nat.reduceShiftRight, Nat.reduceAnd, k1, hd, gA, gB, gC, hA, hBb]
          exact non (by rw [hst, if_neg (fun h => hBb h.2.1)])
      · simp (disch := first | omega | exact tr_i rfl | (simp only [nx_push, nx_put]; done) | (simp only [nx_push, nx_put]; omega)) only [go_sem, Nat.reduceAdd, Nat.reduceMul, Nat.reduceSub, Nat.reduceLeDiff, Nat.reduceEqDiff, Nat.reduceShiftRight, Nat.reduceAnd, k1, hd, gA, gB, gC, hA]
        exact non (by rw [hst, if_neg (fun h => hA h.1)])
    · have : j = n := by omega
      simp (disch := first | omega | exact tr_i rfl | (simp only [nx_push, nx_put]; done) | (simp only [nx_push, nx_put]; omega)) only [go_sem, Nat.reduceAdd, Nat.reduceMul, Nat.reduceSub, Nat.reduceLeDiff, Nat.reduceEqDiff, Nat.reduceShiftRight, Nat.reduceAnd, k1, hlt]
      rw [this] at hd
      exact hq H hd hfm
end Go.Di
end

section
/-
  Contracts: distances, whole.
-/
namespace Go.Di
open Go.Ev
variable {C : Nat → Ev.Call}
theorem D_I {call : Ev.Call} {n g db k : Nat} {s : AV} {H1 : Hp} {Q : AV → Hp → Prop} {q11 : Hp → R1} (hn : n ≤ 256) (hg : g < H1.nx) (hgd : g ≠ db) (hgv : H1.get g = mkBlk 0 [.int .i64 (.ofNat n), s]) (hdb : db < H1.nx)
    (hk : k < n) (d : List Int) (hl : d.length = n * n) (hB : ∀ i j, i < n → j ≤ n → Bnd (fJ n (fI n d k i) k i j))
    (hq : ∀ H, H.get db = mkBlk 0 (ints (fI n d k n)) → Fm (· = db) H1 H → Ok (q11 H) Q) :
    ∀ (f i : Nat) (H : Hp), i ≤ n → n - i < f → H.get db = mkBlk 0 (ints (fI n d k i)) → Fm (· = db) H1 H →
      Ok (ref16_Distance_l11 call q11 (.ptr g 0) (.sl db 0 (n * n) (n * n) true) (.int .i64 (.ofNat k)) f (.int .i64 (.ofNat i)) H) Q
  | 0, i, _, _, h, _, _ => by omega
  | f + 1, i, H, hi, hf, hd, hfm => by
    show Ok (ref16_Distance_b11 call _ _ _ _ (ref16_Distance_l11 call _ _ _ _ f) _ H) Q
    unfold ref16_Distance_b11
    have k1 : H.get g = mkBlk 0 [.int .i64 (.ofNat n), s] := (hfm.get g hg hgd).trans hgv
    by_cases hlt : i < n
    · simp (disch := first | omega | exact tr_i rfl | (simp only [nx_push, nx_put]; done) | (simp only [nx_push, nx_put]; omega)) only [go_sem, Nat.reduceAdd, Nat.reduceMul, Nat.reduceSub, Nat.reduceLeDiff, Nat.reduceEqDiff, Nat.reduceShiftRight, Nat.reduceAnd, k1, hlt]
      unfold ref16_Distance_j70 ref16_Distance_L14
      rw [fuelX_eq]
      refine D_J hn hg hgd hgv hdb hk hlt (fI n d k i) (by rw [fI_len]; exact hl) (fun j hj => hB i j hlt hj) (fun H' hd' f' => ?_) loopFuel 0 H (Nat.zero_le _) (by rw [loopFuel_eq]; omega) hd hfm
      unfold ref16_Distance_j13
      simp (disch := first | omega | exact tr_i rfl | (simp only [nx_push, nx_put]; done) | (simp only [nx_push, nx_put]; omega)) only [go_sem, Nat.reduceAdd, Nat.reduceMul, Nat.reduceSub, Nat.reduceLeDiff, Nat.reduceEqDiff, Nat.reduceShiftRight, Nat.reduceAnd]
      exact D_I hn hg hgd hgv hdb hk d hl hB hq f (i + 1) H' (by omega) (by omega) hd' f'
    · have : i = n := by omega
      simp (disch := first | omega | exact tr_i rfl | (simp only [nx_push, nx_put]; done) | (simp only [nx_push, nx_put]; omega)) only [go_sem, Nat.reduceAdd, Nat.reduceMul, Nat.reduceSub, Nat.reduceLeDiff, Nat.reduceEqDiff, Nat.reduceShiftRight, Nat.reduceAnd, k1, hlt]
      rw [this] at hd
      exact hq H hd hfm
theorem D_K {call : Ev.Call} {n g db : Nat} {s : AV} {H1 : Hp} {Q : AV → Hp → Prop} {q8 : Hp → R1} (hn : n ≤ 256) (hg : g < H1.nx) (hgd : g ≠ db) (hgv : H1.get g = mkBlk 0 [.int .i64 (.ofNat n), s]) (hdb : db < H1.nx)
    (d : List Int) (hl : d.length = n * n) (hB : ∀ k i j, k < n → i < n → j ≤ n → Bnd (fJ n (fI n (fK n d k) k i) k i j))
    (hq : ∀ H, H.get db = mkBlk 0 (ints (fK n d n)) → Fm (· = db) H1 H → Ok (q8 H) Q) :
    ∀ (f k : Nat) (H : Hp), k ≤ n → n - k < f → H.get db = mkBlk 0 (ints (fK n d k)) → Fm (· = db) H1 H →
      Ok (ref16_Distance_l8 call q8 (.ptr g 0) (.sl db 0 (n * n) (n * n) true) f (.int .i64 (.ofNat k)) H) Q
  | 0, k, _, _, h, _, _ => by omega
  | f + 1, k, H, hk, hf, hd, hfm => by
    show Ok (ref16_Distance_b8 call _ _ _ (ref16_Distance_l8 call _ _ _ f) _ H) Q
    unfold ref16_Distance_b8
    have k1 : H.get g = mkBlk 0 [.int .i64 (.ofNat n), s] := (hfm.get g hg hgd).trans hgv
    by_cases hlt : k < n
    · simp (disch := first | omega | exact tr_i rfl | (simp only [nx_push, nx_put]; done) | (simp only [nx_push, nx_put]; omega)) only [go_sem, Nat.reduceAdd, Nat.reduceMul, Nat.reduceSub, Nat.reduceLeDiff, Nat.reduceEqDiff, Nat.reduceShiftRight, Nat.reduceAnd, k1, hlt]
      unfold ref16_Distance_j74 ref16_Distance_L11
      rw [fuelX_eq]
      refine D_I hn hg hgd hgv hdb hlt (fK n d k) (by rw [fK_len]; exact hl) (fun i j hi hj => hB k i j hlt hi hj) (fun H' hd' f' => ?_) loopFuel 0 H (Nat.zero_le _) (by rw [loopFuel_eq]; omega) hd hfm
      unfold ref16_Distance_j10
      simp (disch := first | omega | exact tr_i rfl | (simp only [nx_push, nx_put]; done) | (simp only [nx_push, nx_put]; omega)) only [go_sem, Nat.reduceAdd, Nat.reduceMul, Nat.reduceSub, Nat.reduceLeDiff, Nat.reduceEqDiff, Nat.reduceShiftRight, Nat.reduceAnd]
      exact D_K hn hg hgd hgv hdb d hl hB hq f (k + 1) H' (by omega) (by omega) hd' f'
    · have : k = n := by omega
      simp (disch := first | omega | exact tr_i rfl | (simp only [nx_push, nx_put]; done) | (simp only [nx_push, nx_put]; omega)) only [go_sem, Nat.reduceAdd, Nat.reduceMul, Nat.reduceSub, Nat.reduceLeDiff, Nat.reduceEqDiff, Nat.reduceShiftRight, Nat.reduceAnd, k1, hlt]
      rw [this] at hd
      exact hq H hd hfm
theorem D_G {call : Ev.Call} {n g db : Nat} {s : AV} {H1 : Hp} {Q : AV → Hp → Prop} {q79 : Hp → R1} (hn : n ≤ 256) (hg : g < H1.nx) (hgd : g ≠ db) (hgv : H1.get g = mkBlk 0 [.int .i64 (.ofNat n), s]) (hdb : db < H1.nx)
    (d : List Int) (hl : d.length = n * n)
    (hq : ∀ H, H.get db = mkBlk 0 (ints (dg n d n)) → Fm (· = db) H1 H → Ok (q79 H) Q) :
    ∀ (f i : Nat) (H : Hp), i ≤ n → n - i < f → H.get db = mkBlk 0 (ints (dg n d i)) → Fm (· = db) H1 H →
      Ok (ref16_Distance_l79 call q79 (.ptr g 0) (.sl db 0 (n * n) (n * n) true) f (.int .i64 (.ofNat i)) H) Q
  | 0, i, _, _, h, _, _ => by omega
  | f + 1, i, H, hi, hf, hd, hfm => by
    show Ok (ref16_Distance_b79 call _ _ _ (ref16_Distance_l79 call _ _ _ f) _ H) Q
    unfold ref16_Distance_b79
    have k1 : H.get g = mkBlk 0 [.int .i64 (.ofNat n), s] := (hfm.get g hg hgd).trans hgv
    by_cases hlt : i < n
    · simp (disch := first | omega | exact tr_i rfl | (simp only [nx_push, nx_put]; done) | (simp only [nx_push, nx_put]; omega)) only [go_sem, Nat.reduceAdd, Nat.reduceMul, Nat.reduceSub, Nat.reduceLeDiff, Nat.reduceEqDiff, Nat.reduceShiftRight, Nat.reduceAnd, k1, hlt]
      unfold ref16_Distance_j88
      have hsq := sq_le hn
      have i1 := idx_lt hlt hlt
      have i2 : i * n + i + 1 ≤ n * n := i1
      have ln := dg_len n d i
      simp (disch := first | omega | exact tr_i rfl | (simp only [nx_push, nx_put]; done) | (simp only [nx_push, nx_put]; omega)) only [go_sem, Nat.reduceAdd, Nat.reduceMul, Nat.reduceSub, Nat.reduceLeDiff, Nat.reduceEqDiff, Nat.reduceShiftRight, Nat.reduceAnd, k1, hd, ints_len, ln, hl, i2, ints_set]
      unfold ref16_Distance_j81
      simp (disch := first | omega | exact tr_i rfl | (simp only [nx_push, nx_put]; done) | (simp only [nx_push, nx_put]; omega)) only [go_sem, Nat.reduceAdd, Nat.reduceMul, Nat.reduceSub, Nat.reduceLeDiff, Nat.reduceEqDiff, Nat.reduceShiftRight, Nat.reduceAnd]
      exact D_G hn hg hgd hgv hdb d hl hq f (i + 1) _ (by omega) (by omega) (get_put_same _ _ _) (by (repeat (first | exact Fm.refl _ _ | assumption | refine Fm.push ?_ _ | refine Fm.up2 ?_ (by (first | omega | (simp only [nx_push, nx_put]; omega))) | refine Fm.put_new ?_ _ _ (by (first | omega | (simp only [nx_push, nx_put]; omega))) | refine Fm.put ?_ _ _ (fun _ => rfl))))
    · have : i = n := by omega
      simp (disch := first | omega | exact tr_i rfl | (simp only [nx_push, nx_put]; done) | (simp only [nx_push, nx_put]; omega)) only [go_sem, Nat.reduceAdd, Nat.reduceMul, Nat.reduceSub, Nat.reduceLeDiff, Nat.reduceEqDiff, Nat.reduceShiftRight, Nat.reduceAnd, k1, hlt]
      rw [this] at hd
      exact hq H hd hfm
theorem D_1 {call : Ev.Call} {n g db mb : Nat} {ms : List Nat} {H1 : Hp} {Q : AV → Hp → Prop} {q93 : Hp → R1} (hn : n ≤ 256) (hg : g < H1.nx) (hgd : g ≠ db) (hgv : H1.get g = mkBlk 0 [.int .i64 (.ofNat n), .sl mb 0 (n * n) (n * n) true]) (hdb : db < H1.nx)
    (hmb : mb < H1.nx) (hmd : mb ≠ db) (hms : H1.get mb = mkBlk 0 (nats ms)) (hl : ms.length = n * n)
    (hq : ∀ H, H.get db = mkBlk 0 (ints (d1 ms)) → Fm (· = db) H1 H → Ok (q93 H) Q) :
    ∀ (f i : Nat) (d : List Int) (H : Hp), i ≤ n * n → n * n - i < f → d.length = n * n → (∀ p, p < i → d[p]? = (d1 ms)[p]?) → H.get db = mkBlk 0 (ints d) → Fm (· = db) H1 H →
      Ok (ref16_Distance_l93 call q93 (.ptr g 0) (.sl db 0 (n * n) (n * n) true) f (.int .i64 (.ofNat i)) H) Q
  | 0, i, _, _, _, h, _, _, _, _ => by omega
  | f + 1, i, d, H, hi, hf, hdl, hp, hd, hfm => by
    show Ok (ref16_Distance_b93 call _ _ _ (ref16_Distance_l93 call _ _ _ f) _ H) Q
    unfold ref16_Distance_b93
    have k1 : H.get g = mkBlk 0 [.int .i64 (.ofNat n), .sl mb 0 (n * n) (n * n) true] := (hfm.get g hg hgd).trans hgv
    have k2 : H.get mb = mkBlk 0 (nats ms) := (hfm.get mb hmb hmd).trans hms
    by_cases hlt : i < n * n
    · simp (disch := first | omega | exact tr_i rfl | (simp only [nx_push, nx_put]; done) | (simp only [nx_push, nx_put]; omega)) only [go_sem, Nat.reduceAdd, Nat.reduceMul, Nat.reduceSub, Nat.reduceLeDiff, Nat.reduceEqDiff, Nat.reduceShiftRight, Nat.reduceAnd, hlt]
      unfold ref16_Distance_j105
      have hsq := sq_le hn
      have i2 : i + 1 ≤ n * n := hlt
      have gm := nats_get ms i (by omega)
      have nxt : ∀ x : Int, (d1 ms)[i]? = some x → ∀ p, p < i + 1 → (d.set i x)[p]? = (d1 ms)[p]? := by
        intro x hx p hpi
        by_cases e : p = i
        · subst e; rw [List.getElem?_set_self (by omega), hx]
        · rw [List.getElem?_set_ne (fun h => e h.symm)]; exact hp p (by omega)
      have hd1 : (d1 ms)[i]? = some (if 0 < ms[i]'(by omega) then 1 else -1) := by
        unfold d1; rw [List.getElem?_map, List.getElem?_eq_getElem (by omega)]; rfl
      by_cases h0 : 0 < ms[i]'(by omega)
      · simp (disch := first | omega | exact tr_i rfl | (simp only [nx_push, nx_put]; done) | (simp only [nx_push, nx_put]; omega)) only [go_sem, Nat.reduceAdd, Nat.reduceMul, Nat.reduceSub, Nat.reduceLeDiff, Nat.reduceEqDiff, Nat.reduceShiftRight, Nat.reduceAnd, k1, k2, gm, h0, hd, ints_len, hdl, i2, ints_set, List.length_set]
        unfold ref16_Distance_j95
        simp (disch := first | omega | exact tr_i rfl | (simp only [nx_push, nx_put]; done) | (simp only [nx_push, nx_put]; omega)) only [go_sem, Nat.reduceAdd, Nat.reduceMul, Nat.reduceSub, Nat.reduceLeDiff, Nat.reduceEqDiff, Nat.reduceShiftRight, Nat.reduceAnd]
        rw [if_pos h0] at hd1
        have hset : setL (ints (d.set i (Int.negSucc 0))) i [.int .i64 (.ofNat 1)] = ints (d.set i 1) := by
          rw [ints_set _ _ _ (by rw [List.length_set]; omega), List.set_set]; rfl
        rw [hset]
        exact D_1 hn hg hgd hgv hdb hmb hmd hms hl hq f (i + 1) (d.set i 1) _ (by omega) (by omega) (by rw [List.length_set]; exact hdl) (nxt 1 hd1) (get_put_same _ _ _) (by (repeat (first | exact Fm.refl _ _ | assumption | refine Fm.push ?_ _ | refine Fm.up2 ?_ (by (first | omega | (simp only [nx_push, nx_put]; omega))) | refine Fm.put_new ?_ _ _ (by (first | omega | (simp only [nx_push, nx_put]; omega))) | refine Fm.put ?_ _ _ (fun _ => rfl))))
      · simp (disch := first | omega | exact tr_i rfl | (simp only [nx_push, nx_put]; done) | (simp only [nx_push, nx_put]; omega)) only [go_sem, Nat.reduceAdd, Nat.reduceMul, Nat.reduceSub, Nat.reduceLeDiff, Nat.reduceEqDiff, Nat.reduceShiftRight, Nat.reduceAnd, k1, k2, gm, h0, hd, ints_len, hdl, i2, ints_set]
        unfold ref16_Distance_j95
        simp (disch := first | omega | exact tr_i rfl | (simp only [nx_push, nx_put]; done) | (simp only [nx_push, nx_put]; omega)) only [go_sem, Nat.reduceAdd, Nat.reduceMul, Nat.reduceSub, Nat.reduceLeDiff, Nat.reduceEqDiff, Nat.reduceShiftRight, Nat.reduceAnd]
        rw [if_neg h0] at hd1
        exact D_1 hn hg hgd hgv hdb hmb hmd hms hl hq f (i + 1) (d.set i (Int.negSucc 0)) _ (by omega) (by omega) (by rw [List.length_set]; exact hdl) (nxt (-1) hd1) (get_put_same _ _ _) (by (repeat (first | exact Fm.refl _ _ | assumption | refine Fm.push ?_ _ | refine Fm.up2 ?_ (by (first | omega | (simp only [nx_push, nx_put]; omega))) | refine Fm.put_new ?_ _ _ (by (first | omega | (simp only [nx_push, nx_put]; omega))) | refine Fm.put ?_ _ _ (fun _ => rfl))))
    · have : i = n * n := by omega
      simp (disch := first | omega | exact tr_i rfl | (simp only [nx_push, nx_put]; done) | (simp only [nx_push, nx_put]; omega)) only [go_sem, Nat.reduceAdd, Nat.reduceMul, Nat.reduceSub, Nat.reduceLeDiff, Nat.reduceEqDiff, Nat.reduceShiftRight, Nat.reduceAnd, hlt]
      have : d = d1 ms := by
        apply List.ext_getElem?
        intro p
        by_cases h : p < n * n
        · exact hp p (by omega)
        · rw [List.getElem?_eq_none (by omega), List.getElem?_eq_none (by unfold d1; rw [List.length_map]; omega)]
      subst this
      exact hq H hd hfm
def DBnd (n : Nat) (ms : List Nat) : Prop := ∀ k i j, k < n → i < n → j ≤ n → Bnd (fJ n (fI n (fK n (dg n (d1 ms) n) k) k i) k i j)
theorem Distance_ok (hC : Links C) {k : Nat} (hk : 1 ≤ k) {n mb : Nat} {ms : List Nat} {mv : AV} {H : Hp} (hM : IsM H mv mb n ms) (hB : DBnd n ms) :
    Ok (C k (.f id_ref16_Distance) [mv] H) fun r H' => r = .sl (H.nx + 1) 0 (n * n) (n * n) true ∧ H'.get (H.nx + 1) = mkBlk 0 (ints (dist n ms)) ∧ H.nx + 1 < H'.nx ∧ Fm No H H' := by
  obtain ⟨j, rfl⟩ : ∃ j, k = j + 1 := ⟨k - 1, by omega⟩
  have hr := hM.hv
  subst hr
  rw [(hC j).ref16_Distance]
  unfold ref16_Distance ref16_Distance_c ref16_Distance_L93
  have hn := hM.ok.hn
  have hsq := sq_le hn
  have hrep : reps [.int .i64 (.ofNat 0)] (n * n) = ints (List.replicate (n * n) 0) := by rw [reps_one]; simp [ints]
  simp (disch := first | omega | exact tr_i rfl | (simp only [nx_push, nx_put]; done) | (simp only [nx_push, nx_put]; omega)) only [go_sem, Nat.reduceAdd, Nat.reduceMul, Nat.reduceSub, Nat.reduceLeDiff, Nat.reduceEqDiff, Nat.reduceShiftRight, Nat.reduceAnd, makeSl_nn, hrep]
  rw [fuelX_eq]
  have hmb := hM.lt
  have fH : Fm No H (pushH (pushH H (mkBlk 0 [.int .i64 (.ofNat n), .sl mb 0 (n * n) (n * n) true])) (mkBlk 0 (ints (List.replicate (n * n) 0)))) := by (repeat (first | exact Fm.refl _ _ | assumption | refine Fm.push ?_ _ | refine Fm.up2 ?_ (by (first | omega | (simp only [nx_push, nx_put]; omega))) | refine Fm.put_new ?_ _ _ (by (first | omega | (simp only [nx_push, nx_put]; omega)))))
  refine D_1 (H1 := pushH (pushH H (mkBlk 0 [.int .i64 (.ofNat n), .sl mb 0 (n * n) (n * n) true])) (mkBlk 0 (ints (List.replicate (n * n) 0)))) (mb := mb) (ms := ms) hn (by (first | omega | (simp only [nx_push, nx_put]; omega))) (by omega) (by simp (disch := first | omega | exact tr_i rfl | (simp only [nx_push, nx_put]; done) | (simp only [nx_push, nx_put]; omega)) only [go_sem, Nat.reduceAdd, Nat.reduceMul, Nat.reduceSub, Nat.reduceLeDiff, Nat.reduceEqDiff, Nat.reduceShiftRight, Nat.reduceAnd]) (by (first | omega | (simp only [nx_push, nx_put]; omega))) (by (first | omega | (simp only [nx_push, nx_put]; omega))) (by omega) (by have := hM.get; simp (disch := first | omega | exact tr_i rfl | (simp only [nx_push, nx_put]; done) | (simp only [nx_push, nx_put]; omega)) only [go_sem, Nat.reduceAdd, Nat.reduceMul, Nat.reduceSub, Nat.reduceLeDiff, Nat.reduceEqDiff, Nat.reduceShiftRight, Nat.reduceAnd, this]) hM.ok.len (fun H2 hd2 f2 => ?_) loopFuel 0 (List.replicate (n * n) 0) _ (Nat.zero_le _) (by rw [loopFuel_eq]; omega) List.length_replicate (fun p hp => by omega) (get_push_new _ _) (Fm.refl _ _)
  unfold ref16_Distance_j92 ref16_Distance_L79
  rw [fuelX_eq]
  refine D_G (s := .sl mb 0 (n * n) (n * n) true) (H1 := pushH (pushH H (mkBlk 0 [.int .i64 (.ofNat n), .sl mb 0 (n * n) (n * n) true])) (mkBlk 0 (ints (List.replicate (n * n) 0)))) hn (by (first | omega | (simp only [nx_push, nx_put]; omega))) (by omega) (by simp (disch := first | omega | exact tr_i rfl | (simp only [nx_push, nx_put]; done) | (simp only [nx_push, nx_put]; omega)) only [go_sem, Nat.reduceAdd, Nat.reduceMul, Nat.reduceSub, Nat.reduceLeDiff, Nat.reduceEqDiff, Nat.reduceShiftRight, Nat.reduceAnd]) (by (first | omega | (simp only [nx_push, nx_put]; omega))) (d1 ms) (by unfold d1; rw [List.length_map]; exact hM.ok.len) (fun H3 hd3 f3 => ?_) loopFuel 0 _ (Nat.zero_le _) (by rw [loopFuel_eq]; omega) hd2 f2
  unfold ref16_Distance_j78 ref16_Distance_L8
  rw [fuelX_eq]
  refine D_K (s := .sl mb 0 (n * n) (n * n) true) (H1 := pushH (pushH H (mkBlk 0 [.int .i64 (.ofNat n), .sl mb 0 (n * n) (n * n) true])) (mkBlk 0 (ints (List.replicate (n * n) 0)))) hn (by (first | omega | (simp only [nx_push, nx_put]; omega))) (by omega) (by simp (disch := first | omega | exact tr_i rfl | (simp only [nx_push, nx_put]; done) | (simp only [nx_push, nx_put]; omega)) only [go_sem, Nat.reduceAdd, Nat.reduceMul, Nat.reduceSub, Nat.reduceLeDiff, Nat.reduceEqDiff, Nat.reduceShiftRight, Nat.reduceAnd]) (by (first | omega | (simp only [nx_push, nx_put]; omega))) (dg n (d1 ms) n) (by rw [dg_len]; unfold d1; rw [List.length_map]; exact hM.ok.len) hB (fun H4 hd4 f4 => ?_) loopFuel 0 _ (Nat.zero_le _) (by rw [loopFuel_eq]; omega) hd3 f3
  unfold ref16_Distance_j7
  have n4 := f4.nx
  have n4' : H.nx + 1 + 1 ≤ H4.nx := n4
  exact Ok.ret ⟨rfl, hd4, by omega, fH.then f4 fun c hc h => by omega⟩
end Go.Di
end

section
/-
  Contracts: the path of the reference.
-/
namespace Go.Di
open Go.Ev
variable {C : Nat → Ev.Call}
theorem sub_int (a b : Int) (h1 : -9223372036854775808 ≤ a - b) (h2 : a - b < 9223372036854775808) : intV (intBin .sub).f (.int .i64 a) (.int .i64 b) = .val (.int .i64 (a - b)) := by
  rw [sub_ii, awrap_i64 _ h1 h2]
def Nx (n : Nat) (ms : List Nat) (d : List Int) (b a k : Nat) : Prop := 0 < ms.getD (a * n + k) 0 ∧ 0 ≤ d.getD (k * n + b) 0 ∧ d.getD (k * n + b) 0 = d.getD (a * n + b) 0 - 1
structure IsNext (n : Nat) (ms : List Nat) (d : List Int) (b a x : Nat) : Prop where
  lt : x < n
  is : Nx n ms d b a x
  least : ∀ k, k < x → ¬ Nx n ms d b a k
inductive Gp (n : Nat) (ms : List Nat) (d : List Int) (b : Nat) : Nat → List Nat → Prop
  | nil : Gp n ms d b b []
  | cons {a x : Nat} {l : List Nat} : a ≠ b → IsNext n ms d b a x → Gp n ms d b x l → Gp n ms d b a (x :: l)
theorem P_in {call : Ev.Call} {n g db mb a b : Nat} {ms : List Nat} {d : List Int} {H : Hp} {Q : AV → Hp → Prop} {q9 : AV → Hp → R1} (hM : MOk n ms) (hgv : H.get g = mkBlk 0 [.int .i64 (.ofNat n), .sl mb 0 (n * n) (n * n) true])
    (hms : H.get mb = mkBlk 0 (nats ms)) (hd : H.get db = mkBlk 0 (ints d)) (hdl : d.length = n * n) (hB : Bnd d) (ha : a < n) (hb : b < n) {x : Nat} (hx : IsNext n ms d b a x) (hq : Ok (q9 (.int .i64 (.ofNat x)) H) Q) :
    ∀ (f k : Nat), k ≤ x → n - k + 1 < f → Ok (ref16_Path_l9 call q9 (.int .i64 (.ofNat a)) (.int .i64 (.ofNat b)) (.ptr g 0) (.sl db 0 (n * n) (n * n) true) f (.int .i64 (.negSucc 0)) (.int .i64 (.ofNat k)) H) Q
  | 0, k, _, h => by omega
  | f + 1, k, hk, hf => by
    have hlt : k < n := by have := hx.lt; omega
    show Ok (ref16_Path_b9 call _ _ _ _ _ (ref16_Path_l9 call _ _ _ _ _ f) _ _ H) Q
    unfold ref16_Path_b9
    simp (disch := first | omega | exact tr_i rfl | (simp only [nx_push, nx_put]; done) | (simp only [nx_push, nx_put]; omega)) only [go_sem, Nat.reduceAdd, Nat.reduceMul, Nat.reduceSub, Nat.reduceLeDiff, Nat.reduceEqDiff, Nat.reduceShiftRight, Nat.reduceAnd, hgv, hlt]
    unfold ref16_Path_j53
    have hsq := sq_le hM.hn
    have hml := hM.len
    have i1 := idx_lt ha hlt
    have i2 := idx_lt hlt hb
    have i3 := idx_lt ha hb
    have gm : (nats ms)[a * n + k]? = some (.int .i64 (.ofNat (ms.getD (a * n + k) 0))) := by
      rw [nats_get _ _ (by omega)]; simp [List.getD_eq_getElem?_getD, show a * n + k < ms.length by omega]
    have gA := ints_getD d (k * n + b) (by omega)
    have gB := ints_getD d (a * n + b) (by omega)
    have bA := hB (k * n + b)
    have bB := hB (a * n + b)
    have stop : ∀ r : Nat, r = x → Ok (ref16_Path_l9 call q9 (.int .i64 (.ofNat a)) (.int .i64 (.ofNat b)) (.ptr g 0) (.sl db 0 (n * n) (n * n) true) f (.int .i64 (.ofNat r)) (.int .i64 (.ofNat (k + 1))) H) Q := by
      intro r hr
      subst hr
      cases f with
      | zero => omega
      | succ f =>
        show Ok (ref16_Path_b9 call _ _ _ _ _ (ref16_Path_l9 call _ _ _ _ _ f) _ _ H) Q
        unfold ref16_Path_b9
        by_cases h : k + 1 < n
        · simp (disch := first | omega | exact tr_i rfl | (simp only [nx_push, nx_put]; done) | (simp only [nx_push, nx_put]; omega)) only [go_sem, Nat.reduceAdd, Nat.reduceMul, Nat.reduceSub, Nat.reduceLeDiff, Nat.reduceEqDiff, Nat.reduceShiftRight, Nat.reduceAnd, hgv, h, Nat.not_lt_zero]
          exact hq
        · simp (disch := first | omega | exact tr_i rfl | (simp only [nx_push, nx_put]; done) | (simp only [nx_push, nx_put]; omega)) only [go_sem, Nat.reduceAdd, Nat.reduceMul, Nat.reduceSub, Nat.reduceLeDiff, Nat.reduceEqDiff, Nat.reduceShiftRight, Nat.reduceAnd, hgv, h]
          exact hq
    have go : ¬ Nx n ms d b a k → Ok (ref16_Path_l9 call q9 (.int .i64 (.ofNat a)) (.int .i64 (.ofNat b)) (.ptr g 0) (.sl db 0 (n * n) (n * n) true) f (.int .i64 (.negSucc 0)) (.int .i64 (.ofNat (k + 1))) H) Q := by
      intro hne
      have : k ≠ x := fun e => hne (e ▸ hx.is)
      exact P_in hM hgv hms hd hdl hB ha hb hx hq f (k + 1) (by omega) (by omega)
    have hsub : intV (intBin .sub).f (.int .i64 (d.getD (a * n + b) 0)) (.int .i64 (.ofNat 1)) = .val (.int .i64 (d.getD (a * n + b) 0 - Int.ofNat 1)) :=
      sub_int _ _ (by simp only [Int.ofNat_eq_natCast]; omega) (by simp only [Int.ofNat_eq_natCast]; omega)
    by_cases h1 : 0 < ms.getD (a * n + k) 0
    · by_cases h2 : Int.ofNat 0 ≤ d.getD (k * n + b) 0
      · by_cases h3 : d.getD (k * n + b) 0 = d.getD (a * n + b) 0 - Int.ofNat 1
        · have h3' : (d.getD (k * n + b) 0 = d.getD (a * n + b) 0 - Int.ofNat 1) = True := eq_true h3
          simp (disch := first | omega | exact tr_i rfl | (simp only [nx_push, nx_put]; done) | (simp only [nx_push, nx_put]; omega)) only [go_sem, Nat.reduceAdd, Nat.reduceMul, Nat.reduceSub, Nat.reduceLeDiff, Nat.reduceEqDiff, Nat.reduceShiftRight, Nat.reduceAnd, hgv, hms, hd, gm, gA, gB, h1, h2, h3', hsub]
          unfold ref16_Path_j11
          simp (disch := first | omega | exact tr_i rfl | (simp only [nx_push, nx_put]; done) | (simp only [nx_push, nx_put]; omega)) only [go_sem, Nat.reduceAdd, Nat.reduceMul, Nat.reduceSub, Nat.reduceLeDiff, Nat.reduceEqDiff, Nat.reduceShiftRight, Nat.reduceAnd]
          refine stop k ?_
          rcases Nat.lt_trichotomy k x with h | h | h
          · exact absurd ⟨h1, h2, h3⟩ (hx.least k h)
          · exact h
          · omega
        · have h3' : (d.getD (k * n + b) 0 = d.getD (a * n + b) 0 - Int.ofNat 1) = False := eq_false h3
          simp (disch := first | omega | exact tr_i rfl | (simp only [nx_push, nx_put]; done) | (simp only [nx_push, nx_put]; omega)) only [go_sem, Nat.reduceAdd, Nat.reduceMul, Nat.reduceSub, Nat.reduceLeDiff, Nat.reduceEqDiff, Nat.reduceShiftRight, Nat.reduceAnd, hgv, hms, hd, gm, gA, gB, h1, h2, h3', hsub]
          unfold ref16_Path_j11
          simp (disch := first | omega | exact tr_i rfl | (simp only [nx_push, nx_put]; done) | (simp only [nx_push, nx_put]; omega)) only [go_sem, Nat.reduceAdd, Nat.reduceMul, Nat.reduceSub, Nat.reduceLeDiff, Nat.reduceEqDiff, Nat.reduceShiftRight, Nat.reduceAnd]
          exact go fun h => h3 h.2.2
      · simp (disch := first | omega | exact tr_i rfl | (simp only [nx_push, nx_put]; done) | (simp only [nx_push, nx_put]; omega)) only [go_sem, Nat.reduceAdd, Nat.reduceMul, Nat.reduceSub, Nat.reduceLeDiff, Nat.reduceEqDiff, Nat.reduceShiftRight, Nat.reduceAnd, hgv, hms, hd, gm, gA, gB, h1, h2]
        unfold ref16_Path_j11
        simp (disch := first | omega | exact tr_i rfl | (simp only [nx_push, nx_put]; done) | (simp only [nx_push, nx_put]; omega)) only [go_sem, Nat.reduceAdd, Nat.reduceMul, Nat.reduceSub, Nat.reduceLeDiff, Nat.reduceEqDiff, Nat.reduceShiftRight, Nat.reduceAnd]
        exact go fun h => h2 h.2.1
    · simp (disch := first | omega | exact tr_i rfl | (simp only [nx_push, nx_put]; done) | (simp only [nx_push, nx_put]; omega)) only [go_sem, Nat.reduceAdd, Nat.reduceMul, Nat.reduceSub, Nat.reduceLeDiff, Nat.reduceEqDiff, Nat.reduceShiftRight, Nat.reduceAnd, hgv, hms, hd, gm, gA, gB, h1]
      unfold ref16_Path_j11
      simp (disch := first | omega | exact tr_i rfl | (simp only [nx_push, nx_put]; done) | (simp only [nx_push, nx_put]; omega)) only [go_sem, Nat.reduceAdd, Nat.reduceMul, Nat.reduceSub, Nat.reduceLeDiff, Nat.reduceEqDiff, Nat.reduceShiftRight, Nat.reduceAnd]
      exact go fun h => h1 h.1
theorem P_out {call : Ev.Call} {n g db mb b : Nat} {ms : List Nat} {d : List Int} {H1 : Hp} {Q : AV → Hp → Prop} {q5 : AV → Hp → R1} (hM : MOk n ms) (hg : g < H1.nx) (hgv : H1.get g = mkBlk 0 [.int .i64 (.ofNat n), .sl mb 0 (n * n) (n * n) true])
    (hmb : mb < H1.nx) (hms : H1.get mb = mkBlk 0 (nats ms)) (hdb : db < H1.nx) (hd : H1.get db = mkBlk 0 (ints d)) (hdl : d.length = n * n) (hB : Bnd d) (hb : b < n) (o : List Nat)
    (hq : ∀ w H, Gl 1 H w o.length (nats o) → Fm No H1 H → (∀ b, In w b → H1.nx ≤ b) → Ok (q5 w H) Q) :
    ∀ (f : Nat) (l o' : List Nat) (a : Nat) (w : AV) (H : Hp), Gp n ms d b a l → l.length < f → o = o' ++ l → o.length < 100000 → a < n → Gl 1 H w o'.length (nats o') → Fm No H1 H → (∀ b, In w b → H1.nx ≤ b) →
      Ok (ref16_Path_l5 call q5 (.int .i64 (.ofNat b)) (.ptr g 0) (.sl db 0 (n * n) (n * n) true) f (.int .i64 (.ofNat a)) w H) Q
  | 0, _, _, _, _, _, _, h, _, _, _, _, _, _ => by omega
  | f + 1, l, o', a, w, H, hgp, hf, ho, hsz, ha, hw, hfm, hwn => by
    show Ok (ref16_Path_b5 call _ _ _ _ (ref16_Path_l5 call _ _ _ _ f) _ _ H) Q
    unfold ref16_Path_b5
    cases hgp with
    | nil =>
      simp (disch := first | omega | exact tr_i rfl | (simp only [nx_push, nx_put]; done) | (simp only [nx_push, nx_put]; omega)) only [go_sem, Nat.reduceAdd, Nat.reduceMul, Nat.reduceSub, Nat.reduceLeDiff, Nat.reduceEqDiff, Nat.reduceShiftRight, Nat.reduceAnd]
      have : o = o' := by rw [ho, List.append_nil]
      subst this
      exact hq w H hw hfm hwn
    | @cons _ x l' hne hx hgp' =>
      simp (disch := first | omega | exact tr_i rfl | (simp only [nx_push, nx_put]; done) | (simp only [nx_push, nx_put]; omega)) only [go_sem, Nat.reduceAdd, Nat.reduceMul, Nat.reduceSub, Nat.reduceLeDiff, Nat.reduceEqDiff, Nat.reduceShiftRight, Nat.reduceAnd, hne]
      unfold ref16_Path_j60 ref16_Path_L9
      rw [fuelX_eq]
      have hn := hM.hn
      refine P_in hM ((hfm.keep hg).trans hgv) ((hfm.keep hmb).trans hms) ((hfm.keep hdb).trans hd) hdl hB ha hb hx ?_ loopFuel 0 (Nat.zero_le _) (by rw [loopFuel_eq]; omega)
      unfold ref16_Path_j8
      simp (disch := first | omega | exact tr_i rfl | (simp only [nx_push, nx_put]; done) | (simp only [nx_push, nx_put]; omega)) only [go_sem, Nat.reduceAdd, Nat.reduceMul, Nat.reduceSub, Nat.reduceLeDiff, Nat.reduceEqDiff, Nat.reduceShiftRight, Nat.reduceAnd]
      have hol : o.length = o'.length + (l'.length + 1) := by rw [ho]; simp
      have fH : Fm No H (pushH H (mkBlk 0 [.int .i64 (.ofNat x)])) := by (repeat (first | exact Fm.refl _ _ | assumption | refine Fm.push ?_ _ | refine Fm.up2 ?_ (by (first | omega | (simp only [nx_push, nx_put]; omega))) | refine Fm.put_new ?_ _ _ (by (first | omega | (simp only [nx_push, nx_put]; omega)))))
      obtain ⟨H', e, gl', _, fm', nx'⟩ := (hw.no fH).append (k := 1) (w := 8) (x := [.int .i64 (.ofNat x)]) (by omega) rfl (by omega) (by omega)
      refine Ok.veE e ?_
      rw [nats_app] at gl'
      have hl2 : (o' ++ [x]).length = o'.length + 1 := by simp
      have hnx := hfm.nx
      refine P_out hM hg hgv hmb hms hdb hd hdl hB hb o hq f l' (o' ++ [x]) x _ H' hgp' (by simp at hf; omega) (by rw [ho]; simp) hsz hx.lt (by rw [hl2]; exact gl') ((hfm.trans fH).then fm' fun c hc h => by have := hwn c h; omega) (fun b hb => ?_)
      obtain ⟨_, _, _, _, h⟩ := hb
      cases h
      show H1.nx ≤ H.nx + 1
      omega
theorem refPath_ok (hC : Links C) {k : Nat} (hk : 2 ≤ k) {n mb a b : Nat} {ms : List Nat} {mv : AV} {H : Hp} (hM : IsM H mv mb n ms) (hB : DBnd n ms) (hB2 : Bnd (dist n ms)) (hdl : (dist n ms).length = n * n) (ha : a < n) (hb : b < n) {Q : AV → Hp → Prop}
    (h8 : (dist n ms).getD (a * n + b) 0 < 0 → ∀ H', Fm No H H' → Q .nilsl H')
    (h0 : ¬ (dist n ms).getD (a * n + b) 0 < 0 → ∃ l, Gp n ms (dist n ms) b a l ∧ l.length < 1000 ∧ ∀ w H', Gl 1 H' w (a :: l).length (nats (a :: l)) → Fm No H H' → (∀ b, In w b → H.nx ≤ b) → Q w H') :
    Ok (C k (.f id_ref16_Path) [mv, .int .i64 (.ofNat a), .int .i64 (.ofNat b)] H) Q := by
  obtain ⟨j, rfl⟩ : ∃ j, k = j + 1 := ⟨k - 1, by omega⟩
  have hr := hM.hv
  subst hr
  rw [(hC j).ref16_Path]
  unfold ref16_Path ref16_Path_c
  have hn := hM.ok.hn
  have hsq := sq_le hn
  have i1 := idx_lt ha hb
  have fH : Fm No H (pushH H (mkBlk 0 [.int .i64 (.ofNat n), .sl mb 0 (n * n) (n * n) true])) := by (repeat (first | exact Fm.refl _ _ | assumption | refine Fm.push ?_ _ | refine Fm.up2 ?_ (by (first | omega | (simp only [nx_push, nx_put]; omega))) | refine Fm.put_new ?_ _ _ (by (first | omega | (simp only [nx_push, nx_put]; omega)))))
  simp (disch := first | omega | exact tr_i rfl | (simp only [nx_push, nx_put]; done) | (simp only [nx_push, nx_put]; omega)) only [go_sem, Nat.reduceAdd, Nat.reduceMul, Nat.reduceSub, Nat.reduceLeDiff, Nat.reduceEqDiff, Nat.reduceShiftRight, Nat.reduceAnd]
  refine Ok.ve (Distance_ok hC (by omega) (hM.fm fH) hB) ?_
  rintro r H1 ⟨rfl, hd, hdn, f1⟩
  have k1 : H1.get H.nx = mkBlk 0 [.int .i64 (.ofNat n), .sl mb 0 (n * n) (n * n) true] := (f1.keep (by (first | omega | (simp only [nx_push, nx_put]; omega)))).trans (get_push_new _ _)
  have hd' : H1.get (H.nx + 1 + 1) = mkBlk 0 (ints (dist n ms)) := hd
  have hdn' : H.nx + 1 + 1 < H1.nx := hdn
  have gA := ints_getD (dist n ms) (a * n + b) (by omega)
  have f2 := fH.trans f1
  by_cases hneg : (dist n ms).getD (a * n + b) 0 < Int.ofNat 0
  · simp (disch := first | omega | exact tr_i rfl | (simp only [nx_push, nx_put]; done) | (simp only [nx_push, nx_put]; omega)) only [go_sem, Nat.reduceAdd, Nat.reduceMul, Nat.reduceSub, Nat.reduceLeDiff, Nat.reduceEqDiff, Nat.reduceShiftRight, Nat.reduceAnd, k1, hd', gA, hneg]
    exact Ok.ret (h8 hneg H1 f2)
  · simp (disch := first | omega | exact tr_i rfl | (simp only [nx_push, nx_put]; done) | (simp only [nx_push, nx_put]; omega)) only [go_sem, Nat.reduceAdd, Nat.reduceMul, Nat.reduceSub, Nat.reduceLeDiff, Nat.reduceEqDiff, Nat.reduceShiftRight, Nat.reduceAnd, k1, hd', gA, hneg]
    obtain ⟨l, hgp, hll, hQ⟩ := h0 hneg
    unfold ref16_Path_j62 ref16_Path_L5
    simp (disch := first | omega | exact tr_i rfl | (simp only [nx_push, nx_put]; done) | (simp only [nx_push, nx_put]; omega)) only [go_sem, Nat.reduceAdd, Nat.reduceMul, Nat.reduceSub, Nat.reduceLeDiff, Nat.reduceEqDiff, Nat.reduceShiftRight, Nat.reduceAnd]
    rw [fuelX_eq]
    refine P_out (H1 := H1) hM.ok (by omega) k1 (Nat.lt_of_lt_of_le hM.lt f2.nx) ((f2.keep hM.lt).trans hM.get) hdn' hd' hdl hB2 hb (a :: l) (fun w H2 gw f3 hw => ?_) loopFuel l [a] a _ _ hgp (by rw [loopFuel_eq]; omega) rfl (by simp; omega) ha ⟨rfl, .inr ⟨_, 0, true, 0, _, rfl, get_push_new _ _, Nat.zero_le _, rfl, .inl rfl, by (first | omega | (simp only [nx_push, nx_put]; omega))⟩⟩ ((Fm.refl _ _).push _) (fun b hb => ?_)
    · unfold ref16_Path_j4
      have := f2.nx
      exact Ok.ret (hQ w H2 gw (f2.trans f3) fun b hb => by have := hw b hb; omega)
    · obtain ⟨_, _, _, _, h⟩ := hb
      cases h; exact Nat.le_refl _
end Go.Di
end

section
/-
  Contracts: the law on paths.
-/
namespace Go.Di
open Go.Ev
variable {C : Nat → Ev.Call}
def wantL (n : Nat) (d : List Int) (a : Nat) (i : Nat) : List Nat := (List.range i).filter fun k => !decide (d.getD (a * n + k) 0 < 0)
theorem wantL_succ (n : Nat) (d : List Int) (a i : Nat) : wantL n d a (i + 1) = wantL n d a i ++ (if d.getD (a * n + i) 0 < 0 then [] else [i]) := by
  unfold wantL
  rw [List.range_succ, List.filter_append]
  by_cases h : d.getD (a * n + i) 0 < 0
  · rw [if_pos h, List.filter_cons, if_neg (by simp only [h, decide_true, Bool.not_true]; exact Bool.false_ne_true)]; rfl
  · rw [if_neg h, List.filter_cons, if_pos (by simp only [h, decide_false, Bool.not_false])]; rfl
theorem wantL_len (n : Nat) (d : List Int) (a i : Nat) : (wantL n d a i).length ≤ i := by
  unfold wantL
  exact Nat.le_trans (List.length_filter_le _ _) (by rw [List.length_range]; exact Nat.le_refl _)
/-- what is to be shown of graphs without any program -/
structure PathsPure (n : Nat) (ms : List Nat) : Prop where
  bnd : DBnd n ms
  bnd2 : Bnd (dist n ms)
  walk : ∀ a, a < n → ∃ m, WOk n (edgesOf n ms) a m ∧ reachL (bfs (edgesOf n ms) m (startW a)) 256 = wantL n (dist n ms) a n ∧
    ∀ b, b < n → ((bfs (edgesOf n ms) m (startW a)).getD b 0 < 0 ↔ (dist n ms).getD (a * n + b) 0 < 0) ∧
      (¬ (dist n ms).getD (a * n + b) 0 < 0 → ∃ l l', Ch (bfs (edgesOf n ms) m (startW a)) a (b :: l) ∧ l.length < 1000 ∧ Gp n ms (dist n ms) b a l' ∧ (b :: l).reverse = a :: l')
theorem Gl.ints {H : Hp} {w : AV} {p : List Nat} {n : Nat} (h : Gl 1 H w n (nats p)) : Gl 1 H w (p.map Int.ofNat).length (Di.ints (p.map Int.ofNat)) := by
  have := h.len
  rw [nats_len, Nat.mul_one] at this
  rw [List.length_map, ints_nats, this]; exact h
/-- what the loops of the law find -/
structure LawEnv (H : Hp) (n : Nat) (ms : List Nat) (a3 a7 mb db : Nat) (w : AV) : Prop where
  m : H.get a3 = mkBlk 0 [.int .i64 (.ofNat n), .sl mb 0 (n * n) (n * n) true]
  ml : a3 < H.nx
  g : H.get a7 = mkBlk 0 [.int .i64 (.ofNat n), w]
  gl : a7 < H.nx
  mm : H.get mb = mkBlk 0 (nats ms)
  mml : mb < H.nx
  d : H.get db = mkBlk 0 (ints (dist n ms))
  dl : db < H.nx
  e : IsE H w (edgesOf n ms)
  ok : MOk n ms
  dlen : (dist n ms).length = n * n
theorem LawEnv.fm {H H' : Hp} {n : Nat} {ms : List Nat} {a3 a7 mb db : Nat} {w : AV} (E : LawEnv H n ms a3 a7 mb db w) (f : Fm No H H') : LawEnv H' n ms a3 a7 mb db w :=
  ⟨(f.keep E.ml).trans E.m, Nat.lt_of_lt_of_le E.ml f.nx, (f.keep E.gl).trans E.g, Nat.lt_of_lt_of_le E.gl f.nx, (f.keep E.mml).trans E.mm, Nat.lt_of_lt_of_le E.mml f.nx, (f.keep E.dl).trans E.d, Nat.lt_of_lt_of_le E.dl f.nx, E.e.fm f, E.ok, E.dlen⟩
theorem Law_in (hC : Links C) {j : Nat} (hj : 6 ≤ j) {n a3 a7 mb db a : Nat} {ms : List Nat} {wv : AV} {H1 : Hp} {Q : AV → Hp → Prop} {q61r q61e : AV → Hp → R1} (hP : PathsPure n ms) (E : LawEnv H1 n ms a3 a7 mb db wv) (ha : a < n)
    (hq : ∀ w H, Gl 1 H w (wantL n (dist n ms) a n).length (nats (wantL n (dist n ms) a n)) → Fm No H1 H → (∀ b, In w b → H1.nx ≤ b) → Ok (q61e w H) Q) :
    ∀ (f k : Nat) (w : AV) (H : Hp), k ≤ n → n - k < f → Gl 1 H w (wantL n (dist n ms) a k).length (nats (wantL n (dist n ms) a k)) → Fm No H1 H → (∀ b, In w b → H1.nx ≤ b) →
      Ok (law16_GraphsPaths_l61 (C j) q61r q61e (.ptr a3 0) (.ptr a7 0) (.sl db 0 (n * n) (n * n) true) (.int .i64 (.ofNat a)) f w (.int .i64 (.ofNat k)) H) Q
  | 0, k, _, _, _, h, _, _, _ => by omega
  | f + 1, k, w, H, hk, hf, hw, hfm, hwn => by
    show Ok (law16_GraphsPaths_b61 (C j) _ _ _ _ _ _ (law16_GraphsPaths_l61 (C j) _ _ _ _ _ _ f) _ _ H) Q
    unfold law16_GraphsPaths_b61
    have E1 := E.fm hfm
    have hn := E.ok.hn
    have hsq := sq_le hn
    by_cases hlt : k < n
    · simp (disch := first | omega | exact tr_i rfl | (simp only [nx_push, nx_put]; done) | (simp only [nx_push, nx_put]; omega)) only [go_sem, Nat.reduceAdd, Nat.reduceMul, Nat.reduceSub, Nat.reduceLeDiff, Nat.reduceEqDiff, Nat.reduceShiftRight, Nat.reduceAnd, E1.m, hlt]
      unfold law16_GraphsPaths_j90
      have i1 := idx_lt ha hlt
      have gD := ints_getD (dist n ms) (a * n + k) (by rw [E.dlen]; exact i1)
      obtain ⟨m, W, hr, hab⟩ := hP.walk a ha
      obtain ⟨hiff, hpath⟩ := hab k hlt
      have rest : ∀ (w : AV) (H : Hp), Gl 1 H w (wantL n (dist n ms) a (k + 1)).length (nats (wantL n (dist n ms) a (k + 1))) → Fm No H1 H → (∀ b, In w b → H1.nx ≤ b) →
          Ok (law16_GraphsPaths_j80 (C j) q61r (law16_GraphsPaths_l61 (C j) q61r q61e (.ptr a3 0) (.ptr a7 0) (.sl db 0 (n * n) (n * n) true) (.int .i64 (.ofNat a)) f) (.ptr a3 0) (.ptr a7 0) (.sl db 0 (n * n) (n * n) true) (.int .i64 (.ofNat a)) w (.int .i64 (.ofNat k)) H) Q := by
        intro w H hw hfm hwn
        unfold law16_GraphsPaths_j80
        have E1 := E.fm hfm
        simp (disch := first | omega | exact tr_i rfl | (simp only [nx_push, nx_put]; done) | (simp only [nx_push, nx_put]; omega)) only [go_sem, Nat.reduceAdd, Nat.reduceMul, Nat.reduceSub, Nat.reduceLeDiff, Nat.reduceEqDiff, Nat.reduceShiftRight, Nat.reduceAnd, E1.g]
        by_cases hneg : (dist n ms).getD (a * n + k) 0 < 0
        · refine Ok.ve (Path_ok hC hj E1.e W ha hlt (Q := fun r H' => r = .tup [.nilsl, .int .i64 (.ofNat 8)] ∧ Fm No H H') (fun _ H' f' => ⟨rfl, f'⟩) (fun h => absurd (hiff.2 hneg) h)) ?_
          rintro r H2 ⟨rfl, f2⟩
          have E2 := E1.fm f2
          have hneg' : (dist n ms).getD (a * n + k) 0 < Int.ofNat 0 := hneg
          simp (disch := first | omega | exact tr_i rfl | (simp only [nx_push, nx_put]; done) | (simp only [nx_push, nx_put]; omega)) only [go_sem, Nat.reduceAdd, Nat.reduceMul, Nat.reduceSub, Nat.reduceLeDiff, Nat.reduceEqDiff, Nat.reduceShiftRight, Nat.reduceAnd, E2.m, E2.d, gD, hneg']
          unfold law16_GraphsPaths_j72
          simp (disch := first | omega | exact tr_i rfl | (simp only [nx_push, nx_put]; done) | (simp only [nx_push, nx_put]; omega)) only [go_sem, Nat.reduceAdd, Nat.reduceMul, Nat.reduceSub, Nat.reduceLeDiff, Nat.reduceEqDiff, Nat.reduceShiftRight, Nat.reduceAnd, E2.m]
          refine Ok.ve (refPath_ok hC (by omega) ⟨rfl, E2.mml, E2.mm, E2.ok⟩ hP.bnd hP.bnd2 E.dlen ha hlt (Q := fun r H' => r = .nilsl ∧ Fm No H2 H') (fun _ H' f' => ⟨rfl, f'⟩) (fun h => absurd hneg h)) ?_
          rintro r H3 ⟨rfl, f3⟩
          refine Ok.veE (list_ok hC (by omega) (l := []) (Gl.nil _ _) (Gl.nil _ _) (by simp) capV_nil (.ofNat 8)) ?_
          simp (disch := first | omega | exact tr_i rfl | (simp only [nx_push, nx_put]; done) | (simp only [nx_push, nx_put]; omega)) only [go_sem, Nat.reduceAdd, Nat.reduceMul, Nat.reduceSub, Nat.reduceLeDiff, Nat.reduceEqDiff, Nat.reduceShiftRight, Nat.reduceAnd]
          unfold law16_GraphsPaths_j63
          simp (disch := first | omega | exact tr_i rfl | (simp only [nx_push, nx_put]; done) | (simp only [nx_push, nx_put]; omega)) only [go_sem, Nat.reduceAdd, Nat.reduceMul, Nat.reduceSub, Nat.reduceLeDiff, Nat.reduceEqDiff, Nat.reduceShiftRight, Nat.reduceAnd]
          have f23 := f2.trans f3
          exact Law_in hC hj hP E ha hq f (k + 1) w H3 (by omega) (by omega) (hw.no f23) (hfm.trans f23) hwn
        · obtain ⟨l, l', hch, hll, hgp, hrev⟩ := hpath hneg
          have hll' : l'.length = l.length := by
            have := congrArg List.length hrev
            rw [List.length_reverse, List.length_cons, List.length_cons] at this; omega
          refine Ok.ve (Path_ok hC hj E1.e W ha hlt (Q := fun r H' => ∃ p, r = .tup [p, .int .i64 (.ofNat 0)] ∧ Fm No H H' ∧ Gl 1 H' p (l.length + 1) (nats (a :: l')) ∧ capV p = .val (.int .i64 (.ofNat (l.length + 1)))) (fun h => absurd (hiff.1 h) hneg) (fun _ => ⟨l, hch, hll, fun H' p f' gp hc hp => ⟨p, rfl, f', by rw [← hrev]; exact gp, hc⟩⟩)) ?_
          rintro r H2 ⟨p, rfl, f2, gp, hc⟩
          have E2 := E1.fm f2
          have hneg' : ¬ (dist n ms).getD (a * n + k) 0 < Int.ofNat 0 := hneg
          simp (disch := first | omega | exact tr_i rfl | (simp only [nx_push, nx_put]; done) | (simp only [nx_push, nx_put]; omega)) only [go_sem, Nat.reduceAdd, Nat.reduceMul, Nat.reduceSub, Nat.reduceLeDiff, Nat.reduceEqDiff, Nat.reduceShiftRight, Nat.reduceAnd, E2.m, E2.d, gD, hneg']
          unfold law16_GraphsPaths_j72
          simp (disch := first | omega | exact tr_i rfl | (simp only [nx_push, nx_put]; done) | (simp only [nx_push, nx_put]; omega)) only [go_sem, Nat.reduceAdd, Nat.reduceMul, Nat.reduceSub, Nat.reduceLeDiff, Nat.reduceEqDiff, Nat.reduceShiftRight, Nat.reduceAnd, E2.m]
          refine Ok.ve (refPath_ok hC (by omega) ⟨rfl, E2.mml, E2.mm, E2.ok⟩ hP.bnd hP.bnd2 E.dlen ha hlt (Q := fun r H' => Gl 1 H' r (a :: l').length (nats (a :: l')) ∧ Fm No H2 H') (fun h => absurd h hneg) (fun _ => ⟨l', hgp, by omega, fun w H' gw f' _ => ⟨gw, f'⟩⟩)) ?_
          rintro r H3 ⟨gw, f3⟩
          have hlen : ((a :: l').map Int.ofNat).length = l.length + 1 := by rw [List.length_map, List.length_cons, hll']
          refine Ok.veE (list_ok hC (by omega) (l := (a :: l').map Int.ofNat) (gp.no f3).ints gw.ints (by rw [hlen]; omega) (by rw [hlen]; exact hc) (.ofNat 0)) ?_
          simp (disch := first | omega | exact tr_i rfl | (simp only [nx_push, nx_put]; done) | (simp only [nx_push, nx_put]; omega)) only [go_sem, Nat.reduceAdd, Nat.reduceMul, Nat.reduceSub, Nat.reduceLeDiff, Nat.reduceEqDiff, Nat.reduceShiftRight, Nat.reduceAnd]
          unfold law16_GraphsPaths_j63
          simp (disch := first | omega | exact tr_i rfl | (simp only [nx_push, nx_put]; done) | (simp only [nx_push, nx_put]; omega)) only [go_sem, Nat.reduceAdd, Nat.reduceMul, Nat.reduceSub, Nat.reduceLeDiff, Nat.reduceEqDiff, Nat.reduceShiftRight, Nat.reduceAnd]
          have f23 := f2.trans f3
          exact Law_in hC hj hP E ha hq f (k + 1) w H3 (by omega) (by omega) (hw.no f23) (hfm.trans f23) hwn
      by_cases hneg : (dist n ms).getD (a * n + k) 0 < 0
      · have hng : (Int.ofNat 0 ≤ (dist n ms).getD (a * n + k) 0) = False := eq_false (Int.not_le.2 hneg)
        simp (disch := first | omega | exact tr_i rfl | (simp only [nx_push, nx_put]; done) | (simp only [nx_push, nx_put]; omega)) only [go_sem, Nat.reduceAdd, Nat.reduceMul, Nat.reduceSub, Nat.reduceLeDiff, Nat.reduceEqDiff, Nat.reduceShiftRight, Nat.reduceAnd, E1.m, E1.d, gD, hng]
        exact rest w H (by rw [wantL_succ, if_pos hneg, List.append_nil]; exact hw) hfm hwn
      · have hng : (Int.ofNat 0 ≤ (dist n ms).getD (a * n + k) 0) = True := eq_true (Int.not_lt.1 hneg)
        simp (disch := first | omega | exact tr_i rfl | (simp only [nx_push, nx_put]; done) | (simp only [nx_push, nx_put]; omega)) only [go_sem, Nat.reduceAdd, Nat.reduceMul, Nat.reduceSub, Nat.reduceLeDiff, Nat.reduceEqDiff, Nat.reduceShiftRight, Nat.reduceAnd, E1.m, E1.d, gD, hng]
        have hwl := wantL_len n (dist n ms) a k
        have fH : Fm No H (pushH H (mkBlk 0 [.int .i64 (.ofNat k)])) := by (repeat (first | exact Fm.refl _ _ | assumption | refine Fm.push ?_ _ | refine Fm.up2 ?_ (by (first | omega | (simp only [nx_push, nx_put]; omega))) | refine Fm.put_new ?_ _ _ (by (first | omega | (simp only [nx_push, nx_put]; omega)))))
        obtain ⟨H', e, gl', _, fm', nx'⟩ := (hw.no fH).append (k := 1) (w := 8) (x := [.int .i64 (.ofNat k)]) (by omega) rfl (by omega) (by omega)
        refine Ok.veE e ?_
        rw [nats_app] at gl'
        have hnx := hfm.nx
        refine rest _ H' (by rw [wantL_succ, if_neg hneg, List.length_append]; exact gl') ((hfm.then fH fun _ _ h => h).then fm' fun c hc h => by have := hwn c h; omega) (fun b hb => ?_)
        obtain ⟨_, _, _, _, h⟩ := hb
        cases h
        show H1.nx ≤ H.nx + 1
        omega
    · have : k = n := by omega
      simp (disch := first | omega | exact tr_i rfl | (simp only [nx_push, nx_put]; done) | (simp only [nx_push, nx_put]; omega)) only [go_sem, Nat.reduceAdd, Nat.reduceMul, Nat.reduceSub, Nat.reduceLeDiff, Nat.reduceEqDiff, Nat.reduceShiftRight, Nat.reduceAnd, E1.m, hlt]
      rw [this] at hw
      exact hq w H hw hfm hwn
theorem Law_out (hC : Links C) {j : Nat} (hj : 6 ≤ j) {n a3 a7 mb db : Nat} {ms : List Nat} {wv : AV} {H1 : Hp} {Q : AV → Hp → Prop} {q51r : AV → Hp → R1} {q51e : Hp → R1} (hP : PathsPure n ms) (E : LawEnv H1 n ms a3 a7 mb db wv)
    (hq : ∀ H, Fm No H1 H → Ok (q51e H) Q) :
    ∀ (f a : Nat) (H : Hp), a ≤ n → n - a < f → Fm No H1 H →
      Ok (law16_GraphsPaths_l51 (C j) q51r q51e (.ptr a3 0) (.ptr a7 0) (.sl db 0 (n * n) (n * n) true) f (.int .i64 (.ofNat a)) H) Q
  | 0, a, _, _, h, _ => by omega
  | f + 1, a, H, ha, hf, hfm => by
    show Ok (law16_GraphsPaths_b51 (C j) _ _ _ _ _ (law16_GraphsPaths_l51 (C j) _ _ _ _ _ f) _ H) Q
    unfold law16_GraphsPaths_b51
    have E1 := E.fm hfm
    have hn := E.ok.hn
    by_cases hlt : a < n
    · simp (disch := first | omega | exact tr_i rfl | (simp only [nx_push, nx_put]; done) | (simp only [nx_push, nx_put]; omega)) only [go_sem, Nat.reduceAdd, Nat.reduceMul, Nat.reduceSub, Nat.reduceLeDiff, Nat.reduceEqDiff, Nat.reduceShiftRight, Nat.reduceAnd, E1.m, hlt]
      unfold law16_GraphsPaths_j94 law16_GraphsPaths_L61
      rw [fuelX_eq]
      refine Law_in hC hj hP E1 hlt (fun w H2 gw f2 hw => ?_) loopFuel 0 .nilsl H (Nat.zero_le _) (by rw [loopFuel_eq]; omega) (Gl.nil _ _) (Fm.refl _ _) (fun b hb => by obtain ⟨_, _, _, _, h⟩ := hb; cases h)
      unfold law16_GraphsPaths_j60
      have E2 := E1.fm f2
      simp (disch := first | omega | exact tr_i rfl | (simp only [nx_push, nx_put]; done) | (simp only [nx_push, nx_put]; omega)) only [go_sem, Nat.reduceAdd, Nat.reduceMul, Nat.reduceSub, Nat.reduceLeDiff, Nat.reduceEqDiff, Nat.reduceShiftRight, Nat.reduceAnd, E2.g]
      obtain ⟨m, W, hr, hab⟩ := hP.walk a hlt
      refine Ok.ve (Reach_ok hC hj E2.e W hlt (Q := fun r H' => ∃ p, r = .tup [p, .int .i64 (.ofNat 0)] ∧ Fm No H2 H' ∧ Gl 1 H' p (wantL n (dist n ms) a n).length (nats (wantL n (dist n ms) a n)) ∧ capV p = .val (.int .i64 (.ofNat (wantL n (dist n ms) a n).length))) (fun H' p f' gp hc hp => ⟨p, rfl, f', by rw [← hr]; exact gp, by rw [← hr]; exact hc⟩)) ?_
      rintro r H3 ⟨p, rfl, f3, gp, hc⟩
      simp (disch := first | omega | exact tr_i rfl | (simp only [nx_push, nx_put]; done) | (simp only [nx_push, nx_put]; omega)) only [go_sem, Nat.reduceAdd, Nat.reduceMul, Nat.reduceSub, Nat.reduceLeDiff, Nat.reduceEqDiff, Nat.reduceShiftRight, Nat.reduceAnd]
      have hwl := wantL_len n (dist n ms) a n
      refine Ok.veE (list_ok hC (by omega) (l := (wantL n (dist n ms) a n).map Int.ofNat) gp.ints (gw.no f3).ints (by rw [List.length_map]; omega) (by rw [List.length_map]; exact hc) (.ofNat 0)) ?_
      simp (disch := first | omega | exact tr_i rfl | (simp only [nx_push, nx_put]; done) | (simp only [nx_push, nx_put]; omega)) only [go_sem, Nat.reduceAdd, Nat.reduceMul, Nat.reduceSub, Nat.reduceLeDiff, Nat.reduceEqDiff, Nat.reduceShiftRight, Nat.reduceAnd]
      unfold law16_GraphsPaths_j53
      simp (disch := first | omega | exact tr_i rfl | (simp only [nx_push, nx_put]; done) | (simp only [nx_push, nx_put]; omega)) only [go_sem, Nat.reduceAdd, Nat.reduceMul, Nat.reduceSub, Nat.reduceLeDiff, Nat.reduceEqDiff, Nat.reduceShiftRight, Nat.reduceAnd]
      exact Law_out hC hj hP E hq f (a + 1) H3 (by omega) (by omega) (hfm.trans (f2.trans f3))
    · simp (disch := first | omega | exact tr_i rfl | (simp only [nx_push, nx_put]; done) | (simp only [nx_push, nx_put]; omega)) only [go_sem, Nat.reduceAdd, Nat.reduceMul, Nat.reduceSub, Nat.reduceLeDiff, Nat.reduceEqDiff, Nat.reduceShiftRight, Nat.reduceAnd, E1.m, hlt]
      exact hq H hfm
theorem GraphsPaths_ok (hC : Links C) {k : Nat} (hk : 8 ≤ k) (hlive : ∀ k H, 1 ≤ k → C k (.f id_law16_lives) [] H = .ok (.bool true) H) {call : Ev.Call} (hcall : call = C k)
    (hP : ∀ n ms, n < 13 → MOk n ms → PathsPure n ms) (hdl : ∀ n ms, MOk n ms → (dist n ms).length = n * n) (hedge : ∀ n ms, MOk n ms → n < 13 → EdgesOk n (edgesOf n ms) ∧ (edgesOf n ms).length < 1000) {N cnt : Nat} {v : AV} {H : Hp} (hv : Arg3 H v cnt) (a b : Int) :
    Ok (law16_GraphsPaths call (.agg [.int .u8 (.ofNat N), v]) (.int .i64 a) (.int .i64 b) H) fun r _ => r = .bool true := by
  subst hcall
  unfold law16_GraphsPaths law16_GraphsPaths_c
  have fH : Fm No H (pushH H (mkBlk 0 [.int .u8 (.ofNat N), v])) := by (repeat (first | exact Fm.refl _ _ | assumption | refine Fm.push ?_ _ | refine Fm.up2 ?_ (by (first | omega | (simp only [nx_push, nx_put]; omega))) | refine Fm.put_new ?_ _ _ (by (first | omega | (simp only [nx_push, nx_put]; omega)))))
  simp (disch := first | omega | exact tr_i rfl | (simp only [nx_push, nx_put]; done) | (simp only [nx_push, nx_put]; omega)) only [go_sem, Nat.reduceAdd, Nat.reduceMul, Nat.reduceSub, Nat.reduceLeDiff, Nat.reduceEqDiff, Nat.reduceShiftRight, Nat.reduceAnd]
  refine Ok.ve (H_Matrix_ok hC (by omega) (hv.fm fH)) ?_
  rintro r H1 ⟨mb, ms, hM, hmb, f1⟩
  generalize hn : N % 13 = n at *
  have hn13 : n < 13 := by omega
  have hr := hM.hv
  subst hr
  simp (disch := first | omega | exact tr_i rfl | (simp only [nx_push, nx_put]; done) | (simp only [nx_push, nx_put]; omega)) only [go_sem, Nat.reduceAdd, Nat.reduceMul, Nat.reduceSub, Nat.reduceLeDiff, Nat.reduceEqDiff, Nat.reduceShiftRight, Nat.reduceAnd]
  have fa : Fm No H1 ((pushH H1 (mkBlk 0 [.int .i64 (.ofNat 0), .nilsl])).put H1.nx (mkBlk 0 [.int .i64 (.ofNat n), .sl mb 0 (n * n) (n * n) true])) := by (repeat (first | exact Fm.refl _ _ | assumption | refine Fm.push ?_ _ | refine Fm.up2 ?_ (by (first | omega | (simp only [nx_push, nx_put]; omega))) | refine Fm.put_new ?_ _ _ (by (first | omega | (simp only [nx_push, nx_put]; omega)))))
  refine Ok.ve (Graph_ok hC (by omega) (hM.fm fa)) ?_
  rintro r H2 ⟨w, rfl, hE, f2, hw⟩
  simp (disch := first | omega | exact tr_i rfl | (simp only [nx_push, nx_put]; done) | (simp only [nx_push, nx_put]; omega)) only [go_sem, Nat.reduceAdd, Nat.reduceMul, Nat.reduceSub, Nat.reduceLeDiff, Nat.reduceEqDiff, Nat.reduceShiftRight, Nat.reduceAnd]
  have n2 := f2.nx
  have n2' : H1.nx + 1 ≤ H2.nx := n2
  have m2 : H2.get H1.nx = mkBlk 0 [.int .i64 (.ofNat n), .sl mb 0 (n * n) (n * n) true] := (f2.keep (by (first | omega | (simp only [nx_push, nx_put]; omega)))).trans (get_put_same _ _ _)
  have fb : Fm No H2 ((pushH H2 (mkBlk 0 [.int .i64 (.ofNat 0), .nilsl])).put H2.nx (mkBlk 0 [.int .i64 (.ofNat n), w])) := by (repeat (first | exact Fm.refl _ _ | assumption | refine Fm.push ?_ _ | refine Fm.up2 ?_ (by (first | omega | (simp only [nx_push, nx_put]; omega))) | refine Fm.put_new ?_ _ _ (by (first | omega | (simp only [nx_push, nx_put]; omega)))))
  simp (disch := first | omega | exact tr_i rfl | (simp only [nx_push, nx_put]; done) | (simp only [nx_push, nx_put]; omega)) only [go_sem, Nat.reduceAdd, Nat.reduceMul, Nat.reduceSub, Nat.reduceLeDiff, Nat.reduceEqDiff, Nat.reduceShiftRight, Nat.reduceAnd, m2]
  refine Ok.ve (Distance_ok hC (by omega) (((hM.fm fa).fm f2).fm fb) (hP n ms hn13 hM.ok).bnd) ?_
  rintro r H3 ⟨rfl, hd, hdn, f3⟩
  have hm3 := ((((hM.fm fa).fm f2).fm fb).fm f3)
  have n3 := f3.nx
  have n3' : H2.nx + 1 ≤ H3.nx := n3
  have E : LawEnv H3 n ms H1.nx H2.nx mb (H2.nx + 1 + 1) w :=
    ⟨((fb.trans f3).keep (by omega)).trans m2, by omega, (f3.keep (by (first | omega | (simp only [nx_push, nx_put]; omega)))).trans (get_put_same _ _ _), by omega, hm3.get, hm3.lt, hd, hdn, (hE.fm fb).fm f3, hM.ok, hdl n ms hM.ok⟩
  unfold law16_GraphsPaths_L51
  rw [fuelX_eq]
  refine Law_out hC (by omega) (hP n ms hn13 hM.ok) E (fun H4 f4 => ?_) loopFuel 0 H3 (Nat.zero_le _) (by rw [loopFuel_eq]; omega) (Fm.refl _ _)
  unfold law16_GraphsPaths_j50
  have E4 := E.fm f4
  have hlv : ∀ H, C k (.f id_law16_lives) [] H = .ok (.bool true) H := fun H => hlive k H (by omega)
  obtain ⟨hed, hel⟩ := hedge n ms hM.ok hn13
  have fin : ¬ (0 ≤ a ∧ a < n ∧ 0 ≤ b ∧ b < n) → Ok (law16_GraphsPaths_j34 (C k) (.int .i64 a) (.int .i64 b) (.ptr H1.nx 0) (.ptr H2.nx 0) H4) fun r _ => r = .bool true := by
    intro hne
    unfold law16_GraphsPaths_j34
    simp (disch := first | omega | exact tr_i rfl | (simp only [nx_push, nx_put]; done) | (simp only [nx_push, nx_put]; omega)) only [go_sem, Nat.reduceAdd, Nat.reduceMul, Nat.reduceSub, Nat.reduceLeDiff, Nat.reduceEqDiff, Nat.reduceShiftRight, Nat.reduceAnd, E4.g]
    refine Ok.ve (Path_err hC (by omega) hed (by omega) hel E4.e hne) ?_
    rintro r H5 ⟨rfl, f5⟩
    simp (disch := first | omega | exact tr_i rfl | (simp only [nx_push, nx_put]; done) | (simp only [nx_push, nx_put]; omega)) only [go_sem, Nat.reduceAdd, Nat.reduceMul, Nat.reduceSub, Nat.reduceLeDiff, Nat.reduceEqDiff, Nat.reduceShiftRight, Nat.reduceAnd]
    refine Ok.veE (list_ok hC (by omega) (l := []) (Gl.nil _ _) (Gl.nil _ _) (by simp) capV_nil (.ofNat 4)) ?_
    simp (disch := first | omega | exact tr_i rfl | (simp only [nx_push, nx_put]; done) | (simp only [nx_push, nx_put]; omega)) only [go_sem, Nat.reduceAdd, Nat.reduceMul, Nat.reduceSub, Nat.reduceLeDiff, Nat.reduceEqDiff, Nat.reduceShiftRight, Nat.reduceAnd]
    unfold law16_GraphsPaths_j31
    have E5 := E4.fm f5
    simp (disch := first | omega | exact tr_i rfl | (simp only [nx_push, nx_put]; done) | (simp only [nx_push, nx_put]; omega)) only [go_sem, Nat.reduceAdd, Nat.reduceMul, Nat.reduceSub, Nat.reduceLeDiff, Nat.reduceEqDiff, Nat.reduceShiftRight, Nat.reduceAnd, E5.g]
    by_cases hra : 0 ≤ a ∧ a < n
    · obtain ⟨a', rfl⟩ : ∃ a' : Nat, a = Int.ofNat a' := ⟨a.toNat, by simp only [Int.ofNat_eq_natCast]; omega⟩
      have ha' : a' < n := by have := hra.2; simp only [Int.ofNat_eq_natCast] at this; omega
      obtain ⟨m, W, _, _⟩ := (hP n ms hn13 hM.ok).walk a' ha'
      refine Ok.ve (Reach_ok hC (by omega) E5.e W ha' (Q := fun r H' => ∃ p, r = .tup [p, .int .i64 (.ofNat 0)] ∧ Fm No H5 H') (fun H' p f' _ _ _ => ⟨p, rfl, f'⟩)) ?_
      rintro r H6 ⟨p, rfl, f6⟩
      have E6 := E5.fm f6
      simp (disch := first | omega | exact tr_i rfl | (simp only [nx_push, nx_put]; done) | (simp only [nx_push, nx_put]; omega)) only [go_sem, Nat.reduceAdd, Nat.reduceMul, Nat.reduceSub, Nat.reduceLeDiff, Nat.reduceEqDiff, Nat.reduceShiftRight, Nat.reduceAnd, E6.m, ha', Nat.zero_le, hlv]
      exact Ok.ret rfl
    · refine Ok.ve (Reach_err hC (by omega) hed (by omega) hel E5.e hra) ?_
      rintro r H6 ⟨rfl, f6⟩
      have E6 := E5.fm f6
      have hls := list_ok hC (k := k) (by omega) (H := H6) (l := []) (Gl.nil 1 _) (Gl.nil 1 _) (by simp) capV_nil (.ofNat 4)
      have h3 : (Int.ofNat 0 ≤ a) = (0 ≤ a) := rfl
      have h4 : (a < Int.ofNat n) = (a < n) := rfl
      by_cases h1 : 0 ≤ a
      · have h2 : ¬ a < n := fun h => hra ⟨h1, h⟩
        simp (disch := first | omega | exact tr_i rfl | (simp only [nx_push, nx_put]; done) | (simp only [nx_push, nx_put]; omega)) only [go_sem, Nat.reduceAdd, Nat.reduceMul, Nat.reduceSub, Nat.reduceLeDiff, Nat.reduceEqDiff, Nat.reduceShiftRight, Nat.reduceAnd, E6.m, h3, h4, h1, h2, hls, hlv]
        exact Ok.ret rfl
      · simp (disch := first | omega | exact tr_i rfl | (simp only [nx_push, nx_put]; done) | (simp only [nx_push, nx_put]; omega)) only [go_sem, Nat.reduceAdd, Nat.reduceMul, Nat.reduceSub, Nat.reduceLeDiff, Nat.reduceEqDiff, Nat.reduceShiftRight, Nat.reduceAnd, E6.m, h3, h4, h1, hls, hlv]
        exact Ok.ret rfl
  have h5 : (Int.ofNat 0 ≤ a) = (0 ≤ a) := rfl
  have h6 : (a < Int.ofNat n) = (a < n) := rfl
  have h7 : (Int.ofNat 0 ≤ b) = (0 ≤ b) := rfl
  have h8 : (b < Int.ofNat n) = (b < n) := rfl
  by_cases c1 : 0 ≤ a
  · by_cases c2 : a < n
    · by_cases c3 : 0 ≤ b
      · by_cases c4 : b < n
        · simp (disch := first | omega | exact tr_i rfl | (simp only [nx_push, nx_put]; done) | (simp only [nx_push, nx_put]; omega)) only [go_sem, Nat.reduceAdd, Nat.reduceMul, Nat.reduceSub, Nat.reduceLeDiff, Nat.reduceEqDiff, Nat.reduceShiftRight, Nat.reduceAnd, E4.m, h5, h6, h7, h8, c1, c2, c3, c4, hlv]
          exact Ok.ret rfl
        · simp (disch := first | omega | exact tr_i rfl | (simp only [nx_push, nx_put]; done) | (simp only [nx_push, nx_put]; omega)) only [go_sem, Nat.reduceAdd, Nat.reduceMul, Nat.reduceSub, Nat.reduceLeDiff, Nat.reduceEqDiff, Nat.reduceShiftRight, Nat.reduceAnd, E4.m, h5, h6, h7, h8, c1, c2, c3, c4]
          exact fin fun h => c4 h.2.2.2
      · simp (disch := first | omega | exact tr_i rfl | (simp only [nx_push, nx_put]; done) | (simp only [nx_push, nx_put]; omega)) only [go_sem, Nat.reduceAdd, Nat.reduceMul, Nat.reduceSub, Nat.reduceLeDiff, Nat.reduceEqDiff, Nat.reduceShiftRight, Nat.reduceAnd, E4.m, h5, h6, h7, h8, c1, c2, c3]
        exact fin fun h => c3 h.2.2.1
    · simp (disch := first | omega | exact tr_i rfl | (simp only [nx_push, nx_put]; done) | (simp only [nx_push, nx_put]; omega)) only [go_sem, Nat.reduceAdd, Nat.reduceMul, Nat.reduceSub, Nat.reduceLeDiff, Nat.reduceEqDiff, Nat.reduceShiftRight, Nat.reduceAnd, E4.m, h5, h6, h7, h8, c1, c2]
      exact fin fun h => c2 h.2.1
  · simp (disch := first | omega | exact tr_i rfl | (simp only [nx_push, nx_put]; done) | (simp only [nx_push, nx_put]; omega)) only [go_sem, Nat.reduceAdd, Nat.reduceMul, Nat.reduceSub, Nat.reduceLeDiff, Nat.reduceEqDiff, Nat.reduceShiftRight, Nat.reduceAnd, E4.m, h5, h6, h7, h8, c1]
    exact fin fun h => c1 h.1
end Go.Di
end
