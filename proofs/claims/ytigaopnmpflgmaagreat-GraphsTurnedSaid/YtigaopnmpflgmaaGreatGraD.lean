/-
  For countersignlaw16.GraphsTurned: contracts of the functions that compare and check edges, and of walk, Path and Reach. No conditions beyond those that each theorem states.
-/
import Derived.Test.YtigaopnmpflgmaaGreatGraC
set_option linter.unusedSimpArgs false
set_option linter.unusedVariables false
section
/-
  Contracts: comparing.
-/
namespace Go.Di
open Go.Ev
theorem loopFuel_eq : loopFuel = 1000000 := rfl
variable {C : Nat → Ev.Call}
abbrev Links (C : Nat → Ev.Call) : Prop := ∀ k, Lnk (C (k + 1)) (C k)

theorem isNaN_ok (hC : Links C) {k : Nat} (hk : 1 ≤ k) (n : Int) (H : Hp) : C k (.f id_cmp_isNaN_int) [.int .i64 n] H = .ok (.bool false) H := by
  obtain ⟨j, rfl⟩ : ∃ j, k = j + 1 := ⟨k - 1, by omega⟩
  rw [(hC j).cmp_isNaN_int]
  unfold cmp_isNaN_int cmp_isNaN_int_c
  simp only [go_sem]
def cmpI (a b : Int) : Int := if a < b then -1 else if b < a then 1 else 0
theorem compareInt_ok (hC : Links C) {k : Nat} (hk : 2 ≤ k) (a b : Int) (H : Hp) : C k (.f id_cmp_Compare_int) [.int .i64 a, .int .i64 b] H = .ok (.int .i64 (cmpI a b)) H := by
  obtain ⟨j, rfl⟩ : ∃ j, k = j + 1 := ⟨k - 1, by omega⟩
  rw [(hC j).cmp_Compare_int]
  unfold cmp_Compare_int cmp_Compare_int_c
  simp only [isNaN_ok hC (show 1 ≤ j by omega), go_sem]
  unfold cmp_Compare_int_j7 cmp_Compare_int_j6 cmp_Compare_int_j4 cmp_Compare_int_j2 cmpI
  by_cases h : a < b
  · simp only [h, go_sem]; rfl
  · by_cases h2 : b < a
    · simp only [h, h2, go_sem]; rfl
    · simp only [h, h2, go_sem]; rfl
def sgn (s : Bool) : Int := if s then 1 else 0
theorem sign_ok (hC : Links C) {k : Nat} (hk : 1 ≤ k) (a b : AV) (s : Bool) (H : Hp) : C k (.f id_graphs_sign) [.agg [a, b, .bool s]] H = .ok (.int .i64 (sgn s)) (pushH H (mkBlk 0 [a, b, .bool s])) := by
  obtain ⟨j, rfl⟩ : ∃ j, k = j + 1 := ⟨k - 1, by omega⟩
  rw [(hC j).graphs_sign]
  unfold graphs_sign graphs_sign_c graphs_sign_j1
  cases s <;> simp (disch := first | omega | exact tr_i rfl | (simp only [nx_push, nx_put]; done) | (simp only [nx_push, nx_put]; omega)) only [go_sem, Nat.reduceAdd, Nat.reduceMul, Nat.reduceSub, Nat.reduceLeDiff, Nat.reduceEqDiff, Nat.reduceShiftRight, Nat.reduceAnd, Nat.beq] <;> rfl
end Go.Di
end

section
/-
  Contracts: comparing edges.
-/
namespace Go.Di
open Go.Ev
variable {C : Nat → Ev.Call}
def ints (l : List Int) : List AV := l.map (fun n => .int .i64 n)
theorem ints_get (l : List Int) (i : Nat) (h : i < l.length) : (ints l)[i]? = some (.int .i64 l[i]) := by simp [ints, h]
theorem ints_len (l : List Int) : (ints l).length = l.length := by simp [ints]
def orI : List Int → Int
  | [] => 0
  | x :: l => if x = 0 then orI l else x
theorem Or_loop {call : Ev.Call} {H : Hp} {b m : Nat} {e : Bool} {q : Nat} {l : List Int} (h0 : H.get b = mkBlk q (ints l)) (hl : l.length < 1000000) :
    ∀ (k i : Nat), i ≤ l.length → l.length - i < k → cmp_Or_int_l2 call (fun x2 H => .ok x2 H) (fun H => cmp_Or_int_j0 call (.int .i64 (.ofNat 0)) H) (.int .i64 (.ofNat 0)) (.sl b 0 l.length m e) (.int .i64 (.ofNat l.length)) k (.int .i64 (.ofNat i)) H = .ok (.int .i64 (orI (l.drop i))) H
  | 0, i, _, h => by omega
  | k + 1, i, hi, hk => by
    show cmp_Or_int_b2 call _ _ _ _ _ (cmp_Or_int_l2 call _ _ _ _ _ k) _ H = _
    unfold cmp_Or_int_b2
    by_cases hlt : i < l.length
    · simp (disch := omega) only [go_sem, hlt]
      unfold cmp_Or_int_j9
      have hd : l.drop i = l[i] :: l.drop (i + 1) := List.drop_eq_getElem_cons hlt
      simp (disch := omega) only [go_sem, h0, ints_get _ _ hlt]
      rw [hd]
      show _ = R1.ok (.int .i64 (if l[i] = 0 then orI (l.drop (i + 1)) else l[i])) H
      by_cases hz : l[i] = Int.ofNat 0
      · have hz' : l[i] = 0 := hz
        simp only [hz', go_sem]
        unfold cmp_Or_int_j5
        simp (disch := omega) only [go_sem]
        exact Or_loop h0 hl k (i + 1) (by omega) (by omega)
      · have hz' : ¬ l[i] = 0 := hz
        simp only [hz, hz', go_sem]
    · have hd : l.drop i = [] := List.drop_eq_nil_of_le (by omega)
      simp (disch := omega) only [go_sem, hlt]
      rw [hd]; rfl
theorem Or_ok (hC : Links C) {k : Nat} (hk : 1 ≤ k) {H : Hp} {b m : Nat} {e : Bool} {q n : Nat} {l : List Int} (hn : l.length = n) (h0 : H.get b = mkBlk q (ints l)) (hl : l.length < 1000000) :
    C k (.f id_cmp_Or_int) [.sl b 0 n m e] H = .ok (.int .i64 (orI l)) H := by
  obtain ⟨j, rfl⟩ : ∃ j, k = j + 1 := ⟨k - 1, by omega⟩
  subst hn
  rw [(hC j).cmp_Or_int]
  unfold cmp_Or_int cmp_Or_int_c cmp_Or_int_L2
  simp only [go_sem]
  rw [fuelX_eq]
  exact Or_loop h0 hl _ 0 (Nat.zero_le _) (by rw [loopFuel_eq]; omega)
structure Edge where
  (f t : Nat)
  s : Bool
deriving DecidableEq
def Edge.cells (e : Edge) : List AV := [.int .i64 (.ofNat e.f), .int .i64 (.ofNat e.t), .bool e.s]
def cmpE (x y : Edge) : Int := orI [cmpI (.ofNat x.f) (.ofNat y.f), cmpI (.ofNat x.t) (.ofNat y.t), cmpI (sgn x.s) (sgn y.s)]
theorem compare_ok (hC : Links C) {k : Nat} (hk : 3 ≤ k) (x y : Edge) (H : Hp) : Ok (C k (.f id_graphs_compare) [.agg x.cells, .agg y.cells] H) fun v H' => v = .int .i64 (cmpE x y) ∧ Fm No H H' := by
  obtain ⟨j, rfl⟩ : ∃ j, k = j + 1 := ⟨k - 1, by omega⟩
  rw [(hC j).graphs_compare]
  unfold graphs_compare graphs_compare_c Edge.cells
  simp (disch := first | omega | exact tr_i rfl | (simp only [nx_push, nx_put]; done) | (simp only [nx_push, nx_put]; omega)) only [go_sem, Nat.reduceAdd, Nat.reduceMul, Nat.reduceSub, Nat.reduceLeDiff, Nat.reduceEqDiff, Nat.reduceShiftRight, Nat.reduceAnd, Nat.beq, compareInt_ok hC (show 2 ≤ j by omega), sign_ok hC (show 1 ≤ j by omega)]
  refine Ok.deE (Or_ok hC (show 1 ≤ j by omega) (l := [cmpI (.ofNat x.f) (.ofNat y.f), cmpI (.ofNat x.t) (.ofNat y.t), cmpI (sgn x.s) (sgn y.s)]) rfl (get_put_same _ _ _) (by simp)) ?_
  simp (disch := first | omega | exact tr_i rfl | (simp only [nx_push, nx_put]; done) | (simp only [nx_push, nx_put]; omega)) only [go_sem, Nat.reduceAdd, Nat.reduceMul, Nat.reduceSub, Nat.reduceLeDiff, Nat.reduceEqDiff, Nat.reduceShiftRight, Nat.reduceAnd]
  exact Ok.ret ⟨rfl, by (repeat (first | exact Fm.refl _ _ | assumption | refine Fm.push ?_ _ | refine Fm.up2 ?_ (by (first | omega | (simp only [nx_push, nx_put]; omega))) | refine Fm.put_new ?_ _ _ (by (first | omega | (simp only [nx_push, nx_put]; omega)))))⟩
end Go.Di
end

section
/-
  Contracts: a graph is right.
-/
namespace Go.Di
open Go.Ev
variable {C : Nat → Ev.Call}
def ecells (es : List Edge) : List AV := (es.map Edge.cells).flatten
theorem ecells_len (es : List Edge) : (ecells es).length = es.length * 3 := by
  induction es with
  | nil => rfl
  | cons x l ih => simp only [ecells, List.map_cons, List.flatten_cons, List.length_append] at ih ⊢; rw [ih]; simp [Edge.cells]; omega
theorem ecells_at : ∀ (es : List Edge) (i : Nat) (h : i < es.length), ((ecells es).drop (i * 3)).take 3 = es[i].cells
  | x :: l, 0, _ => by simp [ecells, Edge.cells]
  | x :: l, i + 1, h => by
    have : (ecells (x :: l)).drop ((i + 1) * 3) = (ecells l).drop (i * 3) := by
      rw [show (i + 1) * 3 = (i * 3 + 3) by omega]; rfl
    rw [this]
    exact ecells_at l i (by simpa using h)
/-- edges of a graph are right -/
structure EdgesOk (n : Nat) (es : List Edge) : Prop where
  rng : ∀ e ∈ es, e.f < n ∧ e.t < n
  ord : ∀ i, (h : i + 1 < es.length) → cmpE es[i] es[i + 1] < 0
theorem foldMin (a b : Int) (k : IntKind) : foldV minV (.int k a) [.int k b] = .val (.int k (min a b)) := by
  show R0.val (.int k (bif ltI b a then b else a)) = _
  rw [ltI_eq]
  by_cases h : b < a
  · rw [decide_eq_true h, Int.min_eq_right (by omega)]; rfl
  · rw [decide_eq_false h, Int.min_eq_left (by omega)]; rfl
theorem foldMax (a b : Int) (k : IntKind) : foldV maxV (.int k a) [.int k b] = .val (.int k (max a b)) := by
  show R0.val (.int k (bif ltI a b then b else a)) = _
  rw [ltI_eq]
  by_cases h : a < b
  · rw [decide_eq_true h, Int.max_eq_right (by omega)]; rfl
  · rw [decide_eq_false h, Int.max_eq_left (by omega)]; rfl
/-- a slice of edges -/
def IsE (H : Hp) (v : AV) (es : List Edge) : Prop := Gl 3 H v es.length (ecells es)
theorem IsE.len {H : Hp} {v : AV} {es : List Edge} (h : IsE H v es) : lenSl v = .val (.int .i64 (.ofNat es.length)) := h.lenV
theorem IsE.fm {H H' : Hp} {v : AV} {es : List Edge} (h : IsE H v es) (a : Fm No H H') : IsE H' v es := h.no a
theorem Gl.flat {z n : Nat} {H : Hp} {v : AV} {l : List AV} (h : Gl z H v n l) : flatA v = true := by
  rcases h.is with ⟨rfl, rfl⟩ | ⟨b, o, e, q, L, rfl, _⟩ <;> rfl
theorem Gl.lt {z n : Nat} {H : Hp} {v : AV} {l : List AV} (h : Gl z H v n l) {b : Nat} (hb : In v b) : b < H.nx := by
  obtain ⟨_, _, _, _, rfl⟩ := hb
  rcases h.is with ⟨h, _⟩ | ⟨b, o, e, q, L, h, _, _, _, _, h5⟩ <;> cases h
  exact h5
theorem IsE.eqF {H : Hp} {v : AV} {es : List Edge} (h : IsE H v es) : eqF 64 v v = true := eqF_flat h.flat 63
theorem Gl.atN {z n : Nat} {H : Hp} {v : AV} {l : List AV} (h : Gl z H v n l) {i : Nat} (hi : i < n) : ∃ b o, idxS z v (.int .i64 (.ofNat i)) = .val (.ptr b o) ∧ b < H.nx ∧ In v b ∧ rdBlkN (H.get b) o z = some ((l.drop (i * z)).take z) ∧ ∀ (j : Nat), j < z → rdBlk1 (H.get b) (o + j) = .val (l.getD (i * z + j) .undef) := by
  have hl := h.len
  rcases h.is with ⟨rfl, rfl⟩ | ⟨b, o, e, q, L, rfl, h1, h2, h3, h4, h5⟩
  · omega
  · have hm : i * z + z ≤ n * z := by
      have : (i + 1) * z ≤ n * z := Nat.mul_le_mul_right z hi
      rw [Nat.add_mul, Nat.one_mul] at this; exact this
    have hL : o + n * z = L.length := by rw [← h3, List.length_drop] at hl; omega
    refine ⟨b, o + i * z, idxS_n _ _ _ _ _ _ _ _ hi, h5, ⟨_, _, _, _, rfl⟩, ?_, fun j hj => ?_⟩
    · rw [h1, rdBlkN_mk, if_pos (by omega), ← List.drop_drop, h3]
    · rw [h1, rdBlk1_mk]
      have : L[o + i * z + j]? = l[i * z + j]? := by rw [← h3, List.getElem?_drop]; congr 1; omega
      rw [this, List.getElem?_eq_getElem (by omega)]
      simp [List.getD_eq_getElem?_getD, show i * z + j < l.length by omega]
theorem IsE.at {H : Hp} {v : AV} {es : List Edge} (h : IsE H v es) {i : Nat} (hi : i < es.length) : ∃ b o, idxS 3 v (.int .i64 (.ofNat i)) = .val (.ptr b o) ∧ b < H.nx ∧ rdBlkN (H.get b) o 3 = some es[i].cells := by
  obtain ⟨b, o, e1, e2, _, e3, _⟩ := h.atN hi
  exact ⟨b, o, e1, e2, by rw [e3, ecells_at _ _ hi]⟩
theorem Check_loop (hC : Links C) {j : Nat} (hj : 3 ≤ j) {n : Nat} {es : List Edge} (hE : EdgesOk n es) {v : AV} {g : Nat} {H0 : Hp} (hlen : es.length < 1000000) {Q : AV → Hp → Prop} {q5e0 : Hp → R1}
    (hq : ∀ H, Fm No H0 H → Ok (q5e0 H) Q) :
    ∀ (k i : Nat) (H : Hp), i ≤ es.length → es.length - i < k → IsE H v es → g < H.nx → H.get g = mkBlk 0 [.int .i64 (.ofNat n), v] → Fm No H0 H →
      Ok (graphs_Check_l5 (C j) (fun x2 H => .ok x2 H) q5e0 (.ptr g 0) v (.int .i64 (.ofNat es.length)) k (.int .i64 (.ofNat i)) H) Q
  | 0, i, _, _, h, _, _, _, _ => by omega
  | k + 1, i, H, hi, hk, hv, hg1, hg2, hf => by
    show Ok (graphs_Check_b5 (C j) _ _ _ _ _ (graphs_Check_l5 (C j) _ _ _ _ _ k) _ H) Q
    unfold graphs_Check_b5
    by_cases hlt : i < es.length
    · obtain ⟨b, o1, e1, e2, e3⟩ := hv.at hlt
      have hr := hE.rng es[i] (List.getElem_mem hlt)
      simp (disch := first | omega | exact tr_i rfl | (simp only [nx_push, nx_put]; done) | (simp only [nx_push, nx_put]; omega)) only [go_sem, Nat.reduceAdd, Nat.reduceMul, Nat.reduceSub, Nat.reduceLeDiff, Nat.reduceEqDiff, Nat.reduceShiftRight, Nat.reduceAnd, hlt]
      unfold graphs_Check_j43 graphs_Check_m
      have hmin : (min (Int.ofNat es[i].f) (Int.ofNat es[i].t) < Int.ofNat 0) = False := by simp only [Int.ofNat_eq_natCast, eq_iff_iff, iff_false]; omega
      have hmax : (Int.ofNat n ≤ max (Int.ofNat es[i].f) (Int.ofNat es[i].t)) = False := by simp only [Int.ofNat_eq_natCast, eq_iff_iff, iff_false]; omega
      by_cases h0 : 0 < i
      · obtain ⟨p, rfl⟩ : ∃ p, i = p + 1 := ⟨i - 1, by omega⟩
        obtain ⟨b', o2, e1', e2', e3'⟩ := hv.at (show p < es.length by omega)
        have hv64 := hv.eqF
        simp (disch := first | omega | exact tr_i rfl | (simp only [nx_push, nx_put]; done) | (simp only [nx_push, nx_put]; omega)) only [go_sem, Nat.reduceAdd, Nat.reduceMul, Nat.reduceSub, Nat.reduceLeDiff, Nat.reduceEqDiff, Nat.reduceShiftRight, Nat.reduceAnd, e1, e3, Edge.cells, foldMin, foldMax, hmin, hmax, hg2, h0, e1', e3', Nat.add_sub_cancel]
        refine Ok.deO (compare_ok hC hj es[p] es[p + 1] _) ?_
        rintro v' H' ⟨rfl, f'⟩
        have k1 : H'.get g = mkBlk 0 [.int .i64 (.ofNat n), v] := (f'.keep (by (first | omega | (simp only [nx_push, nx_put]; omega)))).trans (by simp (disch := first | omega | exact tr_i rfl | (simp only [nx_push, nx_put]; done) | (simp only [nx_push, nx_put]; omega)) only [go_sem, Nat.reduceAdd, Nat.reduceMul, Nat.reduceSub, Nat.reduceLeDiff, Nat.reduceEqDiff, Nat.reduceShiftRight, Nat.reduceAnd, hg2])
        have k2 : rdBlkN (H'.get b') o2 3 = some es[p].cells := by rw [f'.keep (by (first | omega | (simp only [nx_push, nx_put]; omega)))]; simp (disch := first | omega | exact tr_i rfl | (simp only [nx_push, nx_put]; done) | (simp only [nx_push, nx_put]; omega)) only [go_sem, Nat.reduceAdd, Nat.reduceMul, Nat.reduceSub, Nat.reduceLeDiff, Nat.reduceEqDiff, Nat.reduceShiftRight, Nat.reduceAnd, e3']
        have k3 : H'.get H.nx = mkBlk 0 es[p + 1].cells := (f'.keep (by (first | omega | (simp only [nx_push, nx_put]; omega)))).trans (by simp (disch := first | omega | exact tr_i rfl | (simp only [nx_push, nx_put]; done) | (simp only [nx_push, nx_put]; omega)) only [go_sem, Nat.reduceAdd, Nat.reduceMul, Nat.reduceSub, Nat.reduceLeDiff, Nat.reduceEqDiff, Nat.reduceShiftRight, Nat.reduceAnd, Edge.cells])
        have ho : (Int.ofNat 0 ≤ cmpE es[p] es[p + 1]) = False := by
          have := hE.ord p hlt
          simp only [Int.ofNat_eq_natCast, eq_iff_iff, iff_false]; omega
        simp (disch := first | omega | exact tr_i rfl | (simp only [nx_push, nx_put]; done) | (simp only [nx_push, nx_put]; omega)) only [go_sem, Nat.reduceAdd, Nat.reduceMul, Nat.reduceSub, Nat.reduceLeDiff, Nat.reduceEqDiff, Nat.reduceShiftRight, Nat.reduceAnd, k1, k2, k3, hv64, Edge.cells, ho]
        unfold graphs_Check_j8
        simp (disch := first | omega | exact tr_i rfl | (simp only [nx_push, nx_put]; done) | (simp only [nx_push, nx_put]; omega)) only [go_sem, Nat.reduceAdd, Nat.reduceMul, Nat.reduceSub, Nat.reduceLeDiff, Nat.reduceEqDiff, Nat.reduceShiftRight, Nat.reduceAnd]
        have fH : Fm No H H' := by refine Fm.trans ?_ f'; (repeat (first | exact Fm.refl _ _ | assumption | refine Fm.push ?_ _ | refine Fm.up2 ?_ (by (first | omega | (simp only [nx_push, nx_put]; omega))) | refine Fm.put_new ?_ _ _ (by (first | omega | (simp only [nx_push, nx_put]; omega)))))
        exact Check_loop hC hj hE hlen hq k (p + 1 + 1) H' (by omega) (by omega) (hv.fm fH) (Nat.lt_of_lt_of_le hg1 fH.nx) k1 (hf.trans fH)
      · simp (disch := first | omega | exact tr_i rfl | (simp only [nx_push, nx_put]; done) | (simp only [nx_push, nx_put]; omega)) only [go_sem, Nat.reduceAdd, Nat.reduceMul, Nat.reduceSub, Nat.reduceLeDiff, Nat.reduceEqDiff, Nat.reduceShiftRight, Nat.reduceAnd, e1, e3, Edge.cells, foldMin, foldMax, hmin, hmax, hg2, h0]
        unfold graphs_Check_j8
        simp (disch := first | omega | exact tr_i rfl | (simp only [nx_push, nx_put]; done) | (simp only [nx_push, nx_put]; omega)) only [go_sem, Nat.reduceAdd, Nat.reduceMul, Nat.reduceSub, Nat.reduceLeDiff, Nat.reduceEqDiff, Nat.reduceShiftRight, Nat.reduceAnd]
        have fH : Fm No H ((pushH H (mkBlk 0 [.int .i64 (.ofNat 0), .int .i64 (.ofNat 0), .bool false])).put H.nx (mkBlk 0 [.int .i64 (.ofNat es[i].f), .int .i64 (.ofNat es[i].t), .bool es[i].s])) := by (repeat (first | exact Fm.refl _ _ | assumption | refine Fm.push ?_ _ | refine Fm.up2 ?_ (by (first | omega | (simp only [nx_push, nx_put]; omega))) | refine Fm.put_new ?_ _ _ (by (first | omega | (simp only [nx_push, nx_put]; omega)))))
        exact Check_loop hC hj hE hlen hq k (i + 1) _ (by omega) (by omega) (hv.fm fH) (Nat.lt_of_lt_of_le hg1 fH.nx) ((fH.keep hg1).trans hg2) (hf.trans fH)
    · simp (disch := first | omega | exact tr_i rfl | (simp only [nx_push, nx_put]; done) | (simp only [nx_push, nx_put]; omega)) only [go_sem, Nat.reduceAdd, Nat.reduceMul, Nat.reduceSub, Nat.reduceLeDiff, Nat.reduceEqDiff, Nat.reduceShiftRight, Nat.reduceAnd, hlt]
      exact hq H hf
theorem Check_ok (hC : Links C) {k : Nat} (hk : 4 ≤ k) {n : Nat} {es : List Edge} (hE : EdgesOk n es) (hn : n ≤ 256) (hlen : es.length < 1000000) {v : AV} {H : Hp} (hv : IsE H v es) :
    Ok (C k (.f id_graphs_Check) [.agg [.int .i64 (.ofNat n), v]] H) fun r H' => r = .int .i64 (.ofNat 0) ∧ Fm No H H' := by
  obtain ⟨j, rfl⟩ : ∃ j, k = j + 1 := ⟨k - 1, by omega⟩
  rw [(hC j).graphs_Check]
  unfold graphs_Check graphs_Check_c
  have h256 : (256 < n) = False := by simp only [eq_iff_iff, iff_false]; omega
  simp (disch := first | omega | exact tr_i rfl | (simp only [nx_push, nx_put]; done) | (simp only [nx_push, nx_put]; omega)) only [go_sem, Nat.reduceAdd, Nat.reduceMul, Nat.reduceSub, Nat.reduceLeDiff, Nat.reduceEqDiff, Nat.reduceShiftRight, Nat.reduceAnd, h256, Nat.not_lt_zero]
  unfold graphs_Check_j44 graphs_Check_L5
  have fH : Fm No H (pushH H (mkBlk 0 [.int .i64 (.ofNat n), v])) := by (repeat (first | exact Fm.refl _ _ | assumption | refine Fm.push ?_ _ | refine Fm.up2 ?_ (by (first | omega | (simp only [nx_push, nx_put]; omega))) | refine Fm.put_new ?_ _ _ (by (first | omega | (simp only [nx_push, nx_put]; omega)))))
  simp (disch := first | omega | exact tr_i rfl | (simp only [nx_push, nx_put]; done) | (simp only [nx_push, nx_put]; omega)) only [go_sem, Nat.reduceAdd, Nat.reduceMul, Nat.reduceSub, Nat.reduceLeDiff, Nat.reduceEqDiff, Nat.reduceShiftRight, Nat.reduceAnd, hv.len]
  rw [fuelX_eq]
  refine Check_loop hC (by omega) hE hlen (fun H hf => ?_) _ 0 _ (Nat.zero_le _) (by rw [loopFuel_eq]; omega) (hv.fm fH) (by (first | omega | (simp only [nx_push, nx_put]; omega))) (get_push_new _ _) fH
  exact Ok.ret ⟨rfl, hf⟩
theorem of_ok (hC : Links C) {k : Nat} (hk : 5 ≤ k) {n : Nat} {es : List Edge} (hE : EdgesOk n es) (hn : n ≤ 256) (hlen : es.length < 1000000) {v : AV} {H : Hp} (hv : IsE H v es) (a : Int) :
    Ok (C k (.f id_graphs_of) [.agg [.int .i64 (.ofNat n), v], .int .i64 a] H) fun r H' => r = .int .i64 (.ofNat (if 0 ≤ a ∧ a < n then 0 else 4)) ∧ Fm No H H' := by
  obtain ⟨j, rfl⟩ : ∃ j, k = j + 1 := ⟨k - 1, by omega⟩
  rw [(hC j).graphs_of]
  unfold graphs_of graphs_of_c
  simp (disch := first | omega | exact tr_i rfl | (simp only [nx_push, nx_put]; done) | (simp only [nx_push, nx_put]; omega)) only [go_sem, Nat.reduceAdd, Nat.reduceMul, Nat.reduceSub, Nat.reduceLeDiff, Nat.reduceEqDiff, Nat.reduceShiftRight, Nat.reduceAnd]
  have fH : Fm No H (pushH H (mkBlk 0 [.int .i64 (.ofNat n), v])) := by (repeat (first | exact Fm.refl _ _ | assumption | refine Fm.push ?_ _ | refine Fm.up2 ?_ (by (first | omega | (simp only [nx_push, nx_put]; omega))) | refine Fm.put_new ?_ _ _ (by (first | omega | (simp only [nx_push, nx_put]; omega)))))
  refine Ok.ve (Check_ok hC (by omega) hE hn hlen (hv.fm fH)) ?_
  rintro r H' ⟨rfl, f'⟩
  have k1 : H'.get H.nx = mkBlk 0 [.int .i64 (.ofNat n), v] := (f'.keep (by (first | omega | (simp only [nx_push, nx_put]; omega)))).trans (get_push_new _ _)
  simp (disch := first | omega | exact tr_i rfl | (simp only [nx_push, nx_put]; done) | (simp only [nx_push, nx_put]; omega)) only [go_sem, Nat.reduceAdd, Nat.reduceMul, Nat.reduceSub, Nat.reduceLeDiff, Nat.reduceEqDiff, Nat.reduceShiftRight, Nat.reduceAnd]
  unfold graphs_of_j8 graphs_of_j1
  by_cases h1 : a < Int.ofNat 0
  · simp (disch := first | omega | exact tr_i rfl | (simp only [nx_push, nx_put]; done) | (simp only [nx_push, nx_put]; omega)) only [go_sem, Nat.reduceAdd, Nat.reduceMul, Nat.reduceSub, Nat.reduceLeDiff, Nat.reduceEqDiff, Nat.reduceShiftRight, Nat.reduceAnd, h1, k1]
    refine Ok.ret ⟨?_, fH.trans f'⟩
    rw [if_neg (by simp only [Int.ofNat_eq_natCast] at h1; omega)]
  · by_cases h2 : Int.ofNat n ≤ a
    · simp (disch := first | omega | exact tr_i rfl | (simp only [nx_push, nx_put]; done) | (simp only [nx_push, nx_put]; omega)) only [go_sem, Nat.reduceAdd, Nat.reduceMul, Nat.reduceSub, Nat.reduceLeDiff, Nat.reduceEqDiff, Nat.reduceShiftRight, Nat.reduceAnd, h1, h2, k1]
      refine Ok.ret ⟨?_, fH.trans f'⟩
      rw [if_neg (by simp only [Int.ofNat_eq_natCast] at h2; omega)]
    · simp (disch := first | omega | exact tr_i rfl | (simp only [nx_push, nx_put]; done) | (simp only [nx_push, nx_put]; omega)) only [go_sem, Nat.reduceAdd, Nat.reduceMul, Nat.reduceSub, Nat.reduceLeDiff, Nat.reduceEqDiff, Nat.reduceShiftRight, Nat.reduceAnd, h1, h2, k1]
      refine Ok.ret ⟨?_, fH.trans f'⟩
      rw [if_pos (by simp only [Int.ofNat_eq_natCast] at h1 h2; omega)]
end Go.Di
end

section
/-
  Contracts: the walk through a graph.
-/
namespace Go.Di
open Go.Ev
variable {C : Nat → Ev.Call}
def nats (l : List Nat) : List AV := l.map (fun n => .int .i64 (.ofNat n))
/-- the walk: of each node the one it was reached from, and the nodes to be looked at -/
structure Wk where
  f : List Int
  q : List Nat
def stepE (u : Nat) (s : Wk) (e : Edge) : Wk := if e.f = u ∧ s.f.getD e.t 0 < 0 then ⟨s.f.set e.t (.ofNat e.f), s.q ++ [e.t]⟩ else s
def inner (es : List Edge) (u : Nat) (s : Wk) : Wk := es.foldl (stepE u) s
def nextW (es : List Edge) (s : Wk) : Wk := match s.q with | [] => s | u :: _ => let t := inner es u s; ⟨t.f, t.q.tail⟩
def endsW (es : List Edge) : Nat → Wk → Prop
  | 0, s => s.q = []
  | k + 1, s => s.q = [] ∨ endsW es k (nextW es s)
def bfs (es : List Edge) : Nat → Wk → List Int
  | 0, s => s.f
  | k + 1, s => match s.q with | [] => s.f | _ :: _ => bfs es k (nextW es s)
theorem IsE.fmS {H H' : Hp} {v : AV} {es : List Edge} (h : IsE H v es) {S : Nat → Prop} (a : Fm S H H') (hs : ∀ b, In v b → ¬ S b) : IsE H' v es := Gl.fm h a hs
theorem stepE_len (u : Nat) (s : Wk) (e : Edge) : (stepE u s e).f.length = s.f.length := by
  unfold stepE; split <;> simp
theorem stepE_q (u : Nat) (s : Wk) (e : Edge) : ∃ r, (stepE u s e).q = s.q ++ r := by
  unfold stepE; split
  · exact ⟨_, rfl⟩
  · exact ⟨[], by simp⟩
theorem inner_len (u : Nat) : ∀ (es : List Edge) (s : Wk), (inner es u s).f.length = s.f.length
  | [], _ => rfl
  | e :: es, s => by
    show (inner es u (stepE u s e)).f.length = _
    rw [inner_len u es, stepE_len]
theorem inner_q (u : Nat) : ∀ (es : List Edge) (s : Wk), ∃ r, (inner es u s).q = s.q ++ r
  | [], s => ⟨[], by simp [inner]⟩
  | e :: es, s => by
    obtain ⟨r1, h1⟩ := stepE_q u s e
    obtain ⟨r2, h2⟩ := inner_q u es (stepE u s e)
    exact ⟨r1 ++ r2, by show (inner es u (stepE u s e)).q = _; rw [h2, h1, List.append_assoc]⟩
theorem nats_app (l : List Nat) (n : Nat) : nats l ++ [.int .i64 (.ofNat n)] = nats (l ++ [n]) := by simp [nats]
theorem ints_set (l : List Int) (i : Nat) (n : Int) (h : i < l.length) : setL (ints l) i [.int .i64 n] = ints (l.set i n) := by
  unfold setL ints
  apply List.ext_getElem
  · simp; omega
  · intro j h1 h2
    simp only [List.length_map, List.length_set] at h2
    simp only [List.getElem_map, List.getElem_set]
    by_cases hj : j < i
    · rw [List.getElem_append_left (by simp; omega), List.getElem_append_left (by simp; omega)]
      simp [show ¬ i = j by omega]
    · by_cases he : i = j
      · subst he
        rw [List.getElem_append_left (by simp; omega), List.getElem_append_right (by simp; exact Nat.min_le_left _ _)]
        simp [Nat.min_eq_left (Nat.le_of_lt h)]
      · rw [List.getElem_append_right (by simp; omega)]
        simp [he, Nat.min_eq_left (Nat.le_of_lt h)]
        congr 2; omega

theorem Inner_loop {call : Ev.Call} {n : Nat} {es : List Edge} (hE : ∀ e ∈ es, e.f < n ∧ e.t < n) (hn : n ≤ 256) {v : AV} {fb u : Nat} {H1 : Hp} (hlen : es.length < 1000000) {Q : AV → Hp → Prop} {q15 : AV → Hp → R1}
    (hv : IsE H1 v es) (hvf : ∀ b, In v b → b ≠ fb) (hfb : fb < H1.nx) (s' : Wk)
    (hq : ∀ w H, Gl 1 H w s'.q.length (nats s'.q) → H.get fb = mkBlk 0 (ints s'.f) → Fm (· = fb) H1 H → (∀ b, In w b → H1.nx ≤ b) → Ok (q15 w H) Q) :
    ∀ (k i : Nat) (s : Wk) (w : AV) (H : Hp), i ≤ es.length → es.length - i < k → inner (es.drop i) u s = s' → s.f.length = 256 → (∃ r, s.q = u :: r) → s.q.length + (es.length - i) < 2000000 →
      Gl 1 H w s.q.length (nats s.q) → H.get fb = mkBlk 0 (ints s.f) → Fm (· = fb) H1 H → (∀ b, In w b → H1.nx ≤ b) →
      Ok (graphs_walk_l15 call q15 (.ptr fb 0) v (.int .i64 (.ofNat es.length)) k w (.int .i64 (.ofNat i)) H) Q
  | 0, i, _, _, _, _, h, _, _, _, _, _, _, _, _ => by omega
  | k + 1, i, s, w, H, hi, hk, hs, hf, ⟨r, hr⟩, hsz, hw, hb, hfm, hwn => by
    show Ok (graphs_walk_b15 call _ _ _ _ (graphs_walk_l15 call _ _ _ _ k) _ _ H) Q
    unfold graphs_walk_b15
    have fbl : fb < H.nx := Nat.lt_of_lt_of_le hfb hfm.nx
    by_cases hlt : i < es.length
    · have hd : es.drop i = es[i] :: es.drop (i + 1) := List.drop_eq_getElem_cons hlt
      obtain ⟨b, o1, e1, e2, e3⟩ := (hv.fmS hfm hvf).at hlt
      have hr' := hE es[i] (List.getElem_mem hlt)
      rw [hr] at hw
      obtain ⟨qb, qo, d1, d2, d3, d4⟩ := hw.head
      simp (disch := first | omega | exact tr_i rfl | (simp only [nx_push, nx_put]; done) | (simp only [nx_push, nx_put]; omega)) only [go_sem, Nat.reduceAdd, Nat.reduceMul, Nat.reduceSub, Nat.reduceLeDiff, Nat.reduceEqDiff, Nat.reduceShiftRight, Nat.reduceAnd, hlt]
      unfold graphs_walk_j44
      have hget : (ints s.f)[es[i].t]? = some (.int .i64 (s.f.getD es[i].t 0)) := by
        rw [ints_get _ _ (by omega)]; simp [List.getD_eq_getElem?_getD, show es[i].t < s.f.length by omega]
      have ht : es[i].t < 256 := by omega
      have hst : inner (es.drop (i + 1)) u (stepE u s es[i]) = s' := by rw [← hs, hd]; rfl
      have qf : qb ≠ fb := by have := hwn qb d3; omega
      by_cases hu : es[i].f = u
      · by_cases hneg : s.f.getD es[i].t 0 < Int.ofNat 0
        · have es' : stepE u s es[i] = ⟨s.f.set es[i].t (.ofNat es[i].f), s.q ++ [es[i].t]⟩ := by unfold stepE; rw [if_pos ⟨hu, hneg⟩]
          simp (disch := first | omega | exact tr_i rfl | (simp only [nx_push, nx_put]; done) | (simp only [nx_push, nx_put]; omega)) only [go_sem, Nat.reduceAdd, Nat.reduceMul, Nat.reduceSub, Nat.reduceLeDiff, Nat.reduceEqDiff, Nat.reduceShiftRight, Nat.reduceAnd, e1, e3, Edge.cells, d1, d4, hu, hb, hget, hneg, ht, show es[i].t ≤ 255 by omega, ints_len, hf, ints_set]
          have hw0 : Gl 1 H w s.q.length (nats s.q) := by rw [hr]; exact hw
          have fH : Fm (· = fb) H (pushH (((pushH H (mkBlk 0 [.int .i64 (.ofNat 0), .int .i64 (.ofNat 0), .bool false])).put H.nx (mkBlk 0 [.int .i64 (.ofNat u), .int .i64 (.ofNat es[i].t), .bool es[i].s])).put fb (mkBlk 0 (ints (s.f.set es[i].t (.ofNat u))))) (mkBlk 0 [.int .i64 (.ofNat es[i].t)])) := by (repeat (first | exact Fm.refl _ _ | assumption | refine Fm.push ?_ _ | refine Fm.up2 ?_ (by (first | omega | (simp only [nx_push, nx_put]; omega))) | refine Fm.put_new ?_ _ _ (by (first | omega | (simp only [nx_push, nx_put]; omega))) | refine Fm.put ?_ _ _ (fun _ => rfl)))
          have hwf : ¬ In w fb := fun h => by have := hwn fb h; omega
          obtain ⟨H', e, gl', _, fm', nx'⟩ := (hw0.fm fH (fun b hb h => hwf (h ▸ hb))).append (k := 1) (w := 8) (x := [.int .i64 (.ofNat es[i].t)]) (by omega) rfl (by omega) (by omega)
          refine Ok.veE e ?_
          unfold graphs_walk_j18
          simp (disch := first | omega | exact tr_i rfl | (simp only [nx_push, nx_put]; done) | (simp only [nx_push, nx_put]; omega)) only [go_sem, Nat.reduceAdd, Nat.reduceMul, Nat.reduceSub, Nat.reduceLeDiff, Nat.reduceEqDiff, Nat.reduceShiftRight, Nat.reduceAnd]
          have fH' : Fm (· = fb) H1 H' := (hfm.then fH fun _ _ h => h).then fm' fun c hc h => by have := hwn c h; omega
          have hb' : H'.get fb = mkBlk 0 (ints (s.f.set es[i].t (.ofNat u))) := (fm'.get fb (by (first | omega | (simp only [nx_push, nx_put]; omega))) hwf).trans (by simp (disch := first | omega | exact tr_i rfl | (simp only [nx_push, nx_put]; done) | (simp only [nx_push, nx_put]; omega)) only [go_sem, Nat.reduceAdd, Nat.reduceMul, Nat.reduceSub, Nat.reduceLeDiff, Nat.reduceEqDiff, Nat.reduceShiftRight, Nat.reduceAnd])
          rw [es', hu] at hst
          rw [nats_app] at gl'
          have gl2 : Gl 1 H' (.sl (H.nx + 1 + 1) 0 (s.q.length + 1) (s.q.length + 1) false) (s.q ++ [es[i].t]).length (nats (s.q ++ [es[i].t])) := by
            rw [show (s.q ++ [es[i].t]).length = s.q.length + 1 by simp]; exact gl'
          have hnx := hfm.nx
          exact Inner_loop hE hn hlen hv hvf hfb s' hq k (i + 1) ⟨s.f.set es[i].t (.ofNat u), s.q ++ [es[i].t]⟩ _ H' (by omega) (by omega) hst (by simp; exact hf) ⟨r ++ [es[i].t], by rw [hr]; rfl⟩ (by simp; omega) gl2 hb' fH' (fun b hb => by obtain ⟨o, m, m', y, h⟩ := hb; cases h; (first | omega | (simp only [nx_push, nx_put]; omega)))
        · have es' : stepE u s es[i] = s := by unfold stepE; rw [if_neg (fun h => hneg h.2)]
          simp (disch := first | omega | exact tr_i rfl | (simp only [nx_push, nx_put]; done) | (simp only [nx_push, nx_put]; omega)) only [go_sem, Nat.reduceAdd, Nat.reduceMul, Nat.reduceSub, Nat.reduceLeDiff, Nat.reduceEqDiff, Nat.reduceShiftRight, Nat.reduceAnd, e1, e3, Edge.cells, d1, d4, hu, hb, hget, hneg, ht]
          unfold graphs_walk_j18
          simp (disch := first | omega | exact tr_i rfl | (simp only [nx_push, nx_put]; done) | (simp only [nx_push, nx_put]; omega)) only [go_sem, Nat.reduceAdd, Nat.reduceMul, Nat.reduceSub, Nat.reduceLeDiff, Nat.reduceEqDiff, Nat.reduceShiftRight, Nat.reduceAnd]
          have fH : Fm No H ((pushH H (mkBlk 0 [.int .i64 (.ofNat 0), .int .i64 (.ofNat 0), .bool false])).put H.nx (mkBlk 0 [.int .i64 (.ofNat u), .int .i64 (.ofNat es[i].t), .bool es[i].s])) := by (repeat (first | exact Fm.refl _ _ | assumption | refine Fm.push ?_ _ | refine Fm.up2 ?_ (by (first | omega | (simp only [nx_push, nx_put]; omega))) | refine Fm.put_new ?_ _ _ (by (first | omega | (simp only [nx_push, nx_put]; omega)))))
          rw [es'] at hst
          exact Inner_loop hE hn hlen hv hvf hfb s' hq k (i + 1) s w _ (by omega) (by omega) hst hf ⟨r, hr⟩ (by omega) ((by rw [hr]; exact hw : Gl 1 H w s.q.length (nats s.q)).no fH) ((fH.keep fbl).trans hb) (hfm.then fH fun _ _ h => h.elim) hwn
      · have es' : stepE u s es[i] = s := by unfold stepE; rw [if_neg (fun h => hu h.1)]
        simp (disch := first | omega | exact tr_i rfl | (simp only [nx_push, nx_put]; done) | (simp only [nx_push, nx_put]; omega)) only [go_sem, Nat.reduceAdd, Nat.reduceMul, Nat.reduceSub, Nat.reduceLeDiff, Nat.reduceEqDiff, Nat.reduceShiftRight, Nat.reduceAnd, e1, e3, Edge.cells, d1, d4, hu, hb, hget, ht]
        unfold graphs_walk_j18
        simp (disch := first | omega | exact tr_i rfl | (simp only [nx_push, nx_put]; done) | (simp only [nx_push, nx_put]; omega)) only [go_sem, Nat.reduceAdd, Nat.reduceMul, Nat.reduceSub, Nat.reduceLeDiff, Nat.reduceEqDiff, Nat.reduceShiftRight, Nat.reduceAnd]
        have fH : Fm No H ((pushH H (mkBlk 0 [.int .i64 (.ofNat 0), .int .i64 (.ofNat 0), .bool false])).put H.nx (mkBlk 0 [.int .i64 (.ofNat es[i].f), .int .i64 (.ofNat es[i].t), .bool es[i].s])) := by (repeat (first | exact Fm.refl _ _ | assumption | refine Fm.push ?_ _ | refine Fm.up2 ?_ (by (first | omega | (simp only [nx_push, nx_put]; omega))) | refine Fm.put_new ?_ _ _ (by (first | omega | (simp only [nx_push, nx_put]; omega)))))
        rw [es'] at hst
        exact Inner_loop hE hn hlen hv hvf hfb s' hq k (i + 1) s w _ (by omega) (by omega) hst hf ⟨r, hr⟩ (by omega) ((by rw [hr]; exact hw : Gl 1 H w s.q.length (nats s.q)).no fH) ((fH.keep fbl).trans hb) (hfm.then fH fun _ _ h => h.elim) hwn
    · have hd : es.drop i = [] := List.drop_eq_nil_of_le (by omega)
      rw [hd] at hs
      simp (disch := first | omega | exact tr_i rfl | (simp only [nx_push, nx_put]; done) | (simp only [nx_push, nx_put]; omega)) only [go_sem, Nat.reduceAdd, Nat.reduceMul, Nat.reduceSub, Nat.reduceLeDiff, Nat.reduceEqDiff, Nat.reduceShiftRight, Nat.reduceAnd, hlt]
      have : s = s' := hs
      subst this
      exact hq w H hw hb hfm hwn
end Go.Di
end

section
/-
  Contracts: the walk through a graph, whole.
-/
namespace Go.Di
open Go.Ev
variable {C : Nat → Ev.Call}
theorem stepE_ql (u : Nat) (s : Wk) (e : Edge) : (stepE u s e).q.length ≤ s.q.length + 1 := by
  unfold stepE; split <;> simp
theorem inner_ql (u : Nat) : ∀ (es : List Edge) (s : Wk), (inner es u s).q.length ≤ s.q.length + es.length
  | [], _ => Nat.le_refl _
  | e :: es, s => by
    show (inner es u (stepE u s e)).q.length ≤ _
    have h1 := inner_ql u es (stepE u s e)
    have h2 := stepE_ql u s e
    simp only [List.length_cons]; omega
theorem Outer_loop {call : Ev.Call} {n : Nat} {es : List Edge} (hE : ∀ e ∈ es, e.f < n ∧ e.t < n) (hn : n ≤ 256) {v : AV} {fb g : Nat} {H1 : Hp} (hlen : es.length < 1000000) {Q : AV → Hp → Prop} {q9 : Hp → R1}
    (hv : IsE H1 v es) (hvf : ∀ b, In v b → b ≠ fb) (hfb : fb < H1.nx) (hg : g < H1.nx) (hgf : g ≠ fb) (hgv : H1.get g = mkBlk 0 [.int .i64 (.ofNat n), v]) (f' : List Int)
    (hq : ∀ H, H.get fb = mkBlk 0 (ints f') → Fm (· = fb) H1 H → Ok (q9 H) Q) :
    ∀ (k m : Nat) (s : Wk) (w : AV) (H : Hp), endsW es m s → m < k → bfs es m s = f' → s.f.length = 256 → s.q.length + (m + 1) * es.length < 2000000 →
      lenSl w = .val (.int .i64 (.ofNat s.q.length)) → (s.q ≠ [] → Gl 1 H w s.q.length (nats s.q)) → H.get fb = mkBlk 0 (ints s.f) → Fm (· = fb) H1 H → (∀ b, In w b → H1.nx ≤ b) →
      Ok (graphs_walk_l9 call q9 (.ptr g 0) (.ptr fb 0) k w H) Q
  | 0, m, _, _, _, _, h, _, _, _, _, _, _, _, _ => by omega
  | k + 1, m, s, w, H, hends, hk, hs, hf, hsz, hl, hw, hb, hfm, hwn => by
    show Ok (graphs_walk_b9 call _ _ _ (graphs_walk_l9 call _ _ _ k) _ H) Q
    unfold graphs_walk_b9
    cases hqs : s.q with
    | nil =>
      rw [hqs] at hl
      simp (disch := first | omega | exact tr_i rfl | (simp only [nx_push, nx_put]; done) | (simp only [nx_push, nx_put]; omega)) only [go_sem, Nat.reduceAdd, Nat.reduceMul, Nat.reduceSub, Nat.reduceLeDiff, Nat.reduceEqDiff, Nat.reduceShiftRight, Nat.reduceAnd, hl, Nat.lt_irrefl]
      have : bfs es m s = s.f := by cases m <;> simp [bfs, hqs]
      rw [this] at hs; subst hs
      exact hq H hb hfm
    | cons u r =>
      obtain ⟨m', rfl⟩ : ∃ m', m = m' + 1 := by
        cases m with
        | zero => have h0 : s.q = [] := hends; rw [hqs] at h0; cases h0
        | succ m' => exact ⟨m', rfl⟩
      have hw := hw (by rw [hqs]; simp)
      rw [hqs] at hl
      simp (disch := first | omega | exact tr_i rfl | (simp only [nx_push, nx_put]; done) | (simp only [nx_push, nx_put]; omega)) only [go_sem, Nat.reduceAdd, Nat.reduceMul, Nat.reduceSub, Nat.reduceLeDiff, Nat.reduceEqDiff, Nat.reduceShiftRight, Nat.reduceAnd, hl, Nat.zero_lt_succ]
      unfold graphs_walk_j45
      have k1 : H.get g = mkBlk 0 [.int .i64 (.ofNat n), v] := (hfm.get g hg hgf).trans hgv
      simp (disch := first | omega | exact tr_i rfl | (simp only [nx_push, nx_put]; done) | (simp only [nx_push, nx_put]; omega)) only [go_sem, Nat.reduceAdd, Nat.reduceMul, Nat.reduceSub, Nat.reduceLeDiff, Nat.reduceEqDiff, Nat.reduceShiftRight, Nat.reduceAnd, k1, (hv.len)]
      unfold graphs_walk_L15
      rw [fuelX_eq]
      have hmul : (m' + 1 + 1) * es.length = (m' + 1) * es.length + es.length := by rw [Nat.add_mul, Nat.one_mul]
      refine Inner_loop hE hn (u := u) hlen hv hvf hfb (inner es u s) (fun w' H' gl hb' hfm' hwn' => ?_) loopFuel 0 s w H (Nat.zero_le _) (by rw [loopFuel_eq]; omega) rfl hf ⟨r, hqs⟩ (by omega) hw hb hfm hwn
      have hn1 : nextW es s = ⟨(inner es u s).f, (inner es u s).q.tail⟩ := by unfold nextW; rw [hqs]
      obtain ⟨r', hr'⟩ := inner_q u es s
      rw [hqs] at hr'
      have hql := inner_ql u es s
      unfold graphs_walk_j11
      have hlr : (inner es u s).q = u :: (r ++ r') := hr'
      rw [hlr] at gl
      obtain ⟨w2, e2, l2, g2, n2⟩ := gl.tail
      simp (disch := first | omega | exact tr_i rfl | (simp only [nx_push, nx_put]; done) | (simp only [nx_push, nx_put]; omega)) only [go_sem, Nat.reduceAdd, Nat.reduceMul, Nat.reduceSub, Nat.reduceLeDiff, Nat.reduceEqDiff, Nat.reduceShiftRight, Nat.reduceAnd, e2]
      have hn2 : nextW es s = ⟨(inner es u s).f, r ++ r'⟩ := by rw [hn1, hlr]; rfl
      have hends' : endsW es m' (nextW es s) := by
        rcases hends with h | h
        · rw [hqs] at h; cases h
        · exact h
      have hs' : bfs es m' (nextW es s) = f' := by rw [← hs]; simp [bfs, hqs]
      rw [hn2] at hends' hs'
      refine Outer_loop hE hn hlen hv hvf hfb hg hgf hgv f' hq k m' ⟨(inner es u s).f, r ++ r'⟩ w2 H' hends' (by omega) hs' (by rw [← hf]; exact inner_len _ _ _) ?_ l2 (fun hne => g2 ?_) hb' hfm' (fun b h => hwn' b (n2 b h))
      · rw [hlr, List.length_cons] at hql; simp only; omega
      · cases hrr : r ++ r' with
        | nil => exact absurd hrr hne
        | cons _ _ => simp
theorem Init_loop {call : Ev.Call} {fb : Nat} {H1 : Hp} {Q : AV → Hp → Prop} {q49 : Hp → R1} (hfb : fb < H1.nx)
    (hq : ∀ H, H.get fb = mkBlk 0 (ints (List.replicate 256 (-1))) → Fm (· = fb) H1 H → H.nx = H1.nx → Ok (q49 H) Q) :
    ∀ (k i : Nat) (f : List Int) (H : Hp), i ≤ 256 → 256 - i < k → f.length = 256 → (∀ j, j < i → f[j]? = some (-1)) → H.get fb = mkBlk 0 (ints f) → Fm (· = fb) H1 H → H.nx = H1.nx →
      Ok (graphs_walk_l49 call q49 (.ptr fb 0) k (.int .i64 (.ofNat i)) H) Q
  | 0, i, _, _, _, h, _, _, _, _, _ => by omega
  | k + 1, i, f, H, hi, hk, hf, hj, hb, hfm, hnx => by
    show Ok (graphs_walk_b49 call _ _ (graphs_walk_l49 call _ _ k) _ H) Q
    unfold graphs_walk_b49
    by_cases hlt : i < 256
    · simp (disch := first | omega | exact tr_i rfl | (simp only [nx_push, nx_put]; done) | (simp only [nx_push, nx_put]; omega)) only [go_sem, Nat.reduceAdd, Nat.reduceMul, Nat.reduceSub, Nat.reduceLeDiff, Nat.reduceEqDiff, Nat.reduceShiftRight, Nat.reduceAnd, hlt]
      unfold graphs_walk_j55
      simp (disch := first | omega | exact tr_i rfl | (simp only [nx_push, nx_put]; done) | (simp only [nx_push, nx_put]; omega)) only [go_sem, Nat.reduceAdd, Nat.reduceMul, Nat.reduceSub, Nat.reduceLeDiff, Nat.reduceEqDiff, Nat.reduceShiftRight, Nat.reduceAnd, hlt, hb, ints_len, hf, show i ≤ 255 by omega, ints_set]
      unfold graphs_walk_j52
      simp (disch := first | omega | exact tr_i rfl | (simp only [nx_push, nx_put]; done) | (simp only [nx_push, nx_put]; omega)) only [go_sem, Nat.reduceAdd, Nat.reduceMul, Nat.reduceSub, Nat.reduceLeDiff, Nat.reduceEqDiff, Nat.reduceShiftRight, Nat.reduceAnd]
      refine Init_loop hfb hq k (i + 1) (f.set i (.negSucc 0)) _ (by omega) (by omega) (by simp; exact hf) (fun j h => ?_) (get_put_same _ _ _) (by (repeat (first | exact Fm.refl _ _ | assumption | refine Fm.push ?_ _ | refine Fm.up2 ?_ (by (first | omega | (simp only [nx_push, nx_put]; omega))) | refine Fm.put_new ?_ _ _ (by (first | omega | (simp only [nx_push, nx_put]; omega))) | refine Fm.put ?_ _ _ (fun _ => rfl)))) hnx
      by_cases hji : j = i
      · subst hji; rw [List.getElem?_set_self (by omega)]; rfl
      · rw [List.getElem?_set_ne (fun e => hji e.symm)]; exact hj j (by omega)
    · simp (disch := first | omega | exact tr_i rfl | (simp only [nx_push, nx_put]; done) | (simp only [nx_push, nx_put]; omega)) only [go_sem, Nat.reduceAdd, Nat.reduceMul, Nat.reduceSub, Nat.reduceLeDiff, Nat.reduceEqDiff, Nat.reduceShiftRight, Nat.reduceAnd, hlt]
      have hi256 : i = 256 := by omega
      subst hi256
      have : f = List.replicate 256 (-1) := by
        apply List.ext_getElem?
        intro j
        by_cases h : j < 256
        · rw [hj j h, List.getElem?_replicate, if_pos h]
        · rw [List.getElem?_eq_none (by omega), List.getElem?_eq_none (by rw [List.length_replicate]; omega)]
      subst this
      exact hq H hb hfm hnx
def startW (a : Nat) : Wk := ⟨(List.replicate 256 (-1)).set a (.ofNat a), [a]⟩
theorem walk_ok (hC : Links C) {k : Nat} (hk : 1 ≤ k) {n : Nat} {es : List Edge} (hE : ∀ e ∈ es, e.f < n ∧ e.t < n) (hn : n ≤ 256) (hlen : es.length < 1000) {v : AV} {H : Hp} (hv : IsE H v es) {a : Nat} (ha : a < n) (m : Nat) (hm : m < 1000) (hends : endsW es m (startW a)) :
    Ok (C k (.f id_graphs_walk) [.agg [.int .i64 (.ofNat n), v], .int .i64 (.ofNat a)] H) fun r H' => r = .agg (ints (bfs es m (startW a))) ∧ (bfs es m (startW a)).length = 256 ∧ Fm No H H' := by
  obtain ⟨j, rfl⟩ : ∃ j, k = j + 1 := ⟨k - 1, by omega⟩
  rw [(hC j).graphs_walk]
  unfold graphs_walk graphs_walk_c graphs_walk_L49
  simp (disch := first | omega | exact tr_i rfl | (simp only [nx_push, nx_put]; done) | (simp only [nx_push, nx_put]; omega)) only [go_sem, Nat.reduceAdd, Nat.reduceMul, Nat.reduceSub, Nat.reduceLeDiff, Nat.reduceEqDiff, Nat.reduceShiftRight, Nat.reduceAnd]
  rw [fuelX_eq]
  have hrep : List.replicate 256 (AV.int .i64 (.ofNat 0)) = ints (List.replicate 256 0) := by simp only [ints, List.map_replicate]; rfl
  rw [hrep]
  have lb : ∀ (m : Nat) (s : Wk), s.f.length = 256 → (bfs es m s).length = 256 := by
    intro m
    induction m with
    | zero => intro s h; exact h
    | succ m ih =>
      intro s h
      cases hq : s.q with
      | nil => simp [bfs, hq]; exact h
      | cons u r =>
        simp only [bfs, hq]
        refine ih _ ?_
        simp only [nextW, hq]
        rw [inner_len]; exact h
  refine Init_loop (H1 := pushH (pushH (pushH H (mkBlk 0 [.int .i64 (.ofNat n), v])) (mkBlk 0 (ints (List.replicate 256 0)))) (mkBlk 0 (ints (List.replicate 256 0)))) (by (first | omega | (simp only [nx_push, nx_put]; omega))) (fun H2 hb2 f2 nx2 => ?_) loopFuel 0 (List.replicate 256 0) _ (Nat.zero_le _) (by rw [loopFuel_eq]; omega) List.length_replicate (fun j h => by omega) (get_push_new _ _) (Fm.refl _ _) rfl
  unfold graphs_walk_j48
  simp (disch := first | omega | exact tr_i rfl | (simp only [nx_push, nx_put]; done) | (simp only [nx_push, nx_put]; omega)) only [go_sem, Nat.reduceAdd, Nat.reduceMul, Nat.reduceSub, Nat.reduceLeDiff, Nat.reduceEqDiff, Nat.reduceShiftRight, Nat.reduceAnd, show a < 256 by omega, hb2, ints_len, List.length_replicate, show a ≤ 255 by omega, ints_set]
  unfold graphs_walk_L9
  rw [fuelX_eq, ints_set _ _ _ (by rw [List.length_replicate]; omega)]
  have fH : Fm No H (pushH (pushH (pushH H (mkBlk 0 [.int .i64 (.ofNat n), v])) (mkBlk 0 (ints (List.replicate 256 0)))) (mkBlk 0 (ints (List.replicate 256 0)))) := by (repeat (first | exact Fm.refl _ _ | assumption | refine Fm.push ?_ _ | refine Fm.up2 ?_ (by (first | omega | (simp only [nx_push, nx_put]; omega))) | refine Fm.put_new ?_ _ _ (by (first | omega | (simp only [nx_push, nx_put]; omega)))))
  have hvb : ∀ b, In v b → b < H.nx := fun b hb => Gl.lt hv hb
  refine Outer_loop hE hn (H1 := pushH (pushH (pushH H (mkBlk 0 [.int .i64 (.ofNat n), v])) (mkBlk 0 (ints (List.replicate 256 0)))) (mkBlk 0 (ints (List.replicate 256 0)))) (by omega) (hv.fm fH) (fun b hb => by have := hvb b hb; omega) (by (first | omega | (simp only [nx_push, nx_put]; omega))) (by (first | omega | (simp only [nx_push, nx_put]; omega))) (by omega) (by simp (disch := first | omega | exact tr_i rfl | (simp only [nx_push, nx_put]; done) | (simp only [nx_push, nx_put]; omega)) only [go_sem, Nat.reduceAdd, Nat.reduceMul, Nat.reduceSub, Nat.reduceLeDiff, Nat.reduceEqDiff, Nat.reduceShiftRight, Nat.reduceAnd]) (bfs es m (startW a)) (fun H3 hb3 f3 => ?_) loopFuel m (startW a) _ _ hends (by rw [loopFuel_eq]; omega) rfl (by unfold startW; rw [List.length_set, List.length_replicate]) ?_ rfl (fun _ => ?_) ?_ ?_ ?_
  · unfold graphs_walk_j7
    have hl := lb m (startW a) (by unfold startW; rw [List.length_set, List.length_replicate])
    have hr4 : H3.get (H.nx + 1) = mkBlk 0 (ints (List.replicate 256 0)) := (f3.get _ (by (first | omega | (simp only [nx_push, nx_put]; omega))) (by omega)).trans (by simp (disch := first | omega | exact tr_i rfl | (simp only [nx_push, nx_put]; done) | (simp only [nx_push, nx_put]; omega)) only [go_sem, Nat.reduceAdd, Nat.reduceMul, Nat.reduceSub, Nat.reduceLeDiff, Nat.reduceEqDiff, Nat.reduceShiftRight, Nat.reduceAnd])
    have hsl : setL (ints (List.replicate 256 0)) 0 (ints (bfs es m (startW a))) = ints (bfs es m (startW a)) := setL_all _ _ (by unfold Tr; rw [ints_len, ints_len, List.length_replicate, hl]; rfl)
    have htk : List.take 256 (ints (bfs es m (startW a))) = ints (bfs es m (startW a)) := List.take_of_length_le (by rw [ints_len, hl]; exact Nat.le_refl _)
    simp (disch := first | omega | exact tr_i rfl | (simp only [nx_push, nx_put]; done) | (simp only [nx_push, nx_put]; omega)) only [go_sem, Nat.reduceAdd, Nat.reduceMul, Nat.reduceSub, Nat.reduceLeDiff, Nat.reduceEqDiff, Nat.reduceShiftRight, Nat.reduceAnd, hb3, ints_len, hl, htk, hr4, hsl, List.length_replicate]
    refine Ok.ret ⟨rfl, trivial, ?_⟩
    have : Fm No H H3 := fH.then f3 fun c hc h => by omega
    (repeat (first | exact Fm.refl _ _ | assumption | refine Fm.push ?_ _ | refine Fm.up2 ?_ (by (first | omega | (simp only [nx_push, nx_put]; omega))) | refine Fm.put_new ?_ _ _ (by (first | omega | (simp only [nx_push, nx_put]; omega)))))
  · have : (startW a).q.length = 1 := rfl
    have : (m + 1) * es.length ≤ 1000 * 1000 := Nat.mul_le_mul (by omega) (by omega)
    omega
  · refine ⟨rfl, .inr ⟨_, 0, true, 0, _, rfl, get_push_new _ _, Nat.zero_le _, rfl, .inl rfl, by (first | omega | (simp only [nx_push, nx_put]; omega))⟩⟩
  · exact (get_push_old _ _ _ (by rw [nx_put, nx2]; (first | omega | (simp only [nx_push, nx_put]; omega)))).trans (get_put_same _ _ _)
  · exact (f2.put _ _ (fun _ => rfl)).push _
  · intro b hb
    obtain ⟨o, n', m', y, h⟩ := hb
    cases h
    rw [nx2]; exact Nat.le_refl _
end Go.Di
end

section
/-
  Contracts: lists that are cut to size, turned round, compared; what is reached, and paths.
-/
namespace Go.Di
open Go.Ev
variable {C : Nat → Ev.Call}
theorem ints_nats (l : List Nat) : ints (l.map Int.ofNat) = nats l := by unfold ints nats; rw [List.map_map]; rfl
theorem Gl.at {n : Nat} {H : Hp} {v : AV} {l : List AV} (h : Gl 1 H v n l) {i : Nat} {x : AV} (hx : l[i]? = some x) : ∃ b o, idxS 1 v (.int .i64 (.ofNat i)) = .val (.ptr b o) ∧ b < H.nx ∧ In v b ∧ rdBlk1 (H.get b) o = .val x := by
  have hl := h.len
  have hi : i < l.length := by
    rcases Nat.lt_or_ge i l.length with h | h
    · exact h
    · rw [List.getElem?_eq_none h] at hx; cases hx
  rcases h.is with ⟨rfl, rfl⟩ | ⟨b, o, e, q, L, rfl, h1, h2, h3, h4, h5⟩
  · omega
  · refine ⟨b, o + i, ?_, h5, ⟨_, _, _, _, rfl⟩, ?_⟩
    · rw [idxS_n _ _ _ _ _ _ _ _ (by omega), Nat.mul_one]
    · have : L[o + i]? = some x := by rw [← List.getElem?_drop, h3]; exact hx
      rw [h1, rdBlk1_mk, this]
theorem Gl.clip {z n : Nat} {H : Hp} {v : AV} {l : List AV} (h : Gl z H v n l) : ∃ w, sliceSl z v none (some (.int .i64 (.ofNat n))) (some (.int .i64 (.ofNat n))) = .val w ∧ Gl z H w n l ∧ capV w = .val (.int .i64 (.ofNat n)) ∧ (∀ b, In w b → In v b) := by
  rcases h.is with ⟨rfl, rfl⟩ | ⟨b, o, e, q, L, rfl, h1, h2, h3, h4, h5⟩
  · exact ⟨.nilsl, rfl, h, rfl, fun b h => h⟩
  · have e1 : sliceSl z (.sl b o n n e) none (some (.int .i64 (.ofNat n))) (some (.int .i64 (.ofNat n))) = mkSl b o z ⟨0, n, n⟩ true := by
      show (match bounds n n none (some (.int .i64 (.ofNat n))) (some (.int .i64 (.ofNat n))) with | some bd => mkSl b o z bd true | none => R0.bad) = _
      have : bounds n n none (some (.int .i64 (.ofNat n))) (some (.int .i64 (.ofNat n))) = some ⟨0, n, n⟩ := by
        show (match (bif Nat.ble n n then some n else none) with | none => none | some m => match (bif Nat.ble n m then some n else none) with | none => none | some h => match (some 0 : Option Nat) with | none => none | some l => some (Bd.mk l h m)) = _
        rw [ble_eq, decide_eq_true (Nat.le_refl n)]; simp only [cond_true, ble_eq, decide_eq_true (Nat.le_refl n)]
      rw [this]
    rw [e1]
    unfold mkSl
    simp only [beq_eq]
    by_cases hn : n = 0
    · subst hn
      exact ⟨.sl b o 0 0 true, rfl, ⟨h.len, .inr ⟨b, o, true, q, L, rfl, h1, h2, h3, .inl rfl, h5⟩⟩, rfl, fun c hc => by obtain ⟨_, _, _, _, h'⟩ := hc; cases h'; exact ⟨_, _, _, _, rfl⟩⟩
    · rw [decide_eq_false hn]
      refine ⟨.sl b o n n true, ?_, ⟨h.len, .inr ⟨b, o, true, q, L, rfl, h1, h2, h3, .inl rfl, h5⟩⟩, rfl, fun c hc => by obtain ⟨_, _, _, _, h'⟩ := hc; cases h'; exact ⟨_, _, _, _, rfl⟩⟩
      show R0.val (.sl b (o + 0 * z) (n - 0) (n - 0) true) = _
      rw [Nat.zero_mul, Nat.add_zero, Nat.sub_zero]
theorem Clip_ok (hC : Links C) {k : Nat} (hk : 1 ≤ k) {n : Nat} {H : Hp} {v : AV} {l : List AV} (h : Gl 1 H v n l) :
    ∃ w, C k (.f id_slices_Clip_int_int) [v] H = .ok w H ∧ Gl 1 H w n l ∧ capV w = .val (.int .i64 (.ofNat n)) ∧ (∀ b, In w b → In v b) := by
  obtain ⟨j, rfl⟩ : ∃ j, k = j + 1 := ⟨k - 1, by omega⟩
  obtain ⟨w, e, h1, h2, h3⟩ := h.clip
  refine ⟨w, ?_, h1, h2, h3⟩
  rw [(hC j).slices_Clip_int_int]
  unfold slices_Clip_int_int slices_Clip_int_int_c
  simp (disch := first | omega | exact tr_i rfl | (simp only [nx_push, nx_put]; done) | (simp only [nx_push, nx_put]; omega)) only [go_sem, Nat.reduceAdd, Nat.reduceMul, Nat.reduceSub, Nat.reduceLeDiff, Nat.reduceEqDiff, Nat.reduceShiftRight, Nat.reduceAnd, h.lenV, e]

theorem list_loop {call : Ev.Call} {H : Hp} {v w : AV} {l : List Int} (hv : Gl 1 H v l.length (ints l)) (hw : Gl 1 H w l.length (ints l)) (hlen : l.length < 1000000) :
    ∀ (k i : Nat), i ≤ l.length → l.length - i < k → law16_list_l1 call (fun x8 H => .ok x8 H) (fun H => law16_list_j0 call H) v w k (.int .i64 (.ofNat i)) H = .ok (.bool true) H
  | 0, i, _, h => by omega
  | k + 1, i, hi, hk => by
    show law16_list_b1 call _ _ _ _ (law16_list_l1 call _ _ _ _ k) _ H = _
    unfold law16_list_b1
    by_cases hlt : i < l.length
    · simp (disch := first | omega | exact tr_i rfl | (simp only [nx_push, nx_put]; done) | (simp only [nx_push, nx_put]; omega)) only [go_sem, Nat.reduceAdd, Nat.reduceMul, Nat.reduceSub, Nat.reduceLeDiff, Nat.reduceEqDiff, Nat.reduceShiftRight, Nat.reduceAnd, hlt, hw.lenV]
      unfold law16_list_j9
      obtain ⟨b, o, e1, _, _, e2⟩ := hv.at (ints_get l i hlt)
      obtain ⟨b', o', e1', _, _, e2'⟩ := hw.at (ints_get l i hlt)
      simp (disch := first | omega | exact tr_i rfl | (simp only [nx_push, nx_put]; done) | (simp only [nx_push, nx_put]; omega)) only [go_sem, Nat.reduceAdd, Nat.reduceMul, Nat.reduceSub, Nat.reduceLeDiff, Nat.reduceEqDiff, Nat.reduceShiftRight, Nat.reduceAnd, e1, e2, e1', e2']
      unfold law16_list_j3
      simp (disch := first | omega | exact tr_i rfl | (simp only [nx_push, nx_put]; done) | (simp only [nx_push, nx_put]; omega)) only [go_sem, Nat.reduceAdd, Nat.reduceMul, Nat.reduceSub, Nat.reduceLeDiff, Nat.reduceEqDiff, Nat.reduceShiftRight, Nat.reduceAnd]
      exact list_loop hv hw hlen k (i + 1) (by omega) (by omega)
    · simp (disch := first | omega | exact tr_i rfl | (simp only [nx_push, nx_put]; done) | (simp only [nx_push, nx_put]; omega)) only [go_sem, Nat.reduceAdd, Nat.reduceMul, Nat.reduceSub, Nat.reduceLeDiff, Nat.reduceEqDiff, Nat.reduceShiftRight, Nat.reduceAnd, hlt, hw.lenV]
      unfold law16_list_j0
      rfl
theorem list_ok (hC : Links C) {k : Nat} (hk : 1 ≤ k) {H : Hp} {v w : AV} {l : List Int} (hv : Gl 1 H v l.length (ints l)) (hw : Gl 1 H w l.length (ints l)) (hlen : l.length < 1000000) (hc : capV v = .val (.int .i64 (.ofNat l.length))) (e : Int) :
    C k (.f id_law16_list) [v, .int .i64 e, w, .int .i64 e] H = .ok (.bool true) H := by
  obtain ⟨j, rfl⟩ : ∃ j, k = j + 1 := ⟨k - 1, by omega⟩
  rw [(hC j).law16_list]
  unfold law16_list law16_list_c
  simp (disch := first | omega | exact tr_i rfl | (simp only [nx_push, nx_put]; done) | (simp only [nx_push, nx_put]; omega)) only [go_sem, Nat.reduceAdd, Nat.reduceMul, Nat.reduceSub, Nat.reduceLeDiff, Nat.reduceEqDiff, Nat.reduceShiftRight, Nat.reduceAnd, hv.lenV, hw.lenV, hc]
  unfold law16_list_j12 law16_list_L1
  rw [fuelX_eq]
  exact list_loop hv hw hlen _ 0 (Nat.zero_le _) (by rw [loopFuel_eq]; omega)

theorem OrE_loop {call : Ev.Call} {H : Hp} {b m : Nat} {e : Bool} {q : Nat} {l : List Int} (h0 : H.get b = mkBlk q (ints l)) (hl : l.length < 1000000) :
    ∀ (k i : Nat), i ≤ l.length → l.length - i < k → cmp_Or_api_Errno_l2 call (fun x2 H => .ok x2 H) (fun H => cmp_Or_api_Errno_j0 call (.int .i64 (.ofNat 0)) H) (.int .i64 (.ofNat 0)) (.sl b 0 l.length m e) (.int .i64 (.ofNat l.length)) k (.int .i64 (.ofNat i)) H = .ok (.int .i64 (orI (l.drop i))) H
  | 0, i, _, h => by omega
  | k + 1, i, hi, hk => by
    show cmp_Or_api_Errno_b2 call _ _ _ _ _ (cmp_Or_api_Errno_l2 call _ _ _ _ _ k) _ H = _
    unfold cmp_Or_api_Errno_b2
    by_cases hlt : i < l.length
    · simp (disch := omega) only [go_sem, hlt]
      unfold cmp_Or_api_Errno_j9
      have hd : l.drop i = l[i] :: l.drop (i + 1) := List.drop_eq_getElem_cons hlt
      simp (disch := omega) only [go_sem, h0, ints_get _ _ hlt]
      rw [hd]
      show _ = R1.ok (.int .i64 (if l[i] = 0 then orI (l.drop (i + 1)) else l[i])) H
      by_cases hz : l[i] = Int.ofNat 0
      · have hz' : l[i] = 0 := hz
        simp only [hz', go_sem]
        unfold cmp_Or_api_Errno_j5
        simp (disch := omega) only [go_sem]
        exact OrE_loop h0 hl k (i + 1) (by omega) (by omega)
      · have hz' : ¬ l[i] = 0 := hz
        simp only [hz, hz', go_sem]
    · have hd : l.drop i = [] := List.drop_eq_nil_of_le (by omega)
      simp (disch := omega) only [go_sem, hlt]
      rw [hd]; unfold cmp_Or_api_Errno_j0; rfl
theorem OrE_ok (hC : Links C) {k : Nat} (hk : 1 ≤ k) {H : Hp} {b m : Nat} {e : Bool} {q n : Nat} {l : List Int} (hn : l.length = n) (h0 : H.get b = mkBlk q (ints l)) (hl : l.length < 1000000) :
    C k (.f id_cmp_Or_api_Errno) [.sl b 0 n m e] H = .ok (.int .i64 (orI l)) H := by
  obtain ⟨j, rfl⟩ : ∃ j, k = j + 1 := ⟨k - 1, by omega⟩
  subst hn
  rw [(hC j).cmp_Or_api_Errno]
  unfold cmp_Or_api_Errno cmp_Or_api_Errno_c cmp_Or_api_Errno_L2
  simp only [go_sem]
  rw [fuelX_eq]
  exact OrE_loop h0 hl _ 0 (Nat.zero_le _) (by rw [loopFuel_eq]; omega)

theorem Rev_loop {call : Ev.Call} {b q n m : Nat} {y : Bool} {l : List Int} (hn : l.length = n) (hlen : n < 1000000) {H0 : Hp} :
    ∀ (k i : Nat) (c : List Int) (H : Hp), i ≤ n - 1 - i + 1 → n - i < k → c.length = n → (∀ p, p < n → c[p]? = if p < i ∨ n - 1 - i < p then l[n - 1 - p]? else l[p]?) → 1 ≤ n → i ≤ n - 1 → H.get b = mkBlk q (ints c) → Fm (· = b) H0 H →
      Ok (slices_Reverse_int_int_l2 call (fun H => .ok (.tup []) H) (.sl b 0 n m y) k (.int .i64 (.ofNat i)) (.int .i64 (.ofNat (n - 1 - i))) H) fun v H' => v = .tup [] ∧ H'.get b = mkBlk q (ints l.reverse) ∧ Fm (· = b) H0 H'
  | 0, i, _, _, _, h, _, _, _, _, _, _ => by omega
  | k + 1, i, c, H, hi, hk, hc, hp, h1, hin, hb, hfm => by
    show Ok (slices_Reverse_int_int_b2 call _ _ (slices_Reverse_int_int_l2 call _ _ k) _ _ H) _
    unfold slices_Reverse_int_int_b2
    by_cases hlt : i < n - 1 - i
    · simp (disch := first | omega | exact tr_i rfl | (simp only [nx_push, nx_put]; done) | (simp only [nx_push, nx_put]; omega)) only [go_sem, Nat.reduceAdd, Nat.reduceMul, Nat.reduceSub, Nat.reduceLeDiff, Nat.reduceEqDiff, Nat.reduceShiftRight, Nat.reduceAnd, hlt]
      unfold slices_Reverse_int_int_j23
      have g1 := ints_get c i (by omega)
      have g2 := ints_get c (n - 1 - i) (by omega)
      have hc2 : (c.set i c[n - 1 - i]).length = n := by rw [List.length_set]; exact hc
      simp (disch := first | omega | exact tr_i rfl | (simp only [nx_push, nx_put]; done) | (simp only [nx_push, nx_put]; omega)) only [go_sem, Nat.reduceAdd, Nat.reduceMul, Nat.reduceSub, Nat.reduceLeDiff, Nat.reduceEqDiff, Nat.reduceShiftRight, Nat.reduceAnd, hb, g1, g2, ints_len, hc, show i + 1 ≤ n by omega, show n - 1 - i + 1 ≤ n by omega, ints_set, List.length_set]
      unfold slices_Reverse_int_int_j5
      simp (disch := first | omega | exact tr_i rfl | (simp only [nx_push, nx_put]; done) | (simp only [nx_push, nx_put]; omega)) only [go_sem, Nat.reduceAdd, Nat.reduceMul, Nat.reduceSub, Nat.reduceLeDiff, Nat.reduceEqDiff, Nat.reduceShiftRight, Nat.reduceAnd]
      rw [show n - 1 - i - 1 = n - 1 - (i + 1) by omega]
      refine Rev_loop hn hlen k (i + 1) ((c.set i c[n - 1 - i]).set (n - 1 - i) c[i]) _ (by omega) (by omega) (by simp; exact hc) (fun p hpn => ?_) h1 (by omega) (get_put_same _ _ _) (by (repeat (first | exact Fm.refl _ _ | assumption | refine Fm.push ?_ _ | refine Fm.up2 ?_ (by (first | omega | (simp only [nx_push, nx_put]; omega))) | refine Fm.put_new ?_ _ _ (by (first | omega | (simp only [nx_push, nx_put]; omega))) | refine Fm.put ?_ _ _ (fun _ => rfl))))
      have i1 : c[i]? = some c[i] := List.getElem?_eq_getElem (by omega)
      have i2 : c[n - 1 - i]? = some c[n - 1 - i] := List.getElem?_eq_getElem (by omega)
      rw [hp i (by omega), if_neg (by omega)] at i1
      rw [hp (n - 1 - i) (by omega), if_neg (by omega)] at i2
      by_cases h2 : p = n - 1 - i
      · subst h2
        rw [List.getElem?_set_self (by simp; omega), if_pos (by omega), ← i1]
        congr 1; omega
      · rw [List.getElem?_set_ne (fun e => h2 e.symm)]
        by_cases h3 : p = i
        · subst h3
          rw [List.getElem?_set_self (by omega), if_pos (by omega), ← i2]
        · rw [List.getElem?_set_ne (fun e => h3 e.symm), hp p hpn]
          by_cases h4 : p < i ∨ n - 1 - i < p
          · rw [if_pos h4, if_pos (by omega)]
          · rw [if_neg h4, if_neg (by omega)]
    · simp (disch := first | omega | exact tr_i rfl | (simp only [nx_push, nx_put]; done) | (simp only [nx_push, nx_put]; omega)) only [go_sem, Nat.reduceAdd, Nat.reduceMul, Nat.reduceSub, Nat.reduceLeDiff, Nat.reduceEqDiff, Nat.reduceShiftRight, Nat.reduceAnd, hlt]
      refine Ok.ret ⟨rfl, ?_, hfm⟩
      rw [hb]
      congr 2
      apply List.ext_getElem?
      intro p
      by_cases h : p < n
      · rw [hp p h, List.getElem?_reverse (by omega), hn]
        split
        · rfl
        · congr 1; omega
      · rw [List.getElem?_eq_none (by omega), List.getElem?_eq_none (by rw [List.length_reverse]; omega)]
theorem Rev_ok (hC : Links C) {k : Nat} (hk : 1 ≤ k) {H : Hp} {b q n m : Nat} {y : Bool} {l : List Int} (hn : l.length = n) (h1 : 1 ≤ n) (hlen : n < 1000000) (hb : H.get b = mkBlk q (ints l)) :
    Ok (C k (.f id_slices_Reverse_int_int) [.sl b 0 n m y] H) fun _ H' => H'.get b = mkBlk q (ints l.reverse) ∧ Fm (· = b) H H' := by
  obtain ⟨j, rfl⟩ : ∃ j, k = j + 1 := ⟨k - 1, by omega⟩
  rw [(hC j).slices_Reverse_int_int]
  unfold slices_Reverse_int_int slices_Reverse_int_int_c slices_Reverse_int_int_L2
  simp (disch := first | omega | exact tr_i rfl | (simp only [nx_push, nx_put]; done) | (simp only [nx_push, nx_put]; omega)) only [go_sem, Nat.reduceAdd, Nat.reduceMul, Nat.reduceSub, Nat.reduceLeDiff, Nat.reduceEqDiff, Nat.reduceShiftRight, Nat.reduceAnd]
  rw [fuelX_eq]
  exact (Rev_loop hn hlen loopFuel 0 l H (by omega) (by rw [loopFuel_eq]; omega) hn (fun p hp => by rw [if_neg (by omega)]) h1 (by omega) hb (Fm.refl _ _)).mono fun v H' h => h.2
/-- the way back from a node to the first one -/
inductive Ch (f : List Int) (a : Nat) : List Nat → Prop
  | one : Ch f a [a]
  | cons {x y : Nat} {l : List Nat} : x ≠ a → x < 256 → f[x]? = some (.ofNat y) → Ch f a (y :: l) → Ch f a (x :: y :: l)
theorem Path_loop {call : Ev.Call} {fb a : Nat} {f : List Int} {H1 : Hp} (hfb : fb < H1.nx) (hbf : H1.get fb = mkBlk 0 (ints f)) {Q : AV → Hp → Prop} {q9 : AV → Hp → R1} (o : List Nat)
    (hq : ∀ b q n y H, o.length = n → (y = true ∨ q = 1) → H.get b = mkBlk q (nats o) → b < H.nx → H1.nx ≤ b → Fm No H1 H → Ok (q9 (.sl b 0 n n y) H) Q) :
    ∀ (k : Nat) (l o' : List Nat) (x : Nat) (b q m : Nat) (y : Bool) (H : Hp), Ch f a (x :: l) → l.length < k → o = o' ++ l → o.length < 100000 → (y = true ∨ q = 1) → m = o'.length → H.get b = mkBlk q (nats o') → b < H.nx → H1.nx ≤ b → Fm No H1 H →
      Ok (graphs_Path_l9 call q9 (.int .i64 (.ofNat a)) (.ptr fb 0) k (.sl b 0 o'.length m y) (.int .i64 (.ofNat x)) H) Q
  | 0, _, _, _, _, _, _, _, _, _, h, _, _, _, _, _, _, _, _ => by omega
  | k + 1, l, o', x, b, q, m, y, H, hch, hk, ho, hsz, hy, hm, hb, hbn, hbl, hfm => by
    show Ok (graphs_Path_b9 call _ _ _ (graphs_Path_l9 call _ _ _ k) _ _ H) Q
    unfold graphs_Path_b9
    cases hch with
    | one =>
      simp (disch := first | omega | exact tr_i rfl | (simp only [nx_push, nx_put]; done) | (simp only [nx_push, nx_put]; omega)) only [go_sem, Nat.reduceAdd, Nat.reduceMul, Nat.reduceSub, Nat.reduceLeDiff, Nat.reduceEqDiff, Nat.reduceShiftRight, Nat.reduceAnd]
      have : o = o' := by rw [ho, List.append_nil]
      subst this
      subst hm
      exact hq b q _ y H rfl hy hb hbn hbl hfm
    | @cons _ z l' hne hx hf hch' =>
      simp (disch := first | omega | exact tr_i rfl | (simp only [nx_push, nx_put]; done) | (simp only [nx_push, nx_put]; omega)) only [go_sem, Nat.reduceAdd, Nat.reduceMul, Nat.reduceSub, Nat.reduceLeDiff, Nat.reduceEqDiff, Nat.reduceShiftRight, Nat.reduceAnd, hne]
      unfold graphs_Path_j14
      have hf' : (ints f)[x]? = some (.int .i64 (.ofNat z)) := by
        unfold ints; rw [List.getElem?_map, hf]; rfl
      have k1 : H.get fb = mkBlk 0 (ints f) := (hfm.keep hfb).trans hbf
      simp (disch := first | omega | exact tr_i rfl | (simp only [nx_push, nx_put]; done) | (simp only [nx_push, nx_put]; omega)) only [go_sem, Nat.reduceAdd, Nat.reduceMul, Nat.reduceSub, Nat.reduceLeDiff, Nat.reduceEqDiff, Nat.reduceShiftRight, Nat.reduceAnd, hx, k1, hf']
      have gl : Gl 1 (pushH H (mkBlk 0 [.int .i64 (.ofNat z)])) (.sl b 0 o'.length m y) o'.length (nats o') := by
        subst hm
        exact ⟨by simp [nats], .inr ⟨b, 0, y, q, nats o', rfl, (get_push_old _ _ _ hbn).trans hb, Nat.zero_le _, rfl, hy, by (first | omega | (simp only [nx_push, nx_put]; omega))⟩⟩
      have hol : o.length = o'.length + (l'.length + 1) := by rw [ho]; simp
      obtain ⟨H', e, gl', hg', fm', nx'⟩ := gl.append (k := 1) (w := 8) (x := [.int .i64 (.ofNat z)]) (by omega) rfl (by omega) (by omega)
      refine Ok.veE e ?_
      have hnx := hfm.nx
      rw [nats_app] at hg'
      have hl2 : (o' ++ [z]).length = o'.length + 1 := by simp
      rw [← hl2]
      refine Path_loop hfb hbf o hq k l' (o' ++ [z]) z _ 1 _ false H' hch' (by simp at hk; omega) (by rw [ho]; simp) hsz (.inr rfl) rfl hg' (by rw [nx']; omega) (by (first | omega | (simp only [nx_push, nx_put]; omega))) ?_
      have f1 : Fm No H1 (pushH H (mkBlk 0 [.int .i64 (.ofNat z)])) := hfm.push _
      exact f1.then fm' fun c hc h => by obtain ⟨_, _, _, _, h'⟩ := h; cases h'; omega
/-- the walk's answer, and what it takes -/
structure WOk (n : Nat) (es : List Edge) (a m : Nat) : Prop where
  ed : EdgesOk n es
  n : n ≤ 256
  len : es.length < 1000
  mm : m < 1000
  ends : endsW es m (startW a)
theorem IsE.eqG {H : Hp} {v : AV} {es : List Edge} (h : IsE H v es) (n : Int) : Ev.eqF 64 (.agg [.int .i64 n, v]) (.agg [.int .i64 n, v]) = true :=
  eqF_agg [.int .i64 n, v] (by unfold Tr; rw [List.all_cons, List.all_cons, Gl.flat h]; rfl)
def errN (n : Nat) (a : Int) : Int := .ofNat (if 0 ≤ a ∧ a < n then 0 else 4)
theorem Path_head (hC : Links C) {j : Nat} (hj : 5 ≤ j) {n : Nat} {es : List Edge} (hE : EdgesOk n es) (hn : n ≤ 256) (hlen : es.length < 1000) {v : AV} {H : Hp} (hv : IsE H v es) (a b : Int) {Q : AV → Hp → Prop}
    (hQ : ∀ H2, Fm No H H2 → H2.get H.nx = mkBlk 0 [.int .i64 (.ofNat n), v] → H.nx < H2.nx → Ok (cd (.bool !decide (orI [errN n a, errN n b] = Int.ofNat 0)) (.ok (.tup [(.nilsl), .int .i64 (orI [errN n a, errN n b])]) H2) (graphs_Path_j20 (C j) (.int .i64 a) (.int .i64 b) (.ptr H.nx 0) H2)) Q) :
    Ok (C (j + 1) (.f id_graphs_Path) [.agg [.int .i64 (.ofNat n), v], .int .i64 a, .int .i64 b] H) Q := by
  rw [(hC j).graphs_Path]
  unfold graphs_Path graphs_Path_c
  have fH : Fm No H (pushH H (mkBlk 0 [.int .i64 (.ofNat n), v])) := by (repeat (first | exact Fm.refl _ _ | assumption | refine Fm.push ?_ _ | refine Fm.up2 ?_ (by (first | omega | (simp only [nx_push, nx_put]; omega))) | refine Fm.put_new ?_ _ _ (by (first | omega | (simp only [nx_push, nx_put]; omega)))))
  have hG := hv.eqG (.ofNat n)
  simp (disch := first | omega | exact tr_i rfl | (simp only [nx_push, nx_put]; done) | (simp only [nx_push, nx_put]; omega)) only [go_sem, Nat.reduceAdd, Nat.reduceMul, Nat.reduceSub, Nat.reduceLeDiff, Nat.reduceEqDiff, Nat.reduceShiftRight, Nat.reduceAnd]
  have f1 : Fm No H ⟨(pushH H (mkBlk 0 [.int .i64 (.ofNat n), v])).t, H.nx + 1 + 9⟩ := by (repeat (first | exact Fm.refl _ _ | assumption | refine Fm.push ?_ _ | refine Fm.up2 ?_ (by (first | omega | (simp only [nx_push, nx_put]; omega))) | refine Fm.put_new ?_ _ _ (by (first | omega | (simp only [nx_push, nx_put]; omega)))))
  refine Ok.deO (of_ok hC (by omega) hE hn (by omega) (hv.fm f1) a) ?_
  rintro r1 H1 ⟨rfl, g1⟩
  have k1 : H1.get H.nx = mkBlk 0 [.int .i64 (.ofNat n), v] := (g1.keep (by (first | omega | (simp only [nx_push, nx_put]; omega)))).trans (by simp (disch := first | omega | exact tr_i rfl | (simp only [nx_push, nx_put]; done) | (simp only [nx_push, nx_put]; omega)) only [go_sem, Nat.reduceAdd, Nat.reduceMul, Nat.reduceSub, Nat.reduceLeDiff, Nat.reduceEqDiff, Nat.reduceShiftRight, Nat.reduceAnd])
  have n1 := g1.nx
  have n1' : H.nx + 1 + 9 ≤ H1.nx := n1
  simp (disch := first | omega | exact tr_i rfl | (simp only [nx_push, nx_put]; done) | (simp only [nx_push, nx_put]; omega)) only [go_sem, Nat.reduceAdd, Nat.reduceMul, Nat.reduceSub, Nat.reduceLeDiff, Nat.reduceEqDiff, Nat.reduceShiftRight, Nat.reduceAnd, k1, hG]
  refine Ok.deO (of_ok hC (by omega) hE hn (by omega) (hv.fm (f1.trans g1)) b) ?_
  rintro r2 H2 ⟨rfl, g2⟩
  have k2 : H2.get H.nx = mkBlk 0 [.int .i64 (.ofNat n), v] := (g2.keep (by omega)).trans k1
  have n2 := g2.nx
  simp (disch := first | omega | exact tr_i rfl | (simp only [nx_push, nx_put]; done) | (simp only [nx_push, nx_put]; omega)) only [go_sem, Nat.reduceAdd, Nat.reduceMul, Nat.reduceSub, Nat.reduceLeDiff, Nat.reduceEqDiff, Nat.reduceShiftRight, Nat.reduceAnd, k2, hG]
  refine Ok.deE (OrE_ok hC (show 1 ≤ j by omega) (l := [errN n a, errN n b]) rfl (get_put_same _ _ _) (by simp)) ?_
  simp (disch := first | omega | exact tr_i rfl | (simp only [nx_push, nx_put]; done) | (simp only [nx_push, nx_put]; omega)) only [go_sem, Nat.reduceAdd, Nat.reduceMul, Nat.reduceSub, Nat.reduceLeDiff, Nat.reduceEqDiff, Nat.reduceShiftRight, Nat.reduceAnd]
  have f2 := f1.trans (g1.trans g2)
  refine hQ _ ?_ ?_ ?_
  · (repeat (first | exact Fm.refl _ _ | assumption | refine Fm.push ?_ _ | refine Fm.up2 ?_ (by (first | omega | (simp only [nx_push, nx_put]; omega))) | refine Fm.put_new ?_ _ _ (by (first | omega | (simp only [nx_push, nx_put]; omega)))))
  · simp (disch := first | omega | exact tr_i rfl | (simp only [nx_push, nx_put]; done) | (simp only [nx_push, nx_put]; omega)) only [go_sem, Nat.reduceAdd, Nat.reduceMul, Nat.reduceSub, Nat.reduceLeDiff, Nat.reduceEqDiff, Nat.reduceShiftRight, Nat.reduceAnd, k2]
  · (first | omega | (simp only [nx_push, nx_put]; omega))
theorem Path_err (hC : Links C) {k : Nat} (hk : 6 ≤ k) {n : Nat} {es : List Edge} (hE : EdgesOk n es) (hn : n ≤ 256) (hlen : es.length < 1000) {v : AV} {H : Hp} (hv : IsE H v es) {a b : Int} (h : ¬ (0 ≤ a ∧ a < n ∧ 0 ≤ b ∧ b < n)) :
    Ok (C k (.f id_graphs_Path) [.agg [.int .i64 (.ofNat n), v], .int .i64 a, .int .i64 b] H) fun r H' => r = .tup [.nilsl, .int .i64 (.ofNat 4)] ∧ Fm No H H' := by
  obtain ⟨j, rfl⟩ : ∃ j, k = j + 1 := ⟨k - 1, by omega⟩
  refine Path_head hC (by omega) hE hn hlen hv a b fun H2 f2 _ _ => ?_
  have : orI [errN n a, errN n b] = .ofNat 4 := by
    unfold errN
    by_cases h1 : 0 ≤ a ∧ a < n
    · rw [if_pos h1, if_neg (by omega)]; rfl
    · rw [if_neg h1]; rfl
  rw [this]
  simp (disch := first | omega | exact tr_i rfl | (simp only [nx_push, nx_put]; done) | (simp only [nx_push, nx_put]; omega)) only [go_sem, Nat.reduceAdd, Nat.reduceMul, Nat.reduceSub, Nat.reduceLeDiff, Nat.reduceEqDiff, Nat.reduceShiftRight, Nat.reduceAnd]
  exact Ok.ret ⟨rfl, f2⟩
theorem Path_ok (hC : Links C) {k : Nat} (hk : 6 ≤ k) {n : Nat} {es : List Edge} {v : AV} {H : Hp} (hv : IsE H v es) {a b m : Nat} (W : WOk n es a m) (ha : a < n) (hb : b < n) {Q : AV → Hp → Prop}
    (h8 : (bfs es m (startW a)).getD b 0 < 0 → ∀ H', Fm No H H' → Q (.tup [.nilsl, .int .i64 (.ofNat 8)]) H')
    (h0 : ¬ (bfs es m (startW a)).getD b 0 < 0 → ∃ l, Ch (bfs es m (startW a)) a (b :: l) ∧ l.length < 1000 ∧ ∀ H' w, Fm No H H' → Gl 1 H' w (l.length + 1) (nats (b :: l).reverse) → capV w = .val (.int .i64 (.ofNat (l.length + 1))) → (∀ b, In w b → H.nx ≤ b) → Q (.tup [w, .int .i64 (.ofNat 0)]) H') :
    Ok (C k (.f id_graphs_Path) [.agg [.int .i64 (.ofNat n), v], .int .i64 (.ofNat a), .int .i64 (.ofNat b)] H) Q := by
  obtain ⟨j, rfl⟩ : ∃ j, k = j + 1 := ⟨k - 1, by omega⟩
  have hn := W.n
  refine Path_head hC (by omega) W.ed W.n W.len hv (.ofNat a) (.ofNat b) fun H2 f2 k2 n2 => ?_
  have : orI [errN n (.ofNat a), errN n (.ofNat b)] = .ofNat 0 := by
    unfold errN
    rw [if_pos (by simp only [Int.ofNat_eq_natCast]; omega), if_pos (by simp only [Int.ofNat_eq_natCast]; omega)]; rfl
  rw [this]
  simp (disch := first | omega | exact tr_i rfl | (simp only [nx_push, nx_put]; done) | (simp only [nx_push, nx_put]; omega)) only [go_sem, Nat.reduceAdd, Nat.reduceMul, Nat.reduceSub, Nat.reduceLeDiff, Nat.reduceEqDiff, Nat.reduceShiftRight, Nat.reduceAnd]
  unfold graphs_Path_j20
  simp (disch := first | omega | exact tr_i rfl | (simp only [nx_push, nx_put]; done) | (simp only [nx_push, nx_put]; omega)) only [go_sem, Nat.reduceAdd, Nat.reduceMul, Nat.reduceSub, Nat.reduceLeDiff, Nat.reduceEqDiff, Nat.reduceShiftRight, Nat.reduceAnd, k2]
  refine Ok.ve (walk_ok hC (by omega) W.ed.rng W.n W.len (hv.fm f2) ha m W.mm W.ends) ?_
  rintro r H3 ⟨rfl, hl, f3⟩
  have hget : (ints (bfs es m (startW a)))[b]? = some (.int .i64 ((bfs es m (startW a)).getD b 0)) := by
    rw [ints_get _ _ (by omega)]; simp [List.getD_eq_getElem?_getD, show b < (bfs es m (startW a)).length by omega]
  have hsl : setL (List.replicate 256 (.int .i64 (.ofNat 0))) 0 (ints (bfs es m (startW a))) = ints (bfs es m (startW a)) := setL_all _ _ (by unfold Tr; rw [ints_len, List.length_replicate, hl]; rfl)
  simp (disch := first | omega | exact tr_i rfl | (simp only [nx_push, nx_put]; done) | (simp only [nx_push, nx_put]; omega)) only [go_sem, Nat.reduceAdd, Nat.reduceMul, Nat.reduceSub, Nat.reduceLeDiff, Nat.reduceEqDiff, Nat.reduceShiftRight, Nat.reduceAnd, ints_len, hl, List.length_replicate, hsl, show b < 256 by omega, hget]
  have f4 : Fm No H ((pushH H3 (mkBlk 0 (List.replicate 256 (.int .i64 (.ofNat 0))))).put H3.nx (mkBlk 0 (ints (bfs es m (startW a))))) := by
    have := f2.trans f3
    have := this.nx
    (repeat (first | exact Fm.refl _ _ | assumption | refine Fm.push ?_ _ | refine Fm.up2 ?_ (by (first | omega | (simp only [nx_push, nx_put]; omega))) | refine Fm.put_new ?_ _ _ (by (first | omega | (simp only [nx_push, nx_put]; omega)))))
  by_cases hneg : (bfs es m (startW a)).getD b 0 < Int.ofNat 0
  · simp (disch := first | omega | exact tr_i rfl | (simp only [nx_push, nx_put]; done) | (simp only [nx_push, nx_put]; omega)) only [go_sem, Nat.reduceAdd, Nat.reduceMul, Nat.reduceSub, Nat.reduceLeDiff, Nat.reduceEqDiff, Nat.reduceShiftRight, Nat.reduceAnd, hneg]
    exact Ok.ret (h8 hneg _ f4)
  · simp (disch := first | omega | exact tr_i rfl | (simp only [nx_push, nx_put]; done) | (simp only [nx_push, nx_put]; omega)) only [go_sem, Nat.reduceAdd, Nat.reduceMul, Nat.reduceSub, Nat.reduceLeDiff, Nat.reduceEqDiff, Nat.reduceShiftRight, Nat.reduceAnd, hneg]
    obtain ⟨l, hch, hll, hQ⟩ := h0 hneg
    unfold graphs_Path_j16 graphs_Path_L9
    simp (disch := first | omega | exact tr_i rfl | (simp only [nx_push, nx_put]; done) | (simp only [nx_push, nx_put]; omega)) only [go_sem, Nat.reduceAdd, Nat.reduceMul, Nat.reduceSub, Nat.reduceLeDiff, Nat.reduceEqDiff, Nat.reduceShiftRight, Nat.reduceAnd]
    rw [fuelX_eq]
    have n3 := (f2.trans f3).nx
    refine Path_loop (H1 := (pushH H3 (mkBlk 0 (List.replicate 256 (.int .i64 (.ofNat 0))))).put H3.nx (mkBlk 0 (ints (bfs es m (startW a))))) (f := bfs es m (startW a)) (by (first | omega | (simp only [nx_push, nx_put]; omega))) (by simp (disch := first | omega | exact tr_i rfl | (simp only [nx_push, nx_put]; done) | (simp only [nx_push, nx_put]; omega)) only [go_sem, Nat.reduceAdd, Nat.reduceMul, Nat.reduceSub, Nat.reduceLeDiff, Nat.reduceEqDiff, Nat.reduceShiftRight, Nat.reduceAnd]) (b :: l) ?_ loopFuel l [b] b _ 0 1 true _ hch (by rw [loopFuel_eq]; omega) rfl (by simp; omega) (.inl rfl) rfl ?_ ?_ ?_ ((Fm.refl _ _).push _)
    · intro b' q n' y H5 hn' hy hb' hbl hb1 f5
      subst hn'
      unfold graphs_Path_j8
      have hb2 : H5.get b' = mkBlk q (ints ((b :: l).map Int.ofNat)) := by rw [hb', ints_nats]
      refine Ok.ve (Rev_ok hC (show 1 ≤ j by omega) (l := (b :: l).map Int.ofNat) (by simp) (by simp) (by simp; omega) hb2) ?_
      rintro _ H6 ⟨hb6, f6⟩
      rw [← List.map_reverse, ints_nats] at hb6
      have gl : Gl 1 H6 (.sl b' 0 (b :: l).length (b :: l).length y) (b :: l).length (nats (b :: l).reverse) :=
        ⟨by simp [nats], .inr ⟨b', 0, y, q, _, rfl, hb6, Nat.zero_le _, rfl, hy, Nat.lt_of_lt_of_le hbl f6.nx⟩⟩
      obtain ⟨w, e, gw, hc, hw⟩ := Clip_ok hC (show 1 ≤ j by omega) gl
      refine Ok.veE e ?_
      have hb1' : H3.nx + 1 ≤ b' := hb1
      refine Ok.ret (hQ H6 w ?_ (by simpa using gw) (by simpa using hc) (fun c hc => ?_))
      · have f45 : Fm No H H5 := f4.trans f5
        exact f45.then f6 fun c hc h => by omega
      · obtain ⟨_, _, _, _, h'⟩ := hw c hc
        cases h'
        omega
    · exact get_push_new _ _
    · (first | omega | (simp only [nx_push, nx_put]; omega))
    · exact Nat.le_refl _
end Go.Di
end

section
/-
  Contracts: what is reached.
-/
namespace Go.Di
open Go.Ev
variable {C : Nat → Ev.Call}
theorem idxV_n (n : Nat) (l : List AV) (k : IntKind) (i : Nat) (h : i < n) : idxV p1 n 1 (.agg l) (.int k (.ofNat i)) = (match l[i]? with | some v => .val v | none => .bad) := by
  show (bif Nat.blt i n then (match l[i * 1]? with | some v => R0.val v | none => .bad) else .bad) = _
  rw [blt_eq, decide_eq_true h, Nat.mul_one]; rfl
def reachL (f : List Int) (i : Nat) : List Nat := (List.range i).filter fun j => !decide (f.getD j 0 < 0)
theorem reachL_succ (f : List Int) (i : Nat) : reachL f (i + 1) = reachL f i ++ (if f.getD i 0 < 0 then [] else [i]) := by
  unfold reachL
  rw [List.range_succ, List.filter_append]
  by_cases h : f.getD i 0 < 0
  · rw [if_pos h]
    have : List.filter (fun j => !decide (f.getD j 0 < 0)) [i] = [] := by rw [List.filter_cons, if_neg (by simp only [h, decide_true, Bool.not_true]; exact Bool.false_ne_true)]; rfl
    rw [this]
  · rw [if_neg h]
    have : List.filter (fun j => !decide (f.getD j 0 < 0)) [i] = [i] := by rw [List.filter_cons, if_pos (by simp only [h, decide_false, Bool.not_false])]; rfl
    rw [this]
theorem reachL_len (f : List Int) (i : Nat) : (reachL f i).length ≤ i := by
  unfold reachL
  exact Nat.le_trans (List.length_filter_le _ _) (by rw [List.length_range]; exact Nat.le_refl _)
theorem Reach_loop {call : Ev.Call} {f : List Int} (hf : f.length = 256) {H1 : Hp} {Q : AV → Hp → Prop} {q5 : AV → Hp → R1}
    (hq : ∀ w H, Gl 1 H w (reachL f 256).length (nats (reachL f 256)) → Fm No H1 H → (∀ b, In w b → H1.nx ≤ b) → Ok (q5 w H) Q) :
    ∀ (k i : Nat) (w : AV) (H : Hp), i ≤ 256 → 256 - i < k → Gl 1 H w (reachL f i).length (nats (reachL f i)) → Fm No H1 H → (∀ b, In w b → H1.nx ≤ b) →
      Ok (graphs_Reach_l5 call q5 (.agg (ints f)) k w (.int .i64 (.ofNat i)) H) Q
  | 0, _, _, _, _, h, _, _, _ => by omega
  | k + 1, i, w, H, hi, hk, hw, hfm, hwn => by
    show Ok (graphs_Reach_b5 call _ _ (graphs_Reach_l5 call _ _ k) _ _ H) Q
    unfold graphs_Reach_b5
    by_cases hlt : i < 256
    · simp (disch := first | omega | exact tr_i rfl | (simp only [nx_push, nx_put]; done) | (simp only [nx_push, nx_put]; omega)) only [go_sem, Nat.reduceAdd, Nat.reduceMul, Nat.reduceSub, Nat.reduceLeDiff, Nat.reduceEqDiff, Nat.reduceShiftRight, Nat.reduceAnd, hlt]
      unfold graphs_Reach_j13
      have hget : (ints f)[i]? = some (.int .i64 (f.getD i 0)) := by
        rw [ints_get _ _ (by omega)]; simp [List.getD_eq_getElem?_getD, show i < f.length by omega]
      by_cases hneg : f.getD i 0 < Int.ofNat 0
      · have hng : (Int.ofNat 0 ≤ f.getD i 0) = False := by simp only [eq_iff_iff, iff_false]; exact Int.not_le.2 hneg
        simp (disch := first | omega | exact tr_i rfl | (simp only [nx_push, nx_put]; done) | (simp only [nx_push, nx_put]; omega)) only [go_sem, Nat.reduceAdd, Nat.reduceMul, Nat.reduceSub, Nat.reduceLeDiff, Nat.reduceEqDiff, Nat.reduceShiftRight, Nat.reduceAnd, idxV_n, hlt, hget, hng]
        unfold graphs_Reach_j8
        simp (disch := first | omega | exact tr_i rfl | (simp only [nx_push, nx_put]; done) | (simp only [nx_push, nx_put]; omega)) only [go_sem, Nat.reduceAdd, Nat.reduceMul, Nat.reduceSub, Nat.reduceLeDiff, Nat.reduceEqDiff, Nat.reduceShiftRight, Nat.reduceAnd]
        refine Reach_loop hf hq k (i + 1) w H (by omega) (by omega) ?_ hfm hwn
        rw [reachL_succ, if_pos (show f.getD i 0 < 0 from hneg), List.append_nil]; exact hw
      · have hng : (Int.ofNat 0 ≤ f.getD i 0) = True := by simp only [eq_iff_iff, iff_true]; exact Int.not_lt.1 hneg
        simp (disch := first | omega | exact tr_i rfl | (simp only [nx_push, nx_put]; done) | (simp only [nx_push, nx_put]; omega)) only [go_sem, Nat.reduceAdd, Nat.reduceMul, Nat.reduceSub, Nat.reduceLeDiff, Nat.reduceEqDiff, Nat.reduceShiftRight, Nat.reduceAnd, idxV_n, hlt, hget, hng]
        have hrl := reachL_len f i
        have fH : Fm No H (pushH H (mkBlk 0 [.int .i64 (.ofNat i)])) := by (repeat (first | exact Fm.refl _ _ | assumption | refine Fm.push ?_ _ | refine Fm.up2 ?_ (by (first | omega | (simp only [nx_push, nx_put]; omega))) | refine Fm.put_new ?_ _ _ (by (first | omega | (simp only [nx_push, nx_put]; omega)))))
        obtain ⟨H', e, gl', _, fm', nx'⟩ := (hw.no fH).append (k := 1) (w := 8) (x := [.int .i64 (.ofNat i)]) (by omega) rfl (by omega) (by omega)
        refine Ok.veE e ?_
        unfold graphs_Reach_j8
        simp (disch := first | omega | exact tr_i rfl | (simp only [nx_push, nx_put]; done) | (simp only [nx_push, nx_put]; omega)) only [go_sem, Nat.reduceAdd, Nat.reduceMul, Nat.reduceSub, Nat.reduceLeDiff, Nat.reduceEqDiff, Nat.reduceShiftRight, Nat.reduceAnd]
        rw [nats_app] at gl'
        have hnx := hfm.nx
        refine Reach_loop hf hq k (i + 1) _ H' (by omega) (by omega) ?_ ((hfm.then fH fun _ _ h => h).then fm' fun c hc h => by have := hwn c h; omega) (fun b hb => ?_)
        · rw [reachL_succ, if_neg (show ¬ f.getD i 0 < 0 from hneg), List.length_append]; exact gl'
        · obtain ⟨_, _, _, _, h⟩ := hb
          cases h; omega
    · have : i = 256 := by omega
      simp (disch := first | omega | exact tr_i rfl | (simp only [nx_push, nx_put]; done) | (simp only [nx_push, nx_put]; omega)) only [go_sem, Nat.reduceAdd, Nat.reduceMul, Nat.reduceSub, Nat.reduceLeDiff, Nat.reduceEqDiff, Nat.reduceShiftRight, Nat.reduceAnd, hlt]
      rw [this] at hw
      exact hq w H hw hfm hwn
theorem Reach_err (hC : Links C) {k : Nat} (hk : 6 ≤ k) {n : Nat} {es : List Edge} (hE : EdgesOk n es) (hn : n ≤ 256) (hlen : es.length < 1000) {v : AV} {H : Hp} (hv : IsE H v es) {a : Int} (h : ¬ (0 ≤ a ∧ a < n)) :
    Ok (C k (.f id_graphs_Reach) [.agg [.int .i64 (.ofNat n), v], .int .i64 a] H) fun r H' => r = .tup [.nilsl, .int .i64 (.ofNat 4)] ∧ Fm No H H' := by
  obtain ⟨j, rfl⟩ : ∃ j, k = j + 1 := ⟨k - 1, by omega⟩
  rw [(hC j).graphs_Reach]
  unfold graphs_Reach graphs_Reach_c
  have fH : Fm No H (pushH H (mkBlk 0 [.int .i64 (.ofNat n), v])) := by (repeat (first | exact Fm.refl _ _ | assumption | refine Fm.push ?_ _ | refine Fm.up2 ?_ (by (first | omega | (simp only [nx_push, nx_put]; omega))) | refine Fm.put_new ?_ _ _ (by (first | omega | (simp only [nx_push, nx_put]; omega)))))
  simp (disch := first | omega | exact tr_i rfl | (simp only [nx_push, nx_put]; done) | (simp only [nx_push, nx_put]; omega)) only [go_sem, Nat.reduceAdd, Nat.reduceMul, Nat.reduceSub, Nat.reduceLeDiff, Nat.reduceEqDiff, Nat.reduceShiftRight, Nat.reduceAnd]
  refine Ok.ve (of_ok hC (by omega) hE hn (by omega) (hv.fm fH) a) ?_
  rintro r H' ⟨rfl, f'⟩
  rw [if_neg h]
  simp (disch := first | omega | exact tr_i rfl | (simp only [nx_push, nx_put]; done) | (simp only [nx_push, nx_put]; omega)) only [go_sem, Nat.reduceAdd, Nat.reduceMul, Nat.reduceSub, Nat.reduceLeDiff, Nat.reduceEqDiff, Nat.reduceShiftRight, Nat.reduceAnd]
  exact Ok.ret ⟨rfl, fH.trans f'⟩
theorem Reach_ok (hC : Links C) {k : Nat} (hk : 6 ≤ k) {n : Nat} {es : List Edge} {v : AV} {H : Hp} (hv : IsE H v es) {a m : Nat} (W : WOk n es a m) (ha : a < n) {Q : AV → Hp → Prop}
    (h0 : ∀ H' w, Fm No H H' → Gl 1 H' w (reachL (bfs es m (startW a)) 256).length (nats (reachL (bfs es m (startW a)) 256)) → capV w = .val (.int .i64 (.ofNat (reachL (bfs es m (startW a)) 256).length)) → (∀ b, In w b → H.nx ≤ b) → Q (.tup [w, .int .i64 (.ofNat 0)]) H') :
    Ok (C k (.f id_graphs_Reach) [.agg [.int .i64 (.ofNat n), v], .int .i64 (.ofNat a)] H) Q := by
  obtain ⟨j, rfl⟩ : ∃ j, k = j + 1 := ⟨k - 1, by omega⟩
  rw [(hC j).graphs_Reach]
  unfold graphs_Reach graphs_Reach_c
  have fH : Fm No H (pushH H (mkBlk 0 [.int .i64 (.ofNat n), v])) := by (repeat (first | exact Fm.refl _ _ | assumption | refine Fm.push ?_ _ | refine Fm.up2 ?_ (by (first | omega | (simp only [nx_push, nx_put]; omega))) | refine Fm.put_new ?_ _ _ (by (first | omega | (simp only [nx_push, nx_put]; omega)))))
  simp (disch := first | omega | exact tr_i rfl | (simp only [nx_push, nx_put]; done) | (simp only [nx_push, nx_put]; omega)) only [go_sem, Nat.reduceAdd, Nat.reduceMul, Nat.reduceSub, Nat.reduceLeDiff, Nat.reduceEqDiff, Nat.reduceShiftRight, Nat.reduceAnd]
  refine Ok.ve (of_ok hC (by omega) W.ed W.n (Nat.lt_trans W.len (by omega)) (hv.fm fH) (.ofNat a)) ?_
  rintro r H1 ⟨rfl, f1⟩
  rw [if_pos (by simp only [Int.ofNat_eq_natCast]; omega)]
  have k1 : H1.get H.nx = mkBlk 0 [.int .i64 (.ofNat n), v] := (f1.keep (by (first | omega | (simp only [nx_push, nx_put]; omega)))).trans (get_push_new _ _)
  simp (disch := first | omega | exact tr_i rfl | (simp only [nx_push, nx_put]; done) | (simp only [nx_push, nx_put]; omega)) only [go_sem, Nat.reduceAdd, Nat.reduceMul, Nat.reduceSub, Nat.reduceLeDiff, Nat.reduceEqDiff, Nat.reduceShiftRight, Nat.reduceAnd]
  unfold graphs_Reach_j14 graphs_Reach_L5
  simp (disch := first | omega | exact tr_i rfl | (simp only [nx_push, nx_put]; done) | (simp only [nx_push, nx_put]; omega)) only [go_sem, Nat.reduceAdd, Nat.reduceMul, Nat.reduceSub, Nat.reduceLeDiff, Nat.reduceEqDiff, Nat.reduceShiftRight, Nat.reduceAnd, k1]
  refine Ok.ve (walk_ok hC (by omega) W.ed.rng W.n W.len (hv.fm (fH.trans f1)) ha m W.mm W.ends) ?_
  rintro r H2 ⟨rfl, hl, f2⟩
  rw [fuelX_eq]
  have f3 := fH.trans (f1.trans f2)
  refine Reach_loop (H1 := H2) hl (fun w H3 gw f4 hw => ?_) loopFuel 0 .nilsl H2 (Nat.zero_le _) (by rw [loopFuel_eq]; omega) (Gl.nil _ _) (Fm.refl _ _) (fun b hb => by obtain ⟨_, _, _, _, h⟩ := hb; cases h)
  unfold graphs_Reach_j2
  obtain ⟨w', e, gw', hc, hw'⟩ := Clip_ok hC (show 1 ≤ j by omega) gw
  refine Ok.veE e ?_
  have := f3.nx
  exact Ok.ret (h0 H3 w' (f3.trans f4) gw' hc fun b hb => Nat.le_trans this (hw b (hw' b hb)))
end Go.Di
end

section
/-
  Contracts: matrices.
-/
namespace Go.Di
open Go.Ev
variable {C : Nat → Ev.Call}
theorem nats_len (l : List Nat) : (nats l).length = l.length := by simp [nats]
theorem nats_get (l : List Nat) (i : Nat) (h : i < l.length) : (nats l)[i]? = some (.int .i64 (.ofNat l[i])) := by simp [nats, h]
theorem nats_set (l : List Nat) (i n : Nat) (h : i < l.length) : setL (nats l) i [.int .i64 (.ofNat n)] = nats (l.set i n) := by
  rw [← ints_nats, ints_set _ _ _ (by simpa using h), ← ints_nats, List.map_set]
/-- a matrix: its number, and its entries -/
structure MOk (n : Nat) (ms : List Nat) : Prop where
  hn : n ≤ 256
  len : ms.length = n * n
  le : ∀ x ∈ ms, x ≤ 3
structure IsM (H : Hp) (v : AV) (b n : Nat) (ms : List Nat) : Prop where
  hv : v = .agg [.int .i64 (.ofNat n), .sl b 0 (n * n) (n * n) true]
  lt : b < H.nx
  get : H.get b = mkBlk 0 (nats ms)
  ok : MOk n ms
theorem IsM.fm {H H' : Hp} {v : AV} {b n : Nat} {ms : List Nat} (h : IsM H v b n ms) (a : Fm No H H') : IsM H' v b n ms := ⟨h.hv, Nat.lt_of_lt_of_le h.lt a.nx, (a.keep h.lt).trans h.get, h.ok⟩
theorem sq_le {n : Nat} (h : n ≤ 256) : n * n ≤ 65536 := Nat.mul_le_mul h h
theorem idx_lt {n i k : Nat} (hi : i < n) (hk : k < n) : i * n + k < n * n := by
  have : (i + 1) * n ≤ n * n := Nat.mul_le_mul_right n hi
  rw [Nat.add_mul, Nat.one_mul] at this; omega
theorem New_ok (hC : Links C) {k : Nat} (hk : 1 ≤ k) {n : Nat} (hn : n ≤ 256) {H : Hp} :
    Ok (C k (.f id_ref16_New) [.int .i64 (.ofNat n)] H) fun r H' => IsM H' r (H.nx + 1) n (List.replicate (n * n) 0) ∧ Fm No H H' := by
  obtain ⟨j, rfl⟩ : ∃ j, k = j + 1 := ⟨k - 1, by omega⟩
  rw [(hC j).ref16_New]
  unfold ref16_New ref16_New_c
  have hs := sq_le hn
  have hr : reps [.int .i64 (.ofNat 0)] (n * n) = nats (List.replicate (n * n) 0) := by rw [reps_one]; simp [nats]
  simp (disch := first | omega | exact tr_i rfl | (simp only [nx_push, nx_put]; done) | (simp only [nx_push, nx_put]; omega)) only [go_sem, Nat.reduceAdd, Nat.reduceMul, Nat.reduceSub, Nat.reduceLeDiff, Nat.reduceEqDiff, Nat.reduceShiftRight, Nat.reduceAnd, makeSl_nn, hr]
  refine Ok.ret ⟨⟨rfl, ?_, ?_, ⟨hn, List.length_replicate, fun x hx => by rw [List.eq_of_mem_replicate hx]; omega⟩⟩, by (repeat (first | exact Fm.refl _ _ | assumption | refine Fm.push ?_ _ | refine Fm.up2 ?_ (by (first | omega | (simp only [nx_push, nx_put]; omega))) | refine Fm.put_new ?_ _ _ (by (first | omega | (simp only [nx_push, nx_put]; omega)))))⟩
  · (first | omega | (simp only [nx_push, nx_put]; omega))
  · simp (disch := first | omega | exact tr_i rfl | (simp only [nx_push, nx_put]; done) | (simp only [nx_push, nx_put]; omega)) only [go_sem, Nat.reduceAdd, Nat.reduceMul, Nat.reduceSub, Nat.reduceLeDiff, Nat.reduceEqDiff, Nat.reduceShiftRight, Nat.reduceAnd]
theorem put_val {v : Nat} (h : v ≤ 3) (s : Bool) : v / (if s then 2 else 1) % 2 = 0 → v + (if s then 2 else 1) ≤ 3 := by
  intro h2; cases s <;> simp at h2 ⊢ <;> omega
theorem put_ok (hC : Links C) {k : Nat} (hk : 1 ≤ k) {n b f t : Nat} {ms : List Nat} {v : AV} {H : Hp} (hM : IsM H v b n ms) (hf : f < n) (ht : t < n) (s : Bool) :
    Ok (C k (.f id_ref16_put) [v, .int .i64 (.ofNat f), .int .i64 (.ofNat t), .bool s] H) fun _ H' => ∃ ms', IsM H' v b n ms' ∧ Fm (· = b) H H' := by
  obtain ⟨j, rfl⟩ : ∃ j, k = j + 1 := ⟨k - 1, by omega⟩
  obtain ⟨rfl, hb, hg, hok⟩ := hM
  rw [(hC j).ref16_put]
  unfold ref16_put ref16_put_c
  have hs := sq_le hok.hn
  have hi := idx_lt hf ht
  have hfn : f * n < 9223372036854775808 := by omega
  have hl := hok.len
  have hget := nats_get ms (f * n + t) (by omega)
  have hle := hok.le ms[f * n + t] (List.getElem_mem _)
  have h1 : f * n + t + 1 ≤ n * n := hi
  have fin : ∀ d : Nat, 0 < d → d < 3 → (ms[f * n + t] / d % 2 = 0 → ms[f * n + t] + d ≤ 3) → Ok (ref16_put_j23 (C j) (.int .i64 (.ofNat f)) (.int .i64 (.ofNat t)) (.ptr H.nx 0) (.int .i64 (.ofNat d)) (pushH H (mkBlk 0 [.int .i64 (.ofNat n), .sl b 0 (n * n) (n * n) true]))) fun _ H' => ∃ ms', IsM H' (.agg [.int .i64 (.ofNat n), .sl b 0 (n * n) (n * n) true]) b n ms' ∧ Fm (· = b) H H' := by
    intro d hd1 hd hd2
    unfold ref16_put_j23
    by_cases hz : ms[f * n + t] / d % 2 = 0
    · simp (disch := first | omega | exact tr_i rfl | (simp only [nx_push, nx_put]; done) | (simp only [nx_push, nx_put]; omega)) only [go_sem, Nat.reduceAdd, Nat.reduceMul, Nat.reduceSub, Nat.reduceLeDiff, Nat.reduceEqDiff, Nat.reduceShiftRight, Nat.reduceAnd, hg, hget, hz, nats_len, hl, h1, nats_set]
      have hd3 := hd2 hz
      refine Ok.ret ⟨ms.set (f * n + t) (ms[f * n + t] + d), ⟨rfl, by (first | omega | (simp only [nx_push, nx_put]; omega)), get_put_same _ _ _, ⟨hok.hn, by rw [List.length_set]; exact hl, fun x hx => ?_⟩⟩, by (repeat (first | exact Fm.refl _ _ | assumption | refine Fm.push ?_ _ | refine Fm.up2 ?_ (by (first | omega | (simp only [nx_push, nx_put]; omega))) | refine Fm.put_new ?_ _ _ (by (first | omega | (simp only [nx_push, nx_put]; omega))) | refine Fm.put ?_ _ _ (fun _ => rfl)))⟩
      rcases List.mem_or_eq_of_mem_set hx with h | h
      · exact hok.le x h
      · omega
    · simp (disch := first | omega | exact tr_i rfl | (simp only [nx_push, nx_put]; done) | (simp only [nx_push, nx_put]; omega)) only [go_sem, Nat.reduceAdd, Nat.reduceMul, Nat.reduceSub, Nat.reduceLeDiff, Nat.reduceEqDiff, Nat.reduceShiftRight, Nat.reduceAnd, hg, hget, hz]
      exact Ok.ret ⟨ms, ⟨rfl, by (first | omega | (simp only [nx_push, nx_put]; omega)), (get_push_old _ _ _ hb).trans hg, hok⟩, by (repeat (first | exact Fm.refl _ _ | assumption | refine Fm.push ?_ _ | refine Fm.up2 ?_ (by (first | omega | (simp only [nx_push, nx_put]; omega))) | refine Fm.put_new ?_ _ _ (by (first | omega | (simp only [nx_push, nx_put]; omega))) | refine Fm.put ?_ _ _ (fun _ => rfl)))⟩
  cases s
  · simp (disch := first | omega | exact tr_i rfl | (simp only [nx_push, nx_put]; done) | (simp only [nx_push, nx_put]; omega)) only [go_sem, Nat.reduceAdd, Nat.reduceMul, Nat.reduceSub, Nat.reduceLeDiff, Nat.reduceEqDiff, Nat.reduceShiftRight, Nat.reduceAnd]
    exact fin 1 (by omega) (by omega) (fun h => by omega)
  · simp (disch := first | omega | exact tr_i rfl | (simp only [nx_push, nx_put]; done) | (simp only [nx_push, nx_put]; omega)) only [go_sem, Nat.reduceAdd, Nat.reduceMul, Nat.reduceSub, Nat.reduceLeDiff, Nat.reduceEqDiff, Nat.reduceShiftRight, Nat.reduceAnd]
    exact fin 2 (by omega) (by omega) (fun h => by omega)
end Go.Di
end

section
/-
  Contracts: the matrix of edges, and its edges.
-/
namespace Go.Di
open Go.Ev
variable {C : Nat → Ev.Call}
structure T3 where
  (f t s : Nat)
def T3.cells (e : T3) : List AV := [.int .i64 (.ofNat e.f), .int .i64 (.ofNat e.t), .int .i64 (.ofNat e.s)]
def tcells (ts : List T3) : List AV := (ts.map T3.cells).flatten
theorem tcells_len (es : List T3) : (tcells es).length = es.length * 3 := by
  induction es with
  | nil => rfl
  | cons x l ih => simp only [tcells, List.map_cons, List.flatten_cons, List.length_append] at ih ⊢; rw [ih]; simp [T3.cells]; omega
theorem tcells_app (es : List T3) (e : T3) : tcells es ++ e.cells = tcells (es ++ [e]) := by simp [tcells]
theorem tcells_at : ∀ (es : List T3) (i j : Nat) (h : i < es.length), j < 3 → (tcells es).getD (i * 3 + j) .undef = es[i].cells.getD j .undef
  | x :: l, 0, j, _, hj => by
    show (x.cells ++ tcells l).getD (0 * 3 + j) .undef = _
    rw [Nat.zero_mul, Nat.zero_add, List.getD_eq_getElem?_getD, List.getElem?_append_left (by simp [T3.cells]; omega)]
    simp [List.getD_eq_getElem?_getD]
  | x :: l, i + 1, j, h, hj => by
    show (x.cells ++ tcells l).getD ((i + 1) * 3 + j) .undef = _
    rw [List.getD_eq_getElem?_getD, List.getElem?_append_right (by simp [T3.cells]; omega), show (i + 1) * 3 + j - x.cells.length = i * 3 + j by simp [T3.cells]; omega]
    have := tcells_at l i j (by simpa using h) hj
    rw [List.getD_eq_getElem?_getD] at this
    simpa using this
theorem T3_at {H : Hp} {v : AV} {ts : List T3} (h : Gl 3 H v ts.length (tcells ts)) {i : Nat} (hi : i < ts.length) :
    ∃ b o, idxS 3 v (.int .i64 (.ofNat i)) = .val (.ptr b o) ∧ b < H.nx ∧ In v b ∧ rdBlk1 (H.get b) o = .val (.int .i64 (.ofNat ts[i].f)) ∧ rdBlk1 (H.get b) (o + 1) = .val (.int .i64 (.ofNat ts[i].t)) ∧ rdBlk1 (H.get b) (o + 2) = .val (.int .i64 (.ofNat ts[i].s)) := by
  obtain ⟨b, o, e1, e2, e3, _, e4⟩ := h.atN hi
  refine ⟨b, o, e1, e2, e3, ?_, ?_, ?_⟩
  · have := e4 0 (by omega); rw [tcells_at _ _ _ hi (by omega)] at this; exact this
  · have := e4 1 (by omega); rw [tcells_at _ _ _ hi (by omega)] at this; exact this
  · have := e4 2 (by omega); rw [tcells_at _ _ _ hi (by omega)] at this; exact this
theorem Matrix_loop (hC : Links C) {j : Nat} (hj : 1 ≤ j) {n : Nat} {ts : List T3} (hT : ∀ e ∈ ts, e.f < n ∧ e.t < n) {v mv : AV} {g mb : Nat} {H1 : Hp} (hlen : ts.length < 1000000) {Q : AV → Hp → Prop} {q7 : Hp → R1}
    (hv : Gl 3 H1 v ts.length (tcells ts)) (hvm : ∀ b, In v b → b ≠ mb) (hg : g < H1.nx) (hgm : g ≠ mb) (hgv : ∃ s, mv = .agg [.int .i64 (.ofNat n), s] ∧ flatA s = true ∧ H1.get g = mkBlk 0 [.int .i64 (.ofNat n), s])
    (hq : ∀ H ms, IsM H mv mb n ms → Fm (· = mb) H1 H → Ok (q7 H) Q) :
    ∀ (k i : Nat) (ms : List Nat) (H : Hp), i ≤ ts.length → ts.length - i < k → IsM H mv mb n ms → Fm (· = mb) H1 H →
      Ok (ref16_Matrix_l7 (C j) q7 v (.ptr g 0) k (.int .i64 (.ofNat i)) H) Q
  | 0, i, _, _, _, h, _, _ => by omega
  | k + 1, i, ms, H, hi, hk, hM, hfm => by
    show Ok (ref16_Matrix_b7 (C j) _ _ _ (ref16_Matrix_l7 (C j) _ _ _ k) _ H) Q
    unfold ref16_Matrix_b7
    by_cases hlt : i < ts.length
    · simp (disch := first | omega | exact tr_i rfl | (simp only [nx_push, nx_put]; done) | (simp only [nx_push, nx_put]; omega)) only [go_sem, Nat.reduceAdd, Nat.reduceMul, Nat.reduceSub, Nat.reduceLeDiff, Nat.reduceEqDiff, Nat.reduceShiftRight, Nat.reduceAnd, hlt, hv.lenV]
      unfold ref16_Matrix_j29
      obtain ⟨s, hmv, hsf, hgv⟩ := hgv
      obtain ⟨b, o, e1, e2, e3, e4, e5, e6⟩ := T3_at (hv.fm hfm hvm) hlt
      have hr := hT ts[i] (List.getElem_mem hlt)
      have k1 : H.get g = mkBlk 0 [.int .i64 (.ofNat n), s] := (hfm.get g hg hgm).trans hgv
      simp (disch := first | omega | exact tr_i rfl | (simp only [nx_push, nx_put]; done) | (simp only [nx_push, nx_put]; omega)) only [go_sem, Nat.reduceAdd, Nat.reduceMul, Nat.reduceSub, Nat.reduceLeDiff, Nat.reduceEqDiff, Nat.reduceShiftRight, Nat.reduceAnd, k1, e1, e4, e5, e6]
      refine Ok.deO (put_ok hC hj (hmv ▸ hM) hr.1 hr.2 _) ?_
      rintro _ H' ⟨ms', hM', f'⟩
      simp (disch := first | omega | exact tr_i rfl | (simp only [nx_push, nx_put]; done) | (simp only [nx_push, nx_put]; omega)) only [go_sem, Nat.reduceAdd, Nat.reduceMul, Nat.reduceSub, Nat.reduceLeDiff, Nat.reduceEqDiff, Nat.reduceShiftRight, Nat.reduceAnd]
      unfold ref16_Matrix_j9
      simp (disch := first | omega | exact tr_i rfl | (simp only [nx_push, nx_put]; done) | (simp only [nx_push, nx_put]; omega)) only [go_sem, Nat.reduceAdd, Nat.reduceMul, Nat.reduceSub, Nat.reduceLeDiff, Nat.reduceEqDiff, Nat.reduceShiftRight, Nat.reduceAnd]
      exact Matrix_loop hC hj hT hlen hv hvm hg hgm ⟨s, hmv, hsf, hgv⟩ hq k (i + 1) ms' H' (by omega) (by omega) (hmv ▸ hM') (hfm.then f' fun _ _ h => h)
    · simp (disch := first | omega | exact tr_i rfl | (simp only [nx_push, nx_put]; done) | (simp only [nx_push, nx_put]; omega)) only [go_sem, Nat.reduceAdd, Nat.reduceMul, Nat.reduceSub, Nat.reduceLeDiff, Nat.reduceEqDiff, Nat.reduceShiftRight, Nat.reduceAnd, hlt, hv.lenV]
      exact hq H ms hM hfm
theorem Matrix_ok (hC : Links C) {k : Nat} (hk : 2 ≤ k) {n : Nat} (hn : n ≤ 256) {ts : List T3} (hT : ∀ e ∈ ts, e.f < n ∧ e.t < n) (hlen : ts.length < 1000000) {v : AV} {H : Hp} (hv : Gl 3 H v ts.length (tcells ts)) :
    Ok (C k (.f id_ref16_Matrix) [.int .i64 (.ofNat n), v] H) fun r H' => ∃ b ms, IsM H' r b n ms ∧ H.nx ≤ b ∧ Fm No H H' := by
  obtain ⟨j, rfl⟩ : ∃ j, k = j + 1 := ⟨k - 1, by omega⟩
  rw [(hC j).ref16_Matrix]
  unfold ref16_Matrix ref16_Matrix_c
  simp (disch := first | omega | exact tr_i rfl | (simp only [nx_push, nx_put]; done) | (simp only [nx_push, nx_put]; omega)) only [go_sem, Nat.reduceAdd, Nat.reduceMul, Nat.reduceSub, Nat.reduceLeDiff, Nat.reduceEqDiff, Nat.reduceShiftRight, Nat.reduceAnd]
  have fH : Fm No H (pushH H (mkBlk 0 [.int .i64 (.ofNat 0), .nilsl])) := by (repeat (first | exact Fm.refl _ _ | assumption | refine Fm.push ?_ _ | refine Fm.up2 ?_ (by (first | omega | (simp only [nx_push, nx_put]; omega))) | refine Fm.put_new ?_ _ _ (by (first | omega | (simp only [nx_push, nx_put]; omega)))))
  refine Ok.ve (New_ok hC (by omega) hn) ?_
  rintro r H1 ⟨hM, f1⟩
  have hr := hM.hv
  have n1 := f1.nx
  have n1' : H.nx + 1 ≤ H1.nx := n1
  have hMl := hM.lt
  have hMl' : H.nx + 1 + 1 < H1.nx := hMl
  subst hr
  simp (disch := first | omega | exact tr_i rfl | (simp only [nx_push, nx_put]; done) | (simp only [nx_push, nx_put]; omega)) only [go_sem, Nat.reduceAdd, Nat.reduceMul, Nat.reduceSub, Nat.reduceLeDiff, Nat.reduceEqDiff, Nat.reduceShiftRight, Nat.reduceAnd]
  unfold ref16_Matrix_L7
  rw [fuelX_eq]
  have f2 : Fm No H ((pushH H1 (mkBlk 0 [.int .i64 (.ofNat 0), .nilsl])).put H1.nx (mkBlk 0 [.int .i64 (.ofNat n), .sl (H.nx + 1 + 1) 0 (n * n) (n * n) true])) := by
    have := fH.trans f1
    (repeat (first | exact Fm.refl _ _ | assumption | refine Fm.push ?_ _ | refine Fm.up2 ?_ (by (first | omega | (simp only [nx_push, nx_put]; omega))) | refine Fm.put_new ?_ _ _ (by (first | omega | (simp only [nx_push, nx_put]; omega)))))
  refine Matrix_loop hC (by omega) hT (mb := H.nx + 1 + 1) (H1 := (pushH H1 (mkBlk 0 [.int .i64 (.ofNat 0), .nilsl])).put H1.nx (mkBlk 0 [.int .i64 (.ofNat n), .sl (H.nx + 1 + 1) 0 (n * n) (n * n) true])) hlen (hv.no f2) (fun b hb => by have := hv.lt hb; omega) (by (first | omega | (simp only [nx_push, nx_put]; omega))) (by omega) ⟨_, rfl, rfl, get_put_same _ _ _⟩ (fun H3 ms' hM3 f3 => ?_) loopFuel 0 _ _ (Nat.zero_le _) (by rw [loopFuel_eq]; omega) ⟨rfl, by (first | omega | (simp only [nx_push, nx_put]; omega)), ?_, hM.ok⟩ (Fm.refl _ _)
  · unfold ref16_Matrix_j6
    have k3 : H3.get H1.nx = mkBlk 0 [.int .i64 (.ofNat n), .sl (H.nx + 1 + 1) 0 (n * n) (n * n) true] := (f3.get _ (by (first | omega | (simp only [nx_push, nx_put]; omega))) (by omega)).trans (get_put_same _ _ _)
    have k4 : H3.get H.nx = mkBlk 0 [.int .i64 (.ofNat 0), .nilsl] := (f3.get _ (by (first | omega | (simp only [nx_push, nx_put]; omega))) (by omega)).trans (by
      have := (f1.keep (show H.nx < (pushH H (mkBlk 0 [.int .i64 (.ofNat 0), .nilsl])).nx by (first | omega | (simp only [nx_push, nx_put]; omega)))).trans (get_push_new _ _)
      simp (disch := first | omega | exact tr_i rfl | (simp only [nx_push, nx_put]; done) | (simp only [nx_push, nx_put]; omega)) only [go_sem, Nat.reduceAdd, Nat.reduceMul, Nat.reduceSub, Nat.reduceLeDiff, Nat.reduceEqDiff, Nat.reduceShiftRight, Nat.reduceAnd, this])
    simp (disch := first | omega | exact tr_i rfl | (simp only [nx_push, nx_put]; done) | (simp only [nx_push, nx_put]; omega)) only [go_sem, Nat.reduceAdd, Nat.reduceMul, Nat.reduceSub, Nat.reduceLeDiff, Nat.reduceEqDiff, Nat.reduceShiftRight, Nat.reduceAnd, k3, k4]
    have f4 : Fm No H H3 := f2.then f3 fun c hc h => by omega
    have n3 := f4.nx
    refine Ok.ret ⟨H.nx + 1 + 1, ms', ⟨rfl, hM3.lt, ?_, hM3.ok⟩, by omega, by (repeat (first | exact Fm.refl _ _ | assumption | refine Fm.push ?_ _ | refine Fm.up2 ?_ (by (first | omega | (simp only [nx_push, nx_put]; omega))) | refine Fm.put_new ?_ _ _ (by (first | omega | (simp only [nx_push, nx_put]; omega)))))⟩
    rw [get_put_ne _ _ _ _ (by omega)]; exact hM3.get
  · have := hM.get
    have : H1.get (H.nx + 1 + 1) = mkBlk 0 (nats (List.replicate (n * n) 0)) := this
    simp (disch := first | omega | exact tr_i rfl | (simp only [nx_push, nx_put]; done) | (simp only [nx_push, nx_put]; omega)) only [go_sem, Nat.reduceAdd, Nat.reduceMul, Nat.reduceSub, Nat.reduceLeDiff, Nat.reduceEqDiff, Nat.reduceShiftRight, Nat.reduceAnd, this]
end Go.Di
end
