/-
 For countersignlaw18.StrataKnown: contracts of the functions that compare and check edges, and of the reference's matrices. No conditions beyond those that each theorem states.
-/
import Derived.Test.YtiickhlaamgljaaGreatDir
import Derived.Sort.AssemblyPlain
set_option linter.unusedSimpArgs false
set_option linter.unusedVariables false
open Nat (reduceAdd reduceMul reduceSub reduceLeDiff reduceEqDiff reduceShiftRight reduceAnd)
section
/-
 What several texts lean on.
-/
namespace Go.Di
open Go.Ev
theorem qal : qao = 1000000 := rfl
end Go.Di
end
section
/-
 Contracts: comparing.
-/
namespace Go.Di
open Go.Ev
variable {C : Nat → Ev.Call}
abbrev qbe (C : Nat → Ev.Call) : Prop := ∀ k, Lnk (C (k + 1)) (C k)
theorem q42 (hC : qbe C) {k : Nat} (hk : 1 ≤ k) (n : Int) (H : Hp) : C k (.f qll) [.int .i64 n] H = .ok (.bool false) H := by
 obtain ⟨j, rfl⟩ : ∃ j, k = j + 1 := ⟨k - 1, by omega⟩
 rw [(hC j).cNaN]
 unfold cNaN q3a
 simp only [go_sem]
def cmpI (a b : Int) : Int := if a < b then -1 else if b < a then 1 else 0
theorem qpt (hC : qbe C) {k : Nat} (hk : 2 ≤ k) (a b : Int) (H : Hp) : C k (.f qik) [.int .i64 a, .int .i64 b] H = .ok (.int .i64 (cmpI a b)) H := by
 obtain ⟨j, rfl⟩ : ∃ j, k = j + 1 := ⟨k - 1, by omega⟩
 rw [(hC j).cCmp]
 unfold cCmp q3f
 simp only [q42 hC (show 1 ≤ j by omega), go_sem]
 unfold quk qul qum qun cmpI
 by_cases h : a < b
 ·simp only [h, go_sem]; rfl
 ·by_cases h2 : b < a
  ·simp only [h, h2, go_sem]; rfl
  ·simp only [h, h2, go_sem]; rfl
def sgn (s : Bool) : Int := if s then 1 else 0
theorem q7t (hC : qbe C) {k : Nat} (hk : 1 ≤ k) (a b : AV) (s : Bool) (H : Hp) : C k (.f qlh) [.agg [a, b, .bool s]] H = .ok (.int .i64 (sgn s)) (qan H (qaa 0 [a, b, .bool s])) := by
 obtain ⟨j, rfl⟩ : ∃ j, k = j + 1 := ⟨k - 1, by omega⟩
 rw [(hC j).gSgn]
 unfold gSgn q1i qtm
 cases s <;> simp (disch := first | omega | exact ti rfl | (simp only [np, nq]; first | done | omega)) only [go_sem, reduceAdd, reduceMul, reduceSub, reduceLeDiff, reduceEqDiff, reduceShiftRight, reduceAnd, Nat.beq] <;> rfl
end Go.Di
end
section
/-
 Contracts: comparing edges.
-/
namespace Go.Di
open Go.Ev
variable {C : Nat → Ev.Call}
def ints (l : List Int) : List AV := l.map (fun n => .int .i64 n)
theorem qf9 (l : List Int) (i : Nat) (h : i < l.length) : (ints l)[i]? = some (.int .i64 l[i]) := by simp [ints, h]
theorem qcp (l : List Int) : (ints l).length = l.length := by simp [ints]
def orI : List Int → Int
 | [] => 0
 | x :: l => if x = 0 then orI l else x
theorem q3u {call : Ev.Call} {H : Hp} {b m : Nat} {e : Bool} {q : Nat} {l : List Int} (h0 : H.get b = qaa q (ints l)) (hl : l.length < 1000000) :
  ∀ (k i : Nat), i ≤ l.length → l.length - i < k → qnf call (fun x2 H => .ok x2 H) (fun H => ql9 call (.int .i64 (.ofNat 0)) H) (.int .i64 (.ofNat 0)) (.sl b 0 l.length m e) (.int .i64 (.ofNat l.length)) k (.int .i64 (.ofNat i)) H = .ok (.int .i64 (orI (l.drop i))) H
 | 0, i, _, h => by omega
 | k + 1, i, hi, hk => by
  show q23 call _ _ _ _ _ (qnf call _ _ _ _ _ k) _ H = _
  unfold q23
  by_cases hlt : i < l.length
  ·simp (disch := omega) only [go_sem, hlt]
   unfold q20
   have hd : l.drop i = l[i] :: l.drop (i + 1) := List.drop_eq_getElem_cons hlt
   simp (disch := omega) only [go_sem, h0, qf9 _ _ hlt]
   rw [hd]
   show _ = R1.ok (.int .i64 (if l[i] = 0 then orI (l.drop (i + 1)) else l[i])) H
   by_cases hz : l[i] = Int.ofNat 0
   ·have hz' : l[i] = 0 := hz
    simp only [hz', go_sem]
    unfold q21
    simp (disch := omega) only [go_sem]
    exact q3u h0 hl k (i + 1) (by omega) (by omega)
   ·have hz' : ¬ l[i] = 0 := hz
    simp only [hz, hz', go_sem]
  ·have hd : l.drop i = [] := List.drop_eq_nil_of_le (by omega)
   simp (disch := omega) only [go_sem, hlt]
   rw [hd]; rfl
theorem Or_ok (hC : qbe C) {k : Nat} (hk : 1 ≤ k) {H : Hp} {b m : Nat} {e : Bool} {q n : Nat} {l : List Int} (hn : l.length = n) (h0 : H.get b = qaa q (ints l)) (hl : l.length < 1000000) :
  C k (.f qvw) [.sl b 0 n m e] H = .ok (.int .i64 (orI l)) H := by
 obtain ⟨j, rfl⟩ : ∃ j, k = j + 1 := ⟨k - 1, by omega⟩
 subst hn
 rw [(hC j).cOr]
 unfold cOr q9b q25
 simp only [go_sem]
 rw [qas]
 exact q3u h0 hl _ 0 (Nat.zero_le _) (by rw [qal]; omega)
structure Edge where
 (f t : Nat)
 s : Bool
deriving DecidableEq
def Edge.cells (e : Edge) : List AV := [.int .i64 (.ofNat e.f), .int .i64 (.ofNat e.t), .bool e.s]
def cmpE (x y : Edge) : Int := orI [cmpI (.ofNat x.f) (.ofNat y.f), cmpI (.ofNat x.t) (.ofNat y.t), cmpI (sgn x.s) (sgn y.s)]
theorem qxz (hC : qbe C) {k : Nat} (hk : 3 ≤ k) (x y : Edge) (H : Hp) : Ok (C k (.f qo4) [.agg x.cells, .agg y.cells] H) fun v H' => v = .int .i64 (cmpE x y) ∧ Fm No H H' := by
 obtain ⟨j, rfl⟩ : ∃ j, k = j + 1 := ⟨k - 1, by omega⟩
 rw [(hC j).gCmp]
 unfold gCmp q1o Edge.cells
 simp (disch := first | omega | exact ti rfl | (simp only [np, nq]; first | done | omega)) only [go_sem, reduceAdd, reduceMul, reduceSub, reduceLeDiff, reduceEqDiff, reduceShiftRight, reduceAnd, Nat.beq, qpt hC (show 2 ≤ j by omega), q7t hC (show 1 ≤ j by omega)]
 refine Ok.deE (Or_ok hC (show 1 ≤ j by omega) (l := [cmpI (.ofNat x.f) (.ofNat y.f), cmpI (.ofNat x.t) (.ofNat y.t), cmpI (sgn x.s) (sgn y.s)]) rfl (qac _ _ _) (by simp)) ?_
 simp (disch := first | omega | exact ti rfl | (simp only [np, nq]; first | done | omega)) only [go_sem, reduceAdd, reduceMul, reduceSub, reduceLeDiff, reduceEqDiff, reduceShiftRight, reduceAnd]
 exact Ok.ret ⟨rfl, by (repeat (first | exact Fm.refl _ _ | assumption | refine Fm.push ?_ _ | refine Fm.up2 ?_ (by (first | omega | (simp only [np, nq]; omega))) | refine Fm.put_new ?_ _ _ (by (first | omega | (simp only [np, nq]; omega)))))⟩
end Go.Di
end
section
/-
 Contracts: a graph is right.
-/
namespace Go.Di
open Go.Ev
variable {C : Nat → Ev.Call}
def qej (es : List Edge) : List AV := (es.map Edge.cells).flatten
theorem qxv (es : List Edge) : (qej es).length = es.length * 3 := by
 induction es with
 | nil => rfl
 | cons x l ih => simp only [qej, List.map_cons, List.flatten_cons, List.length_append] at ih ⊢; rw [ih]; simp [Edge.cells]; omega
theorem qly : ∀ (es : List Edge) (i : Nat) (h : i < es.length), ((qej es).drop (i * 3)).take 3 = es[i].cells
 | x :: l, 0, _ => by simp [qej, Edge.cells]
 | x :: l, i + 1, h => by
  have : (qej (x :: l)).drop ((i + 1) * 3) = (qej l).drop (i * 3) := by
   rw [show (i + 1) * 3 = (i * 3 + 3) by omega]; rfl
  rw [this]
  exact qly l i (by simpa using h)
structure qb2 (n : Nat) (es : List Edge) : Prop where
 rng : ∀ e ∈ es, e.f < n ∧ e.t < n
 ord : ∀ i, (h : i + 1 < es.length) → cmpE es[i] es[i + 1] < 0
theorem qtu (a b : Int) (k : IntKind) : qeh minV (.int k a) [.int k b] = .val (.int k (min a b)) := by
 show R0.val (.int k (bif ltI b a then b else a)) = _
 rw [qfq]
 by_cases h : b < a
 ·rw [decide_eq_true h, Int.min_eq_right (by omega)]; rfl
 ·rw [decide_eq_false h, Int.min_eq_left (by omega)]; rfl
theorem qtv (a b : Int) (k : IntKind) : qeh maxV (.int k a) [.int k b] = .val (.int k (max a b)) := by
 show R0.val (.int k (bif ltI a b then b else a)) = _
 rw [qfq]
 by_cases h : a < b
 ·rw [decide_eq_true h, Int.max_eq_right (by omega)]; rfl
 ·rw [decide_eq_false h, Int.max_eq_left (by omega)]; rfl
structure IsE (H : Hp) (v : AV) (es : List Edge) : Prop where
 flat : qtw v = true
 len : lenSl v = .val (.int .i64 (.ofNat es.length))
 lt' : ∀ b, In v b → b < H.nx
 at' : ∀ (i : Nat) (hi : i < es.length), ∃ b o, idxS 3 v (.int .i64 (.ofNat i)) = .val (.ptr b o) ∧ b < H.nx ∧ qbf (H.get b) o 3 = some es[i].cells
theorem IsE.at {H : Hp} {v : AV} {es : List Edge} (h : IsE H v es) {i : Nat} (hi : i < es.length) : ∃ b o, idxS 3 v (.int .i64 (.ofNat i)) = .val (.ptr b o) ∧ b < H.nx ∧ qbf (H.get b) o 3 = some es[i].cells := h.at' i hi
theorem IsE.fm {H H' : Hp} {v : AV} {es : List Edge} (h : IsE H v es) (a : Fm No H H') : IsE H' v es := ⟨h.flat, h.len, fun b hb => Nat.lt_of_lt_of_le (h.lt' b hb) a.nx, fun i hi => by
 obtain ⟨b, o, e1, e2, e3⟩ := h.at' i hi
 exact ⟨b, o, e1, Nat.lt_of_lt_of_le e2 a.nx, by rw [a.keep e2]; exact e3⟩⟩
theorem za9 {z i b o : Nat} {v : AV} (h : idxS z v (.int .i64 (.ofNat i)) = .val (.ptr b o)) : In v b := by
 cases v with
 | sl b' o' n m e =>
  have h : (bif Nat.blt i n then R0.val (.ptr b' (o' + i * z)) else .bad) = .val (.ptr b o) := h
  cases hb : Nat.blt i n with
  | true => rw [hb] at h; cases h; exact ⟨_, _, _, _, rfl⟩
  | false => rw [hb] at h; cases h
 | _ => cases h
theorem IsE.keep {H H' : Hp} {v : AV} {es : List Edge} (h : IsE H v es) (hn : H.nx ≤ H'.nx) (hk : ∀ b, In v b → b < H.nx → H'.get b = H.get b) : IsE H' v es := ⟨h.flat, h.len, fun b hb => Nat.lt_of_lt_of_le (h.lt' b hb) hn, fun i hi => by
 obtain ⟨b, o, e1, e2, e3⟩ := h.at' i hi
 exact ⟨b, o, e1, Nat.lt_of_lt_of_le e2 hn, by rw [hk b (za9 e1) e2]; exact e3⟩⟩
theorem IsE.lt {H : Hp} {v : AV} {es : List Edge} (h : IsE H v es) {b : Nat} (hb : In v b) : b < H.nx := h.lt' b hb
def GlE (H : Hp) (v : AV) (es : List Edge) : Prop := Gl 3 H v es.length (qej es)
theorem Gl.flat {z n : Nat} {H : Hp} {v : AV} {l : List AV} (h : Gl z H v n l) : qtw v = true := by
 rcases h.is with ⟨rfl, rfl⟩ | ⟨b, o, e, q, L, rfl, _⟩ <;> rfl
theorem Gl.lt {z n : Nat} {H : Hp} {v : AV} {l : List AV} (h : Gl z H v n l) {b : Nat} (hb : In v b) : b < H.nx := by
 obtain ⟨_, _, _, _, rfl⟩ := hb
 rcases h.is with ⟨h, _⟩ | ⟨b, o, e, q, L, h, _, _, _, _, h5⟩ <;> cases h
 exact h5
theorem IsE.eqF {H : Hp} {v : AV} {es : List Edge} (h : IsE H v es) : eqF 64 v v = true := qcq h.flat 63
theorem Gl.atN {z n : Nat} {H : Hp} {v : AV} {l : List AV} (h : Gl z H v n l) {i : Nat} (hi : i < n) : ∃ b o, idxS z v (.int .i64 (.ofNat i)) = .val (.ptr b o) ∧ b < H.nx ∧ In v b ∧ qbf (H.get b) o z = some ((l.drop (i * z)).take z) ∧ ∀ (j : Nat), j < z → qa9 (H.get b) (o + j) = .val (l.getD (i * z + j) .undef) := by
 have hl := h.len
 rcases h.is with ⟨rfl, rfl⟩ | ⟨b, o, e, q, L, rfl, h1, h2, h3, h4, h5⟩
 ·omega
 ·have hm : i * z + z ≤ n * z := by
   have : (i + 1) * z ≤ n * z := Nat.mul_le_mul_right z hi
   rw [Nat.add_mul, Nat.one_mul] at this; exact this
  have hL : o + n * z = L.length := by rw [← h3, List.length_drop] at hl; omega
  refine ⟨b, o + i * z, qfc _ _ _ _ _ _ _ _ hi, h5, ⟨_, _, _, _, rfl⟩, ?_, fun j hj => ?_⟩
  ·rw [h1, qcv, if_pos (by omega), ← List.drop_drop, h3]
  ·rw [h1, qb7]
   have : L[o + i * z + j]? = l[i * z + j]? := by rw [← h3, List.getElem?_drop]; congr 1; omega
   rw [this, List.getElem?_eq_getElem (by omega)]
   simp [List.getD_eq_getElem?_getD, show i * z + j < l.length by omega]
theorem GlE.isE {H : Hp} {v : AV} {es : List Edge} (h : GlE H v es) : IsE H v es := ⟨Gl.flat h, Gl.lenV h, fun b hb => Gl.lt h hb, fun i hi => by
 obtain ⟨b, o, e1, e2, _, e3, _⟩ := Gl.atN h hi
 exact ⟨b, o, e1, e2, by rw [e3, qly _ _ hi]⟩⟩
theorem qjb (hC : qbe C) {j : Nat} (hj : 3 ≤ j) {n : Nat} {es : List Edge} (hE : qb2 n es) {v : AV} {g : Nat} {H0 : Hp} (hlen : es.length < 1000000) {Q : AV → Hp → Prop} {q5e0 : Hp → R1}
  (hq : ∀ H, Fm No H0 H → Ok (q5e0 H) Q) :
  ∀ (k i : Nat) (H : Hp), i ≤ es.length → es.length - i < k → IsE H v es → g < H.nx → H.get g = qaa 0 [.int .i64 (.ofNat n), v] → Fm No H0 H →
   Ok (qg5 (C j) (fun x2 H => .ok x2 H) q5e0 (.ptr g 0) v (.int .i64 (.ofNat es.length)) k (.int .i64 (.ofNat i)) H) Q
 | 0, i, _, _, h, _, _, _, _ => by omega
 | k + 1, i, H, hi, hk, hv, hg1, hg2, hf => by
  show Ok (qtr (C j) _ _ _ _ _ (qg5 (C j) _ _ _ _ _ k) _ H) Q
  unfold qtr
  by_cases hlt : i < es.length
  ·obtain ⟨b, o1, e1, e2, e3⟩ := hv.at hlt
   have hr := hE.rng es[i] (List.getElem_mem hlt)
   simp (disch := first | omega | exact ti rfl | (simp only [np, nq]; first | done | omega)) only [go_sem, reduceAdd, reduceMul, reduceSub, reduceLeDiff, reduceEqDiff, reduceShiftRight, reduceAnd, hlt]
   unfold qpn q1p
   have hmin : (min (Int.ofNat es[i].f) (Int.ofNat es[i].t) < Int.ofNat 0) = False := by simp only [Int.ofNat_eq_natCast, eq_iff_iff, iff_false]; omega
   have hmax : (Int.ofNat n ≤ max (Int.ofNat es[i].f) (Int.ofNat es[i].t)) = False := by simp only [Int.ofNat_eq_natCast, eq_iff_iff, iff_false]; omega
   by_cases h0 : 0 < i
   ·obtain ⟨p, rfl⟩ : ∃ p, i = p + 1 := ⟨i - 1, by omega⟩
    obtain ⟨b', o2, e1', e2', e3'⟩ := hv.at (show p < es.length by omega)
    have hv64 := hv.eqF
    simp (disch := first | omega | exact ti rfl | (simp only [np, nq]; first | done | omega)) only [go_sem, reduceAdd, reduceMul, reduceSub, reduceLeDiff, reduceEqDiff, reduceShiftRight, reduceAnd, e1, e3, Edge.cells, qtu, qtv, hmin, hmax, hg2, h0, e1', e3', Nat.add_sub_cancel]
    refine Ok.deO (qxz hC hj es[p] es[p + 1] _) ?_
    rintro v' H' ⟨rfl, f'⟩
    have k1 : H'.get g = qaa 0 [.int .i64 (.ofNat n), v] := (f'.keep (by (first | omega | (simp only [np, nq]; omega)))).trans (by simp (disch := first | omega | exact ti rfl | (simp only [np, nq]; first | done | omega)) only [go_sem, reduceAdd, reduceMul, reduceSub, reduceLeDiff, reduceEqDiff, reduceShiftRight, reduceAnd, hg2])
    have k2 : qbf (H'.get b') o2 3 = some es[p].cells := by rw [f'.keep (by (first | omega | (simp only [np, nq]; omega)))]; simp (disch := first | omega | exact ti rfl | (simp only [np, nq]; first | done | omega)) only [go_sem, reduceAdd, reduceMul, reduceSub, reduceLeDiff, reduceEqDiff, reduceShiftRight, reduceAnd, e3']
    have k3 : H'.get H.nx = qaa 0 es[p + 1].cells := (f'.keep (by (first | omega | (simp only [np, nq]; omega)))).trans (by simp (disch := first | omega | exact ti rfl | (simp only [np, nq]; first | done | omega)) only [go_sem, reduceAdd, reduceMul, reduceSub, reduceLeDiff, reduceEqDiff, reduceShiftRight, reduceAnd, Edge.cells])
    have ho : (Int.ofNat 0 ≤ cmpE es[p] es[p + 1]) = False := by
     have := hE.ord p hlt
     simp only [Int.ofNat_eq_natCast, eq_iff_iff, iff_false]; omega
    simp (disch := first | omega | exact ti rfl | (simp only [np, nq]; first | done | omega)) only [go_sem, reduceAdd, reduceMul, reduceSub, reduceLeDiff, reduceEqDiff, reduceShiftRight, reduceAnd, k1, k2, k3, hv64, Edge.cells, ho]
    unfold qpl
    simp (disch := first | omega | exact ti rfl | (simp only [np, nq]; first | done | omega)) only [go_sem, reduceAdd, reduceMul, reduceSub, reduceLeDiff, reduceEqDiff, reduceShiftRight, reduceAnd]
    have fH : Fm No H H' := by refine Fm.trans ?_ f'; (repeat (first | exact Fm.refl _ _ | assumption | refine Fm.push ?_ _ | refine Fm.up2 ?_ (by (first | omega | (simp only [np, nq]; omega))) | refine Fm.put_new ?_ _ _ (by (first | omega | (simp only [np, nq]; omega)))))
    exact qjb hC hj hE hlen hq k (p + 1 + 1) H' (by omega) (by omega) (hv.fm fH) (Nat.lt_of_lt_of_le hg1 fH.nx) k1 (hf.trans fH)
   ·simp (disch := first | omega | exact ti rfl | (simp only [np, nq]; first | done | omega)) only [go_sem, reduceAdd, reduceMul, reduceSub, reduceLeDiff, reduceEqDiff, reduceShiftRight, reduceAnd, e1, e3, Edge.cells, qtu, qtv, hmin, hmax, hg2, h0]
    unfold qpl
    simp (disch := first | omega | exact ti rfl | (simp only [np, nq]; first | done | omega)) only [go_sem, reduceAdd, reduceMul, reduceSub, reduceLeDiff, reduceEqDiff, reduceShiftRight, reduceAnd]
    have fH : Fm No H ((qan H (qaa 0 [.int .i64 (.ofNat 0), .int .i64 (.ofNat 0), .bool false])).put H.nx (qaa 0 [.int .i64 (.ofNat es[i].f), .int .i64 (.ofNat es[i].t), .bool es[i].s])) := by (repeat (first | exact Fm.refl _ _ | assumption | refine Fm.push ?_ _ | refine Fm.up2 ?_ (by (first | omega | (simp only [np, nq]; omega))) | refine Fm.put_new ?_ _ _ (by (first | omega | (simp only [np, nq]; omega)))))
    exact qjb hC hj hE hlen hq k (i + 1) _ (by omega) (by omega) (hv.fm fH) (Nat.lt_of_lt_of_le hg1 fH.nx) ((fH.keep hg1).trans hg2) (hf.trans fH)
  ·simp (disch := first | omega | exact ti rfl | (simp only [np, nq]; first | done | omega)) only [go_sem, reduceAdd, reduceMul, reduceSub, reduceLeDiff, reduceEqDiff, reduceShiftRight, reduceAnd, hlt]
   exact hq H hf
theorem qwk (hC : qbe C) {k : Nat} (hk : 4 ≤ k) {n : Nat} {es : List Edge} (hE : qb2 n es) (hn : n ≤ 256) (hlen : es.length < 1000000) {v : AV} {H : Hp} (hv : IsE H v es) :
  Ok (C k (.f qlk) [.agg [.int .i64 (.ofNat n), v]] H) fun r H' => r = .int .i64 (.ofNat 0) ∧ Fm No H H' := by
 obtain ⟨j, rfl⟩ : ∃ j, k = j + 1 := ⟨k - 1, by omega⟩
 rw [(hC j).gChk]
 unfold gChk q1s
 have h256 : (256 < n) = False := by simp only [eq_iff_iff, iff_false]; omega
 simp (disch := first | omega | exact ti rfl | (simp only [np, nq]; first | done | omega)) only [go_sem, reduceAdd, reduceMul, reduceSub, reduceLeDiff, reduceEqDiff, reduceShiftRight, reduceAnd, h256, Nat.not_lt_zero]
 unfold qpm qts
 have fH : Fm No H (qan H (qaa 0 [.int .i64 (.ofNat n), v])) := by (repeat (first | exact Fm.refl _ _ | assumption | refine Fm.push ?_ _ | refine Fm.up2 ?_ (by (first | omega | (simp only [np, nq]; omega))) | refine Fm.put_new ?_ _ _ (by (first | omega | (simp only [np, nq]; omega)))))
 simp (disch := first | omega | exact ti rfl | (simp only [np, nq]; first | done | omega)) only [go_sem, reduceAdd, reduceMul, reduceSub, reduceLeDiff, reduceEqDiff, reduceShiftRight, reduceAnd, hv.len]
 rw [qas]
 refine qjb hC (by omega) hE hlen (fun H hf => ?_) _ 0 _ (Nat.zero_le _) (by rw [qal]; omega) (hv.fm fH) (by (first | omega | (simp only [np, nq]; omega))) (qak _ _) fH
 exact Ok.ret ⟨rfl, hf⟩
end Go.Di
end
section
/-
 Contracts: lists that are cut to size.
-/
namespace Go.Di
open Go.Ev
variable {C : Nat → Ev.Call}
def nats (l : List Nat) : List AV := l.map (fun n => .int .i64 (.ofNat n))
theorem ints_set (l : List Int) (i : Nat) (n : Int) (h : i < l.length) : setL (ints l) i [.int .i64 n] = ints (l.set i n) := by
 unfold setL ints
 apply List.ext_getElem
 ·simp; omega
 ·intro j h1 h2
  simp only [List.length_map, List.length_set] at h2
  simp only [List.getElem_map, List.getElem_set]
  by_cases hj : j < i
  ·rw [List.getElem_append_left (by simp; omega), List.getElem_append_left (by simp; omega)]
   simp [show ¬ i = j by omega]
  ·by_cases he : i = j
   ·subst he
    rw [List.getElem_append_left (by simp; omega), List.getElem_append_right (by simp; exact Nat.min_le_left _ _)]
    simp [Nat.min_eq_left (Nat.le_of_lt h)]
   ·rw [List.getElem_append_right (by simp; omega)]
    simp [he, Nat.min_eq_left (Nat.le_of_lt h)]
    congr 2; omega
theorem qfr (l : List Nat) : ints (l.map Int.ofNat) = nats l := by unfold ints nats; rw [List.map_map]; rfl
theorem Gl.at {n : Nat} {H : Hp} {v : AV} {l : List AV} (h : Gl 1 H v n l) {i : Nat} {x : AV} (hx : l[i]? = some x) : ∃ b o, idxS 1 v (.int .i64 (.ofNat i)) = .val (.ptr b o) ∧ b < H.nx ∧ In v b ∧ qa9 (H.get b) o = .val x := by
 have hl := h.len
 have hi : i < l.length := by
  rcases Nat.lt_or_ge i l.length with h | h
  ·exact h
  ·rw [List.getElem?_eq_none h] at hx; cases hx
 rcases h.is with ⟨rfl, rfl⟩ | ⟨b, o, e, q, L, rfl, h1, h2, h3, h4, h5⟩
 ·omega
 ·refine ⟨b, o + i, ?_, h5, ⟨_, _, _, _, rfl⟩, ?_⟩
  ·rw [qfc _ _ _ _ _ _ _ _ (by omega), Nat.mul_one]
  ·have : L[o + i]? = some x := by rw [← List.getElem?_drop, h3]; exact hx
   rw [h1, qb7, this]
theorem Gl.clip {z n : Nat} {H : Hp} {v : AV} {l : List AV} (h : Gl z H v n l) : ∃ w, qa8 z v none (some (.int .i64 (.ofNat n))) (some (.int .i64 (.ofNat n))) = .val w ∧ Gl z H w n l ∧ capV w = .val (.int .i64 (.ofNat n)) ∧ (∀ b, In w b → In v b) := by
 rcases h.is with ⟨rfl, rfl⟩ | ⟨b, o, e, q, L, rfl, h1, h2, h3, h4, h5⟩
 ·exact ⟨.nilsl, rfl, h, rfl, fun b h => h⟩
 ·have e1 : qa8 z (.sl b o n n e) none (some (.int .i64 (.ofNat n))) (some (.int .i64 (.ofNat n))) = mkSl b o z ⟨0, n, n⟩ true := by
   show (match bounds n n none (some (.int .i64 (.ofNat n))) (some (.int .i64 (.ofNat n))) with | some bd => mkSl b o z bd true | none => R0.bad) = _
   have : bounds n n none (some (.int .i64 (.ofNat n))) (some (.int .i64 (.ofNat n))) = some ⟨0, n, n⟩ := by
    show (match (bif Nat.ble n n then some n else none) with | none => none | some m => match (bif Nat.ble n m then some n else none) with | none => none | some h => match (some 0 : Option Nat) with | none => none | some l => some (Bd.mk l h m)) = _
    rw [ble_eq, decide_eq_true (Nat.le_refl n)]; simp only [cond_true, ble_eq, decide_eq_true (Nat.le_refl n)]
   rw [this]
  rw [e1]
  unfold mkSl
  simp only [beq_eq]
  by_cases hn : n = 0
  ·subst hn
   exact ⟨.sl b o 0 0 true, rfl, ⟨h.len, .inr ⟨b, o, true, q, L, rfl, h1, h2, h3, .inl rfl, h5⟩⟩, rfl, fun c hc => by obtain ⟨_, _, _, _, h'⟩ := hc; cases h'; exact ⟨_, _, _, _, rfl⟩⟩
  ·rw [decide_eq_false hn]
   refine ⟨.sl b o n n true, ?_, ⟨h.len, .inr ⟨b, o, true, q, L, rfl, h1, h2, h3, .inl rfl, h5⟩⟩, rfl, fun c hc => by obtain ⟨_, _, _, _, h'⟩ := hc; cases h'; exact ⟨_, _, _, _, rfl⟩⟩
   show R0.val (.sl b (o + 0 * z) (n - 0) (n - 0) true) = _
   rw [Nat.zero_mul, Nat.add_zero, Nat.sub_zero]
theorem qut (hC : qbe C) {k : Nat} (hk : 1 ≤ k) {n : Nat} {H : Hp} {v : AV} {l : List AV} (h : Gl 1 H v n l) :
  ∃ w, C k (.f qfs) [v] H = .ok w H ∧ Gl 1 H w n l ∧ capV w = .val (.int .i64 (.ofNat n)) ∧ (∀ b, In w b → In v b) := by
 obtain ⟨j, rfl⟩ : ∃ j, k = j + 1 := ⟨k - 1, by omega⟩
 obtain ⟨w, e, h1, h2, h3⟩ := h.clip
 refine ⟨w, ?_, h1, h2, h3⟩
 rw [(hC j).sClp]
 unfold sClp qva
 simp (disch := first | omega | exact ti rfl | (simp only [np, nq]; first | done | omega)) only [go_sem, reduceAdd, reduceMul, reduceSub, reduceLeDiff, reduceEqDiff, reduceShiftRight, reduceAnd, h.lenV, e]
end Go.Di
end
section
/-
 Contracts: matrices.
-/
namespace Go.Di
open Go.Ev
variable {C : Nat → Ev.Call}
theorem q4v (l : List Nat) : (nats l).length = l.length := by simp [nats]
theorem qop (l : List Nat) (i : Nat) (h : i < l.length) : (nats l)[i]? = some (.int .i64 (.ofNat l[i])) := by simp [nats, h]
theorem qon (l : List Nat) (i n : Nat) (h : i < l.length) : setL (nats l) i [.int .i64 (.ofNat n)] = nats (l.set i n) := by
 rw [← qfr, ints_set _ _ _ (by simpa using h), ← qfr, List.map_set]
structure MOk (n : Nat) (ms : List Nat) : Prop where
 hn : n ≤ 256
 len : ms.length = n * n
 le : ∀ x ∈ ms, x ≤ 3
structure IsM (H : Hp) (v : AV) (b n : Nat) (ms : List Nat) : Prop where
 hv : v = .agg [.int .i64 (.ofNat n), .sl b 0 (n * n) (n * n) true]
 lt : b < H.nx
 get : H.get b = qaa 0 (nats ms)
 ok : MOk n ms
theorem IsM.fm {H H' : Hp} {v : AV} {b n : Nat} {ms : List Nat} (h : IsM H v b n ms) (a : Fm No H H') : IsM H' v b n ms := ⟨h.hv, Nat.lt_of_lt_of_le h.lt a.nx, (a.keep h.lt).trans h.get, h.ok⟩
theorem qm3 {n i k : Nat} (hi : i < n) (hk : k < n) : i * n + k < n * n := by
 have : (i + 1) * n ≤ n * n := Nat.mul_le_mul_right n hi
 rw [Nat.add_mul, Nat.one_mul] at this; omega
end Go.Di
end
section
/-
 Contracts: the matrix of edges, and its edges.
-/
namespace Go.Di
open Go.Ev
variable {C : Nat → Ev.Call}
structure T3 where
 (f t s : Nat)
def T3.cells (e : T3) : List AV := [.int .i64 (.ofNat e.f), .int .i64 (.ofNat e.t), .int .i64 (.ofNat e.s)]
end Go.Di
end
section
/-
 Contracts: the edges of a matrix.
-/
namespace Go.Di
open Go.Ev
variable {C : Nat → Ev.Call}
def ent (n : Nat) (ms : List Nat) (i k : Nat) : List T3 := (if ms.getD (i * n + k) 0 % 2 = 1 then [⟨i, k, 0⟩] else []) ++ (if 1 < ms.getD (i * n + k) 0 then [⟨i, k, 1⟩] else [])
def eR (n : Nat) (ms : List Nat) (i : Nat) : Nat → List T3
 | 0 => []
 | k + 1 => eR n ms i k ++ ent n ms i k
def eM (n : Nat) (ms : List Nat) : Nat → List T3
 | 0 => []
 | i + 1 => eM n ms i ++ eR n ms i n
end Go.Di
end
section
/-
 Contracts: the graph of a matrix.
-/
namespace Go.Di
open Go.Ev
variable {C : Nat → Ev.Call}
def toE (e : T3) : Edge := ⟨e.f, e.t, decide (e.s = 1)⟩
def qaj (n : Nat) (ms : List Nat) : List Edge := (eM n ms n).map toE
end Go.Di
end
section
/-
 Contracts: the matrix of plain data.
-/
namespace Go.Di
open Go.Ev
variable {C : Nat → Ev.Call}
structure Arg3 (H : Hp) (v : AV) (cnt : Nat) : Prop where
 flat : qtw v = true
 len : lenSl v = .val (.int .i64 (.ofNat cnt))
 at' : ∀ i, i < cnt → ∃ b o, idxS 3 v (.int .i64 (.ofNat i)) = .val (.ptr b o) ∧ b < H.nx ∧ ∀ j, j < 3 → ∃ x, x < 256 ∧ qa9 (H.get b) (o + j) = .val (.int .u8 (.ofNat x))
theorem Arg3.fm {H H' : Hp} {v : AV} {cnt : Nat} (h : Arg3 H v cnt) (a : Fm No H H') : Arg3 H' v cnt := ⟨h.flat, h.len, fun i hi => by
 obtain ⟨b, o, e1, e2, e3⟩ := h.at' i hi
 exact ⟨b, o, e1, Nat.lt_of_lt_of_le e2 a.nx, fun j hj => by obtain ⟨x, h1, h2⟩ := e3 j hj; exact ⟨x, h1, by rw [a.keep e2]; exact h2⟩⟩⟩
end Go.Di
end
section
/-
 Contracts: distances.
-/
namespace Go.Di
open Go.Ev
variable {C : Nat → Ev.Call}
/- the pure function -/
def qce (n : Nat) (d : List Int) (k i j : Nat) : List Int :=
 if 0 ≤ d.getD (i * n + k) 0 ∧ 0 ≤ d.getD (k * n + j) 0 ∧ (d.getD (i * n + j) 0 < 0 ∨ d.getD (i * n + k) 0 + d.getD (k * n + j) 0 < d.getD (i * n + j) 0)
 then d.set (i * n + j) (d.getD (i * n + k) 0 + d.getD (k * n + j) 0) else d
def fJ (n : Nat) (d : List Int) (k i : Nat) : Nat → List Int
 | 0 => d
 | j + 1 => qce n (fJ n d k i j) k i j
def fI (n : Nat) (d : List Int) (k : Nat) : Nat → List Int
 | 0 => d
 | i + 1 => fJ n (fI n d k i) k i n
def fK (n : Nat) (d : List Int) : Nat → List Int
 | 0 => d
 | k + 1 => fI n (fK n d k) k n
def dg (n : Nat) (d : List Int) : Nat → List Int
 | 0 => d
 | i + 1 => (dg n d i).set (i * n + i) 0
def d1 (ms : List Nat) : List Int := ms.map fun v => if 0 < v then 1 else -1
def dist (n : Nat) (ms : List Nat) : List Int := fK n (dg n (d1 ms) n) n
theorem qy3 (n : Nat) (d : List Int) (k i j : Nat) : (qce n d k i j).length = d.length := by
 unfold qce; split <;> simp
theorem qna (n : Nat) (d : List Int) (k i : Nat) : ∀ j, (fJ n d k i j).length = d.length
 | 0 => rfl
 | j + 1 => by rw [fJ, qy3, qna n d k i j]
theorem qjj (n : Nat) (d : List Int) (k : Nat) : ∀ i, (fI n d k i).length = d.length
 | 0 => rfl
 | i + 1 => by rw [fI, qna, qjj n d k i]
theorem qv6 (n : Nat) (d : List Int) : ∀ k, (fK n d k).length = d.length
 | 0 => rfl
 | k + 1 => by rw [fK, qjj, qv6 n d k]
theorem q2k (n : Nat) (d : List Int) : ∀ i, (dg n d i).length = d.length
 | 0 => rfl
 | i + 1 => by rw [dg, List.length_set, q2k n d i]
def Bnd (d : List Int) : Prop := ∀ x, -1 ≤ d.getD x 0 ∧ d.getD x 0 ≤ 1099511627776
end Go.Di
end
section
/-
 Contracts: distances, whole.
-/
namespace Go.Di
open Go.Ev
variable {C : Nat → Ev.Call}
def DBnd (n : Nat) (ms : List Nat) : Prop := ∀ k i j, k < n → i < n → j ≤ n → Bnd (fJ n (fI n (fK n (dg n (d1 ms) n) k) k i) k i j)
end Go.Di
end
