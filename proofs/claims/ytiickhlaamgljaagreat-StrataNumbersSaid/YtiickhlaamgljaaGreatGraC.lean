/-
 For countersignlaw18.StrataNumbers: contracts of the functions that compare and check edges, and of the reference's matrices. No conditions beyond those that each theorem states.
-/
import Derived.Test.YtiickhlaamgljaaGreatDir
import Derived.Sort.AssemblyPlain
set_option linter.unusedSimpArgs false
set_option linter.unusedVariables false
open Nat (reduceAdd reduceMul reduceSub reduceLeDiff reduceEqDiff reduceShiftRight reduceAnd)
section
/-
 What several texts lean on.
-/
namespace Go.Di
open Go.Ev
theorem qah : qal = 1000000 := rfl
end Go.Di
end
section
/-
 Contracts: comparing.
-/
namespace Go.Di
open Go.Ev
variable {C : Nat → Ev.Call}
abbrev qa7 (C : Nat → Ev.Call) : Prop := ∀ k, Lnk (C (k + 1)) (C k)
theorem zbk (hC : qa7 C) {k : Nat} (hk : 1 ≤ k) (n : Int) (H : Hp) : C k (.f qn0) [.int .i64 n] H = .ok (.bool false) H := by
 obtain ⟨j, rfl⟩ : ∃ j, k = j + 1 := ⟨k - 1, by omega⟩
 rw [(hC j).cNaN]
 unfold cNaN q9k
 simp only [go_sem]
def cmpI (a b : Int) : Int := if a < b then -1 else if b < a then 1 else 0
theorem qtl (hC : qa7 C) {k : Nat} (hk : 2 ≤ k) (a b : Int) (H : Hp) : C k (.f qkf) [.int .i64 a, .int .i64 b] H = .ok (.int .i64 (cmpI a b)) H := by
 obtain ⟨j, rfl⟩ : ∃ j, k = j + 1 := ⟨k - 1, by omega⟩
 rw [(hC j).cCmp]
 unfold cCmp q9p
 simp only [zbk hC (show 1 ≤ j by omega), go_sem]
 unfold qzd qze qzf qzg cmpI
 by_cases h : a < b
 ·simp only [h, go_sem]; rfl
 ·by_cases h2 : b < a
  ·simp only [h, h2, go_sem]; rfl
  ·simp only [h, h2, go_sem]; rfl
def sgn (s : Bool) : Int := if s then 1 else 0
theorem zd8 (hC : qa7 C) {k : Nat} (hk : 1 ≤ k) (a b : AV) (s : Bool) (H : Hp) : C k (.f qnw) [.agg [a, b, .bool s]] H = .ok (.int .i64 (sgn s)) (qak H (qaa 0 [a, b, .bool s])) := by
 obtain ⟨j, rfl⟩ : ∃ j, k = j + 1 := ⟨k - 1, by omega⟩
 rw [(hC j).gSgn]
 unfold gSgn q74 qyh
 cases s <;> simp (disch := first | omega | exact ti rfl | (simp only [np, nq]; first | done | omega)) only [go_sem, reduceAdd, reduceMul, reduceSub, reduceLeDiff, reduceEqDiff, reduceShiftRight, reduceAnd, Nat.beq] <;> rfl
end Go.Di
end
section
/-
 Contracts: comparing edges.
-/
namespace Go.Di
open Go.Ev
variable {C : Nat → Ev.Call}
def ints (l : List Int) : List AV := l.map (fun n => .int .i64 n)
theorem qf6 (l : List Int) (i : Nat) (h : i < l.length) : (ints l)[i]? = some (.int .i64 l[i]) := by simp [ints, h]
theorem qbp (l : List Int) : (ints l).length = l.length := by simp [ints]
def orI : List Int → Int
 | [] => 0
 | x :: l => if x = 0 then orI l else x
theorem q97 {call : Ev.Call} {H : Hp} {b m : Nat} {e : Bool} {q : Nat} {l : List Int} (h0 : H.get b = qaa q (ints l)) (hl : l.length < 1000000) :
  ∀ (k i : Nat), i ≤ l.length → l.length - i < k → qqd call (fun x2 H => .ok x2 H) (fun H => qop call (.int .i64 (.ofNat 0)) H) (.int .i64 (.ofNat 0)) (.sl b 0 l.length m e) (.int .i64 (.ofNat l.length)) k (.int .i64 (.ofNat i)) H = .ok (.int .i64 (orI (l.drop i))) H
 | 0, i, _, h => by omega
 | k + 1, i, hi, hk => by
  show q9e call _ _ _ _ _ (qqd call _ _ _ _ _ k) _ H = _
  unfold q9e
  by_cases hlt : i < l.length
  ·simp (disch := omega) only [go_sem, hlt]
   unfold q9c
   have hd : l.drop i = l[i] :: l.drop (i + 1) := List.drop_eq_getElem_cons hlt
   simp (disch := omega) only [go_sem, h0, qf6 _ _ hlt]
   rw [hd]
   show _ = R1.ok (.int .i64 (if l[i] = 0 then orI (l.drop (i + 1)) else l[i])) H
   by_cases hz : l[i] = Int.ofNat 0
   ·have hz' : l[i] = 0 := hz
    simp only [hz', go_sem]
    unfold q9d
    simp (disch := omega) only [go_sem]
    exact q97 h0 hl k (i + 1) (by omega) (by omega)
   ·have hz' : ¬ l[i] = 0 := hz
    simp only [hz, hz', go_sem]
  ·have hd : l.drop i = [] := List.drop_eq_nil_of_le (by omega)
   simp (disch := omega) only [go_sem, hlt]
   rw [hd]; rfl
theorem Or_ok (hC : qa7 C) {k : Nat} (hk : 1 ≤ k) {H : Hp} {b m : Nat} {e : Bool} {q n : Nat} {l : List Int} (hn : l.length = n) (h0 : H.get b = qaa q (ints l)) (hl : l.length < 1000000) :
  C k (.f q0t) [.sl b 0 n m e] H = .ok (.int .i64 (orI l)) H := by
 obtain ⟨j, rfl⟩ : ∃ j, k = j + 1 := ⟨k - 1, by omega⟩
 subst hn
 rw [(hC j).cOr]
 unfold cOr zfy q9f
 simp only [go_sem]
 rw [qaq]
 exact q97 h0 hl _ 0 (Nat.zero_le _) (by rw [qah]; omega)
structure Edge where
 (f t : Nat)
 s : Bool
deriving DecidableEq
def Edge.cells (e : Edge) : List AV := [.int .i64 (.ofNat e.f), .int .i64 (.ofNat e.t), .bool e.s]
def cmpE (x y : Edge) : Int := orI [cmpI (.ofNat x.f) (.ofNat y.f), cmpI (.ofNat x.t) (.ofNat y.t), cmpI (sgn x.s) (sgn y.s)]
theorem q3m (hC : qa7 C) {k : Nat} (hk : 3 ≤ k) (x y : Edge) (H : Hp) : Ok (C k (.f qsv) [.agg x.cells, .agg y.cells] H) fun v H' => v = .int .i64 (cmpE x y) ∧ Fm No H H' := by
 obtain ⟨j, rfl⟩ : ∃ j, k = j + 1 := ⟨k - 1, by omega⟩
 rw [(hC j).gCmp]
 unfold gCmp q8b Edge.cells
 simp (disch := first | omega | exact ti rfl | (simp only [np, nq]; first | done | omega)) only [go_sem, reduceAdd, reduceMul, reduceSub, reduceLeDiff, reduceEqDiff, reduceShiftRight, reduceAnd, Nat.beq, qtl hC (show 2 ≤ j by omega), zd8 hC (show 1 ≤ j by omega)]
 refine Ok.deE (Or_ok hC (show 1 ≤ j by omega) (l := [cmpI (.ofNat x.f) (.ofNat y.f), cmpI (.ofNat x.t) (.ofNat y.t), cmpI (sgn x.s) (sgn y.s)]) rfl (qac _ _ _) (by simp)) ?_
 simp (disch := first | omega | exact ti rfl | (simp only [np, nq]; first | done | omega)) only [go_sem, reduceAdd, reduceMul, reduceSub, reduceLeDiff, reduceEqDiff, reduceShiftRight, reduceAnd]
 exact Ok.ret ⟨rfl, by (repeat (first | exact Fm.refl _ _ | assumption | refine Fm.push ?_ _ | refine Fm.up2 ?_ (by (first | omega | (simp only [np, nq]; omega))) | refine Fm.put_new ?_ _ _ (by (first | omega | (simp only [np, nq]; omega)))))⟩
end Go.Di
end
section
/-
 Contracts: a graph is right.
-/
namespace Go.Di
open Go.Ev
variable {C : Nat → Ev.Call}
def qib (es : List Edge) : List AV := (es.map Edge.cells).flatten
theorem qvx : ∀ (es : List Edge) (i : Nat) (h : i < es.length), ((qib es).drop (i * 3)).take 3 = es[i].cells
 | x :: l, 0, _ => by simp [qib, Edge.cells]
 | x :: l, i + 1, h => by
  have : (qib (x :: l)).drop ((i + 1) * 3) = (qib l).drop (i * 3) := by
   rw [show (i + 1) * 3 = (i * 3 + 3) by omega]; rfl
  rw [this]
  exact qvx l i (by simpa using h)
structure qe8 (n : Nat) (es : List Edge) : Prop where
 rng : ∀ e ∈ es, e.f < n ∧ e.t < n
 ord : ∀ i, (h : i + 1 < es.length) → cmpE es[i] es[i + 1] < 0
theorem qyp (a b : Int) (k : IntKind) : qfk minV (.int k a) [.int k b] = .val (.int k (min a b)) := by
 show R0.val (.int k (bif ltI b a then b else a)) = _
 rw [qg2]
 by_cases h : b < a
 ·rw [decide_eq_true h, Int.min_eq_right (by omega)]; rfl
 ·rw [decide_eq_false h, Int.min_eq_left (by omega)]; rfl
theorem qyq (a b : Int) (k : IntKind) : qfk maxV (.int k a) [.int k b] = .val (.int k (max a b)) := by
 show R0.val (.int k (bif ltI a b then b else a)) = _
 rw [qg2]
 by_cases h : a < b
 ·rw [decide_eq_true h, Int.max_eq_right (by omega)]; rfl
 ·rw [decide_eq_false h, Int.max_eq_left (by omega)]; rfl
structure IsE (H : Hp) (v : AV) (es : List Edge) : Prop where
 flat : qvn v = true
 len : lenSl v = .val (.int .i64 (.ofNat es.length))
 lt' : ∀ b, In v b → b < H.nx
 at' : ∀ (i : Nat) (hi : i < es.length), ∃ b o, idxS 3 v (.int .i64 (.ofNat i)) = .val (.ptr b o) ∧ b < H.nx ∧ qbi (H.get b) o 3 = some es[i].cells
theorem IsE.at {H : Hp} {v : AV} {es : List Edge} (h : IsE H v es) {i : Nat} (hi : i < es.length) : ∃ b o, idxS 3 v (.int .i64 (.ofNat i)) = .val (.ptr b o) ∧ b < H.nx ∧ qbi (H.get b) o 3 = some es[i].cells := h.at' i hi
theorem IsE.fm {H H' : Hp} {v : AV} {es : List Edge} (h : IsE H v es) (a : Fm No H H') : IsE H' v es := ⟨h.flat, h.len, fun b hb => Nat.lt_of_lt_of_le (h.lt' b hb) a.nx, fun i hi => by
 obtain ⟨b, o, e1, e2, e3⟩ := h.at' i hi
 exact ⟨b, o, e1, Nat.lt_of_lt_of_le e2 a.nx, by rw [a.keep e2]; exact e3⟩⟩
theorem zht {z i b o : Nat} {v : AV} (h : idxS z v (.int .i64 (.ofNat i)) = .val (.ptr b o)) : In v b := by
 cases v with
 | sl b' o' n m e =>
  have h : (bif Nat.blt i n then R0.val (.ptr b' (o' + i * z)) else .bad) = .val (.ptr b o) := h
  cases hb : Nat.blt i n with
  | true => rw [hb] at h; cases h; exact ⟨_, _, _, _, rfl⟩
  | false => rw [hb] at h; cases h
 | _ => cases h
theorem IsE.keep {H H' : Hp} {v : AV} {es : List Edge} (h : IsE H v es) (hn : H.nx ≤ H'.nx) (hk : ∀ b, In v b → b < H.nx → H'.get b = H.get b) : IsE H' v es := ⟨h.flat, h.len, fun b hb => Nat.lt_of_lt_of_le (h.lt' b hb) hn, fun i hi => by
 obtain ⟨b, o, e1, e2, e3⟩ := h.at' i hi
 exact ⟨b, o, e1, Nat.lt_of_lt_of_le e2 hn, by rw [hk b (zht e1) e2]; exact e3⟩⟩
theorem IsE.lt {H : Hp} {v : AV} {es : List Edge} (h : IsE H v es) {b : Nat} (hb : In v b) : b < H.nx := h.lt' b hb
def GlE (H : Hp) (v : AV) (es : List Edge) : Prop := Gl 3 H v es.length (qib es)
theorem Gl.flat {z n : Nat} {H : Hp} {v : AV} {l : List AV} (h : Gl z H v n l) : qvn v = true := by
 rcases h.is with ⟨rfl, rfl⟩ | ⟨b, o, e, q, L, rfl, _⟩ <;> rfl
theorem Gl.lt {z n : Nat} {H : Hp} {v : AV} {l : List AV} (h : Gl z H v n l) {b : Nat} (hb : In v b) : b < H.nx := by
 obtain ⟨_, _, _, _, rfl⟩ := hb
 rcases h.is with ⟨h, _⟩ | ⟨b, o, e, q, L, h, _, _, _, _, h5⟩ <;> cases h
 exact h5
theorem IsE.eqF {H : Hp} {v : AV} {es : List Edge} (h : IsE H v es) : eqF 64 v v = true := qb9 h.flat 63
theorem Gl.atN {z n : Nat} {H : Hp} {v : AV} {l : List AV} (h : Gl z H v n l) {i : Nat} (hi : i < n) : ∃ b o, idxS z v (.int .i64 (.ofNat i)) = .val (.ptr b o) ∧ b < H.nx ∧ In v b ∧ qbi (H.get b) o z = some ((l.drop (i * z)).take z) ∧ ∀ (j : Nat), j < z → qa6 (H.get b) (o + j) = .val (l.getD (i * z + j) .undef) := by
 have hl := h.len
 rcases h.is with ⟨rfl, rfl⟩ | ⟨b, o, e, q, L, rfl, h1, h2, h3, h4, h5⟩
 ·omega
 ·have hm : i * z + z ≤ n * z := by
   have : (i + 1) * z ≤ n * z := Nat.mul_le_mul_right z hi
   rw [Nat.add_mul, Nat.one_mul] at this; exact this
  have hL : o + n * z = L.length := by rw [← h3, List.length_drop] at hl; omega
  refine ⟨b, o + i * z, qgg _ _ _ _ _ _ _ _ hi, h5, ⟨_, _, _, _, rfl⟩, ?_, fun j hj => ?_⟩
  ·rw [h1, qd1, if_pos (by omega), ← List.drop_drop, h3]
  ·rw [h1, qci]
   have : L[o + i * z + j]? = l[i * z + j]? := by rw [← h3, List.getElem?_drop]; congr 1; omega
   rw [this, List.getElem?_eq_getElem (by omega)]
   simp [List.getD_eq_getElem?_getD, show i * z + j < l.length by omega]
theorem GlE.isE {H : Hp} {v : AV} {es : List Edge} (h : GlE H v es) : IsE H v es := ⟨Gl.flat h, Gl.lenV h, fun b hb => Gl.lt h hb, fun i hi => by
 obtain ⟨b, o, e1, e2, _, e3, _⟩ := Gl.atN h hi
 exact ⟨b, o, e1, e2, by rw [e3, qvx _ _ hi]⟩⟩
theorem qk5 (hC : qa7 C) {j : Nat} (hj : 3 ≤ j) {n : Nat} {es : List Edge} (hE : qe8 n es) {v : AV} {g : Nat} {H0 : Hp} (hlen : es.length < 1000000) {Q : AV → Hp → Prop} {q5e0 : Hp → R1}
  (hq : ∀ H, Fm No H0 H → Ok (q5e0 H) Q) :
  ∀ (k i : Nat) (H : Hp), i ≤ es.length → es.length - i < k → IsE H v es → g < H.nx → H.get g = qaa 0 [.int .i64 (.ofNat n), v] → Fm No H0 H →
   Ok (qiu (C j) (fun x2 H => .ok x2 H) q5e0 (.ptr g 0) v (.int .i64 (.ofNat es.length)) k (.int .i64 (.ofNat i)) H) Q
 | 0, i, _, _, h, _, _, _, _ => by omega
 | k + 1, i, H, hi, hk, hv, hg1, hg2, hf => by
  show Ok (qym (C j) _ _ _ _ _ (qiu (C j) _ _ _ _ _ k) _ H) Q
  unfold qym
  by_cases hlt : i < es.length
  ·obtain ⟨b, o1, e1, e2, e3⟩ := hv.at hlt
   have hr := hE.rng es[i] (List.getElem_mem hlt)
   simp (disch := first | omega | exact ti rfl | (simp only [np, nq]; first | done | omega)) only [go_sem, reduceAdd, reduceMul, reduceSub, reduceLeDiff, reduceEqDiff, reduceShiftRight, reduceAnd, hlt]
   unfold qtf q8c
   have hmin : (min (Int.ofNat es[i].f) (Int.ofNat es[i].t) < Int.ofNat 0) = False := by simp only [Int.ofNat_eq_natCast, eq_iff_iff, iff_false]; omega
   have hmax : (Int.ofNat n ≤ max (Int.ofNat es[i].f) (Int.ofNat es[i].t)) = False := by simp only [Int.ofNat_eq_natCast, eq_iff_iff, iff_false]; omega
   by_cases h0 : 0 < i
   ·obtain ⟨p, rfl⟩ : ∃ p, i = p + 1 := ⟨i - 1, by omega⟩
    obtain ⟨b', o2, e1', e2', e3'⟩ := hv.at (show p < es.length by omega)
    have hv64 := hv.eqF
    simp (disch := first | omega | exact ti rfl | (simp only [np, nq]; first | done | omega)) only [go_sem, reduceAdd, reduceMul, reduceSub, reduceLeDiff, reduceEqDiff, reduceShiftRight, reduceAnd, e1, e3, Edge.cells, qyp, qyq, hmin, hmax, hg2, h0, e1', e3', Nat.add_sub_cancel]
    refine Ok.deO (q3m hC hj es[p] es[p + 1] _) ?_
    rintro v' H' ⟨rfl, f'⟩
    have k1 : H'.get g = qaa 0 [.int .i64 (.ofNat n), v] := (f'.keep (by (first | omega | (simp only [np, nq]; omega)))).trans (by simp (disch := first | omega | exact ti rfl | (simp only [np, nq]; first | done | omega)) only [go_sem, reduceAdd, reduceMul, reduceSub, reduceLeDiff, reduceEqDiff, reduceShiftRight, reduceAnd, hg2])
    have k2 : qbi (H'.get b') o2 3 = some es[p].cells := by rw [f'.keep (by (first | omega | (simp only [np, nq]; omega)))]; simp (disch := first | omega | exact ti rfl | (simp only [np, nq]; first | done | omega)) only [go_sem, reduceAdd, reduceMul, reduceSub, reduceLeDiff, reduceEqDiff, reduceShiftRight, reduceAnd, e3']
    have k3 : H'.get H.nx = qaa 0 es[p + 1].cells := (f'.keep (by (first | omega | (simp only [np, nq]; omega)))).trans (by simp (disch := first | omega | exact ti rfl | (simp only [np, nq]; first | done | omega)) only [go_sem, reduceAdd, reduceMul, reduceSub, reduceLeDiff, reduceEqDiff, reduceShiftRight, reduceAnd, Edge.cells])
    have ho : (Int.ofNat 0 ≤ cmpE es[p] es[p + 1]) = False := by
     have := hE.ord p hlt
     simp only [Int.ofNat_eq_natCast, eq_iff_iff, iff_false]; omega
    simp (disch := first | omega | exact ti rfl | (simp only [np, nq]; first | done | omega)) only [go_sem, reduceAdd, reduceMul, reduceSub, reduceLeDiff, reduceEqDiff, reduceShiftRight, reduceAnd, k1, k2, k3, hv64, Edge.cells, ho]
    unfold qtd
    simp (disch := first | omega | exact ti rfl | (simp only [np, nq]; first | done | omega)) only [go_sem, reduceAdd, reduceMul, reduceSub, reduceLeDiff, reduceEqDiff, reduceShiftRight, reduceAnd]
    have fH : Fm No H H' := by refine Fm.trans ?_ f'; (repeat (first | exact Fm.refl _ _ | assumption | refine Fm.push ?_ _ | refine Fm.up2 ?_ (by (first | omega | (simp only [np, nq]; omega))) | refine Fm.put_new ?_ _ _ (by (first | omega | (simp only [np, nq]; omega)))))
    exact qk5 hC hj hE hlen hq k (p + 1 + 1) H' (by omega) (by omega) (hv.fm fH) (Nat.lt_of_lt_of_le hg1 fH.nx) k1 (hf.trans fH)
   ·simp (disch := first | omega | exact ti rfl | (simp only [np, nq]; first | done | omega)) only [go_sem, reduceAdd, reduceMul, reduceSub, reduceLeDiff, reduceEqDiff, reduceShiftRight, reduceAnd, e1, e3, Edge.cells, qyp, qyq, hmin, hmax, hg2, h0]
    unfold qtd
    simp (disch := first | omega | exact ti rfl | (simp only [np, nq]; first | done | omega)) only [go_sem, reduceAdd, reduceMul, reduceSub, reduceLeDiff, reduceEqDiff, reduceShiftRight, reduceAnd]
    have fH : Fm No H ((qak H (qaa 0 [.int .i64 (.ofNat 0), .int .i64 (.ofNat 0), .bool false])).put H.nx (qaa 0 [.int .i64 (.ofNat es[i].f), .int .i64 (.ofNat es[i].t), .bool es[i].s])) := by (repeat (first | exact Fm.refl _ _ | assumption | refine Fm.push ?_ _ | refine Fm.up2 ?_ (by (first | omega | (simp only [np, nq]; omega))) | refine Fm.put_new ?_ _ _ (by (first | omega | (simp only [np, nq]; omega)))))
    exact qk5 hC hj hE hlen hq k (i + 1) _ (by omega) (by omega) (hv.fm fH) (Nat.lt_of_lt_of_le hg1 fH.nx) ((fH.keep hg1).trans hg2) (hf.trans fH)
  ·simp (disch := first | omega | exact ti rfl | (simp only [np, nq]; first | done | omega)) only [go_sem, reduceAdd, reduceMul, reduceSub, reduceLeDiff, reduceEqDiff, reduceShiftRight, reduceAnd, hlt]
   exact hq H hf
theorem q1m (hC : qa7 C) {k : Nat} (hk : 4 ≤ k) {n : Nat} {es : List Edge} (hE : qe8 n es) (hn : n ≤ 256) (hlen : es.length < 1000000) {v : AV} {H : Hp} (hv : IsE H v es) :
  Ok (C k (.f qnz) [.agg [.int .i64 (.ofNat n), v]] H) fun r H' => r = .int .i64 (.ofNat 0) ∧ Fm No H H' := by
 obtain ⟨j, rfl⟩ : ∃ j, k = j + 1 := ⟨k - 1, by omega⟩
 rw [(hC j).gChk]
 unfold gChk q8e
 have h256 : (256 < n) = False := by simp only [eq_iff_iff, iff_false]; omega
 simp (disch := first | omega | exact ti rfl | (simp only [np, nq]; first | done | omega)) only [go_sem, reduceAdd, reduceMul, reduceSub, reduceLeDiff, reduceEqDiff, reduceShiftRight, reduceAnd, h256, Nat.not_lt_zero]
 unfold qte qyn
 have fH : Fm No H (qak H (qaa 0 [.int .i64 (.ofNat n), v])) := by (repeat (first | exact Fm.refl _ _ | assumption | refine Fm.push ?_ _ | refine Fm.up2 ?_ (by (first | omega | (simp only [np, nq]; omega))) | refine Fm.put_new ?_ _ _ (by (first | omega | (simp only [np, nq]; omega)))))
 simp (disch := first | omega | exact ti rfl | (simp only [np, nq]; first | done | omega)) only [go_sem, reduceAdd, reduceMul, reduceSub, reduceLeDiff, reduceEqDiff, reduceShiftRight, reduceAnd, hv.len]
 rw [qaq]
 refine qk5 hC (by omega) hE hlen (fun H hf => ?_) _ 0 _ (Nat.zero_le _) (by rw [qah]; omega) (hv.fm fH) (by (first | omega | (simp only [np, nq]; omega))) (qaj _ _) fH
 exact Ok.ret ⟨rfl, hf⟩
end Go.Di
end
section
/-
 Contracts: lists that are cut to size.
-/
namespace Go.Di
open Go.Ev
variable {C : Nat → Ev.Call}
def nats (l : List Nat) : List AV := l.map (fun n => .int .i64 (.ofNat n))
theorem ints_set (l : List Int) (i : Nat) (n : Int) (h : i < l.length) : setL (ints l) i [.int .i64 n] = ints (l.set i n) := by
 unfold setL ints
 apply List.ext_getElem
 ·simp; omega
 ·intro j h1 h2
  simp only [List.length_map, List.length_set] at h2
  simp only [List.getElem_map, List.getElem_set]
  by_cases hj : j < i
  ·rw [List.getElem_append_left (by simp; omega), List.getElem_append_left (by simp; omega)]
   simp [show ¬ i = j by omega]
  ·by_cases he : i = j
   ·subst he
    rw [List.getElem_append_left (by simp; omega), List.getElem_append_right (by simp; exact Nat.min_le_left _ _)]
    simp [Nat.min_eq_left (Nat.le_of_lt h)]
   ·rw [List.getElem_append_right (by simp; omega)]
    simp [he, Nat.min_eq_left (Nat.le_of_lt h)]
    congr 2; omega
theorem qg3 (l : List Nat) : ints (l.map Int.ofNat) = nats l := by unfold ints nats; rw [List.map_map]; rfl
theorem Gl.at {n : Nat} {H : Hp} {v : AV} {l : List AV} (h : Gl 1 H v n l) {i : Nat} {x : AV} (hx : l[i]? = some x) : ∃ b o, idxS 1 v (.int .i64 (.ofNat i)) = .val (.ptr b o) ∧ b < H.nx ∧ In v b ∧ qa6 (H.get b) o = .val x := by
 have hl := h.len
 have hi : i < l.length := by
  rcases Nat.lt_or_ge i l.length with h | h
  ·exact h
  ·rw [List.getElem?_eq_none h] at hx; cases hx
 rcases h.is with ⟨rfl, rfl⟩ | ⟨b, o, e, q, L, rfl, h1, h2, h3, h4, h5⟩
 ·omega
 ·refine ⟨b, o + i, ?_, h5, ⟨_, _, _, _, rfl⟩, ?_⟩
  ·rw [qgg _ _ _ _ _ _ _ _ (by omega), Nat.mul_one]
  ·have : L[o + i]? = some x := by rw [← List.getElem?_drop, h3]; exact hx
   rw [h1, qci, this]
theorem Gl.clip {z n : Nat} {H : Hp} {v : AV} {l : List AV} (h : Gl z H v n l) : ∃ w, qa8 z v none (some (.int .i64 (.ofNat n))) (some (.int .i64 (.ofNat n))) = .val w ∧ Gl z H w n l ∧ capV w = .val (.int .i64 (.ofNat n)) ∧ (∀ b, In w b → In v b) := by
 rcases h.is with ⟨rfl, rfl⟩ | ⟨b, o, e, q, L, rfl, h1, h2, h3, h4, h5⟩
 ·exact ⟨.nilsl, rfl, h, rfl, fun b h => h⟩
 ·have e1 : qa8 z (.sl b o n n e) none (some (.int .i64 (.ofNat n))) (some (.int .i64 (.ofNat n))) = mkSl b o z ⟨0, n, n⟩ true := by
   show (match bounds n n none (some (.int .i64 (.ofNat n))) (some (.int .i64 (.ofNat n))) with | some bd => mkSl b o z bd true | none => R0.bad) = _
   have : bounds n n none (some (.int .i64 (.ofNat n))) (some (.int .i64 (.ofNat n))) = some ⟨0, n, n⟩ := by
    show (match (bif Nat.ble n n then some n else none) with | none => none | some m => match (bif Nat.ble n m then some n else none) with | none => none | some h => match (some 0 : Option Nat) with | none => none | some l => some (Bd.mk l h m)) = _
    rw [ble_eq, decide_eq_true (Nat.le_refl n)]; simp only [cond_true, ble_eq, decide_eq_true (Nat.le_refl n)]
   rw [this]
  rw [e1]
  unfold mkSl
  simp only [beq_eq]
  by_cases hn : n = 0
  ·subst hn
   exact ⟨.sl b o 0 0 true, rfl, ⟨h.len, .inr ⟨b, o, true, q, L, rfl, h1, h2, h3, .inl rfl, h5⟩⟩, rfl, fun c hc => by obtain ⟨_, _, _, _, h'⟩ := hc; cases h'; exact ⟨_, _, _, _, rfl⟩⟩
  ·rw [decide_eq_false hn]
   refine ⟨.sl b o n n true, ?_, ⟨h.len, .inr ⟨b, o, true, q, L, rfl, h1, h2, h3, .inl rfl, h5⟩⟩, rfl, fun c hc => by obtain ⟨_, _, _, _, h'⟩ := hc; cases h'; exact ⟨_, _, _, _, rfl⟩⟩
   show R0.val (.sl b (o + 0 * z) (n - 0) (n - 0) true) = _
   rw [Nat.zero_mul, Nat.add_zero, Nat.sub_zero]
theorem qzn (hC : qa7 C) {k : Nat} (hk : 1 ≤ k) {n : Nat} {H : Hp} {v : AV} {l : List AV} (h : Gl 1 H v n l) :
  ∃ w, C k (.f qg4) [v] H = .ok w H ∧ Gl 1 H w n l ∧ capV w = .val (.int .i64 (.ofNat n)) ∧ (∀ b, In w b → In v b) := by
 obtain ⟨j, rfl⟩ : ∃ j, k = j + 1 := ⟨k - 1, by omega⟩
 obtain ⟨w, e, h1, h2, h3⟩ := h.clip
 refine ⟨w, ?_, h1, h2, h3⟩
 rw [(hC j).sClp]
 unfold sClp qz4
 simp (disch := first | omega | exact ti rfl | (simp only [np, nq]; first | done | omega)) only [go_sem, reduceAdd, reduceMul, reduceSub, reduceLeDiff, reduceEqDiff, reduceShiftRight, reduceAnd, h.lenV, e]
end Go.Di
end
section
/-
 Contracts: matrices.
-/
namespace Go.Di
open Go.Ev
variable {C : Nat → Ev.Call}
theorem q0l (l : List Nat) : (nats l).length = l.length := by simp [nats]
theorem qf5 (l : List Nat) (i : Nat) (h : i < l.length) : (nats l)[i]? = some (.int .i64 (.ofNat l[i])) := by simp [nats, h]
theorem qjh (l : List Nat) (i n : Nat) (h : i < l.length) : setL (nats l) i [.int .i64 (.ofNat n)] = nats (l.set i n) := by
 rw [← qg3, ints_set _ _ _ (by simpa using h), ← qg3, List.map_set]
structure MOk (n : Nat) (ms : List Nat) : Prop where
 hn : n ≤ 256
 len : ms.length = n * n
 le : ∀ x ∈ ms, x ≤ 3
structure IsM (H : Hp) (v : AV) (b n : Nat) (ms : List Nat) : Prop where
 hv : v = .agg [.int .i64 (.ofNat n), .sl b 0 (n * n) (n * n) true]
 lt : b < H.nx
 get : H.get b = qaa 0 (nats ms)
 ok : MOk n ms
theorem IsM.fm {H H' : Hp} {v : AV} {b n : Nat} {ms : List Nat} (h : IsM H v b n ms) (a : Fm No H H') : IsM H' v b n ms := ⟨h.hv, Nat.lt_of_lt_of_le h.lt a.nx, (a.keep h.lt).trans h.get, h.ok⟩
theorem qmg {n : Nat} (h : n ≤ 256) : n * n ≤ 65536 := Nat.mul_le_mul h h
theorem qcl {n i k : Nat} (hi : i < n) (hk : k < n) : i * n + k < n * n := by
 have : (i + 1) * n ≤ n * n := Nat.mul_le_mul_right n hi
 rw [Nat.add_mul, Nat.one_mul] at this; omega
theorem zi2 (hC : qa7 C) {k : Nat} (hk : 1 ≤ k) {n : Nat} (hn : n ≤ 256) {H : Hp} :
  Ok (C k (.f qss) [.int .i64 (.ofNat n)] H) fun r H' => IsM H' r (H.nx + 1) n (List.replicate (n * n) 0) ∧ Fm No H H' := by
 obtain ⟨j, rfl⟩ : ∃ j, k = j + 1 := ⟨k - 1, by omega⟩
 rw [(hC j).rNew]
 unfold rNew q6c
 have hs := qmg hn
 have hr : reps [.int .i64 (.ofNat 0)] (n * n) = nats (List.replicate (n * n) 0) := by rw [qch]; simp [nats]
 simp (disch := first | omega | exact ti rfl | (simp only [np, nq]; first | done | omega)) only [go_sem, reduceAdd, reduceMul, reduceSub, reduceLeDiff, reduceEqDiff, reduceShiftRight, reduceAnd, qdh, hr]
 refine Ok.ret ⟨⟨rfl, ?_, ?_, ⟨hn, List.length_replicate, fun x hx => by rw [List.eq_of_mem_replicate hx]; omega⟩⟩, by (repeat (first | exact Fm.refl _ _ | assumption | refine Fm.push ?_ _ | refine Fm.up2 ?_ (by (first | omega | (simp only [np, nq]; omega))) | refine Fm.put_new ?_ _ _ (by (first | omega | (simp only [np, nq]; omega)))))⟩
 ·(first | omega | (simp only [np, nq]; omega))
 ·simp (disch := first | omega | exact ti rfl | (simp only [np, nq]; first | done | omega)) only [go_sem, reduceAdd, reduceMul, reduceSub, reduceLeDiff, reduceEqDiff, reduceShiftRight, reduceAnd]
def putM (n : Nat) (ms : List Nat) (f t : Nat) (s : Bool) : List Nat :=
 if ms.getD (f * n + t) 0 / (if s then 2 else 1) % 2 = 0 then ms.set (f * n + t) (ms.getD (f * n + t) 0 + (if s then 2 else 1)) else ms
theorem zel (hC : qa7 C) {k : Nat} (hk : 1 ≤ k) {n b f t : Nat} {ms : List Nat} {v : AV} {H : Hp} (hM : IsM H v b n ms) (hf : f < n) (ht : t < n) (s : Bool) :
  Ok (C k (.f qsp) [v, .int .i64 (.ofNat f), .int .i64 (.ofNat t), .bool s] H) fun _ H' => IsM H' v b n (putM n ms f t s) ∧ Fm (· = b) H H' := by
 obtain ⟨j, rfl⟩ : ∃ j, k = j + 1 := ⟨k - 1, by omega⟩
 obtain ⟨rfl, hb, hg, hok⟩ := hM
 rw [(hC j).rPut]
 unfold rPut q56
 have hs := qmg hok.hn
 have hi := qcl hf ht
 have hfn : f * n < 9223372036854775808 := by omega
 have hl := hok.len
 have hget := qf5 ms (f * n + t) (by omega)
 have hle := hok.le ms[f * n + t] (List.getElem_mem _)
 have h1 : f * n + t + 1 ≤ n * n := hi
 have hgd : ms.getD (f * n + t) 0 = ms[f * n + t] := by rw [List.getD_eq_getElem?_getD, List.getElem?_eq_getElem (by omega)]; rfl
 have fin : ∀ d : Nat, 0 < d → d < 3 → d = (if s then 2 else 1) → (ms[f * n + t] / d % 2 = 0 → ms[f * n + t] + d ≤ 3) → Ok (qjb (C j) (.int .i64 (.ofNat f)) (.int .i64 (.ofNat t)) (.ptr H.nx 0) (.int .i64 (.ofNat d)) (qak H (qaa 0 [.int .i64 (.ofNat n), .sl b 0 (n * n) (n * n) true]))) fun _ H' => IsM H' (.agg [.int .i64 (.ofNat n), .sl b 0 (n * n) (n * n) true]) b n (putM n ms f t s) ∧ Fm (· = b) H H' := by
  intro d hd1 hd hds hd2
  unfold qjb
  by_cases hz : ms[f * n + t] / d % 2 = 0
  ·simp (disch := first | omega | exact ti rfl | (simp only [np, nq]; first | done | omega)) only [go_sem, reduceAdd, reduceMul, reduceSub, reduceLeDiff, reduceEqDiff, reduceShiftRight, reduceAnd, hg, hget, hz, q0l, hl, h1, qjh]
   have hd3 := hd2 hz
   have hp : putM n ms f t s = ms.set (f * n + t) (ms[f * n + t] + d) := by
    unfold putM
    rw [hgd, ← hds, if_pos hz]
   rw [hp]
   refine Ok.ret ⟨⟨rfl, by (first | omega | (simp only [np, nq]; omega)), qac _ _ _, ⟨hok.hn, by rw [List.length_set]; exact hl, fun x hx => ?_⟩⟩, by (repeat (first | exact Fm.refl _ _ | assumption | refine Fm.push ?_ _ | refine Fm.up2 ?_ (by (first | omega | (simp only [np, nq]; omega))) | refine Fm.put_new ?_ _ _ (by (first | omega | (simp only [np, nq]; omega))) | refine Fm.put ?_ _ _ (fun _ => rfl)))⟩
   rcases List.mem_or_eq_of_mem_set hx with h | h
   ·exact hok.le x h
   ·omega
  ·simp (disch := first | omega | exact ti rfl | (simp only [np, nq]; first | done | omega)) only [go_sem, reduceAdd, reduceMul, reduceSub, reduceLeDiff, reduceEqDiff, reduceShiftRight, reduceAnd, hg, hget, hz]
   have hp : putM n ms f t s = ms := by
    unfold putM
    rw [hgd, ← hds, if_neg hz]
   rw [hp]
   exact Ok.ret ⟨⟨rfl, by (first | omega | (simp only [np, nq]; omega)), (qbb _ _ _ hb).trans hg, hok⟩, by (repeat (first | exact Fm.refl _ _ | assumption | refine Fm.push ?_ _ | refine Fm.up2 ?_ (by (first | omega | (simp only [np, nq]; omega))) | refine Fm.put_new ?_ _ _ (by (first | omega | (simp only [np, nq]; omega))) | refine Fm.put ?_ _ _ (fun _ => rfl)))⟩
 cases s
 ·simp (disch := first | omega | exact ti rfl | (simp only [np, nq]; first | done | omega)) only [go_sem, reduceAdd, reduceMul, reduceSub, reduceLeDiff, reduceEqDiff, reduceShiftRight, reduceAnd]
  exact fin 1 (by omega) (by omega) rfl (fun h => by omega)
 ·simp (disch := first | omega | exact ti rfl | (simp only [np, nq]; first | done | omega)) only [go_sem, reduceAdd, reduceMul, reduceSub, reduceLeDiff, reduceEqDiff, reduceShiftRight, reduceAnd]
  exact fin 2 (by omega) (by omega) rfl (fun h => by omega)
end Go.Di
end
section
/-
 Contracts: the matrix of edges, and its edges.
-/
namespace Go.Di
open Go.Ev
variable {C : Nat → Ev.Call}
structure T3 where
 (f t s : Nat)
def T3.cells (e : T3) : List AV := [.int .i64 (.ofNat e.f), .int .i64 (.ofNat e.t), .int .i64 (.ofNat e.s)]
def qcb (ts : List T3) : List AV := (ts.map T3.cells).flatten
theorem qjx (es : List T3) (e : T3) : qcb es ++ e.cells = qcb (es ++ [e]) := by simp [qcb]
theorem qi3 : ∀ (es : List T3) (i j : Nat) (h : i < es.length), j < 3 → (qcb es).getD (i * 3 + j) .undef = es[i].cells.getD j .undef
 | x :: l, 0, j, _, hj => by
  show (x.cells ++ qcb l).getD (0 * 3 + j) .undef = _
  rw [Nat.zero_mul, Nat.zero_add, List.getD_eq_getElem?_getD, List.getElem?_append_left (by simp [T3.cells]; omega)]
  simp [List.getD_eq_getElem?_getD]
 | x :: l, i + 1, j, h, hj => by
  show (x.cells ++ qcb l).getD ((i + 1) * 3 + j) .undef = _
  rw [List.getD_eq_getElem?_getD, List.getElem?_append_right (by simp [T3.cells]; omega), show (i + 1) * 3 + j - x.cells.length = i * 3 + j by simp [T3.cells]; omega]
  have := qi3 l i j (by simpa using h) hj
  rw [List.getD_eq_getElem?_getD] at this
  simpa using this
theorem zf7 {H : Hp} {v : AV} {ts : List T3} (h : Gl 3 H v ts.length (qcb ts)) {i : Nat} (hi : i < ts.length) :
  ∃ b o, idxS 3 v (.int .i64 (.ofNat i)) = .val (.ptr b o) ∧ b < H.nx ∧ In v b ∧ qa6 (H.get b) o = .val (.int .i64 (.ofNat ts[i].f)) ∧ qa6 (H.get b) (o + 1) = .val (.int .i64 (.ofNat ts[i].t)) ∧ qa6 (H.get b) (o + 2) = .val (.int .i64 (.ofNat ts[i].s)) := by
 obtain ⟨b, o, e1, e2, e3, _, e4⟩ := h.atN hi
 refine ⟨b, o, e1, e2, e3, ?_, ?_, ?_⟩
 ·have := e4 0 (by omega); rw [qi3 _ _ _ hi (by omega)] at this; exact this
 ·have := e4 1 (by omega); rw [qi3 _ _ _ hi (by omega)] at this; exact this
 ·have := e4 2 (by omega); rw [qi3 _ _ _ hi (by omega)] at this; exact this
def q2l (n : Nat) : List Nat → List T3 → List Nat
 | ms, [] => ms
 | ms, e :: l => q2l n (putM n ms e.f e.t (decide (e.s = 1))) l
theorem qpg (n : Nat) (e : T3) : ∀ (l : List T3) (ms : List Nat), q2l n ms (l ++ [e]) = putM n (q2l n ms l) e.f e.t (decide (e.s = 1))
 | [], _ => rfl
 | _ :: l, _ => qpg n e l _
theorem qow (hC : qa7 C) {j : Nat} (hj : 1 ≤ j) {n : Nat} {ts : List T3} (hT : ∀ e ∈ ts, e.f < n ∧ e.t < n) {v mv : AV} {g mb : Nat} {H1 : Hp} (hlen : ts.length < 1000000) {ms0 : List Nat} {Q : AV → Hp → Prop} {q7 : Hp → R1}
  (hv : Gl 3 H1 v ts.length (qcb ts)) (hvm : ∀ b, In v b → b ≠ mb) (hg : g < H1.nx) (hgm : g ≠ mb) (hgv : ∃ s, mv = .agg [.int .i64 (.ofNat n), s] ∧ qvn s = true ∧ H1.get g = qaa 0 [.int .i64 (.ofNat n), s])
  (hq : ∀ H, IsM H mv mb n (q2l n ms0 ts) → Fm (· = mb) H1 H → Ok (q7 H) Q) :
  ∀ (k i : Nat) (H : Hp), i ≤ ts.length → ts.length - i < k → IsM H mv mb n (q2l n ms0 (ts.take i)) → Fm (· = mb) H1 H →
   Ok (qj7 (C j) q7 v (.ptr g 0) k (.int .i64 (.ofNat i)) H) Q
 | 0, i, _, _, h, _, _ => by omega
 | k + 1, i, H, hi, hk, hM, hfm => by
  show Ok (qxr (C j) _ _ _ (qj7 (C j) _ _ _ k) _ H) Q
  unfold qxr
  by_cases hlt : i < ts.length
  ·simp (disch := first | omega | exact ti rfl | (simp only [np, nq]; first | done | omega)) only [go_sem, reduceAdd, reduceMul, reduceSub, reduceLeDiff, reduceEqDiff, reduceShiftRight, reduceAnd, hlt, hv.lenV]
   unfold qrv
   obtain ⟨s, hmv, hsf, hgv⟩ := hgv
   obtain ⟨b, o, e1, e2, e3, e4, e5, e6⟩ := zf7 (hv.fm hfm hvm) hlt
   have hr := hT ts[i] (List.getElem_mem hlt)
   have k1 : H.get g = qaa 0 [.int .i64 (.ofNat n), s] := (hfm.get g hg hgm).trans hgv
   simp (disch := first | omega | exact ti rfl | (simp only [np, nq]; first | done | omega)) only [go_sem, reduceAdd, reduceMul, reduceSub, reduceLeDiff, reduceEqDiff, reduceShiftRight, reduceAnd, k1, e1, e4, e5, e6]
   refine Ok.deO (zel hC hj (hmv ▸ hM) hr.1 hr.2 _) ?_
   rintro _ H' ⟨hM', f'⟩
   rw [← qpg, ← List.take_succ_eq_append_getElem hlt] at hM'
   simp (disch := first | omega | exact ti rfl | (simp only [np, nq]; first | done | omega)) only [go_sem, reduceAdd, reduceMul, reduceSub, reduceLeDiff, reduceEqDiff, reduceShiftRight, reduceAnd]
   unfold qxq
   simp (disch := first | omega | exact ti rfl | (simp only [np, nq]; first | done | omega)) only [go_sem, reduceAdd, reduceMul, reduceSub, reduceLeDiff, reduceEqDiff, reduceShiftRight, reduceAnd]
   exact qow hC hj hT hlen hv hvm hg hgm ⟨s, hmv, hsf, hgv⟩ hq k (i + 1) H' (by omega) (by omega) (hmv ▸ hM') (hfm.then f' fun _ _ h => h)
  ·simp (disch := first | omega | exact ti rfl | (simp only [np, nq]; first | done | omega)) only [go_sem, reduceAdd, reduceMul, reduceSub, reduceLeDiff, reduceEqDiff, reduceShiftRight, reduceAnd, hlt, hv.lenV]
   have : i = ts.length := by omega
   subst this
   rw [List.take_length] at hM
   exact hq H hM hfm
theorem q36 (hC : qa7 C) {k : Nat} (hk : 2 ≤ k) {n : Nat} (hn : n ≤ 256) {ts : List T3} (hT : ∀ e ∈ ts, e.f < n ∧ e.t < n) (hlen : ts.length < 1000000) {v : AV} {H : Hp} (hv : Gl 3 H v ts.length (qcb ts)) :
  Ok (C k (.f qnu) [.int .i64 (.ofNat n), v] H) fun r H' => ∃ b, IsM H' r b n (q2l n (List.replicate (n * n) 0) ts) ∧ H.nx ≤ b ∧ Fm No H H' := by
 obtain ⟨j, rfl⟩ : ∃ j, k = j + 1 := ⟨k - 1, by omega⟩
 rw [(hC j).rMat]
 unfold rMat q6e
 simp (disch := first | omega | exact ti rfl | (simp only [np, nq]; first | done | omega)) only [go_sem, reduceAdd, reduceMul, reduceSub, reduceLeDiff, reduceEqDiff, reduceShiftRight, reduceAnd]
 have fH : Fm No H (qak H (qaa 0 [.int .i64 (.ofNat 0), .nilsl])) := by (repeat (first | exact Fm.refl _ _ | assumption | refine Fm.push ?_ _ | refine Fm.up2 ?_ (by (first | omega | (simp only [np, nq]; omega))) | refine Fm.put_new ?_ _ _ (by (first | omega | (simp only [np, nq]; omega)))))
 refine Ok.ve (zi2 hC (by omega) hn) ?_
 rintro r H1 ⟨hM, f1⟩
 have hr := hM.hv
 have n1 := f1.nx
 have n1' : H.nx + 1 ≤ H1.nx := n1
 have hMl := hM.lt
 have hMl' : H.nx + 1 + 1 < H1.nx := hMl
 subst hr
 simp (disch := first | omega | exact ti rfl | (simp only [np, nq]; first | done | omega)) only [go_sem, reduceAdd, reduceMul, reduceSub, reduceLeDiff, reduceEqDiff, reduceShiftRight, reduceAnd]
 unfold qxs
 rw [qaq]
 have f2 : Fm No H ((qak H1 (qaa 0 [.int .i64 (.ofNat 0), .nilsl])).put H1.nx (qaa 0 [.int .i64 (.ofNat n), .sl (H.nx + 1 + 1) 0 (n * n) (n * n) true])) := by
  have := fH.trans f1
  (repeat (first | exact Fm.refl _ _ | assumption | refine Fm.push ?_ _ | refine Fm.up2 ?_ (by (first | omega | (simp only [np, nq]; omega))) | refine Fm.put_new ?_ _ _ (by (first | omega | (simp only [np, nq]; omega)))))
 refine qow hC (by omega) hT (mb := H.nx + 1 + 1) (H1 := (qak H1 (qaa 0 [.int .i64 (.ofNat 0), .nilsl])).put H1.nx (qaa 0 [.int .i64 (.ofNat n), .sl (H.nx + 1 + 1) 0 (n * n) (n * n) true])) hlen (hv.no f2) (fun b hb => by have := hv.lt hb; omega) (by (first | omega | (simp only [np, nq]; omega))) (by omega) ⟨_, rfl, rfl, qac _ _ _⟩ (fun H3 hM3 f3 => ?_) qal 0 _ (Nat.zero_le _) (by rw [qah]; omega) ⟨rfl, by (first | omega | (simp only [np, nq]; omega)), ?_, hM.ok⟩ (Fm.refl _ _)
 ·unfold qil
  have k3 : H3.get H1.nx = qaa 0 [.int .i64 (.ofNat n), .sl (H.nx + 1 + 1) 0 (n * n) (n * n) true] := (f3.get _ (by (first | omega | (simp only [np, nq]; omega))) (by omega)).trans (qac _ _ _)
  have k4 : H3.get H.nx = qaa 0 [.int .i64 (.ofNat 0), .nilsl] := (f3.get _ (by (first | omega | (simp only [np, nq]; omega))) (by omega)).trans (by
   have := (f1.keep (show H.nx < (qak H (qaa 0 [.int .i64 (.ofNat 0), .nilsl])).nx by (first | omega | (simp only [np, nq]; omega)))).trans (qaj _ _)
   simp (disch := first | omega | exact ti rfl | (simp only [np, nq]; first | done | omega)) only [go_sem, reduceAdd, reduceMul, reduceSub, reduceLeDiff, reduceEqDiff, reduceShiftRight, reduceAnd, this])
  simp (disch := first | omega | exact ti rfl | (simp only [np, nq]; first | done | omega)) only [go_sem, reduceAdd, reduceMul, reduceSub, reduceLeDiff, reduceEqDiff, reduceShiftRight, reduceAnd, k3, k4]
  have f4 : Fm No H H3 := f2.then f3 fun c hc h => by omega
  have n3 := f4.nx
  refine Ok.ret ⟨H.nx + 1 + 1, ⟨rfl, hM3.lt, ?_, hM3.ok⟩, by omega, by (repeat (first | exact Fm.refl _ _ | assumption | refine Fm.push ?_ _ | refine Fm.up2 ?_ (by (first | omega | (simp only [np, nq]; omega))) | refine Fm.put_new ?_ _ _ (by (first | omega | (simp only [np, nq]; omega)))))⟩
  rw [qam _ _ _ _ (by omega)]; exact hM3.get
 ·have := hM.get
  have : H1.get (H.nx + 1 + 1) = qaa 0 (nats (List.replicate (n * n) 0)) := this
  simp (disch := first | omega | exact ti rfl | (simp only [np, nq]; first | done | omega)) only [go_sem, reduceAdd, reduceMul, reduceSub, reduceLeDiff, reduceEqDiff, reduceShiftRight, reduceAnd, this]
  rfl
theorem q98 (hC : qa7 C) {k : Nat} (hk : 2 ≤ k) {n : Nat} (hn : n ≤ 256) {ts : List T3} (hT : ∀ e ∈ ts, e.f < n ∧ e.t < n) (hlen : ts.length < 1000000) {v : AV} {H : Hp} (hv : Gl 3 H v ts.length (qcb ts)) :
  Ok (C k (.f qnu) [.int .i64 (.ofNat n), v] H) fun r H' => ∃ b ms, IsM H' r b n ms ∧ H.nx ≤ b ∧ Fm No H H' :=
 (q36 hC hk hn hT hlen hv).mono fun _ _ ⟨b, h⟩ => ⟨b, _, h⟩
end Go.Di
end
section
/-
 Contracts: the edges of a matrix.
-/
namespace Go.Di
open Go.Ev
variable {C : Nat → Ev.Call}
def ent (n : Nat) (ms : List Nat) (i k : Nat) : List T3 := (if ms.getD (i * n + k) 0 % 2 = 1 then [⟨i, k, 0⟩] else []) ++ (if 1 < ms.getD (i * n + k) 0 then [⟨i, k, 1⟩] else [])
def eR (n : Nat) (ms : List Nat) (i : Nat) : Nat → List T3
 | 0 => []
 | k + 1 => eR n ms i k ++ ent n ms i k
def eM (n : Nat) (ms : List Nat) : Nat → List T3
 | 0 => []
 | i + 1 => eM n ms i ++ eR n ms i n
theorem zfh (n : Nat) (ms : List Nat) (i k : Nat) : (ent n ms i k).length ≤ 2 := by
 unfold ent; split <;> split <;> simp
theorem q8x (n : Nat) (ms : List Nat) (i : Nat) : ∀ k, (eR n ms i k).length ≤ 2 * k
 | 0 => Nat.le_refl _
 | k + 1 => by
  have h1 := q8x n ms i k
  have h2 := zfh n ms i k
  simp only [eR, List.length_append]; omega
theorem qvz (n : Nat) (ms : List Nat) : ∀ i, (eM n ms i).length ≤ 2 * (i * n)
 | 0 => by simp [eM]
 | i + 1 => by
  have h1 := qvz n ms i
  have h2 := q8x n ms i n
  simp only [eM, List.length_append, Nat.add_mul, Nat.one_mul]; omega
theorem qt4 {call : Ev.Call} {n i g : Nat} {ms : List Nat} {mv : AV} {mb : Nat} {H1 : Hp} {Q : AV → Hp → Prop} {q5 : AV → Hp → R1} (pre : List T3)
  (hM : IsM H1 mv mb n ms) (hg : g < H1.nx) (hgv : H1.get g = qaa 0 [.int .i64 (.ofNat n), .sl mb 0 (n * n) (n * n) true]) (hin : i < n) (hpre : pre.length ≤ 2 * (i * n))
  (hq : ∀ w H, Gl 3 H w (pre ++ eR n ms i n).length (qcb (pre ++ eR n ms i n)) → Fm No H1 H → (∀ b, In w b → H1.nx ≤ b) → Ok (q5 w H) Q) :
  ∀ (k c : Nat) (w : AV) (H : Hp), c ≤ n → n - c < k → Gl 3 H w (pre ++ eR n ms i c).length (qcb (pre ++ eR n ms i c)) → Fm No H1 H → (∀ b, In w b → H1.nx ≤ b) →
   Ok (qgq call q5 (.ptr g 0) (.int .i64 (.ofNat i)) k w (.int .i64 (.ofNat c)) H) Q
 | 0, c, _, _, _, h, _, _, _ => by omega
 | k + 1, c, w, H, hc, hk, hw, hfm, hwn => by
  show Ok (qxt call _ _ _ (qgq call _ _ _ k) _ _ H) Q
  unfold qxt
  have k1 : H.get g = qaa 0 [.int .i64 (.ofNat n), .sl mb 0 (n * n) (n * n) true] := (hfm.keep hg).trans hgv
  have hsq := qmg hM.ok.hn
  have n1 := hfm.nx
  by_cases hlt : c < n
  ·simp (disch := first | omega | exact ti rfl | (simp only [np, nq]; first | done | omega)) only [go_sem, reduceAdd, reduceMul, reduceSub, reduceLeDiff, reduceEqDiff, reduceShiftRight, reduceAnd, k1, hlt]
   unfold qrx
   have hi := qcl hin hlt
   have hl := hM.ok.len
   have hget : (nats ms)[i * n + c]? = some (.int .i64 (.ofNat (ms.getD (i * n + c) 0))) := by
    rw [qf5 _ _ (by omega)]; simp [List.getD_eq_getElem?_getD, show i * n + c < ms.length by omega]
   have kM : H.get mb = qaa 0 (nats ms) := (hfm.keep hM.lt).trans hM.get
   have hpl := q8x n ms i c
   have hlen : (pre ++ eR n ms i c).length ≤ 200000 := by rw [List.length_append]; omega
   have hnx : eR n ms i (c + 1) = eR n ms i c ++ ent n ms i c := rfl
   -- the second half
   have half : ∀ (w : AV) (H : Hp) (l : List T3), pre ++ eR n ms i (c + 1) = l ++ (if 1 < ms.getD (i * n + c) 0 then [⟨i, c, 1⟩] else []) → l.length ≤ 300000 → Gl 3 H w l.length (qcb l) → Fm No H1 H → (∀ b, In w b → H1.nx ≤ b) →
     Ok (qjc call (qgq call q5 (.ptr g 0) (.int .i64 (.ofNat i)) k) (.ptr g 0) w (.int .i64 (.ofNat i)) (.int .i64 (.ofNat c)) H) Q := by
    intro w H l hl2 hll hw hfm hwn
    unfold qjc
    have k1 : H.get g = qaa 0 [.int .i64 (.ofNat n), .sl mb 0 (n * n) (n * n) true] := (hfm.keep hg).trans hgv
    have kM : H.get mb = qaa 0 (nats ms) := (hfm.keep hM.lt).trans hM.get
    have n1 := hfm.nx
    by_cases h1 : 1 < ms.getD (i * n + c) 0
    ·simp (disch := first | omega | exact ti rfl | (simp only [np, nq]; first | done | omega)) only [go_sem, reduceAdd, reduceMul, reduceSub, reduceLeDiff, reduceEqDiff, reduceShiftRight, reduceAnd, k1, kM, hget, h1]
     rw [if_pos h1] at hl2
     have fH : Fm No H (qak H (qaa 0 [.int .i64 (.ofNat i), .int .i64 (.ofNat c), .int .i64 (.ofNat 1)])) := by (repeat (first | exact Fm.refl _ _ | assumption | refine Fm.push ?_ _ | refine Fm.up2 ?_ (by (first | omega | (simp only [np, nq]; omega))) | refine Fm.put_new ?_ _ _ (by (first | omega | (simp only [np, nq]; omega)))))
     obtain ⟨H', e, gl', _, fm', nx'⟩ := (hw.no fH).append (k := 1) (w := 24) (x := (⟨i, c, 1⟩ : T3).cells) (by omega) rfl (by omega) (by omega)
     refine Ok.veE e ?_
     unfold qmt
     simp (disch := first | omega | exact ti rfl | (simp only [np, nq]; first | done | omega)) only [go_sem, reduceAdd, reduceMul, reduceSub, reduceLeDiff, reduceEqDiff, reduceShiftRight, reduceAnd]
     rw [qjx, ← hl2] at gl'
     refine qt4 pre hM hg hgv hin hpre hq k (c + 1) _ H' (by omega) (by omega) (by rw [hl2] at gl' ⊢; rw [List.length_append]; exact gl') ((hfm.trans fH).then fm' fun c hc h => by have := hwn c h; omega) (fun b hb => ?_)
     obtain ⟨_, _, _, _, h⟩ := hb
     cases h; (first | omega | (simp only [np, nq]; omega))
    ·simp (disch := first | omega | exact ti rfl | (simp only [np, nq]; first | done | omega)) only [go_sem, reduceAdd, reduceMul, reduceSub, reduceLeDiff, reduceEqDiff, reduceShiftRight, reduceAnd, k1, kM, hget, h1]
     rw [if_neg h1, List.append_nil] at hl2
     unfold qmt
     simp (disch := first | omega | exact ti rfl | (simp only [np, nq]; first | done | omega)) only [go_sem, reduceAdd, reduceMul, reduceSub, reduceLeDiff, reduceEqDiff, reduceShiftRight, reduceAnd]
     exact qt4 pre hM hg hgv hin hpre hq k (c + 1) w H (by omega) (by omega) (by rw [hl2]; exact hw) hfm hwn
   by_cases h2 : ms.getD (i * n + c) 0 % 2 = 1
   ·simp (disch := first | omega | exact ti rfl | (simp only [np, nq]; first | done | omega)) only [go_sem, reduceAdd, reduceMul, reduceSub, reduceLeDiff, reduceEqDiff, reduceShiftRight, reduceAnd, k1, kM, hget, h2]
    have fH : Fm No H (qak H (qaa 0 [.int .i64 (.ofNat i), .int .i64 (.ofNat c), .int .i64 (.ofNat 0)])) := by (repeat (first | exact Fm.refl _ _ | assumption | refine Fm.push ?_ _ | refine Fm.up2 ?_ (by (first | omega | (simp only [np, nq]; omega))) | refine Fm.put_new ?_ _ _ (by (first | omega | (simp only [np, nq]; omega)))))
    obtain ⟨H', e, gl', _, fm', nx'⟩ := (hw.no fH).append (k := 1) (w := 24) (x := (⟨i, c, 0⟩ : T3).cells) (by omega) rfl (by omega) (by omega)
    refine Ok.veE e ?_
    rw [qjx] at gl'
    refine half _ H' (pre ++ eR n ms i c ++ [⟨i, c, 0⟩]) ?_ (by have : (pre ++ eR n ms i c ++ [(⟨i, c, 0⟩ : T3)]).length = (pre ++ eR n ms i c).length + 1 := List.length_append; omega) (by rw [show (pre ++ eR n ms i c ++ [(⟨i, c, 0⟩ : T3)]).length = (pre ++ eR n ms i c).length + 1 from List.length_append]; exact gl') ((hfm.trans fH).then fm' fun c hc h => by have := hwn c h; omega) (fun b hb => ?_)
    ·rw [hnx]; unfold ent; rw [if_pos h2]; simp only [List.append_assoc]
    ·obtain ⟨_, _, _, _, h⟩ := hb
     cases h; (first | omega | (simp only [np, nq]; omega))
   ·simp (disch := first | omega | exact ti rfl | (simp only [np, nq]; first | done | omega)) only [go_sem, reduceAdd, reduceMul, reduceSub, reduceLeDiff, reduceEqDiff, reduceShiftRight, reduceAnd, k1, kM, hget, h2]
    refine half w H (pre ++ eR n ms i c) ?_ (by omega) hw hfm hwn
    rw [hnx]; unfold ent; rw [if_neg h2]; simp only [List.append_assoc, List.nil_append]
  ·have : c = n := by omega
   simp (disch := first | omega | exact ti rfl | (simp only [np, nq]; first | done | omega)) only [go_sem, reduceAdd, reduceMul, reduceSub, reduceLeDiff, reduceEqDiff, reduceShiftRight, reduceAnd, k1, hlt]
   rw [this] at hw
   exact hq w H hw hfm hwn
theorem qwj {call : Ev.Call} {n g : Nat} {ms : List Nat} {mv : AV} {mb : Nat} {H1 : Hp} {Q : AV → Hp → Prop} {q2 : AV → Hp → R1}
  (hM : IsM H1 mv mb n ms) (hg : g < H1.nx) (hgv : H1.get g = qaa 0 [.int .i64 (.ofNat n), .sl mb 0 (n * n) (n * n) true])
  (hq : ∀ w H, Gl 3 H w (eM n ms n).length (qcb (eM n ms n)) → Fm No H1 H → (∀ b, In w b → H1.nx ≤ b) → Ok (q2 w H) Q) :
  ∀ (k i : Nat) (w : AV) (H : Hp), i ≤ n → n - i < k → Gl 3 H w (eM n ms i).length (qcb (eM n ms i)) → Fm No H1 H → (∀ b, In w b → H1.nx ≤ b) →
   Ok (qd4 call q2 (.ptr g 0) k w (.int .i64 (.ofNat i)) H) Q
 | 0, i, _, _, _, h, _, _, _ => by omega
 | k + 1, i, w, H, hi, hk, hw, hfm, hwn => by
  show Ok (qxu call _ _ (qd4 call _ _ k) _ _ H) Q
  unfold qxu
  have k1 : H.get g = qaa 0 [.int .i64 (.ofNat n), .sl mb 0 (n * n) (n * n) true] := (hfm.keep hg).trans hgv
  by_cases hlt : i < n
  ·simp (disch := first | omega | exact ti rfl | (simp only [np, nq]; first | done | omega)) only [go_sem, reduceAdd, reduceMul, reduceSub, reduceLeDiff, reduceEqDiff, reduceShiftRight, reduceAnd, k1, hlt]
   unfold qrw qxv
   rw [qaq]
   have hn := hM.ok.hn
   refine qt4 (eM n ms i) hM hg hgv hlt (qvz n ms i) (fun w' H' gw f' hw' => ?_) qal 0 w H (Nat.zero_le _) (by rw [qah]; omega) (by rw [show eM n ms i ++ eR n ms i 0 = eM n ms i from List.append_nil _]; exact hw) hfm hwn
   unfold qgr
   simp (disch := first | omega | exact ti rfl | (simp only [np, nq]; first | done | omega)) only [go_sem, reduceAdd, reduceMul, reduceSub, reduceLeDiff, reduceEqDiff, reduceShiftRight, reduceAnd]
   exact qwj hM hg hgv hq k (i + 1) w' H' (by omega) (by omega) gw f' hw'
  ·have : i = n := by omega
   simp (disch := first | omega | exact ti rfl | (simp only [np, nq]; first | done | omega)) only [go_sem, reduceAdd, reduceMul, reduceSub, reduceLeDiff, reduceEqDiff, reduceShiftRight, reduceAnd, k1, hlt]
   rw [this] at hw
   exact hq w H hw hfm hwn
theorem q1l (hC : qa7 C) {k : Nat} (hk : 1 ≤ k) {n mb : Nat} {ms : List Nat} {mv : AV} {H : Hp} (hM : IsM H mv mb n ms) :
  Ok (C k (.f qnv) [mv] H) fun w H' => Gl 3 H' w (eM n ms n).length (qcb (eM n ms n)) ∧ Fm No H H' ∧ (∀ b, In w b → H.nx ≤ b) := by
 obtain ⟨j, rfl⟩ : ∃ j, k = j + 1 := ⟨k - 1, by omega⟩
 have hr := hM.hv
 subst hr
 rw [(hC j).rEdg]
 unfold rEdg q6g qxw
 have fH : Fm No H (qak H (qaa 0 [.int .i64 (.ofNat n), .sl mb 0 (n * n) (n * n) true])) := by (repeat (first | exact Fm.refl _ _ | assumption | refine Fm.push ?_ _ | refine Fm.up2 ?_ (by (first | omega | (simp only [np, nq]; omega))) | refine Fm.put_new ?_ _ _ (by (first | omega | (simp only [np, nq]; omega)))))
 simp (disch := first | omega | exact ti rfl | (simp only [np, nq]; first | done | omega)) only [go_sem, reduceAdd, reduceMul, reduceSub, reduceLeDiff, reduceEqDiff, reduceShiftRight, reduceAnd]
 rw [qaq]
 have hn := hM.ok.hn
 refine qwj (H1 := qak H (qaa 0 [.int .i64 (.ofNat n), .sl mb 0 (n * n) (n * n) true])) (hM.fm fH) (by (first | omega | (simp only [np, nq]; omega))) (qaj _ _) (fun w H' gw f' hw => ?_) qal 0 _ _ (Nat.zero_le _) (by rw [qah]; omega) (Gl.nil _ _) (Fm.refl _ _) (fun b hb => by obtain ⟨_, _, _, _, h⟩ := hb; cases h)
 unfold qdl
 exact Ok.ret ⟨gw, fH.trans f', fun b hb => Nat.le_trans (Nat.le_succ _) (hw b hb)⟩
end Go.Di
end
section
/-
 Contracts: the graph of a matrix.
-/
namespace Go.Di
open Go.Ev
variable {C : Nat → Ev.Call}
def toE (e : T3) : Edge := ⟨e.f, e.t, decide (e.s = 1)⟩
def qan (n : Nat) (ms : List Nat) : List Edge := (eM n ms n).map toE
theorem q3i (es : List Edge) (e : Edge) : qib es ++ e.cells = qib (es ++ [e]) := by simp [qib]
theorem qqm {call : Ev.Call} {n g : Nat} {ts : List T3} {v : AV} {H1 : Hp} (hlen : ts.length ≤ 200000) {Q : AV → Hp → Prop} {q12 : Hp → R1}
  (hv : Gl 3 H1 v ts.length (qcb ts)) (hvg : ∀ b, In v b → b ≠ g) (hg : g < H1.nx)
  (hq : ∀ w H, GlE H w (ts.map toE) → H.get g = qaa 0 [.int .i64 (.ofNat n), w] → Fm (· = g) H1 H → (∀ b, In w b → H1.nx ≤ b) → Ok (q12 H) Q) :
  ∀ (k i : Nat) (w : AV) (H : Hp), i ≤ ts.length → ts.length - i < k → Gl 3 H w i (qib ((ts.take i).map toE)) → H.get g = qaa 0 [.int .i64 (.ofNat n), w] → Fm (· = g) H1 H → (∀ b, In w b → H1.nx ≤ b) →
   Ok (qke call q12 (.ptr g 0) v k (.int .i64 (.ofNat i)) H) Q
 | 0, i, _, _, _, h, _, _, _, _ => by omega
 | k + 1, i, w, H, hi, hk, hw, hgw, hfm, hwn => by
  show Ok (qx6 call _ _ _ (qke call _ _ _ k) _ H) Q
  unfold qx6
  by_cases hlt : i < ts.length
  ·simp (disch := first | omega | exact ti rfl | (simp only [np, nq]; first | done | omega)) only [go_sem, reduceAdd, reduceMul, reduceSub, reduceLeDiff, reduceEqDiff, reduceShiftRight, reduceAnd, hlt, hv.lenV]
   unfold qx4
   obtain ⟨b, o, e1, e2, e3, e4, e5, e6⟩ := zf7 (hv.fm hfm hvg) hlt
   have hwf := qb9 hw.flat 63
   have n1 := hfm.nx
   simp (disch := first | omega | exact ti rfl | (simp only [np, nq]; first | done | omega)) only [go_sem, reduceAdd, reduceMul, reduceSub, reduceLeDiff, reduceEqDiff, reduceShiftRight, reduceAnd, hgw, e1, e4, e5, e6]
   have fH : Fm No H (Hp.put ⟨H.t, H.nx + 23⟩ (H.nx + 19) (qaa 0 [.int .i64 (.ofNat ts[i].f), .int .i64 (.ofNat ts[i].t), .bool (decide (ts[i].s = 1))])) := by (repeat (first | exact Fm.refl _ _ | assumption | refine Fm.push ?_ _ | refine Fm.up2 ?_ (by (first | omega | (simp only [np, nq]; omega))) | refine Fm.put_new ?_ _ _ (by (first | omega | (simp only [np, nq]; omega)))))
   obtain ⟨H', e, gl', _, fm', nx'⟩ := (hw.no fH).append (k := 1) (w := 24) (x := (toE ts[i]).cells) (by omega) rfl (by omega) (by omega)
   refine Ok.deE e ?_
   have hwg : ¬ In w g := fun h => by have := hwn g h; omega
   have k1 : H'.get g = qaa 0 [.int .i64 (.ofNat n), w] := (fm'.get g (by (first | omega | (simp only [np, nq]; omega))) hwg).trans ((fH.keep (by omega)).trans hgw)
   simp (disch := first | omega | exact ti rfl | (simp only [np, nq]; first | done | omega)) only [go_sem, reduceAdd, reduceMul, reduceSub, reduceLeDiff, reduceEqDiff, reduceShiftRight, reduceAnd, k1]
   unfold qx5
   simp (disch := first | omega | exact ti rfl | (simp only [np, nq]; first | done | omega)) only [go_sem, reduceAdd, reduceMul, reduceSub, reduceLeDiff, reduceEqDiff, reduceShiftRight, reduceAnd]
   rw [q3i] at gl'
   have ht : (ts.take (i + 1)).map toE = (ts.take i).map toE ++ [toE ts[i]] := by
    rw [List.take_succ_eq_append_getElem hlt, List.map_append]; rfl
   rw [← ht] at gl'
   have f2 : Fm (· = g) H1 H' := (hfm.then fH fun _ _ h => h.elim).then fm' fun c hc h => by have := hwn c h; omega
   have nx2 : H'.nx = H.nx + 23 + 1 := nx'
   refine qqm hlen hv hvg hg hq k (i + 1) _ _ (by omega) (by omega) (gl'.fm (S := (· = g)) (H' := H'.put g _) (by (repeat (first | exact Fm.refl _ _ | assumption | refine Fm.push ?_ _ | refine Fm.up2 ?_ (by (first | omega | (simp only [np, nq]; omega))) | refine Fm.put_new ?_ _ _ (by (first | omega | (simp only [np, nq]; omega))) | refine Fm.put ?_ _ _ (fun _ => rfl)))) fun b hb => ?_) (qac _ _ _) (by (repeat (first | exact Fm.refl _ _ | assumption | refine Fm.push ?_ _ | refine Fm.up2 ?_ (by (first | omega | (simp only [np, nq]; omega))) | refine Fm.put_new ?_ _ _ (by (first | omega | (simp only [np, nq]; omega))) | refine Fm.put ?_ _ _ (fun _ => rfl)))) fun b hb => ?_
   ·obtain ⟨_, _, _, _, h⟩ := hb
    cases h
    show ¬ H.nx + 23 = g
    omega
   ·obtain ⟨_, _, _, _, h⟩ := hb
    cases h
    show H1.nx ≤ H.nx + 23
    omega
  ·have : i = ts.length := by omega
   simp (disch := first | omega | exact ti rfl | (simp only [np, nq]; first | done | omega)) only [go_sem, reduceAdd, reduceMul, reduceSub, reduceLeDiff, reduceEqDiff, reduceShiftRight, reduceAnd, hlt, hv.lenV]
   rw [this, List.take_length] at hw
   refine hq w H ?_ hgw hfm hwn
   show Gl 3 H w (ts.map toE).length _
   rw [List.length_map]; exact hw
theorem zcs (hC : qa7 C) {k : Nat} (hk : 2 ≤ k) {n mb : Nat} {ms : List Nat} {mv : AV} {H : Hp} (hM : IsM H mv mb n ms) :
  Ok (C k (.f q0s) [mv] H) fun r H' => ∃ w, r = .agg [.int .i64 (.ofNat n), w] ∧ GlE H' w (qan n ms) ∧ Fm No H H' ∧ (∀ b, In w b → H.nx ≤ b) := by
 obtain ⟨j, rfl⟩ : ∃ j, k = j + 1 := ⟨k - 1, by omega⟩
 have hr := hM.hv
 subst hr
 rw [(hC j).lGr]
 unfold lGr ze5
 simp (disch := first | omega | exact ti rfl | (simp only [np, nq]; first | done | omega)) only [go_sem, reduceAdd, reduceMul, reduceSub, reduceLeDiff, reduceEqDiff, reduceShiftRight, reduceAnd]
 have fH : Fm No H ((qak (qak (qak H (qaa 0 [.int .i64 (.ofNat n), .sl mb 0 (n * n) (n * n) true])) (qaa 0 [.int .i64 (.ofNat 0), .nilsl])) (qaa 0 [.int .i64 (.ofNat 0), .nilsl])).put (H.nx + 1 + 1) (qaa 0 [.int .i64 (.ofNat n), .nilsl])) := by (repeat (first | exact Fm.refl _ _ | assumption | refine Fm.push ?_ _ | refine Fm.up2 ?_ (by (first | omega | (simp only [np, nq]; omega))) | refine Fm.put_new ?_ _ _ (by (first | omega | (simp only [np, nq]; omega)))))
 refine Ok.ve (q1l hC (by omega) (hM.fm fH)) ?_
 rintro w H1 ⟨gw, f1, hw⟩
 have n1 := f1.nx
 have n1' : H.nx + 1 + 1 + 1 ≤ H1.nx := n1
 have k1 : H1.get (H.nx + 1 + 1) = qaa 0 [.int .i64 (.ofNat n), .nilsl] := (f1.keep (by (first | omega | (simp only [np, nq]; omega)))).trans (by simp (disch := first | omega | exact ti rfl | (simp only [np, nq]; first | done | omega)) only [go_sem, reduceAdd, reduceMul, reduceSub, reduceLeDiff, reduceEqDiff, reduceShiftRight, reduceAnd])
 have k2 : H1.get (H.nx + 1) = qaa 0 [.int .i64 (.ofNat 0), .nilsl] := (f1.keep (by (first | omega | (simp only [np, nq]; omega)))).trans (by simp (disch := first | omega | exact ti rfl | (simp only [np, nq]; first | done | omega)) only [go_sem, reduceAdd, reduceMul, reduceSub, reduceLeDiff, reduceEqDiff, reduceShiftRight, reduceAnd])
 have f2 := fH.trans f1
 have n2 := f2.nx
 unfold qx7
 rw [qaq]
 have hl := qvz n ms n
 have hsq := qmg hM.ok.hn
 refine qqm (H1 := H1) (by omega) gw (fun b hb => ?_) (by omega) (fun w' H2 hE hg2 f3 hw' => ?_) qal 0 .nilsl H1 (Nat.zero_le _) (by rw [qah]; omega) (Gl.nil _ _) k1 (Fm.refl _ _) (fun b hb => by obtain ⟨_, _, _, _, h⟩ := hb; cases h)
 ·have := hw b hb
  have : H.nx + 1 + 1 + 1 ≤ b := this
  omega
 ·unfold qir
  have k3 : H2.get (H.nx + 1) = qaa 0 [.int .i64 (.ofNat 0), .nilsl] := (f3.get _ (by omega) (by omega)).trans k2
  have n3 := f3.nx
  simp (disch := first | omega | exact ti rfl | (simp only [np, nq]; first | done | omega)) only [go_sem, reduceAdd, reduceMul, reduceSub, reduceLeDiff, reduceEqDiff, reduceShiftRight, reduceAnd, hg2, k3]
  have f4 : Fm No H H2 := f2.then f3 fun c hc h => by omega
  refine Ok.ret ⟨w', rfl, ?_, by (repeat (first | exact Fm.refl _ _ | assumption | refine Fm.push ?_ _ | refine Fm.up2 ?_ (by (first | omega | (simp only [np, nq]; omega))) | refine Fm.put_new ?_ _ _ (by (first | omega | (simp only [np, nq]; omega))))), fun b hb => by have := hw' b hb; omega⟩
  refine Gl.fm hE (S := (· = H.nx + 1)) ((Fm.refl _ _).put _ _ fun _ => rfl) fun b hb => ?_
  have := hw' b hb
  omega
end Go.Di
end
section
/-
 Contracts: the matrix of plain data.
-/
namespace Go.Di
open Go.Ev
variable {C : Nat → Ev.Call}
structure Arg3 (H : Hp) (v : AV) (cnt : Nat) : Prop where
 flat : qvn v = true
 len : lenSl v = .val (.int .i64 (.ofNat cnt))
 at' : ∀ i, i < cnt → ∃ b o, idxS 3 v (.int .i64 (.ofNat i)) = .val (.ptr b o) ∧ b < H.nx ∧ ∀ j, j < 3 → ∃ x, x < 256 ∧ qa6 (H.get b) (o + j) = .val (.int .u8 (.ofNat x))
theorem Arg3.fm {H H' : Hp} {v : AV} {cnt : Nat} (h : Arg3 H v cnt) (a : Fm No H H') : Arg3 H' v cnt := ⟨h.flat, h.len, fun i hi => by
 obtain ⟨b, o, e1, e2, e3⟩ := h.at' i hi
 exact ⟨b, o, e1, Nat.lt_of_lt_of_le e2 a.nx, fun j hj => by obtain ⟨x, h1, h2⟩ := e3 j hj; exact ⟨x, h1, by rw [a.keep e2]; exact h2⟩⟩⟩
theorem q1d (x : Nat) (h : x < 256) : qv1 .i64 (.int .u8 (.ofNat x)) = .val (.int .i64 (.ofNat x)) := by
 show R0.val (.int .i64 (qgj .i64 (.ofNat x))) = _
 rw [qfp _ (by omega)]
theorem q99 {call : Ev.Call} {n g cnt : Nat} {b0 : AV} {v : AV} {H1 : Hp} {Q : AV → Hp → Prop} {q9 : AV → Hp → R1}
  (hv : Arg3 H1 v cnt) (hn : n ≤ 256) (hg : g < H1.nx) (hgv : H1.get g = qaa 0 [b0, v])
  (hq : ∀ w ts H, ts.length ≤ 40 → (∀ e ∈ ts, e.f < n ∧ e.t < n) → Gl 3 H w ts.length (qcb ts) → Fm No H1 H → (∀ b, In w b → H1.nx ≤ b) → Ok (q9 w H) Q) :
  ∀ (k : Nat) (ts : List T3) (w : AV) (H : Hp), ts.length ≤ 40 → 40 - ts.length < k → (∀ e ∈ ts, e.f < n ∧ e.t < n) → Gl 3 H w ts.length (qcb ts) → Fm No H1 H → (∀ b, In w b → H1.nx ≤ b) →
   Ok (qkh call q9 (.ptr g 0) (.int .i64 (.ofNat n)) k w (.int .i64 (.ofNat ts.length)) H) Q
 | 0, ts, _, _, _, h, _, _, _, _ => by omega
 | k + 1, ts, w, H, hi, hk, hT, hw, hfm, hwn => by
  show Ok (qyc call _ _ _ (qkh call _ _ _ k) _ _ H) Q
  unfold qyc
  have k1 : H.get g = qaa 0 [b0, v] := (hfm.keep hg).trans hgv
  have n1 := hfm.nx
  by_cases h0 : 0 < n
  ·by_cases h1 : ts.length < cnt
   ·by_cases h2 : ts.length < 40
    ·simp (disch := first | omega | exact ti rfl | (simp only [np, nq]; first | done | omega)) only [go_sem, reduceAdd, reduceMul, reduceSub, reduceLeDiff, reduceEqDiff, reduceShiftRight, reduceAnd, h0, h1, h2, k1, hv.len]
     unfold qs0
     obtain ⟨b, o, e1, e2, e3⟩ := (hv.fm hfm).at' _ h1
     obtain ⟨x0, l0, r0⟩ := e3 0 (by omega)
     obtain ⟨x1, l1, r1⟩ := e3 1 (by omega)
     obtain ⟨x2, l2, r2⟩ := e3 2 (by omega)
     rw [Nat.add_zero] at r0
     have hvf := qb9 hv.flat 63
     simp (disch := first | omega | exact ti rfl | (simp only [np, nq]; first | done | omega)) only [go_sem, reduceAdd, reduceMul, reduceSub, reduceLeDiff, reduceEqDiff, reduceShiftRight, reduceAnd, k1, e1, r0, r1, r2, hvf, q1d, show x2 % 2 < 256 by omega]
     have fH : Fm No H (Hp.put ⟨H.t, H.nx + 31⟩ (H.nx + 28) (qaa 0 [.int .i64 (.ofNat (x0 % n)), .int .i64 (.ofNat (x1 % n)), .int .i64 (.ofNat (x2 % 2))])) := by (repeat (first | exact Fm.refl _ _ | assumption | refine Fm.push ?_ _ | refine Fm.up2 ?_ (by (first | omega | (simp only [np, nq]; omega))) | refine Fm.put_new ?_ _ _ (by (first | omega | (simp only [np, nq]; omega)))))
     obtain ⟨H', e, gl', _, fm', nx'⟩ := (hw.no fH).append (k := 1) (w := 24) (x := (⟨x0 % n, x1 % n, x2 % 2⟩ : T3).cells) (by omega) rfl (by omega) (by omega)
     refine Ok.deE e ?_
     simp (disch := first | omega | exact ti rfl | (simp only [np, nq]; first | done | omega)) only [go_sem, reduceAdd, reduceMul, reduceSub, reduceLeDiff, reduceEqDiff, reduceShiftRight, reduceAnd]
     unfold qs1
     simp (disch := first | omega | exact ti rfl | (simp only [np, nq]; first | done | omega)) only [go_sem, reduceAdd, reduceMul, reduceSub, reduceLeDiff, reduceEqDiff, reduceShiftRight, reduceAnd]
     rw [qjx] at gl'
     have hl : (ts ++ [(⟨x0 % n, x1 % n, x2 % 2⟩ : T3)]).length = ts.length + 1 := List.length_append
     have nx2 : H'.nx = H.nx + 31 + 1 := nx'
     rw [← hl]
     refine q99 hv hn hg hgv hq k (ts ++ [⟨x0 % n, x1 % n, x2 % 2⟩]) _ H' (by omega) (by omega) (fun y hy => ?_) (by rw [← hl] at gl'; exact gl') ((hfm.trans fH).then fm' fun c hc h => by have := hwn c h; omega) (fun b hb => ?_)
     ·rcases List.mem_append.1 hy with h | h
      ·exact hT y h
      ·rw [List.mem_singleton] at h
       subst h
       exact ⟨Nat.mod_lt _ h0, Nat.mod_lt _ h0⟩
     ·obtain ⟨_, _, _, _, h⟩ := hb
      cases h
      show H1.nx ≤ H.nx + 31
      omega
    ·simp (disch := first | omega | exact ti rfl | (simp only [np, nq]; first | done | omega)) only [go_sem, reduceAdd, reduceMul, reduceSub, reduceLeDiff, reduceEqDiff, reduceShiftRight, reduceAnd, h0, h1, h2, k1, hv.len]
     exact hq w ts H hi hT hw hfm hwn
   ·simp (disch := first | omega | exact ti rfl | (simp only [np, nq]; first | done | omega)) only [go_sem, reduceAdd, reduceMul, reduceSub, reduceLeDiff, reduceEqDiff, reduceShiftRight, reduceAnd, h0, h1, k1, hv.len]
    exact hq w ts H hi hT hw hfm hwn
  ·simp (disch := first | omega | exact ti rfl | (simp only [np, nq]; first | done | omega)) only [go_sem, reduceAdd, reduceMul, reduceSub, reduceLeDiff, reduceEqDiff, reduceShiftRight, reduceAnd, h0]
   exact hq w ts H hi hT hw hfm hwn
theorem qzm (hC : qa7 C) {k : Nat} (hk : 3 ≤ k) {N cnt : Nat} {v : AV} {H : Hp} (hv : Arg3 H v cnt) :
  Ok (C k (.f qst) [.agg [.int .u8 (.ofNat N), v]] H) fun r H' => ∃ b ms, IsM H' r b (N % 13) ms ∧ H.nx ≤ b ∧ Fm No H H' := by
 obtain ⟨j, rfl⟩ : ∃ j, k = j + 1 := ⟨k - 1, by omega⟩
 rw [(hC j).hMat]
 unfold hMat q7y
 have h13 : N % 13 < 13 := Nat.mod_lt _ (by omega)
 simp (disch := first | omega | exact ti rfl | (simp only [np, nq]; first | done | omega)) only [go_sem, reduceAdd, reduceMul, reduceSub, reduceLeDiff, reduceEqDiff, reduceShiftRight, reduceAnd, q1d, show N % 13 < 256 by omega]
 unfold qyd
 rw [qaq]
 have fH : Fm No H (qak (qak H (qaa 0 [.int .u8 (.ofNat N), v])) (qaa 0 [.int .i64 (.ofNat 0), .nilsl])) := by (repeat (first | exact Fm.refl _ _ | assumption | refine Fm.push ?_ _ | refine Fm.up2 ?_ (by (first | omega | (simp only [np, nq]; omega))) | refine Fm.put_new ?_ _ _ (by (first | omega | (simp only [np, nq]; omega)))))
 refine q99 (H1 := qak (qak H (qaa 0 [.int .u8 (.ofNat N), v])) (qaa 0 [.int .i64 (.ofNat 0), .nilsl])) (g := H.nx) (b0 := .int .u8 (.ofNat N)) (hv.fm fH) (by omega) (by (first | omega | (simp only [np, nq]; omega))) (by simp (disch := first | omega | exact ti rfl | (simp only [np, nq]; first | done | omega)) only [go_sem, reduceAdd, reduceMul, reduceSub, reduceLeDiff, reduceEqDiff, reduceShiftRight, reduceAnd]) (fun w ts H1 hl hT gw f1 hw => ?_) qal [] .nilsl _ (by simp) (by rw [qah]; simp) (fun e he => by cases he) (Gl.nil _ _) (Fm.refl _ _) (fun b hb => by obtain ⟨_, _, _, _, h⟩ := hb; cases h)
 unfold qit
 refine Ok.ve (q98 hC (by omega) (show N % 13 ≤ 256 by omega) hT (by omega) gw) ?_
 rintro r H2 ⟨b, ms, hM, hb, f2⟩
 have f3 := fH.trans (f1.trans f2)
 have k1 : H2.get (H.nx + 1) = qaa 0 [.int .i64 (.ofNat 0), .nilsl] := ((f1.trans f2).keep (by (first | omega | (simp only [np, nq]; omega)))).trans (by simp (disch := first | omega | exact ti rfl | (simp only [np, nq]; first | done | omega)) only [go_sem, reduceAdd, reduceMul, reduceSub, reduceLeDiff, reduceEqDiff, reduceShiftRight, reduceAnd])
 have hr := hM.hv
 subst hr
 simp (disch := first | omega | exact ti rfl | (simp only [np, nq]; first | done | omega)) only [go_sem, reduceAdd, reduceMul, reduceSub, reduceLeDiff, reduceEqDiff, reduceShiftRight, reduceAnd, k1]
 have n1 := f1.nx
 have n1' : H.nx + 1 + 1 ≤ H1.nx := n1
 refine Ok.ret ⟨b, ms, ⟨rfl, hM.lt, ?_, hM.ok⟩, by omega, by (repeat (first | exact Fm.refl _ _ | assumption | refine Fm.push ?_ _ | refine Fm.up2 ?_ (by (first | omega | (simp only [np, nq]; omega))) | refine Fm.put_new ?_ _ _ (by (first | omega | (simp only [np, nq]; omega)))))⟩
 rw [qam _ _ _ _ (by omega)]; exact hM.get
end Go.Di
end
section
/-
 Contracts: distances.
-/
namespace Go.Di
open Go.Ev
variable {C : Nat → Ev.Call}
/- the pure function -/
def qcg (n : Nat) (d : List Int) (k i j : Nat) : List Int :=
 if 0 ≤ d.getD (i * n + k) 0 ∧ 0 ≤ d.getD (k * n + j) 0 ∧ (d.getD (i * n + j) 0 < 0 ∨ d.getD (i * n + k) 0 + d.getD (k * n + j) 0 < d.getD (i * n + j) 0)
 then d.set (i * n + j) (d.getD (i * n + k) 0 + d.getD (k * n + j) 0) else d
def fJ (n : Nat) (d : List Int) (k i : Nat) : Nat → List Int
 | 0 => d
 | j + 1 => qcg n (fJ n d k i j) k i j
def fI (n : Nat) (d : List Int) (k : Nat) : Nat → List Int
 | 0 => d
 | i + 1 => fJ n (fI n d k i) k i n
def fK (n : Nat) (d : List Int) : Nat → List Int
 | 0 => d
 | k + 1 => fI n (fK n d k) k n
def dg (n : Nat) (d : List Int) : Nat → List Int
 | 0 => d
 | i + 1 => (dg n d i).set (i * n + i) 0
def d1 (ms : List Nat) : List Int := ms.map fun v => if 0 < v then 1 else -1
def dist (n : Nat) (ms : List Nat) : List Int := fK n (dg n (d1 ms) n) n
theorem q4v (n : Nat) (d : List Int) (k i j : Nat) : (qcg n d k i j).length = d.length := by
 unfold qcg; split <;> simp
theorem qn9 (n : Nat) (d : List Int) (k i : Nat) : ∀ j, (fJ n d k i j).length = d.length
 | 0 => rfl
 | j + 1 => by rw [fJ, q4v, qn9 n d k i j]
theorem qjp (n : Nat) (d : List Int) (k : Nat) : ∀ i, (fI n d k i).length = d.length
 | 0 => rfl
 | i + 1 => by rw [fI, qn9, qjp n d k i]
theorem qn8 (n : Nat) (d : List Int) : ∀ k, (fK n d k).length = d.length
 | 0 => rfl
 | k + 1 => by rw [fK, qjp, qn8 n d k]
theorem qv0 (n : Nat) (d : List Int) : ∀ i, (dg n d i).length = d.length
 | 0 => rfl
 | i + 1 => by rw [dg, List.length_set, qv0 n d i]
def Bnd (d : List Int) : Prop := ∀ x, -1 ≤ d.getD x 0 ∧ d.getD x 0 ≤ 1099511627776
theorem qzi (a b : Int) (h1 : -9223372036854775808 ≤ a + b) (h2 : a + b < 9223372036854775808) : intV (qab .add).f (.int .i64 a) (.int .i64 b) = .val (.int .i64 (a + b)) := by
 rw [zdn, qwe _ h1 h2]
theorem qea (d : List Int) (i : Nat) (h : i < d.length) : (ints d)[i]? = some (.int .i64 (d.getD i 0)) := by
 rw [qf6 _ _ h]; simp [List.getD_eq_getElem?_getD, h]
theorem D_J {call : Ev.Call} {n g db k i : Nat} {s : AV} {H1 : Hp} {Q : AV → Hp → Prop} {q14 : Hp → R1} (hn : n ≤ 256) (hg : g < H1.nx) (hgd : g ≠ db) (hgv : H1.get g = qaa 0 [.int .i64 (.ofNat n), s]) (hdb : db < H1.nx)
  (hk : k < n) (hi : i < n) (d : List Int) (hl : d.length = n * n) (hB : ∀ j, j ≤ n → Bnd (fJ n d k i j))
  (hq : ∀ H, H.get db = qaa 0 (ints (fJ n d k i n)) → Fm (· = db) H1 H → Ok (q14 H) Q) :
  ∀ (f j : Nat) (H : Hp), j ≤ n → n - j < f → H.get db = qaa 0 (ints (fJ n d k i j)) → Fm (· = db) H1 H →
   Ok (qde call q14 (.ptr g 0) (.sl db 0 (n * n) (n * n) true) (.int .i64 (.ofNat k)) (.int .i64 (.ofNat i)) f (.int .i64 (.ofNat j)) H) Q
 | 0, j, _, _, h, _, _ => by omega
 | f + 1, j, H, hj, hf, hd, hfm => by
  show Ok (qm1 call _ _ _ _ _ (qde call _ _ _ _ _ f) _ H) Q
  unfold qm1
  have k1 : H.get g = qaa 0 [.int .i64 (.ofNat n), s] := (hfm.get g hg hgd).trans hgv
  by_cases hlt : j < n
  ·simp (disch := first | omega | exact ti rfl | (simp only [np, nq]; first | done | omega)) only [go_sem, reduceAdd, reduceMul, reduceSub, reduceLeDiff, reduceEqDiff, reduceShiftRight, reduceAnd, k1, hlt]
   unfold qmy
   have hsq := qmg hn
   have i1 := qcl hi hk
   have i2 := qcl hk hlt
   have i3 := qcl hi hlt
   have ln := qn9 n d k i j
   have gA := qea (fJ n d k i j) (i * n + k) (by omega)
   have gB := qea (fJ n d k i j) (k * n + j) (by omega)
   have gC := qea (fJ n d k i j) (i * n + j) (by omega)
   have bA := hB j hj (i * n + k)
   have bB := hB j hj (k * n + j)
   have hst : fJ n d k i (j + 1) = qcg n (fJ n d k i j) k i j := rfl
   unfold qcg at hst
   generalize (fJ n d k i j).getD (i * n + k) 0 = A at *
   generalize (fJ n d k i j).getD (k * n + j) 0 = B at *
   generalize (fJ n d k i j).getD (i * n + j) 0 = Cc at *
   have h1 : i * n + j + 1 ≤ n * n := i3
   have fin : fJ n d k i (j + 1) = (fJ n d k i j).set (i * n + j) (A + B) → Ok (qd7 call (qde call q14 (.ptr g 0) (.sl db 0 (n * n) (n * n) true) (.int .i64 (.ofNat k)) (.int .i64 (.ofNat i)) f) (.int .i64 (.ofNat j)) (H.put db (qaa 0 (ints ((fJ n d k i j).set (i * n + j) (A + B)))))) Q := by
    intro he
    unfold qd7
    simp (disch := first | omega | exact ti rfl | (simp only [np, nq]; first | done | omega)) only [go_sem, reduceAdd, reduceMul, reduceSub, reduceLeDiff, reduceEqDiff, reduceShiftRight, reduceAnd]
    exact D_J hn hg hgd hgv hdb hk hi d hl hB hq f (j + 1) _ (by omega) (by omega) (by rw [he]; exact qac _ _ _) (by (repeat (first | exact Fm.refl _ _ | assumption | refine Fm.push ?_ _ | refine Fm.up2 ?_ (by (first | omega | (simp only [np, nq]; omega))) | refine Fm.put_new ?_ _ _ (by (first | omega | (simp only [np, nq]; omega))) | refine Fm.put ?_ _ _ (fun _ => rfl))))
   have non : fJ n d k i (j + 1) = fJ n d k i j → Ok (qd7 call (qde call q14 (.ptr g 0) (.sl db 0 (n * n) (n * n) true) (.int .i64 (.ofNat k)) (.int .i64 (.ofNat i)) f) (.int .i64 (.ofNat j)) H) Q := by
    intro he
    unfold qd7
    simp (disch := first | omega | exact ti rfl | (simp only [np, nq]; first | done | omega)) only [go_sem, reduceAdd, reduceMul, reduceSub, reduceLeDiff, reduceEqDiff, reduceShiftRight, reduceAnd]
    exact D_J hn hg hgd hgv hdb hk hi d hl hB hq f (j + 1) _ (by omega) (by omega) (by rw [he]; exact hd) hfm
   by_cases hA : Int.ofNat 0 ≤ A
   ·by_cases hBb : Int.ofNat 0 ≤ B
    ·by_cases hCn : Cc < Int.ofNat 0
     ·simp (disch := first | omega | exact ti rfl | (simp only [np, nq]; first | done | omega)) only [go_sem, reduceAdd, reduceMul, reduceSub, reduceLeDiff, reduceEqDiff, reduceShiftRight, reduceAnd, k1, hd, gA, gB, gC, hA, hBb, hCn, qzi, qbp, ln, hl, h1, ints_set]
      exact fin (by rw [hst, if_pos ⟨hA, hBb, .inl hCn⟩])
     ·by_cases hlt2 : A + B < Cc
      ·simp (disch := first | omega | exact ti rfl | (simp only [np, nq]; first | done | omega)) only [go_sem, reduceAdd, reduceMul, reduceSub, reduceLeDiff, reduceEqDiff, reduceShiftRight, reduceAnd, k1, hd, gA, gB, gC, hA, hBb, hCn, hlt2, qzi, qbp, ln, hl, h1, ints_set]
       exact fin (by rw [hst, if_pos ⟨hA, hBb, .inr hlt2⟩])
      ·simp (disch := first | omega | exact ti rfl | (simp only [np, nq]; first | done | omega)) only [go_sem, reduceAdd, reduceMul, reduceSub, reduceLeDiff, reduceEqDiff, reduceShiftRight, reduceAnd, k1, hd, gA, gB, gC, hA, hBb, hCn, hlt2, qzi]
       exact non (by rw [hst, if_neg (fun h => h.2.2.elim hCn hlt2)])
    ·simp (disch := first | omega | exact ti rfl | (simp only [np, nq]; first | done | omega)) only [go_sem, reduceAdd, reduceMul, reduceSub, reduceLeDiff, reduceEqDiff, reduceShiftRight, reduceAnd, k1, hd, gA, gB, gC, hA, hBb]
     exact non (by rw [hst, if_neg (fun h => hBb h.2.1)])
   ·simp (disch := first | omega | exact ti rfl | (simp only [np, nq]; first | done | omega)) only [go_sem, reduceAdd, reduceMul, reduceSub, reduceLeDiff, reduceEqDiff, reduceShiftRight, reduceAnd, k1, hd, gA, gB, gC, hA]
    exact non (by rw [hst, if_neg (fun h => hA h.1)])
  ·have : j = n := by omega
   simp (disch := first | omega | exact ti rfl | (simp only [np, nq]; first | done | omega)) only [go_sem, reduceAdd, reduceMul, reduceSub, reduceLeDiff, reduceEqDiff, reduceShiftRight, reduceAnd, k1, hlt]
   rw [this] at hd
   exact hq H hd hfm
end Go.Di
end
section
/-
 Contracts: distances, whole.
-/
namespace Go.Di
open Go.Ev
variable {C : Nat → Ev.Call}
theorem D_I {call : Ev.Call} {n g db k : Nat} {s : AV} {H1 : Hp} {Q : AV → Hp → Prop} {q11 : Hp → R1} (hn : n ≤ 256) (hg : g < H1.nx) (hgd : g ≠ db) (hgv : H1.get g = qaa 0 [.int .i64 (.ofNat n), s]) (hdb : db < H1.nx)
  (hk : k < n) (d : List Int) (hl : d.length = n * n) (hB : ∀ i j, i < n → j ≤ n → Bnd (fJ n (fI n d k i) k i j))
  (hq : ∀ H, H.get db = qaa 0 (ints (fI n d k n)) → Fm (· = db) H1 H → Ok (q11 H) Q) :
  ∀ (f i : Nat) (H : Hp), i ≤ n → n - i < f → H.get db = qaa 0 (ints (fI n d k i)) → Fm (· = db) H1 H →
   Ok (qb6 call q11 (.ptr g 0) (.sl db 0 (n * n) (n * n) true) (.int .i64 (.ofNat k)) f (.int .i64 (.ofNat i)) H) Q
 | 0, i, _, _, h, _, _ => by omega
 | f + 1, i, H, hi, hf, hd, hfm => by
  show Ok (qm2 call _ _ _ _ (qb6 call _ _ _ _ f) _ H) Q
  unfold qm2
  have k1 : H.get g = qaa 0 [.int .i64 (.ofNat n), s] := (hfm.get g hg hgd).trans hgv
  by_cases hlt : i < n
  ·simp (disch := first | omega | exact ti rfl | (simp only [np, nq]; first | done | omega)) only [go_sem, reduceAdd, reduceMul, reduceSub, reduceLeDiff, reduceEqDiff, reduceShiftRight, reduceAnd, k1, hlt]
   unfold qmx qm5
   rw [qaq]
   refine D_J hn hg hgd hgv hdb hk hlt (fI n d k i) (by rw [qjp]; exact hl) (fun j hj => hB i j hlt hj) (fun H' hd' f' => ?_) qal 0 H (Nat.zero_le _) (by rw [qah]; omega) hd hfm
   unfold qd8
   simp (disch := first | omega | exact ti rfl | (simp only [np, nq]; first | done | omega)) only [go_sem, reduceAdd, reduceMul, reduceSub, reduceLeDiff, reduceEqDiff, reduceShiftRight, reduceAnd]
   exact D_I hn hg hgd hgv hdb hk d hl hB hq f (i + 1) H' (by omega) (by omega) hd' f'
  ·have : i = n := by omega
   simp (disch := first | omega | exact ti rfl | (simp only [np, nq]; first | done | omega)) only [go_sem, reduceAdd, reduceMul, reduceSub, reduceLeDiff, reduceEqDiff, reduceShiftRight, reduceAnd, k1, hlt]
   rw [this] at hd
   exact hq H hd hfm
theorem D_K {call : Ev.Call} {n g db : Nat} {s : AV} {H1 : Hp} {Q : AV → Hp → Prop} {q8 : Hp → R1} (hn : n ≤ 256) (hg : g < H1.nx) (hgd : g ≠ db) (hgv : H1.get g = qaa 0 [.int .i64 (.ofNat n), s]) (hdb : db < H1.nx)
  (d : List Int) (hl : d.length = n * n) (hB : ∀ k i j, k < n → i < n → j ≤ n → Bnd (fJ n (fI n (fK n d k) k i) k i j))
  (hq : ∀ H, H.get db = qaa 0 (ints (fK n d n)) → Fm (· = db) H1 H → Ok (q8 H) Q) :
  ∀ (f k : Nat) (H : Hp), k ≤ n → n - k < f → H.get db = qaa 0 (ints (fK n d k)) → Fm (· = db) H1 H →
   Ok (qbv call q8 (.ptr g 0) (.sl db 0 (n * n) (n * n) true) f (.int .i64 (.ofNat k)) H) Q
 | 0, k, _, _, h, _, _ => by omega
 | f + 1, k, H, hk, hf, hd, hfm => by
  show Ok (qry call _ _ _ (qbv call _ _ _ f) _ H) Q
  unfold qry
  have k1 : H.get g = qaa 0 [.int .i64 (.ofNat n), s] := (hfm.get g hg hgd).trans hgv
  by_cases hlt : k < n
  ·simp (disch := first | omega | exact ti rfl | (simp only [np, nq]; first | done | omega)) only [go_sem, reduceAdd, reduceMul, reduceSub, reduceLeDiff, reduceEqDiff, reduceShiftRight, reduceAnd, k1, hlt]
   unfold qmw qm6
   rw [qaq]
   refine D_I hn hg hgd hgv hdb hlt (fK n d k) (by rw [qn8]; exact hl) (fun i j hi hj => hB k i j hlt hi hj) (fun H' hd' f' => ?_) qal 0 H (Nat.zero_le _) (by rw [qah]; omega) hd hfm
   unfold qb0
   simp (disch := first | omega | exact ti rfl | (simp only [np, nq]; first | done | omega)) only [go_sem, reduceAdd, reduceMul, reduceSub, reduceLeDiff, reduceEqDiff, reduceShiftRight, reduceAnd]
   exact D_K hn hg hgd hgv hdb d hl hB hq f (k + 1) H' (by omega) (by omega) hd' f'
  ·have : k = n := by omega
   simp (disch := first | omega | exact ti rfl | (simp only [np, nq]; first | done | omega)) only [go_sem, reduceAdd, reduceMul, reduceSub, reduceLeDiff, reduceEqDiff, reduceShiftRight, reduceAnd, k1, hlt]
   rw [this] at hd
   exact hq H hd hfm
theorem D_G {call : Ev.Call} {n g db : Nat} {s : AV} {H1 : Hp} {Q : AV → Hp → Prop} {q79 : Hp → R1} (hn : n ≤ 256) (hg : g < H1.nx) (hgd : g ≠ db) (hgv : H1.get g = qaa 0 [.int .i64 (.ofNat n), s]) (hdb : db < H1.nx)
  (d : List Int) (hl : d.length = n * n)
  (hq : ∀ H, H.get db = qaa 0 (ints (dg n d n)) → Fm (· = db) H1 H → Ok (q79 H) Q) :
  ∀ (f i : Nat) (H : Hp), i ≤ n → n - i < f → H.get db = qaa 0 (ints (dg n d i)) → Fm (· = db) H1 H →
   Ok (qfg call q79 (.ptr g 0) (.sl db 0 (n * n) (n * n) true) f (.int .i64 (.ofNat i)) H) Q
 | 0, i, _, _, h, _, _ => by omega
 | f + 1, i, H, hi, hf, hd, hfm => by
  show Ok (qm0 call _ _ _ (qfg call _ _ _ f) _ H) Q
  unfold qm0
  have k1 : H.get g = qaa 0 [.int .i64 (.ofNat n), s] := (hfm.get g hg hgd).trans hgv
  by_cases hlt : i < n
  ·simp (disch := first | omega | exact ti rfl | (simp only [np, nq]; first | done | omega)) only [go_sem, reduceAdd, reduceMul, reduceSub, reduceLeDiff, reduceEqDiff, reduceShiftRight, reduceAnd, k1, hlt]
   unfold qmu
   have hsq := qmg hn
   have i1 := qcl hlt hlt
   have i2 : i * n + i + 1 ≤ n * n := i1
   have ln := qv0 n d i
   simp (disch := first | omega | exact ti rfl | (simp only [np, nq]; first | done | omega)) only [go_sem, reduceAdd, reduceMul, reduceSub, reduceLeDiff, reduceEqDiff, reduceShiftRight, reduceAnd, k1, hd, qbp, ln, hl, i2, ints_set]
   unfold qmv
   simp (disch := first | omega | exact ti rfl | (simp only [np, nq]; first | done | omega)) only [go_sem, reduceAdd, reduceMul, reduceSub, reduceLeDiff, reduceEqDiff, reduceShiftRight, reduceAnd]
   exact D_G hn hg hgd hgv hdb d hl hq f (i + 1) _ (by omega) (by omega) (qac _ _ _) (by (repeat (first | exact Fm.refl _ _ | assumption | refine Fm.push ?_ _ | refine Fm.up2 ?_ (by (first | omega | (simp only [np, nq]; omega))) | refine Fm.put_new ?_ _ _ (by (first | omega | (simp only [np, nq]; omega))) | refine Fm.put ?_ _ _ (fun _ => rfl))))
  ·have : i = n := by omega
   simp (disch := first | omega | exact ti rfl | (simp only [np, nq]; first | done | omega)) only [go_sem, reduceAdd, reduceMul, reduceSub, reduceLeDiff, reduceEqDiff, reduceShiftRight, reduceAnd, k1, hlt]
   rw [this] at hd
   exact hq H hd hfm
theorem D_1 {call : Ev.Call} {n g db mb : Nat} {ms : List Nat} {H1 : Hp} {Q : AV → Hp → Prop} {q93 : Hp → R1} (hn : n ≤ 256) (hg : g < H1.nx) (hgd : g ≠ db) (hgv : H1.get g = qaa 0 [.int .i64 (.ofNat n), .sl mb 0 (n * n) (n * n) true]) (hdb : db < H1.nx)
  (hmb : mb < H1.nx) (hmd : mb ≠ db) (hms : H1.get mb = qaa 0 (nats ms)) (hl : ms.length = n * n)
  (hq : ∀ H, H.get db = qaa 0 (ints (d1 ms)) → Fm (· = db) H1 H → Ok (q93 H) Q) :
  ∀ (f i : Nat) (d : List Int) (H : Hp), i ≤ n * n → n * n - i < f → d.length = n * n → (∀ p, p < i → d[p]? = (d1 ms)[p]?) → H.get db = qaa 0 (ints d) → Fm (· = db) H1 H →
   Ok (qff call q93 (.ptr g 0) (.sl db 0 (n * n) (n * n) true) f (.int .i64 (.ofNat i)) H) Q
 | 0, i, _, _, _, h, _, _, _, _ => by omega
 | f + 1, i, d, H, hi, hf, hdl, hp, hd, hfm => by
  show Ok (qmz call _ _ _ (qff call _ _ _ f) _ H) Q
  unfold qmz
  have k1 : H.get g = qaa 0 [.int .i64 (.ofNat n), .sl mb 0 (n * n) (n * n) true] := (hfm.get g hg hgd).trans hgv
  have k2 : H.get mb = qaa 0 (nats ms) := (hfm.get mb hmb hmd).trans hms
  by_cases hlt : i < n * n
  ·simp (disch := first | omega | exact ti rfl | (simp only [np, nq]; first | done | omega)) only [go_sem, reduceAdd, reduceMul, reduceSub, reduceLeDiff, reduceEqDiff, reduceShiftRight, reduceAnd, hlt]
   unfold qj8
   have hsq := qmg hn
   have i2 : i + 1 ≤ n * n := hlt
   have gm := qf5 ms i (by omega)
   have nxt : ∀ x : Int, (d1 ms)[i]? = some x → ∀ p, p < i + 1 → (d.set i x)[p]? = (d1 ms)[p]? := by
    intro x hx p hpi
    by_cases e : p = i
    ·subst e; rw [List.getElem?_set_self (by omega), hx]
    ·rw [List.getElem?_set_ne (fun h => e h.symm)]; exact hp p (by omega)
   have hd1 : (d1 ms)[i]? = some (if 0 < ms[i]'(by omega) then 1 else -1) := by
    unfold d1; rw [List.getElem?_map, List.getElem?_eq_getElem (by omega)]; rfl
   by_cases h0 : 0 < ms[i]'(by omega)
   ·simp (disch := first | omega | exact ti rfl | (simp only [np, nq]; first | done | omega)) only [go_sem, reduceAdd, reduceMul, reduceSub, reduceLeDiff, reduceEqDiff, reduceShiftRight, reduceAnd, k1, k2, gm, h0, hd, qbp, hdl, i2, ints_set, List.length_set]
    unfold qgs
    simp (disch := first | omega | exact ti rfl | (simp only [np, nq]; first | done | omega)) only [go_sem, reduceAdd, reduceMul, reduceSub, reduceLeDiff, reduceEqDiff, reduceShiftRight, reduceAnd]
    rw [if_pos h0] at hd1
    have hset : setL (ints (d.set i (Int.negSucc 0))) i [.int .i64 (.ofNat 1)] = ints (d.set i 1) := by
     rw [ints_set _ _ _ (by rw [List.length_set]; omega), List.set_set]; rfl
    rw [hset]
    exact D_1 hn hg hgd hgv hdb hmb hmd hms hl hq f (i + 1) (d.set i 1) _ (by omega) (by omega) (by rw [List.length_set]; exact hdl) (nxt 1 hd1) (qac _ _ _) (by (repeat (first | exact Fm.refl _ _ | assumption | refine Fm.push ?_ _ | refine Fm.up2 ?_ (by (first | omega | (simp only [np, nq]; omega))) | refine Fm.put_new ?_ _ _ (by (first | omega | (simp only [np, nq]; omega))) | refine Fm.put ?_ _ _ (fun _ => rfl))))
   ·simp (disch := first | omega | exact ti rfl | (simp only [np, nq]; first | done | omega)) only [go_sem, reduceAdd, reduceMul, reduceSub, reduceLeDiff, reduceEqDiff, reduceShiftRight, reduceAnd, k1, k2, gm, h0, hd, qbp, hdl, i2, ints_set]
    unfold qgs
    simp (disch := first | omega | exact ti rfl | (simp only [np, nq]; first | done | omega)) only [go_sem, reduceAdd, reduceMul, reduceSub, reduceLeDiff, reduceEqDiff, reduceShiftRight, reduceAnd]
    rw [if_neg h0] at hd1
    exact D_1 hn hg hgd hgv hdb hmb hmd hms hl hq f (i + 1) (d.set i (Int.negSucc 0)) _ (by omega) (by omega) (by rw [List.length_set]; exact hdl) (nxt (-1) hd1) (qac _ _ _) (by (repeat (first | exact Fm.refl _ _ | assumption | refine Fm.push ?_ _ | refine Fm.up2 ?_ (by (first | omega | (simp only [np, nq]; omega))) | refine Fm.put_new ?_ _ _ (by (first | omega | (simp only [np, nq]; omega))) | refine Fm.put ?_ _ _ (fun _ => rfl))))
  ·have : i = n * n := by omega
   simp (disch := first | omega | exact ti rfl | (simp only [np, nq]; first | done | omega)) only [go_sem, reduceAdd, reduceMul, reduceSub, reduceLeDiff, reduceEqDiff, reduceShiftRight, reduceAnd, hlt]
   have : d = d1 ms := by
    apply List.ext_getElem?
    intro p
    by_cases h : p < n * n
    ·exact hp p (by omega)
    ·rw [List.getElem?_eq_none (by omega), List.getElem?_eq_none (by unfold d1; rw [List.length_map]; omega)]
   subst this
   exact hq H hd hfm
def DBnd (n : Nat) (ms : List Nat) : Prop := ∀ k i j, k < n → i < n → j ≤ n → Bnd (fJ n (fI n (fK n (dg n (d1 ms) n) k) k i) k i j)
theorem qox (hC : qa7 C) {k : Nat} (hk : 1 ≤ k) {n mb : Nat} {ms : List Nat} {mv : AV} {H : Hp} (hM : IsM H mv mb n ms) (hB : DBnd n ms) :
  Ok (C k (.f qjn) [mv] H) fun r H' => r = .sl (H.nx + 1) 0 (n * n) (n * n) true ∧ H'.get (H.nx + 1) = qaa 0 (ints (dist n ms)) ∧ H.nx + 1 < H'.nx ∧ Fm No H H' := by
 obtain ⟨j, rfl⟩ : ∃ j, k = j + 1 := ⟨k - 1, by omega⟩
 have hr := hM.hv
 subst hr
 rw [(hC j).rDist]
 unfold rDist qxx qm3
 have hn := hM.ok.hn
 have hsq := qmg hn
 have hrep : reps [.int .i64 (.ofNat 0)] (n * n) = ints (List.replicate (n * n) 0) := by rw [qch]; simp [ints]
 simp (disch := first | omega | exact ti rfl | (simp only [np, nq]; first | done | omega)) only [go_sem, reduceAdd, reduceMul, reduceSub, reduceLeDiff, reduceEqDiff, reduceShiftRight, reduceAnd, qdh, hrep]
 rw [qaq]
 have hmb := hM.lt
 have fH : Fm No H (qak (qak H (qaa 0 [.int .i64 (.ofNat n), .sl mb 0 (n * n) (n * n) true])) (qaa 0 (ints (List.replicate (n * n) 0)))) := by (repeat (first | exact Fm.refl _ _ | assumption | refine Fm.push ?_ _ | refine Fm.up2 ?_ (by (first | omega | (simp only [np, nq]; omega))) | refine Fm.put_new ?_ _ _ (by (first | omega | (simp only [np, nq]; omega)))))
 refine D_1 (H1 := qak (qak H (qaa 0 [.int .i64 (.ofNat n), .sl mb 0 (n * n) (n * n) true])) (qaa 0 (ints (List.replicate (n * n) 0)))) (mb := mb) (ms := ms) hn (by (first | omega | (simp only [np, nq]; omega))) (by omega) (by simp (disch := first | omega | exact ti rfl | (simp only [np, nq]; first | done | omega)) only [go_sem, reduceAdd, reduceMul, reduceSub, reduceLeDiff, reduceEqDiff, reduceShiftRight, reduceAnd]) (by (first | omega | (simp only [np, nq]; omega))) (by (first | omega | (simp only [np, nq]; omega))) (by omega) (by have := hM.get; simp (disch := first | omega | exact ti rfl | (simp only [np, nq]; first | done | omega)) only [go_sem, reduceAdd, reduceMul, reduceSub, reduceLeDiff, reduceEqDiff, reduceShiftRight, reduceAnd, this]) hM.ok.len (fun H2 hd2 f2 => ?_) qal 0 (List.replicate (n * n) 0) _ (Nat.zero_le _) (by rw [qah]; omega) List.length_replicate (fun p hp => by omega) (qaj _ _) (Fm.refl _ _)
 unfold qd5 qm4
 rw [qaq]
 refine D_G (s := .sl mb 0 (n * n) (n * n) true) (H1 := qak (qak H (qaa 0 [.int .i64 (.ofNat n), .sl mb 0 (n * n) (n * n) true])) (qaa 0 (ints (List.replicate (n * n) 0)))) hn (by (first | omega | (simp only [np, nq]; omega))) (by omega) (by simp (disch := first | omega | exact ti rfl | (simp only [np, nq]; first | done | omega)) only [go_sem, reduceAdd, reduceMul, reduceSub, reduceLeDiff, reduceEqDiff, reduceShiftRight, reduceAnd]) (by (first | omega | (simp only [np, nq]; omega))) (d1 ms) (by unfold d1; rw [List.length_map]; exact hM.ok.len) (fun H3 hd3 f3 => ?_) qal 0 _ (Nat.zero_le _) (by rw [qah]; omega) hd2 f2
 unfold qd6 qrz
 rw [qaq]
 refine D_K (s := .sl mb 0 (n * n) (n * n) true) (H1 := qak (qak H (qaa 0 [.int .i64 (.ofNat n), .sl mb 0 (n * n) (n * n) true])) (qaa 0 (ints (List.replicate (n * n) 0)))) hn (by (first | omega | (simp only [np, nq]; omega))) (by omega) (by simp (disch := first | omega | exact ti rfl | (simp only [np, nq]; first | done | omega)) only [go_sem, reduceAdd, reduceMul, reduceSub, reduceLeDiff, reduceEqDiff, reduceShiftRight, reduceAnd]) (by (first | omega | (simp only [np, nq]; omega))) (dg n (d1 ms) n) (by rw [qv0]; unfold d1; rw [List.length_map]; exact hM.ok.len) hB (fun H4 hd4 f4 => ?_) qal 0 _ (Nat.zero_le _) (by rw [qah]; omega) hd3 f3
 unfold qbn
 have n4 := f4.nx
 have n4' : H.nx + 1 + 1 ≤ H4.nx := n4
 exact Ok.ret ⟨rfl, hd4, by omega, fH.then f4 fun c hc h => by omega⟩
end Go.Di
end
