/-
 For countersignlaw17.CompsKnown: contracts of the functions that compare and check edges, and of the reference's matrices. No conditions beyond those that each theorem states.
-/
import Derived.Test.YtmdpdlnabcmlmaaDir
import Derived.Test.YtmdpdlnabcmlmaaSort
set_option linter.unusedSimpArgs false
set_option linter.unusedVariables false
open Nat (reduceAdd reduceMul reduceSub reduceLeDiff reduceEqDiff reduceShiftRight reduceAnd)
section
/-
 Contracts: comparing.
-/
namespace Go.Di
open Go.Ev
variable {C : Nat → Ev.Call}
abbrev qbt (C : Nat → Ev.Call) : Prop := ∀ k, Lnk (C (k + 1)) (C k)
theorem q40 (hC : qbt C) {k : Nat} (hk : 1 ≤ k) (n : Int) (H : Hp) : C k (.f qlh) [.int .i64 n] H = .ok (.bool false) H := by
 obtain ⟨j, rfl⟩ : ∃ j, k = j + 1 := ⟨k - 1, by omega⟩
 rw [(hC j).cNaN]
 unfold cNaN zcd
 simp only [go_sem]
def cmpI (a b : Int) : Int := if a < b then -1 else if b < a then 1 else 0
theorem qx3 (hC : qbt C) {k : Nat} (hk : 2 ≤ k) (a b : Int) (H : Hp) : C k (.f qon) [.int .i64 a, .int .i64 b] H = .ok (.int .i64 (cmpI a b)) H := by
 obtain ⟨j, rfl⟩ : ∃ j, k = j + 1 := ⟨k - 1, by omega⟩
 rw [(hC j).cCmp]
 unfold cCmp zci
 simp only [q40 hC (show 1 ≤ j by omega), go_sem]
 unfold q3o q3p q3q q3r cmpI
 by_cases h : a < b
 ·simp only [h, go_sem]; rfl
 ·by_cases h2 : b < a
  ·simp only [h, h2, go_sem]; rfl
  ·simp only [h, h2, go_sem]; rfl
def sgn (s : Bool) : Int := if s then 1 else 0
theorem zgd (hC : qbt C) {k : Nat} (hk : 1 ≤ k) (a b : AV) (s : Bool) (H : Hp) : C k (.f qtf) [.agg [a, b, .bool s]] H = .ok (.int .i64 (sgn s)) (qaw H (qae 0 [a, b, .bool s])) := by
 obtain ⟨j, rfl⟩ : ∃ j, k = j + 1 := ⟨k - 1, by omega⟩
 rw [(hC j).gSgn]
 unfold gSgn za4 q20
 cases s <;> simp (disch := omega) only [go_sem, reduceAdd, Nat.beq] <;> rfl
end Go.Di
end
section
/-
 Contracts: comparing edges.
-/
namespace Go.Di
open Go.Ev
variable {C : Nat → Ev.Call}
def ints (l : List Int) : List AV := l.map (fun n => .int .i64 n)
theorem zd9 (l : List Int) (i : Nat) (h : i < l.length) : (ints l)[i]? = some (.int .i64 l[i]) := by simp [ints, h]
def orI : List Int → Int
 | [] => 0
 | x :: l => if x = 0 then orI l else x
theorem zcv {call : Ev.Call} {H : Hp} {b m : Nat} {e : Bool} {q : Nat} {l : List Int} (h0 : H.get b = qae q (ints l)) (hl : l.length < 1000000) :
  ∀ (k i : Nat), i ≤ l.length → l.length - i < k → qvf call (fun x2 H => .ok x2 H) (fun H => qtz call (.int .i64 (.ofNat 0)) H) (.int .i64 (.ofNat 0)) (.sl b 0 l.length m e) (.int .i64 (.ofNat l.length)) k (.int .i64 (.ofNat i)) H = .ok (.int .i64 (orI (l.drop i))) H
 | 0, i, _, h => by omega
 | k + 1, i, hi, hk => by
  show zb9 call _ _ _ _ _ (qvf call _ _ _ _ _ k) _ H = _
  unfold zb9
  by_cases hlt : i < l.length
  ·simp (disch := omega) only [go_sem, hlt]
   unfold zb7
   have hd : l.drop i = l[i] :: l.drop (i + 1) := List.drop_eq_getElem_cons hlt
   simp (disch := omega) only [go_sem, h0, zd9 _ _ hlt]
   rw [hd]
   show _ = R1.ok (.int .i64 (if l[i] = 0 then orI (l.drop (i + 1)) else l[i])) H
   by_cases hz : l[i] = Int.ofNat 0
   ·have hz' : l[i] = 0 := hz
    simp only [hz', go_sem]
    unfold zb8
    simp (disch := omega) only [go_sem]
    exact zcv h0 hl k (i + 1) (by omega) (by omega)
   ·have hz' : ¬ l[i] = 0 := hz
    simp only [hz, hz', go_sem]
  ·have hd : l.drop i = [] := List.drop_eq_nil_of_le (by omega)
   simp (disch := omega) only [go_sem, hlt]
   rw [hd]; rfl
theorem Or_ok (hC : qbt C) {k : Nat} (hk : 1 ≤ k) {H : Hp} {b m : Nat} {e : Bool} {q n : Nat} {l : List Int} (hn : l.length = n) (h0 : H.get b = qae q (ints l)) (hl : l.length < 1000000) :
  C k (.f q41) [.sl b 0 n m e] H = .ok (.int .i64 (orI l)) H := by
 obtain ⟨j, rfl⟩ : ∃ j, k = j + 1 := ⟨k - 1, by omega⟩
 subst hn
 rw [(hC j).cOr]
 unfold cOr zhw zca
 simp only [go_sem]
 rw [qam]
 exact zcv h0 hl _ 0 (Nat.zero_le _) (by rw [qag]; omega)
structure Edge where
 (f t : Nat)
 s : Bool
deriving DecidableEq
def Edge.cells (e : Edge) : List AV := [.int .i64 (.ofNat e.f), .int .i64 (.ofNat e.t), .bool e.s]
def cmpE (x y : Edge) : Int := orI [cmpI (.ofNat x.f) (.ofNat y.f), cmpI (.ofNat x.t) (.ofNat y.t), cmpI (sgn x.s) (sgn y.s)]
theorem q7k (hC : qbt C) {k : Nat} (hk : 3 ≤ k) (x y : Edge) (H : Hp) : Ok (C k (.f qxr) [.agg x.cells, .agg y.cells] H) fun v H' => v = .int .i64 (cmpE x y) ∧ Fm No H H' := by
 obtain ⟨j, rfl⟩ : ∃ j, k = j + 1 := ⟨k - 1, by omega⟩
 rw [(hC j).gCmp]
 unfold gCmp za6 Edge.cells
 simp (disch := first | omega | exact ti rfl | (simp only [np, nq]; first | done | omega)) only [go_sem, reduceAdd, reduceLeDiff, Nat.beq, qx3 hC (show 2 ≤ j by omega), zgd hC (show 1 ≤ j by omega)]
 refine Ok.deE (Or_ok hC (show 1 ≤ j by omega) (l := [cmpI (.ofNat x.f) (.ofNat y.f), cmpI (.ofNat x.t) (.ofNat y.t), cmpI (sgn x.s) (sgn y.s)]) rfl (qai _ _ _) (by simp)) ?_
 simp (disch := first | omega | exact ti rfl | (simp only [np, nq]; first | done | omega)) only [go_sem, reduceAdd, reduceLeDiff]
 exact Ok.ret ⟨rfl, by (repeat (first | exact Fm.refl _ _ | assumption | refine Fm.push ?_ _ | refine Fm.up2 ?_ (by (first | omega | (simp only [np, nq]; omega))) | refine Fm.put_new ?_ _ _ (by (first | omega | (simp only [np, nq]; omega)))))⟩
end Go.Di
end
section
/-
 Contracts: a graph is right.
-/
namespace Go.Di
open Go.Ev
variable {C : Nat → Ev.Call}
def qf2 (es : List Edge) : List AV := (es.map Edge.cells).flatten
theorem q0b : ∀ (es : List Edge) (i : Nat) (h : i < es.length), ((qf2 es).drop (i * 3)).take 3 = es[i].cells
 | x :: l, 0, _ => by simp [qf2, Edge.cells]
 | x :: l, i + 1, h => by
  have : (qf2 (x :: l)).drop ((i + 1) * 3) = (qf2 l).drop (i * 3) := by
   rw [show (i + 1) * 3 = (i * 3 + 3) by omega]; rfl
  rw [this]
  exact q0b l i (by simpa using h)
structure qfk (n : Nat) (es : List Edge) : Prop where
 rng : ∀ e ∈ es, e.f < n ∧ e.t < n
 ord : ∀ i, (h : i + 1 < es.length) → cmpE es[i] es[i + 1] < 0
theorem q26 (a b : Int) (k : IntKind) : qhy minV (.int k a) [.int k b] = .val (.int k (min a b)) := by
 show R0.val (.int k (bif ltI b a then b else a)) = _
 rw [qfz]
 by_cases h : b < a
 ·rw [decide_eq_true h, Int.min_eq_right (by omega)]; rfl
 ·rw [decide_eq_false h, Int.min_eq_left (by omega)]; rfl
theorem zba (a b : Int) (k : IntKind) : qhy maxV (.int k a) [.int k b] = .val (.int k (max a b)) := by
 show R0.val (.int k (bif ltI a b then b else a)) = _
 rw [qfz]
 by_cases h : a < b
 ·rw [decide_eq_true h, Int.max_eq_right (by omega)]; rfl
 ·rw [decide_eq_false h, Int.max_eq_left (by omega)]; rfl
structure IsE (H : Hp) (v : AV) (es : List Edge) : Prop where
 flat : q27 v = true
 len : qa9 v = .val (.int .i64 (.ofNat es.length))
 lt' : ∀ b, In v b → b < H.nx
 at' : ∀ (i : Nat) (hi : i < es.length), ∃ b o, idxS 3 v (.int .i64 (.ofNat i)) = .val (.ptr b o) ∧ b < H.nx ∧ qci (H.get b) o 3 = some es[i].cells
theorem IsE.at {H : Hp} {v : AV} {es : List Edge} (h : IsE H v es) {i : Nat} (hi : i < es.length) : ∃ b o, idxS 3 v (.int .i64 (.ofNat i)) = .val (.ptr b o) ∧ b < H.nx ∧ qci (H.get b) o 3 = some es[i].cells := h.at' i hi
theorem IsE.fm {H H' : Hp} {v : AV} {es : List Edge} (h : IsE H v es) (a : Fm No H H') : IsE H' v es := ⟨h.flat, h.len, fun b hb => Nat.lt_of_lt_of_le (h.lt' b hb) a.nx, fun i hi => by
 obtain ⟨b, o, e1, e2, e3⟩ := h.at' i hi
 exact ⟨b, o, e1, Nat.lt_of_lt_of_le e2 a.nx, by rw [a.keep e2]; exact e3⟩⟩
theorem zjo {z i b o : Nat} {v : AV} (h : idxS z v (.int .i64 (.ofNat i)) = .val (.ptr b o)) : In v b := by
 cases v with
 | sl b' o' n m e =>
  have h : (bif Nat.blt i n then R0.val (.ptr b' (o' + i * z)) else .bad) = .val (.ptr b o) := h
  cases hb : Nat.blt i n with
  | true => rw [hb] at h; cases h; exact ⟨_, _, _, _, rfl⟩
  | false => rw [hb] at h; cases h
 | _ => cases h
theorem IsE.keep {H H' : Hp} {v : AV} {es : List Edge} (h : IsE H v es) (hn : H.nx ≤ H'.nx) (hk : ∀ b, In v b → b < H.nx → H'.get b = H.get b) : IsE H' v es := ⟨h.flat, h.len, fun b hb => Nat.lt_of_lt_of_le (h.lt' b hb) hn, fun i hi => by
 obtain ⟨b, o, e1, e2, e3⟩ := h.at' i hi
 exact ⟨b, o, e1, Nat.lt_of_lt_of_le e2 hn, by rw [hk b (zjo e1) e2]; exact e3⟩⟩
theorem IsE.lt {H : Hp} {v : AV} {es : List Edge} (h : IsE H v es) {b : Nat} (hb : In v b) : b < H.nx := h.lt' b hb
def GlE (H : Hp) (v : AV) (es : List Edge) : Prop := Gl 3 H v es.length (qf2 es)
theorem Gl.flat {z n : Nat} {H : Hp} {v : AV} {l : List AV} (h : Gl z H v n l) : q27 v = true := by
 rcases h.is with ⟨rfl, rfl⟩ | ⟨b, o, e, q, L, rfl, _⟩ <;> rfl
theorem Gl.lt {z n : Nat} {H : Hp} {v : AV} {l : List AV} (h : Gl z H v n l) {b : Nat} (hb : In v b) : b < H.nx := by
 obtain ⟨_, _, _, _, rfl⟩ := hb
 rcases h.is with ⟨h, _⟩ | ⟨b, o, e, q, L, h, _, _, _, _, h5⟩ <;> cases h
 exact h5
theorem IsE.eqF {H : Hp} {v : AV} {es : List Edge} (h : IsE H v es) : eqF 64 v v = true := qcp h.flat 63
theorem Gl.atN {z n : Nat} {H : Hp} {v : AV} {l : List AV} (h : Gl z H v n l) {i : Nat} (hi : i < n) : ∃ b o, idxS z v (.int .i64 (.ofNat i)) = .val (.ptr b o) ∧ b < H.nx ∧ In v b ∧ qci (H.get b) o z = some ((l.drop (i * z)).take z) ∧ ∀ (j : Nat), j < z → qbl (H.get b) (o + j) = .val (l.getD (i * z + j) .undef) := by
 have hl := h.len
 rcases h.is with ⟨rfl, rfl⟩ | ⟨b, o, e, q, L, rfl, h1, h2, h3, h4, h5⟩
 ·omega
 ·have hm : i * z + z ≤ n * z := by
   have : (i + 1) * z ≤ n * z := Nat.mul_le_mul_right z hi
   rw [Nat.add_mul, Nat.one_mul] at this; exact this
  have hL : o + n * z = L.length := by rw [← h3, List.length_drop] at hl; omega
  refine ⟨b, o + i * z, qi5 _ _ _ _ _ _ _ _ hi, h5, ⟨_, _, _, _, rfl⟩, ?_, fun j hj => ?_⟩
  ·rw [h1, qlz, if_pos (by omega), ← List.drop_drop, h3]
  ·rw [h1, qcl]
   have : L[o + i * z + j]? = l[i * z + j]? := by rw [← h3, List.getElem?_drop]; congr 1; omega
   rw [this, List.getElem?_eq_getElem (by omega)]
   simp [List.getD_eq_getElem?_getD, show i * z + j < l.length by omega]
theorem GlE.isE {H : Hp} {v : AV} {es : List Edge} (h : GlE H v es) : IsE H v es := ⟨Gl.flat h, Gl.lenV h, fun b hb => Gl.lt h hb, fun i hi => by
 obtain ⟨b, o, e1, e2, _, e3, _⟩ := Gl.atN h hi
 exact ⟨b, o, e1, e2, by rw [e3, q0b _ _ hi]⟩⟩
theorem qpb (hC : qbt C) {j : Nat} (hj : 3 ≤ j) {n : Nat} {es : List Edge} (hE : qfk n es) {v : AV} {g : Nat} {H0 : Hp} (hlen : es.length < 1000000) {Q : AV → Hp → Prop} {q5e0 : Hp → R1}
  (hq : ∀ H, Fm No H0 H → Ok (q5e0 H) Q) :
  ∀ (k i : Nat) (H : Hp), i ≤ es.length → es.length - i < k → IsE H v es → g < H.nx → H.get g = qae 0 [.int .i64 (.ofNat n), v] → Fm No H0 H →
   Ok (qli (C j) (fun x2 H => .ok x2 H) q5e0 (.ptr g 0) v (.int .i64 (.ofNat es.length)) k (.int .i64 (.ofNat i)) H) Q
 | 0, i, _, _, h, _, _, _, _ => by omega
 | k + 1, i, H, hi, hk, hv, hg1, hg2, hf => by
  show Ok (q21 (C j) _ _ _ _ _ (qli (C j) _ _ _ _ _ k) _ H) Q
  unfold q21
  by_cases hlt : i < es.length
  ·obtain ⟨b, o1, e1, e2, e3⟩ := hv.at hlt
   have hr := hE.rng es[i] (List.getElem_mem hlt)
   simp (disch := first | omega | exact ti rfl) only [go_sem, reduceAdd, reduceLeDiff, hlt]
   unfold qxy za7
   have hmin : (min (Int.ofNat es[i].f) (Int.ofNat es[i].t) < Int.ofNat 0) = False := by simp only [Int.ofNat_eq_natCast, eq_iff_iff, iff_false]; omega
   have hmax : (Int.ofNat n ≤ max (Int.ofNat es[i].f) (Int.ofNat es[i].t)) = False := by simp only [Int.ofNat_eq_natCast, eq_iff_iff, iff_false]; omega
   by_cases h0 : 0 < i
   ·obtain ⟨p, rfl⟩ : ∃ p, i = p + 1 := ⟨i - 1, by omega⟩
    obtain ⟨b', o2, e1', e2', e3'⟩ := hv.at (show p < es.length by omega)
    have hv64 := hv.eqF
    simp (disch := first | omega | exact ti rfl) only [go_sem, reduceAdd, reduceLeDiff, e1, e3, Edge.cells, q26, zba, hmin, hmax, hg2, h0, e1', e3', Nat.add_sub_cancel]
    refine Ok.deO (q7k hC hj es[p] es[p + 1] _) ?_
    rintro v' H' ⟨rfl, f'⟩
    have k1 : H'.get g = qae 0 [.int .i64 (.ofNat n), v] := (f'.keep (by (first | omega | (simp only [np, nq]; omega)))).trans (by simp (disch := first | omega | exact ti rfl) only [go_sem, reduceAdd, reduceLeDiff, hg2])
    have k2 : qci (H'.get b') o2 3 = some es[p].cells := by rw [f'.keep (by (first | omega | (simp only [np, nq]; omega)))]; simp (disch := first | omega | exact ti rfl) only [go_sem, reduceAdd, reduceLeDiff, e3']
    have k3 : H'.get H.nx = qae 0 es[p + 1].cells := (f'.keep (by (first | omega | (simp only [np, nq]; omega)))).trans (by simp (disch := first | omega | exact ti rfl) only [go_sem, reduceAdd, reduceLeDiff, Edge.cells])
    have ho : (Int.ofNat 0 ≤ cmpE es[p] es[p + 1]) = False := by
     have := hE.ord p hlt
     simp only [Int.ofNat_eq_natCast, eq_iff_iff, iff_false]; omega
    simp (disch := first | omega | exact ti rfl) only [go_sem, reduceAdd, reduceLeDiff, k1, k2, k3, hv64, Edge.cells, ho]
    unfold qxw
    simp (disch := first | omega | exact ti rfl) only [go_sem, reduceAdd, reduceLeDiff]
    have fH : Fm No H H' := by refine Fm.trans ?_ f'; (repeat (first | exact Fm.refl _ _ | assumption | refine Fm.push ?_ _ | refine Fm.up2 ?_ (by (first | omega | (simp only [np, nq]; omega))) | refine Fm.put_new ?_ _ _ (by (first | omega | (simp only [np, nq]; omega)))))
    exact qpb hC hj hE hlen hq k (p + 1 + 1) H' (by omega) (by omega) (hv.fm fH) (Nat.lt_of_lt_of_le hg1 fH.nx) k1 (hf.trans fH)
   ·simp (disch := first | omega | exact ti rfl) only [go_sem, reduceAdd, reduceLeDiff, e1, e3, Edge.cells, q26, zba, hmin, hmax, hg2, h0]
    unfold qxw
    simp (disch := first | omega | exact ti rfl) only [go_sem, reduceAdd, reduceLeDiff]
    have fH : Fm No H ((qaw H (qae 0 [.int .i64 (.ofNat 0), .int .i64 (.ofNat 0), .bool false])).put H.nx (qae 0 [.int .i64 (.ofNat es[i].f), .int .i64 (.ofNat es[i].t), .bool es[i].s])) := by (repeat (first | exact Fm.refl _ _ | assumption | refine Fm.push ?_ _ | refine Fm.up2 ?_ (by (first | omega | (simp only [np, nq]; omega))) | refine Fm.put_new ?_ _ _ (by (first | omega | (simp only [np, nq]; omega)))))
    exact qpb hC hj hE hlen hq k (i + 1) _ (by omega) (by omega) (hv.fm fH) (Nat.lt_of_lt_of_le hg1 fH.nx) ((fH.keep hg1).trans hg2) (hf.trans fH)
  ·simp (disch := first | omega | exact ti rfl) only [go_sem, reduceAdd, reduceLeDiff, hlt]
   exact hq H hf
theorem zfd (hC : qbt C) {k : Nat} (hk : 4 ≤ k) {n : Nat} {es : List Edge} (hE : qfk n es) (hn : n ≤ 256) (hlen : es.length < 1000000) {v : AV} {H : Hp} (hv : IsE H v es) :
  Ok (C k (.f qxs) [.agg [.int .i64 (.ofNat n), v]] H) fun r H' => r = .int .i64 (.ofNat 0) ∧ Fm No H H' := by
 obtain ⟨j, rfl⟩ : ∃ j, k = j + 1 := ⟨k - 1, by omega⟩
 rw [(hC j).gChk]
 unfold gChk za9
 have h256 : (256 < n) = False := by simp only [eq_iff_iff, iff_false]; omega
 simp (disch := first | omega | exact ti rfl) only [go_sem, reduceAdd, reduceLeDiff, h256, Nat.not_lt_zero]
 unfold qxx q23
 have fH : Fm No H (qaw H (qae 0 [.int .i64 (.ofNat n), v])) := by (repeat (first | exact Fm.refl _ _ | assumption | refine Fm.push ?_ _ | refine Fm.up2 ?_ (by (first | omega | (simp only [np, nq]; omega))) | refine Fm.put_new ?_ _ _ (by (first | omega | (simp only [np, nq]; omega)))))
 simp (disch := first | omega | exact ti rfl) only [go_sem, reduceAdd, reduceLeDiff, hv.len]
 rw [qam]
 refine qpb hC (by omega) hE hlen (fun H hf => ?_) _ 0 _ (Nat.zero_le _) (by rw [qag]; omega) (hv.fm fH) (by (first | omega | (simp only [np, nq]; omega))) (qar _ _) fH
 exact Ok.ret ⟨rfl, hf⟩
end Go.Di
end
section
/-
 Contracts: lists that are cut to size.
-/
namespace Go.Di
open Go.Ev
variable {C : Nat → Ev.Call}
def nats (l : List Nat) : List AV := l.map (fun n => .int .i64 (.ofNat n))
theorem ints_set (l : List Int) (i : Nat) (n : Int) (h : i < l.length) : setL (ints l) i [.int .i64 n] = ints (l.set i n) := by
 unfold setL ints
 apply List.ext_getElem
 ·simp; omega
 ·intro j h1 h2
  simp only [List.length_map, List.length_set] at h2
  simp only [List.getElem_map, List.getElem_set]
  by_cases hj : j < i
  ·rw [List.getElem_append_left (by simp; omega), List.getElem_append_left (by simp; omega)]
   simp [show ¬ i = j by omega]
  ·by_cases he : i = j
   ·subst he
    rw [List.getElem_append_left (by simp; omega), List.getElem_append_right (by simp; exact Nat.min_le_left _ _)]
    simp [Nat.min_eq_left (Nat.le_of_lt h)]
   ·rw [List.getElem_append_right (by simp; omega)]
    simp [he, Nat.min_eq_left (Nat.le_of_lt h)]
    congr 2; omega
theorem qzy (l : List Nat) : ints (l.map Int.ofNat) = nats l := by unfold ints nats; rw [List.map_map]; rfl
theorem Gl.at {n : Nat} {H : Hp} {v : AV} {l : List AV} (h : Gl 1 H v n l) {i : Nat} {x : AV} (hx : l[i]? = some x) : ∃ b o, idxS 1 v (.int .i64 (.ofNat i)) = .val (.ptr b o) ∧ b < H.nx ∧ In v b ∧ qbl (H.get b) o = .val x := by
 have hl := h.len
 have hi : i < l.length := by
  rcases Nat.lt_or_ge i l.length with h | h
  ·exact h
  ·rw [List.getElem?_eq_none h] at hx; cases hx
 rcases h.is with ⟨rfl, rfl⟩ | ⟨b, o, e, q, L, rfl, h1, h2, h3, h4, h5⟩
 ·omega
 ·refine ⟨b, o + i, ?_, h5, ⟨_, _, _, _, rfl⟩, ?_⟩
  ·rw [qi5 _ _ _ _ _ _ _ _ (by omega), Nat.mul_one]
  ·have : L[o + i]? = some x := by rw [← List.getElem?_drop, h3]; exact hx
   rw [h1, qcl, this]
theorem Gl.clip {z n : Nat} {H : Hp} {v : AV} {l : List AV} (h : Gl z H v n l) : ∃ w, qbo z v none (some (.int .i64 (.ofNat n))) (some (.int .i64 (.ofNat n))) = .val w ∧ Gl z H w n l ∧ capV w = .val (.int .i64 (.ofNat n)) ∧ (∀ b, In w b → In v b) := by
 rcases h.is with ⟨rfl, rfl⟩ | ⟨b, o, e, q, L, rfl, h1, h2, h3, h4, h5⟩
 ·exact ⟨.nilsl, rfl, h, rfl, fun b h => h⟩
 ·have e1 : qbo z (.sl b o n n e) none (some (.int .i64 (.ofNat n))) (some (.int .i64 (.ofNat n))) = mkSl b o z ⟨0, n, n⟩ true := by
   show (match bounds n n none (some (.int .i64 (.ofNat n))) (some (.int .i64 (.ofNat n))) with | some bd => mkSl b o z bd true | none => R0.bad) = _
   have : bounds n n none (some (.int .i64 (.ofNat n))) (some (.int .i64 (.ofNat n))) = some ⟨0, n, n⟩ := by
    show (match (bif Nat.ble n n then some n else none) with | none => none | some m => match (bif Nat.ble n m then some n else none) with | none => none | some h => match (some 0 : Option Nat) with | none => none | some l => some (Bd.mk l h m)) = _
    rw [ble_eq, decide_eq_true (Nat.le_refl n)]; simp only [cond_true, ble_eq, decide_eq_true (Nat.le_refl n)]
   rw [this]
  rw [e1]
  unfold mkSl
  simp only [beq_eq]
  by_cases hn : n = 0
  ·subst hn
   exact ⟨.sl b o 0 0 true, rfl, ⟨h.len, .inr ⟨b, o, true, q, L, rfl, h1, h2, h3, .inl rfl, h5⟩⟩, rfl, fun c hc => by obtain ⟨_, _, _, _, h'⟩ := hc; cases h'; exact ⟨_, _, _, _, rfl⟩⟩
  ·rw [decide_eq_false hn]
   refine ⟨.sl b o n n true, ?_, ⟨h.len, .inr ⟨b, o, true, q, L, rfl, h1, h2, h3, .inl rfl, h5⟩⟩, rfl, fun c hc => by obtain ⟨_, _, _, _, h'⟩ := hc; cases h'; exact ⟨_, _, _, _, rfl⟩⟩
   show R0.val (.sl b (o + 0 * z) (n - 0) (n - 0) true) = _
   rw [Nat.zero_mul, Nat.add_zero, Nat.sub_zero]
theorem zcz (hC : qbt C) {k : Nat} (hk : 1 ≤ k) {n : Nat} {H : Hp} {v : AV} {l : List AV} (h : Gl 1 H v n l) :
  ∃ w, C k (.f qlf) [v] H = .ok w H ∧ Gl 1 H w n l ∧ capV w = .val (.int .i64 (.ofNat n)) ∧ (∀ b, In w b → In v b) := by
 obtain ⟨j, rfl⟩ : ∃ j, k = j + 1 := ⟨k - 1, by omega⟩
 obtain ⟨w, e, h1, h2, h3⟩ := h.clip
 refine ⟨w, ?_, h1, h2, h3⟩
 rw [(hC j).sClp]
 unfold sClp q4e
 simp (disch := omega) only [go_sem, reduceAdd, h.lenV, e]
end Go.Di
end
section
/-
 Contracts: matrices.
-/
namespace Go.Di
open Go.Ev
variable {C : Nat → Ev.Call}
theorem q4w (l : List Nat) (i : Nat) (h : i < l.length) : (nats l)[i]? = some (.int .i64 (.ofNat l[i])) := by simp [nats, h]
theorem q4u (l : List Nat) (i n : Nat) (h : i < l.length) : setL (nats l) i [.int .i64 (.ofNat n)] = nats (l.set i n) := by
 rw [← qzy, ints_set _ _ _ (by simpa using h), ← qzy, List.map_set]
structure MOk (n : Nat) (ms : List Nat) : Prop where
 hn : n ≤ 256
 len : ms.length = n * n
 le : ∀ x ∈ ms, x ≤ 3
structure IsM (H : Hp) (v : AV) (b n : Nat) (ms : List Nat) : Prop where
 hv : v = .agg [.int .i64 (.ofNat n), .sl b 0 (n * n) (n * n) true]
 lt : b < H.nx
 get : H.get b = qae 0 (nats ms)
 ok : MOk n ms
theorem IsM.fm {H H' : Hp} {v : AV} {b n : Nat} {ms : List Nat} (h : IsM H v b n ms) (a : Fm No H H') : IsM H' v b n ms := ⟨h.hv, Nat.lt_of_lt_of_le h.lt a.nx, (a.keep h.lt).trans h.get, h.ok⟩
theorem zjn {n i k : Nat} (hi : i < n) (hk : k < n) : i * n + k < n * n := by
 have : (i + 1) * n ≤ n * n := Nat.mul_le_mul_right n hi
 rw [Nat.add_mul, Nat.one_mul] at this; omega
end Go.Di
end
section
/-
 Contracts: the matrix of edges, and its edges.
-/
namespace Go.Di
open Go.Ev
variable {C : Nat → Ev.Call}
structure T3 where
 (f t s : Nat)
def T3.cells (e : T3) : List AV := [.int .i64 (.ofNat e.f), .int .i64 (.ofNat e.t), .int .i64 (.ofNat e.s)]
end Go.Di
end
section
/-
 Contracts: the edges of a matrix.
-/
namespace Go.Di
open Go.Ev
variable {C : Nat → Ev.Call}
end Go.Di
end
section
/-
 Contracts: the graph of a matrix.
-/
namespace Go.Di
open Go.Ev
variable {C : Nat → Ev.Call}
theorem q7f (es : List Edge) (e : Edge) : qf2 es ++ e.cells = qf2 (es ++ [e]) := by simp [qf2]
end Go.Di
end
section
/-
 Contracts: the matrix of plain data.
-/
namespace Go.Di
open Go.Ev
variable {C : Nat → Ev.Call}
structure Arg3 (H : Hp) (v : AV) (cnt : Nat) : Prop where
 flat : q27 v = true
 len : qa9 v = .val (.int .i64 (.ofNat cnt))
 at' : ∀ i, i < cnt → ∃ b o, idxS 3 v (.int .i64 (.ofNat i)) = .val (.ptr b o) ∧ b < H.nx ∧ ∀ j, j < 3 → ∃ x, x < 256 ∧ qbl (H.get b) (o + j) = .val (.int .u8 (.ofNat x))
theorem Arg3.fm {H H' : Hp} {v : AV} {cnt : Nat} (h : Arg3 H v cnt) (a : Fm No H H') : Arg3 H' v cnt := ⟨h.flat, h.len, fun i hi => by
 obtain ⟨b, o, e1, e2, e3⟩ := h.at' i hi
 exact ⟨b, o, e1, Nat.lt_of_lt_of_le e2 a.nx, fun j hj => by obtain ⟨x, h1, h2⟩ := e3 j hj; exact ⟨x, h1, by rw [a.keep e2]; exact h2⟩⟩⟩
end Go.Di
end
section
/-
 Contracts: distances.
-/
namespace Go.Di
open Go.Ev
variable {C : Nat → Ev.Call}
/- the pure function -/
def qh8 (n : Nat) (d : List Int) (k i j : Nat) : List Int :=
 if 0 ≤ d.getD (i * n + k) 0 ∧ 0 ≤ d.getD (k * n + j) 0 ∧ (d.getD (i * n + j) 0 < 0 ∨ d.getD (i * n + k) 0 + d.getD (k * n + j) 0 < d.getD (i * n + j) 0)
 then d.set (i * n + j) (d.getD (i * n + k) 0 + d.getD (k * n + j) 0) else d
def fJ (n : Nat) (d : List Int) (k i : Nat) : Nat → List Int
 | 0 => d
 | j + 1 => qh8 n (fJ n d k i j) k i j
def fI (n : Nat) (d : List Int) (k : Nat) : Nat → List Int
 | 0 => d
 | i + 1 => fJ n (fI n d k i) k i n
def dg (n : Nat) (d : List Int) : Nat → List Int
 | 0 => d
 | i + 1 => (dg n d i).set (i * n + i) 0
def d1 (ms : List Nat) : List Int := ms.map fun v => if 0 < v then 1 else -1
end Go.Di
end
section
/-
 Contracts: distances, whole.
-/
namespace Go.Di
open Go.Ev
variable {C : Nat → Ev.Call}
end Go.Di
end
