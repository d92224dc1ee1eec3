/-
 For GraphsOf: functions in direct style, their contracts, and the plain mathematics, part 3 of 6. No conditions beyond those that each theorem states.
-/
import Derived.Test.YtigaopnmpflgmaaGreatConB
set_option linter.unusedSimpArgs false
set_option linter.unusedVariables false
open Nat (reduceAdd reduceMul reduceSub reduceLeDiff reduceEqDiff reduceShiftRight reduceAnd)
section
namespace Go.Di
open Go.Ev
variable {C : Nat → Ev.Call}
inductive Ru where
 | leaf (kind : Nat) (rl to : SS)
 | node (kind : Nat) (a b : Ru)
 deriving DecidableEq
def Ru.kind : Ru → Nat
 | .leaf k _ _ => k
 | .node k _ _ => k
def lfC (k : Nat) (rl to : SS) : List AV := [.int .u8 (.ofNat k), rl.v, to.v, .nilsl]
def RuC (P : Nat → Prop) (H : Hp) : Ru → List AV → Prop
 | .leaf k rl to, cs => cs = lfC k rl to
 | .node k a b, cs => ∃ bl ca cb, cs = [.int .u8 (.ofNat k), sE.v, sE.v, .sl bl 0 2 2 true] ∧ bl < H.nx ∧ P bl ∧ H.get bl = qaa 0 (ca ++ cb) ∧ RuC P H a ca ∧ RuC P H b cb
theorem RuC.fmS {P S : Nat → Prop} {H H' : Hp} (f : Fm S H H') (hs : ∀ b, P b → ¬ S b) : ∀ {r : Ru} {cs : List AV}, RuC P H r cs → RuC P H' r cs
 | .leaf _ _ _, _, h => h
 | .node _ _ _, _, ⟨bl, ca, cb, h1, h2, h6, h3, h4, h5⟩ => ⟨bl, ca, cb, h1, Nat.lt_of_lt_of_le h2 f.nx, h6, by rw [f.get bl h2 (hs bl h6)]; exact h3, RuC.fmS f hs h4, RuC.fmS f hs h5⟩
theorem RuC.fm {P : Nat → Prop} {H H' : Hp} (f : Fm No H H') {r : Ru} {cs : List AV} (h : RuC P H r cs) : RuC P H' r cs := h.fmS f fun _ _ h => h
theorem RuC.mono {P Q : Nat → Prop} {H : Hp} (hq : ∀ b, b < H.nx → P b → Q b) : ∀ {r : Ru} {cs : List AV}, RuC P H r cs → RuC Q H r cs
 | .leaf _ _ _, _, h => h
 | .node _ _ _, _, ⟨bl, ca, cb, h1, h2, h6, h3, h4, h5⟩ => ⟨bl, ca, cb, h1, h2, hq bl h2 h6, h3, RuC.mono hq h4, RuC.mono hq h5⟩
theorem RuC.four {P : Nat → Prop} {H : Hp} : ∀ {r : Ru} {cs : List AV}, RuC P H r cs → ∃ a b c d, cs = [a, b, c, d]
 | .leaf _ _ _, _, h => ⟨_, _, _, _, h⟩
 | .node _ _ _, _, ⟨_, _, _, h1, _⟩ => ⟨_, _, _, _, h1⟩
def qjm (neg : Bool) : Ru := if neg then .leaf 2 (qa8 0) sE else .leaf 1 sE sE
def arrR (L : List (List Nat)) (n c : Nat) (neg : Bool) : Ru :=
 if (arrA L n neg).length = 0 then qjm neg else .leaf 3 ((arrA L n neg).getD (c % (arrA L n neg).length) ⟨sE, sE⟩).rl ((arrA L n neg).getD (c % (arrA L n neg).length) ⟨sE, sE⟩).to
theorem qgi (neg : Bool) : ∃ k rl to, qjm neg = .leaf k rl to ∧ (if neg then ruV 2 (qa8 0) sE .nilsl else ruV 1 sE sE .nilsl) = .agg [.int .u8 (.ofNat k), .str rl.n rl.a, .str to.n to.a, .nilsl] := by
 cases neg
 ·exact ⟨1, sE, sE, rfl, rfl⟩
 ·exact ⟨2, qa8 0, sE, rfl, rfl⟩
theorem zmo (L : List (List Nat)) (n c : Nat) (neg : Bool) : ∃ k rl to, arrR L n c neg = .leaf k rl to ∧ arrV L n c neg = .agg [.int .u8 (.ofNat k), .str rl.n rl.a, .str to.n to.a, .nilsl] := by
 unfold arrR arrV
 by_cases h : (arrA L n neg).length = 0
 ·rw [if_pos h, if_pos h]; exact qgi neg
 ·rw [if_neg h, if_neg h]; exact ⟨_, _, _, rfl, rfl⟩
def cmpR (L : List (List Nat)) (n c : Nat) (neg : Bool) : Ru := .leaf 2 ((cmpL (qaq L) n neg).getD (c % (cmpL (qaq L) n neg).length) sE) sE
def qij (n c : Nat) : Nat := if c % 8 = 6 then 5 else if c % 8 = 7 ∧ 0 < lvl n then 6 else 4
def qa3 (L : List (List Nat)) (n : Nat) : Nat → Nat → Bool → Ru × Nat
 | 0, i, neg => (qjm neg, i)
 | d + 1, i, neg =>
  if (L.getD n []).length ≤ i ∨ 12 ≤ i then (qjm neg, i) else
  if qa4 L n i % 8 < 2 then (qjm neg, i + 1) else
  if qa4 L n i % 8 < 4 then (cmpR L n (qa4 L n i / 8) neg, i + 1) else
  if qa4 L n i % 8 = 4 then (arrR L n (qa4 L n i / 8) neg, i + 1) else
  let a := qa3 L n d (i + 1) neg
  let b := qa3 L n d a.2 (neg || decide (qij n (qa4 L n i) = 6))
  (.node (qij n (qa4 L n i)) a.1 b.1, b.2)
theorem qkm (L : List (List Nat)) (n : Nat) : ∀ (d i : Nat) (neg : Bool), i ≤ max i 12 ∧ (qa3 L n d i neg).2 ≤ max i 12
 | 0, i, neg => by unfold qa3; omega
 | d + 1, i, neg => by
  unfold qa3
  split
  ·simp only; omega
  split
  ·simp only; omega
  split
  ·simp only; omega
  split
  ·simp only; omega
  have h1 := (qkm L n d (i + 1) neg).2
  have h2 := (qkm L n d (qa3 L n d (i + 1) neg).2 (neg || decide (qij n (qa4 L n i) = 6))).2
  simp only
  omega
def zfn (C : Nat → Ev.Call) (L : List (List Nat)) (n : Nat) (v : AV) (k d : Nat) : Prop :=
 ∀ (i dep : Nat) (neg : Bool) (H : Hp), dep + d = 7 → i < 1000000 → ArgC H v L → At (qaq L) n neg →
  Ok (C k (.f qpi) [.agg [v], .int .i64 (.ofNat n), .int .i64 (.ofNat i), .int .i64 (.ofNat dep), .bool neg] H) fun r H' =>
   ∃ cs, r = .tup [.agg cs, .int .i64 (.ofNat (qa3 L n d i neg).2)] ∧ RuC (fun b => H.nx ≤ b) H' (qa3 L n d i neg).1 cs ∧ Fm No H H'
theorem qkl {j d : Nat} {L : List (List Nat)} {n : Nat} {v : AV} (hR : zfn C L n v j d) {i dep kd : Nat} {neg : Bool} (hd : dep + d + 1 = 7) (hi : i < 900000) {H H0 : Hp} (hv : ArgC H v L)
  (hA : At (qaq L) n neg) (hA2 : At (qaq L) n (neg || decide (kd = 6))) {cb rb : Nat} (hcb : qg4 H cb v) (f0 : Fm No H0 H) (hrb0 : H0.nx ≤ rb) (hrb : rb < H.nx) (hr : H.get rb = qaa 0 [.int .u8 (.ofNat 0), .str 0 0, .str 0 0, .nilsl]) (hne : cb < rb ∨ rb < cb) :
  Ok (qhp (C j) (.int .i64 (.ofNat n)) (.int .i64 (.ofNat i)) (.int .i64 (.ofNat dep)) (.bool neg) (.ptr cb 0) (.ptr rb 0) (.int .u8 (.ofNat kd)) H) fun r H' =>
   ∃ cs, r = .tup [.agg cs, .int .i64 (.ofNat (qa3 L n d (qa3 L n d i neg).2 (neg || decide (kd = 6))).2)] ∧
    RuC (fun b => H0.nx ≤ b) H' (.node kd (qa3 L n d i neg).1 (qa3 L n d (qa3 L n d i neg).2 (neg || decide (kd = 6))).1) cs ∧ Fm No H0 H' := by
 unfold qhp
 have e0 := hcb.is
 simp (disch := first | omega | exact ti rfl | (simp only [np, nq]; first | done | omega)) only [go_sem, reduceAdd, reduceMul, reduceSub, reduceLeDiff, reduceEqDiff, reduceShiftRight, reduceAnd, e0]
 refine Ok.ve (hR i (dep + 1) neg H (by omega) (by omega) hv hA) ?_
 rintro _ H1 ⟨ca, rfl, hca, f1⟩
 obtain ⟨a0, a1, a2, a3, rfl⟩ := hca.four
 have hat := (qkm L n d i neg).2
 have fX : Fm No H1 ((qal H1 (qaa 0 [.int .u8 (.ofNat 0), .str 0 0, .str 0 0, .nilsl])).put H1.nx (qaa 0 [a0, a1, a2, a3])) := by (repeat (first | exact Fm.refl _ _ | assumption | refine Fm.push ?_ _ | refine Fm.up2 ?_ (by (first | omega | (simp only [np, nq]; omega))) | refine Fm.put_new ?_ _ _ (by (first | omega | (simp only [np, nq]; omega)))))
 have c1 := hcb.fm f1
 have e1 := c1.is
 have l1 := c1.lt
 have n1 := f1.nx
 cases neg <;> (
  simp (disch := first | omega | exact ti rfl | (simp only [np, nq]; first | done | omega)) only [go_sem, reduceAdd, reduceMul, reduceSub, reduceLeDiff, reduceEqDiff, reduceShiftRight, reduceAnd, e1]
  refine Ok.ve (hR _ (dep + 1) _ _ (by omega) (by omega) ((hv.fm f1).fm fX) hA2) ?_
  rintro _ H2 ⟨cb2, rfl, hcb2, f2⟩
  obtain ⟨b0, b1, b2, b3, rfl⟩ := hcb2.four
  have n2 := f2.nx
  simp only [np, nq] at n2
  have k2 : H2.get H1.nx = qaa 0 [a0, a1, a2, a3] := (f2.keep (by (first | omega | (simp only [np, nq]; omega)))).trans (by simp (disch := first | omega | exact ti rfl | (simp only [np, nq]; first | done | omega)) only [go_sem, reduceAdd, reduceMul, reduceSub, reduceLeDiff, reduceEqDiff, reduceShiftRight, reduceAnd])
  have r2 : H2.get rb = qaa 0 [.int .u8 (.ofNat 0), .str 0 0, .str 0 0, .nilsl] := ((f1.trans (fX.trans f2)).keep hrb).trans hr
  simp (disch := first | omega | exact ti rfl | (simp only [np, nq]; first | done | omega)) only [go_sem, reduceAdd, reduceMul, reduceSub, reduceLeDiff, reduceEqDiff, reduceShiftRight, reduceAnd, k2, r2]
  have fZ : Fm (fun b => b = rb) H2 (((qal ((qal H2 (qaa 0 [.int .u8 (.ofNat 0), .str 0 0, .str 0 0, .nilsl])).put H2.nx (qaa 0 [b0, b1, b2, b3])) (qaa 0 [a0, a1, a2, a3, b0, b1, b2, b3]))).put rb (qaa 0 [.int .u8 (.ofNat kd), .str 0 0, .str 0 0, .sl (H2.nx + 1) 0 2 2 true])) := by (repeat (first | exact Fm.refl _ _ | assumption | refine Fm.push ?_ _ | refine Fm.up2 ?_ (by (first | omega | (simp only [np, nq]; omega))) | refine Fm.put_new ?_ _ _ (by (first | omega | (simp only [np, nq]; omega))) | refine Fm.put ?_ _ _ (fun _ => rfl)))
  have fF := (((f0.trans f1).trans fX).trans f2).then fZ fun c hc h => by omega
  refine Ok.ret ⟨_, rfl, ⟨H2.nx + 1, _, _, rfl, by (first | omega | (simp only [np, nq]; omega)), by omega, ?_, (((hca.fm fX).fm f2).fmS fZ fun b h1 h2 => by omega).mono fun b _ h => by omega, (hcb2.fmS fZ fun b h1 h2 => by simp only [np, nq] at h1; omega).mono fun b _ h => by simp only [np, nq] at h; omega⟩, fF⟩
  simp (disch := first | omega | exact ti rfl | (simp only [np, nq]; first | done | omega)) only [go_sem, reduceAdd, reduceMul, reduceSub, reduceLeDiff, reduceEqDiff, reduceShiftRight, reduceAnd])
theorem zhu (hC : qav C) {L : List (List Nat)} {n : Nat} {v : AV} : ∀ (d k : Nat), 10 + d ≤ k → zfn C L n v k d := by
 intro d
 induction d with
 | zero =>
  intro k hk i dep neg H hd hi hv hA
  obtain ⟨j, rfl⟩ : ∃ j, k = j + 1 := ⟨k - 1, by omega⟩
  rw [(hC j).zAk]
  unfold zAk zb9
  have hnL : n < L.length := Nat.lt_of_lt_of_le hA.lt (Nat.min_le_left _ _)
  have fX : Fm No H (qal (qal H (qaa 0 [v])) (qaa 0 [.int .u8 (.ofNat 0), .str 0 0, .str 0 0, .nilsl])) := by (repeat (first | exact Fm.refl _ _ | assumption | refine Fm.push ?_ _ | refine Fm.up2 ?_ (by (first | omega | (simp only [np, nq]; omega))) | refine Fm.put_new ?_ _ _ (by (first | omega | (simp only [np, nq]; omega)))))
  obtain ⟨b, o, w, e1, e2, e3, e4⟩ := (hv.fm fX).at hnL
  have el := e4.len
  rw [show (u8s L[n]).length = L[n].length by simp [u8s]] at el
  have h3 : 6 < dep := by omega
  have hru : qa3 L n 0 i neg = (qjm neg, i) := rfl
  rw [hru]
  by_cases h1 : L[n].length ≤ i
  ·simp (disch := first | omega | exact ti rfl | (simp only [np, nq]; first | done | omega)) only [go_sem, reduceAdd, reduceMul, reduceSub, reduceLeDiff, reduceEqDiff, reduceShiftRight, reduceAnd, e1, e3, el, h1]
   refine Ok.ve (qgh hC (k := j) (by omega) neg _) ?_
   rintro _ H3 ⟨rfl, f3⟩
   obtain ⟨lk, lr, lt, el, ev⟩ := qgi neg
   rw [ev]
   have k3 : H3.get (H.nx + 1) = qaa 0 [.int .u8 (.ofNat 0), .str 0 0, .str 0 0, .nilsl] := (f3.keep (by (first | omega | (simp only [np, nq]; omega)))).trans (by simp (disch := first | omega | exact ti rfl | (simp only [np, nq]; first | done | omega)) only [go_sem, reduceAdd, reduceMul, reduceSub, reduceLeDiff, reduceEqDiff, reduceShiftRight, reduceAnd])
   have n3 := f3.nx
   simp only [np] at n3
   simp (disch := first | omega | exact ti rfl | (simp only [np, nq]; first | done | omega)) only [go_sem, reduceAdd, reduceMul, reduceSub, reduceLeDiff, reduceEqDiff, reduceShiftRight, reduceAnd, k3]
   exact Ok.ret ⟨_, rfl, by rw [el]; rfl, (fX.trans f3).put_new _ _ (by omega)⟩
  ·by_cases h2 : 12 ≤ i
   ·simp (disch := first | omega | exact ti rfl | (simp only [np, nq]; first | done | omega)) only [go_sem, reduceAdd, reduceMul, reduceSub, reduceLeDiff, reduceEqDiff, reduceShiftRight, reduceAnd, e1, e3, el, h1, h2]
    refine Ok.ve (qgh hC (k := j) (by omega) neg _) ?_
    rintro _ H3 ⟨rfl, f3⟩
    obtain ⟨lk, lr, lt, el, ev⟩ := qgi neg
    rw [ev]
    have k3 : H3.get (H.nx + 1) = qaa 0 [.int .u8 (.ofNat 0), .str 0 0, .str 0 0, .nilsl] := (f3.keep (by (first | omega | (simp only [np, nq]; omega)))).trans (by simp (disch := first | omega | exact ti rfl | (simp only [np, nq]; first | done | omega)) only [go_sem, reduceAdd, reduceMul, reduceSub, reduceLeDiff, reduceEqDiff, reduceShiftRight, reduceAnd])
    have n3 := f3.nx
    simp only [np] at n3
    simp (disch := first | omega | exact ti rfl | (simp only [np, nq]; first | done | omega)) only [go_sem, reduceAdd, reduceMul, reduceSub, reduceLeDiff, reduceEqDiff, reduceShiftRight, reduceAnd, k3]
    exact Ok.ret ⟨_, rfl, by rw [el]; rfl, (fX.trans f3).put_new _ _ (by omega)⟩
   ·simp (disch := first | omega | exact ti rfl | (simp only [np, nq]; first | done | omega)) only [go_sem, reduceAdd, reduceMul, reduceSub, reduceLeDiff, reduceEqDiff, reduceShiftRight, reduceAnd, e1, e3, el, h1, h2, h3]
    refine Ok.ve (qgh hC (k := j) (by omega) neg _) ?_
    rintro _ H3 ⟨rfl, f3⟩
    obtain ⟨lk, lr, lt, el, ev⟩ := qgi neg
    rw [ev]
    have k3 : H3.get (H.nx + 1) = qaa 0 [.int .u8 (.ofNat 0), .str 0 0, .str 0 0, .nilsl] := (f3.keep (by (first | omega | (simp only [np, nq]; omega)))).trans (by simp (disch := first | omega | exact ti rfl | (simp only [np, nq]; first | done | omega)) only [go_sem, reduceAdd, reduceMul, reduceSub, reduceLeDiff, reduceEqDiff, reduceShiftRight, reduceAnd])
    have n3 := f3.nx
    simp only [np] at n3
    simp (disch := first | omega | exact ti rfl | (simp only [np, nq]; first | done | omega)) only [go_sem, reduceAdd, reduceMul, reduceSub, reduceLeDiff, reduceEqDiff, reduceShiftRight, reduceAnd, k3]
    exact Ok.ret ⟨_, rfl, by rw [el]; rfl, (fX.trans f3).put_new _ _ (by omega)⟩
 | succ d ih =>
  intro k hk i dep neg H hd hi hv hA
  obtain ⟨j, rfl⟩ : ∃ j, k = j + 1 := ⟨k - 1, by omega⟩
  rw [(hC j).zAk]
  unfold zAk zb9
  have hnL : n < L.length := Nat.lt_of_lt_of_le hA.lt (Nat.min_le_left _ _)
  have hn12 : n < 12 := Nat.lt_of_lt_of_le hA.lt hA.le
  have fX : Fm No H (qal (qal H (qaa 0 [v])) (qaa 0 [.int .u8 (.ofNat 0), .str 0 0, .str 0 0, .nilsl])) := by (repeat (first | exact Fm.refl _ _ | assumption | refine Fm.push ?_ _ | refine Fm.up2 ?_ (by (first | omega | (simp only [np, nq]; omega))) | refine Fm.put_new ?_ _ _ (by (first | omega | (simp only [np, nq]; omega)))))
  have hvX := hv.fm fX
  have hcbX : qg4 (qal (qal H (qaa 0 [v])) (qaa 0 [.int .u8 (.ofNat 0), .str 0 0, .str 0 0, .nilsl])) H.nx v := ⟨by (first | omega | (simp only [np, nq]; omega)), by simp (disch := first | omega | exact ti rfl | (simp only [np, nq]; first | done | omega)) only [go_sem, reduceAdd, reduceMul, reduceSub, reduceLeDiff, reduceEqDiff, reduceShiftRight, reduceAnd]⟩
  have hrX : (qal (qal H (qaa 0 [v])) (qaa 0 [.int .u8 (.ofNat 0), .str 0 0, .str 0 0, .nilsl])).get (H.nx + 1) = qaa 0 [.int .u8 (.ofNat 0), .str 0 0, .str 0 0, .nilsl] := by simp (disch := first | omega | exact ti rfl | (simp only [np, nq]; first | done | omega)) only [go_sem, reduceAdd, reduceMul, reduceSub, reduceLeDiff, reduceEqDiff, reduceShiftRight, reduceAnd]
  obtain ⟨b, o, w, e1, e2, e3, e4⟩ := hvX.at hnL
  have el := e4.len
  rw [show (u8s L[n]).length = L[n].length by simp [u8s]] at el
  have hnd : L.getD n [] = L[n] := by rw [List.getD_eq_getElem?_getD, List.getElem?_eq_getElem hnL]; rfl
  have h3 : ¬ 6 < dep := by omega
  by_cases hs : L[n].length ≤ i ∨ 12 ≤ i
  ·have hru : qa3 L n (d + 1) i neg = (qjm neg, i) := by unfold qa3; rw [hnd, if_pos hs]
   rw [hru]
   by_cases h1 : L[n].length ≤ i
   ·simp (disch := first | omega | exact ti rfl | (simp only [np, nq]; first | done | omega)) only [go_sem, reduceAdd, reduceMul, reduceSub, reduceLeDiff, reduceEqDiff, reduceShiftRight, reduceAnd, e1, e3, el, h1]
    refine Ok.ve (qgh hC (k := j) (by omega) neg _) ?_
    rintro _ H3 ⟨rfl, f3⟩
    obtain ⟨lk, lr, lt, el, ev⟩ := qgi neg
    rw [ev]
    have k3 : H3.get (H.nx + 1) = qaa 0 [.int .u8 (.ofNat 0), .str 0 0, .str 0 0, .nilsl] := (f3.keep (by (first | omega | (simp only [np, nq]; omega)))).trans (by simp (disch := first | omega | exact ti rfl | (simp only [np, nq]; first | done | omega)) only [go_sem, reduceAdd, reduceMul, reduceSub, reduceLeDiff, reduceEqDiff, reduceShiftRight, reduceAnd])
    have n3 := f3.nx
    simp only [np] at n3
    simp (disch := first | omega | exact ti rfl | (simp only [np, nq]; first | done | omega)) only [go_sem, reduceAdd, reduceMul, reduceSub, reduceLeDiff, reduceEqDiff, reduceShiftRight, reduceAnd, k3]
    exact Ok.ret ⟨_, rfl, by rw [el]; rfl, (fX.trans f3).put_new _ _ (by omega)⟩
   ·have h2 : 12 ≤ i := by omega
    simp (disch := first | omega | exact ti rfl | (simp only [np, nq]; first | done | omega)) only [go_sem, reduceAdd, reduceMul, reduceSub, reduceLeDiff, reduceEqDiff, reduceShiftRight, reduceAnd, e1, e3, el, h1, h2]
    refine Ok.ve (qgh hC (k := j) (by omega) neg _) ?_
    rintro _ H3 ⟨rfl, f3⟩
    obtain ⟨lk, lr, lt, el, ev⟩ := qgi neg
    rw [ev]
    have k3 : H3.get (H.nx + 1) = qaa 0 [.int .u8 (.ofNat 0), .str 0 0, .str 0 0, .nilsl] := (f3.keep (by (first | omega | (simp only [np, nq]; omega)))).trans (by simp (disch := first | omega | exact ti rfl | (simp only [np, nq]; first | done | omega)) only [go_sem, reduceAdd, reduceMul, reduceSub, reduceLeDiff, reduceEqDiff, reduceShiftRight, reduceAnd])
    have n3 := f3.nx
    simp only [np] at n3
    simp (disch := first | omega | exact ti rfl | (simp only [np, nq]; first | done | omega)) only [go_sem, reduceAdd, reduceMul, reduceSub, reduceLeDiff, reduceEqDiff, reduceShiftRight, reduceAnd, k3]
    exact Ok.ret ⟨_, rfl, by rw [el]; rfl, (fX.trans f3).put_new _ _ (by omega)⟩
  ·have h1 : ¬ L[n].length ≤ i := by omega
   have h2 : ¬ 12 ≤ i := by omega
   have hil : i < L[n].length := by omega
   obtain ⟨b1, o1, g1, g2, g3⟩ := e4.at' i (by simp [u8s]; omega)
   have hwv : (u8s L[n])[i]'(by simp [u8s]; omega) = .int .u8 (.ofNat (qa4 L n i)) := by
    unfold qa4
    rw [hnd, List.getD_eq_getElem?_getD, List.getElem?_eq_getElem hil]
    simp [u8s]
   rw [hwv] at g3
   have hc := qrx hv n i
   simp (disch := first | omega | exact ti rfl | (simp only [np, nq]; first | done | omega)) only [go_sem, reduceAdd, reduceMul, reduceSub, reduceLeDiff, reduceEqDiff, reduceShiftRight, reduceAnd, e1, e3, el, h1, h2, h3]
   unfold qwj
   have h8 : qa4 L n i % 8 = 0 ∨ qa4 L n i % 8 = 1 ∨ qa4 L n i % 8 = 2 ∨ qa4 L n i % 8 = 3 ∨ qa4 L n i % 8 = 4 ∨ qa4 L n i % 8 = 5 ∨ qa4 L n i % 8 = 6 ∨ qa4 L n i % 8 = 7 := by omega
   rcases h8 with h | h | h | h | h | h | h | h
   ·have hru : qa3 L n (d + 1) i neg = (qjm neg, i + 1) := by unfold qa3; rw [hnd, if_neg hs, if_pos (by omega)]
    rw [hru]
    simp (disch := first | omega | exact ti rfl | (simp only [np, nq]; first | done | omega)) only [go_sem, reduceAdd, reduceMul, reduceSub, reduceLeDiff, reduceEqDiff, reduceShiftRight, reduceAnd, e1, e3, g1, g3, h]
    unfold qdd
    simp (disch := first | omega | exact ti rfl | (simp only [np, nq]; first | done | omega)) only [go_sem, reduceAdd, reduceMul, reduceSub, reduceLeDiff, reduceEqDiff, reduceShiftRight, reduceAnd]
    refine Ok.ve (qgh hC (k := j) (by omega) neg _) ?_
    rintro _ H3 ⟨rfl, f3⟩
    obtain ⟨lk, lr, lt, el, ev⟩ := qgi neg
    rw [ev]
    have k3 : H3.get (H.nx + 1) = qaa 0 [.int .u8 (.ofNat 0), .str 0 0, .str 0 0, .nilsl] := (f3.keep (by (first | omega | (simp only [np, nq]; omega)))).trans (by simp (disch := first | omega | exact ti rfl | (simp only [np, nq]; first | done | omega)) only [go_sem, reduceAdd, reduceMul, reduceSub, reduceLeDiff, reduceEqDiff, reduceShiftRight, reduceAnd])
    have n3 := f3.nx
    simp only [np] at n3
    simp (disch := first | omega | exact ti rfl | (simp only [np, nq]; first | done | omega)) only [go_sem, reduceAdd, reduceMul, reduceSub, reduceLeDiff, reduceEqDiff, reduceShiftRight, reduceAnd, k3]
    exact Ok.ret ⟨_, rfl, by rw [el]; rfl, (fX.trans f3).put_new _ _ (by omega)⟩
   ·have hru : qa3 L n (d + 1) i neg = (qjm neg, i + 1) := by unfold qa3; rw [hnd, if_neg hs, if_pos (by omega)]
    rw [hru]
    simp (disch := first | omega | exact ti rfl | (simp only [np, nq]; first | done | omega)) only [go_sem, reduceAdd, reduceMul, reduceSub, reduceLeDiff, reduceEqDiff, reduceShiftRight, reduceAnd, e1, e3, g1, g3, h]
    unfold qdd
    simp (disch := first | omega | exact ti rfl | (simp only [np, nq]; first | done | omega)) only [go_sem, reduceAdd, reduceMul, reduceSub, reduceLeDiff, reduceEqDiff, reduceShiftRight, reduceAnd]
    refine Ok.ve (qgh hC (k := j) (by omega) neg _) ?_
    rintro _ H3 ⟨rfl, f3⟩
    obtain ⟨lk, lr, lt, el, ev⟩ := qgi neg
    rw [ev]
    have k3 : H3.get (H.nx + 1) = qaa 0 [.int .u8 (.ofNat 0), .str 0 0, .str 0 0, .nilsl] := (f3.keep (by (first | omega | (simp only [np, nq]; omega)))).trans (by simp (disch := first | omega | exact ti rfl | (simp only [np, nq]; first | done | omega)) only [go_sem, reduceAdd, reduceMul, reduceSub, reduceLeDiff, reduceEqDiff, reduceShiftRight, reduceAnd])
    have n3 := f3.nx
    simp only [np] at n3
    simp (disch := first | omega | exact ti rfl | (simp only [np, nq]; first | done | omega)) only [go_sem, reduceAdd, reduceMul, reduceSub, reduceLeDiff, reduceEqDiff, reduceShiftRight, reduceAnd, k3]
    exact Ok.ret ⟨_, rfl, by rw [el]; rfl, (fX.trans f3).put_new _ _ (by omega)⟩
   ·have hru : qa3 L n (d + 1) i neg = (cmpR L n (qa4 L n i / 8) neg, i + 1) := by unfold qa3; rw [hnd, if_neg hs, if_neg (by omega), if_pos (by omega)]
    rw [hru]
    simp (disch := first | omega | exact ti rfl | (simp only [np, nq]; first | done | omega)) only [go_sem, reduceAdd, reduceMul, reduceSub, reduceLeDiff, reduceEqDiff, reduceShiftRight, reduceAnd, e1, e3, g1, g3, h]
    unfold qdd
    simp (disch := first | omega | exact ti rfl | (simp only [np, nq]; first | done | omega)) only [go_sem, reduceAdd, reduceMul, reduceSub, reduceLeDiff, reduceEqDiff, reduceShiftRight, reduceAnd, h]
    unfold qea
    have c1 := hcbX.is
    simp (disch := first | omega | exact ti rfl | (simp only [np, nq]; first | done | omega)) only [go_sem, reduceAdd, reduceMul, reduceSub, reduceLeDiff, reduceEqDiff, reduceShiftRight, reduceAnd, c1]
    refine Ok.ve (qm4 hC (k := j) (by omega) hvX hA (by omega)) ?_
    rintro _ H3 ⟨rfl, f3⟩
    obtain ⟨lk, lr, lt, el, ev⟩ := (⟨2, (cmpL (qaq L) n neg).getD (qa4 L n i / 8 % (cmpL (qaq L) n neg).length) sE, sE, rfl, rfl⟩ : ∃ k rl to, cmpR L n (qa4 L n i / 8) neg = .leaf k rl to ∧ ruV 2 ((cmpL (qaq L) n neg).getD (qa4 L n i / 8 % (cmpL (qaq L) n neg).length) sE) sE .nilsl = .agg [.int .u8 (.ofNat k), .str rl.n rl.a, .str to.n to.a, .nilsl])
    rw [ev]
    have k3 : H3.get (H.nx + 1) = qaa 0 [.int .u8 (.ofNat 0), .str 0 0, .str 0 0, .nilsl] := (f3.keep (by (first | omega | (simp only [np, nq]; omega)))).trans (by simp (disch := first | omega | exact ti rfl | (simp only [np, nq]; first | done | omega)) only [go_sem, reduceAdd, reduceMul, reduceSub, reduceLeDiff, reduceEqDiff, reduceShiftRight, reduceAnd])
    have n3 := f3.nx
    simp only [np] at n3
    simp (disch := first | omega | exact ti rfl | (simp only [np, nq]; first | done | omega)) only [go_sem, reduceAdd, reduceMul, reduceSub, reduceLeDiff, reduceEqDiff, reduceShiftRight, reduceAnd, k3]
    exact Ok.ret ⟨_, rfl, by rw [el]; rfl, (fX.trans f3).put_new _ _ (by omega)⟩
   ·have hru : qa3 L n (d + 1) i neg = (cmpR L n (qa4 L n i / 8) neg, i + 1) := by unfold qa3; rw [hnd, if_neg hs, if_neg (by omega), if_pos (by omega)]
    rw [hru]
    simp (disch := first | omega | exact ti rfl | (simp only [np, nq]; first | done | omega)) only [go_sem, reduceAdd, reduceMul, reduceSub, reduceLeDiff, reduceEqDiff, reduceShiftRight, reduceAnd, e1, e3, g1, g3, h]
    unfold qdd
    simp (disch := first | omega | exact ti rfl | (simp only [np, nq]; first | done | omega)) only [go_sem, reduceAdd, reduceMul, reduceSub, reduceLeDiff, reduceEqDiff, reduceShiftRight, reduceAnd, h]
    unfold qea
    have c1 := hcbX.is
    simp (disch := first | omega | exact ti rfl | (simp only [np, nq]; first | done | omega)) only [go_sem, reduceAdd, reduceMul, reduceSub, reduceLeDiff, reduceEqDiff, reduceShiftRight, reduceAnd, c1]
    refine Ok.ve (qm4 hC (k := j) (by omega) hvX hA (by omega)) ?_
    rintro _ H3 ⟨rfl, f3⟩
    obtain ⟨lk, lr, lt, el, ev⟩ := (⟨2, (cmpL (qaq L) n neg).getD (qa4 L n i / 8 % (cmpL (qaq L) n neg).length) sE, sE, rfl, rfl⟩ : ∃ k rl to, cmpR L n (qa4 L n i / 8) neg = .leaf k rl to ∧ ruV 2 ((cmpL (qaq L) n neg).getD (qa4 L n i / 8 % (cmpL (qaq L) n neg).length) sE) sE .nilsl = .agg [.int .u8 (.ofNat k), .str rl.n rl.a, .str to.n to.a, .nilsl])
    rw [ev]
    have k3 : H3.get (H.nx + 1) = qaa 0 [.int .u8 (.ofNat 0), .str 0 0, .str 0 0, .nilsl] := (f3.keep (by (first | omega | (simp only [np, nq]; omega)))).trans (by simp (disch := first | omega | exact ti rfl | (simp only [np, nq]; first | done | omega)) only [go_sem, reduceAdd, reduceMul, reduceSub, reduceLeDiff, reduceEqDiff, reduceShiftRight, reduceAnd])
    have n3 := f3.nx
    simp only [np] at n3
    simp (disch := first | omega | exact ti rfl | (simp only [np, nq]; first | done | omega)) only [go_sem, reduceAdd, reduceMul, reduceSub, reduceLeDiff, reduceEqDiff, reduceShiftRight, reduceAnd, k3]
    exact Ok.ret ⟨_, rfl, by rw [el]; rfl, (fX.trans f3).put_new _ _ (by omega)⟩
   ·have hru : qa3 L n (d + 1) i neg = (arrR L n (qa4 L n i / 8) neg, i + 1) := by unfold qa3; rw [hnd, if_neg hs, if_neg (by omega), if_neg (by omega), if_pos h]
    rw [hru]
    simp (disch := first | omega | exact ti rfl | (simp only [np, nq]; first | done | omega)) only [go_sem, reduceAdd, reduceMul, reduceSub, reduceLeDiff, reduceEqDiff, reduceShiftRight, reduceAnd, e1, e3, g1, g3, h]
    unfold qdd
    simp (disch := first | omega | exact ti rfl | (simp only [np, nq]; first | done | omega)) only [go_sem, reduceAdd, reduceMul, reduceSub, reduceLeDiff, reduceEqDiff, reduceShiftRight, reduceAnd]
    unfold qea
    have c1 := hcbX.is
    simp (disch := first | omega | exact ti rfl | (simp only [np, nq]; first | done | omega)) only [go_sem, reduceAdd, reduceMul, reduceSub, reduceLeDiff, reduceEqDiff, reduceShiftRight, reduceAnd, c1]
    refine Ok.ve (zeq hC (k := j) (by omega) hvX (by omega) (by omega)) ?_
    rintro _ H3 ⟨rfl, f3⟩
    obtain ⟨lk, lr, lt, el, ev⟩ := zmo L n (qa4 L n i / 8) neg
    rw [ev]
    have k3 : H3.get (H.nx + 1) = qaa 0 [.int .u8 (.ofNat 0), .str 0 0, .str 0 0, .nilsl] := (f3.keep (by (first | omega | (simp only [np, nq]; omega)))).trans (by simp (disch := first | omega | exact ti rfl | (simp only [np, nq]; first | done | omega)) only [go_sem, reduceAdd, reduceMul, reduceSub, reduceLeDiff, reduceEqDiff, reduceShiftRight, reduceAnd])
    have n3 := f3.nx
    simp only [np] at n3
    simp (disch := first | omega | exact ti rfl | (simp only [np, nq]; first | done | omega)) only [go_sem, reduceAdd, reduceMul, reduceSub, reduceLeDiff, reduceEqDiff, reduceShiftRight, reduceAnd, k3]
    exact Ok.ret ⟨_, rfl, by rw [el]; rfl, (fX.trans f3).put_new _ _ (by omega)⟩
   ·have hkd : qij n (qa4 L n i) = 4 := by unfold qij; rw [if_neg (by omega), if_neg (by omega)]
    have hA2 : At (qaq L) n (neg || decide (4 = 6)) := by simpa using hA
    have hru : qa3 L n (d + 1) i neg = (.node 4 (qa3 L n d (i + 1) neg).1 (qa3 L n d (qa3 L n d (i + 1) neg).2 (neg || decide (4 = 6))).1, (qa3 L n d (qa3 L n d (i + 1) neg).2 (neg || decide (4 = 6))).2) := by
     show qa3 L n (d + 1) i neg = _
     rw [qa3, hnd, if_neg hs, if_neg (by omega), if_neg (by omega), if_neg (by omega), hkd]
    rw [hru]
    simp (disch := first | omega | exact ti rfl | (simp only [np, nq]; first | done | omega)) only [go_sem, reduceAdd, reduceMul, reduceSub, reduceLeDiff, reduceEqDiff, reduceShiftRight, reduceAnd, e1, e3, g1, g3, h]
    unfold qdd
    simp (disch := first | omega | exact ti rfl | (simp only [np, nq]; first | done | omega)) only [go_sem, reduceAdd, reduceMul, reduceSub, reduceLeDiff, reduceEqDiff, reduceShiftRight, reduceAnd]
    unfold qea
    simp (disch := first | omega | exact ti rfl | (simp only [np, nq]; first | done | omega)) only [go_sem, reduceAdd, reduceMul, reduceSub, reduceLeDiff, reduceEqDiff, reduceShiftRight, reduceAnd]
    exact qkl (ih j (by omega)) (by omega) (by omega) hvX hA hA2 hcbX fX (by omega) (by (first | omega | (simp only [np, nq]; omega))) hrX (by omega)
   ·have hkd : qij n (qa4 L n i) = 5 := by unfold qij; rw [if_pos h]
    have hA2 : At (qaq L) n (neg || decide (5 = 6)) := by simpa using hA
    have hru : qa3 L n (d + 1) i neg = (.node 5 (qa3 L n d (i + 1) neg).1 (qa3 L n d (qa3 L n d (i + 1) neg).2 (neg || decide (5 = 6))).1, (qa3 L n d (qa3 L n d (i + 1) neg).2 (neg || decide (5 = 6))).2) := by
     show qa3 L n (d + 1) i neg = _
     rw [qa3, hnd, if_neg hs, if_neg (by omega), if_neg (by omega), if_neg (by omega), hkd]
    rw [hru]
    simp (disch := first | omega | exact ti rfl | (simp only [np, nq]; first | done | omega)) only [go_sem, reduceAdd, reduceMul, reduceSub, reduceLeDiff, reduceEqDiff, reduceShiftRight, reduceAnd, e1, e3, g1, g3, h]
    unfold qdd
    simp (disch := first | omega | exact ti rfl | (simp only [np, nq]; first | done | omega)) only [go_sem, reduceAdd, reduceMul, reduceSub, reduceLeDiff, reduceEqDiff, reduceShiftRight, reduceAnd]
    unfold qea
    simp (disch := first | omega | exact ti rfl | (simp only [np, nq]; first | done | omega)) only [go_sem, reduceAdd, reduceMul, reduceSub, reduceLeDiff, reduceEqDiff, reduceShiftRight, reduceAnd]
    exact qkl (ih j (by omega)) (by omega) (by omega) hvX hA hA2 hcbX fX (by omega) (by (first | omega | (simp only [np, nq]; omega))) hrX (by omega)
   ·by_cases hup : 0 < lvl n
    ·have hkd : qij n (qa4 L n i) = 6 := by unfold qij; rw [if_neg (by omega), if_pos ⟨h, hup⟩]
     have hA2 : At (qaq L) n (neg || decide (6 = 6)) := ⟨hA.lt, hA.le, fun _ => hup⟩
     have hru : qa3 L n (d + 1) i neg = (.node 6 (qa3 L n d (i + 1) neg).1 (qa3 L n d (qa3 L n d (i + 1) neg).2 (neg || decide (6 = 6))).1, (qa3 L n d (qa3 L n d (i + 1) neg).2 (neg || decide (6 = 6))).2) := by
      show qa3 L n (d + 1) i neg = _
      rw [qa3, hnd, if_neg hs, if_neg (by omega), if_neg (by omega), if_neg (by omega), hkd]
     rw [hru]
     simp (disch := first | omega | exact ti rfl | (simp only [np, nq]; first | done | omega)) only [go_sem, reduceAdd, reduceMul, reduceSub, reduceLeDiff, reduceEqDiff, reduceShiftRight, reduceAnd, e1, e3, g1, g3, h]
     unfold qdd
     simp (disch := first | omega | exact ti rfl | (simp only [np, nq]; first | done | omega)) only [go_sem, reduceAdd, reduceMul, reduceSub, reduceLeDiff, reduceEqDiff, reduceShiftRight, reduceAnd]
     unfold qea
     simp (disch := first | omega | exact ti rfl | (simp only [np, nq]; first | done | omega)) only [go_sem, reduceAdd, reduceMul, reduceSub, reduceLeDiff, reduceEqDiff, reduceShiftRight, reduceAnd]
     refine Ok.ve (qd3 hC (k := j) (by omega) n (by omega) _) ?_
     rintro _ H3 ⟨rfl, f3⟩
     have r3 : H3.get (H.nx + 1) = qaa 0 [.int .u8 (.ofNat 0), .str 0 0, .str 0 0, .nilsl] := (f3.keep (by (first | omega | (simp only [np, nq]; omega)))).trans hrX
     have n3 := f3.nx
     simp only [np] at n3
     simp (disch := first | omega | exact ti rfl | (simp only [np, nq]; first | done | omega)) only [go_sem, reduceAdd, reduceMul, reduceSub, reduceLeDiff, reduceEqDiff, reduceShiftRight, reduceAnd, hup]
     exact qkl (ih j (by omega)) (by omega) (by omega) (hvX.fm f3) hA hA2 (hcbX.fm f3) (fX.trans f3) (by omega) (by (first | omega | (simp only [np, nq]; omega))) r3 (by omega)
    ·have hkd : qij n (qa4 L n i) = 4 := by unfold qij; rw [if_neg (by omega), if_neg (fun h => hup h.2)]
     have hA2 : At (qaq L) n (neg || decide (4 = 6)) := by simpa using hA
     have hru : qa3 L n (d + 1) i neg = (.node 4 (qa3 L n d (i + 1) neg).1 (qa3 L n d (qa3 L n d (i + 1) neg).2 (neg || decide (4 = 6))).1, (qa3 L n d (qa3 L n d (i + 1) neg).2 (neg || decide (4 = 6))).2) := by
      show qa3 L n (d + 1) i neg = _
      rw [qa3, hnd, if_neg hs, if_neg (by omega), if_neg (by omega), if_neg (by omega), hkd]
     rw [hru]
     simp (disch := first | omega | exact ti rfl | (simp only [np, nq]; first | done | omega)) only [go_sem, reduceAdd, reduceMul, reduceSub, reduceLeDiff, reduceEqDiff, reduceShiftRight, reduceAnd, e1, e3, g1, g3, h]
     unfold qdd
     simp (disch := first | omega | exact ti rfl | (simp only [np, nq]; first | done | omega)) only [go_sem, reduceAdd, reduceMul, reduceSub, reduceLeDiff, reduceEqDiff, reduceShiftRight, reduceAnd]
     unfold qea
     simp (disch := first | omega | exact ti rfl | (simp only [np, nq]; first | done | omega)) only [go_sem, reduceAdd, reduceMul, reduceSub, reduceLeDiff, reduceEqDiff, reduceShiftRight, reduceAnd]
     refine Ok.ve (qd3 hC (k := j) (by omega) n (by omega) _) ?_
     rintro _ H3 ⟨rfl, f3⟩
     have r3 : H3.get (H.nx + 1) = qaa 0 [.int .u8 (.ofNat 0), .str 0 0, .str 0 0, .nilsl] := (f3.keep (by (first | omega | (simp only [np, nq]; omega)))).trans hrX
     have n3 := f3.nx
     simp only [np] at n3
     simp (disch := first | omega | exact ti rfl | (simp only [np, nq]; first | done | omega)) only [go_sem, reduceAdd, reduceMul, reduceSub, reduceLeDiff, reduceEqDiff, reduceShiftRight, reduceAnd, hup]
     exact qkl (ih j (by omega)) (by omega) (by omega) (hvX.fm f3) hA hA2 (hcbX.fm f3) (fX.trans f3) (by omega) (by (first | omega | (simp only [np, nq]; omega))) r3 (by omega)
end Go.Di
end
section
namespace Go.Di
open Go.Ev
variable {C : Nat → Ev.Call}
theorem RuC.flat {P : Nat → Prop} {H : Hp} : ∀ {r : Ru} {cs : List AV}, RuC P H r cs → cs.all qim = true
 | .leaf _ _ _, _, h => by rw [show _ = _ from h]; rfl
 | .node _ _ _, _, ⟨_, _, _, h1, _⟩ => by rw [h1]; rfl
structure Nd where
 k : Nat
 rl : SS
 to : SS
 neg : Bool
 deriving DecidableEq
def ndC (x : Nd × AV) : List AV := [.int .u8 (.ofNat x.1.k), x.1.rl.v, x.1.to.v, x.2, .bool x.1.neg]
theorem qcm (x : Nd × AV) : (ndC x).length = 5 := rfl
def Ru.nodes : Ru → Bool → List Nd
 | .leaf k rl to, neg => [⟨k, rl, to, neg⟩]
 | .node k a b, neg => ⟨k, sE, sE, neg⟩ :: (a.nodes neg ++ b.nodes (neg || decide (k = 6)))
def Ru.size : Ru → Nat
 | .leaf _ _ _ => 1
 | .node _ a b => a.size + b.size + 1
def Ru.depth : Ru → Nat
 | .leaf _ _ _ => 1
 | .node _ a b => max a.depth b.depth + 1
theorem qbx : ∀ (r : Ru) (neg : Bool), (r.nodes neg).length = r.size
 | .leaf _ _ _, _ => rfl
 | .node _ a b, neg => by
  unfold Ru.nodes Ru.size
  rw [List.length_cons, List.length_append, qbx a, qbx b]
theorem q66 (L : List AV) (o i : Nat) (x : AV) (h : o + i < L.length) : (setL L (o + i) [x]).drop o = setL (L.drop o) i [x] := by
 unfold setL
 simp only [List.length_cons, List.length_nil, Nat.zero_add, List.append_assoc]
 rw [List.drop_append_of_le_length (by simp; omega), List.drop_take, Nat.add_sub_cancel_left, List.drop_drop]
 congr 3
theorem Gl.set1 {z n : Nat} {H : Hp} {v : AV} {l : List AV} (h : Gl z H v n l) {i j : Nat} (hi : i < n) (hj : j < z) (x : AV) :
  ∃ b o H', idxS z v (.int .i64 (.ofNat i)) = .val (.ptr b o) ∧ storeAt H b (o + j) [x] .undef = .ok .undef H' ∧ Gl z H' v n (setL l (i * z + j) [x]) ∧ Fm (In v) H H' ∧ H'.nx = H.nx := by
 have hl := h.len
 rcases h.is with ⟨rfl, rfl⟩ | ⟨b, o, e, q, L, rfl, h1, h2, h3, h4, h5⟩
 ·omega
 ·have hm : i * z + z ≤ n * z := by
   have : (i + 1) * z ≤ n * z := Nat.mul_le_mul_right z hi
   rw [Nat.add_mul, Nat.one_mul] at this; exact this
  have hL : o + n * z = L.length := by rw [← h3, List.length_drop] at hl; omega
  have hs : o + i * z + j + [x].length ≤ L.length := by simp; omega
  have hb : i * z + j + [x].length ≤ l.length := by rw [hl]; simp; omega
  refine ⟨b, o + i * z, _, qg8 _ _ _ _ _ _ _ _ hi, qjd H b _ [x] _ q L h1 hs, ⟨?_, .inr ⟨b, o, e, q, _, rfl, qam _ _ _, ?_, ?_, h4, h5⟩⟩, (Fm.refl _ _).put b _ fun _ => ⟨_, _, _, _, rfl⟩, rfl⟩
  ·rw [qfm _ _ _ hb, hl]
  ·rw [qfm _ _ _ hs]; exact h2
  ·rw [Nat.add_assoc, q66 _ _ _ _ (by omega), h3]
theorem q72 (a : AV) : ∀ (l : List (Nd × AV)) (i : Nat) (h : i < l.length), setL (l.flatMap ndC) (i * 5 + 3) [a] = (l.set i (l[i].1, a)).flatMap ndC
 | [], _, h => by simp at h
 | x :: l, 0, _ => by simp [setL, ndC]
 | x :: l, i + 1, h => by
  have := q72 a l i (by simpa using h)
  rw [List.set_cons_succ, List.flatMap_cons, List.flatMap_cons, List.getElem_cons_succ, ← this]
  unfold setL
  have e : (i + 1) * 5 + 3 = (ndC x).length + (i * 5 + 3) := by rw [qcm]; omega
  rw [e, List.take_length_add_append, List.append_assoc, List.append_assoc]
  congr 1
  rw [List.append_assoc]
  congr 2
  rw [Nat.add_assoc, List.drop_length_add_append]
theorem AcS.comp {α : Type} {z : Nat} {f : α → List AV} {S : Nat → Prop} {H0 H H' : Hp} {v v' : AV} {l l' : List α} (h : AcS z f S H0 H v l) (h' : AcS z f (In v) H H' v' l') : AcS z f S H0 H' v' l' :=
 ⟨h'.gl, h.fm.then h'.fm fun c hc hi => by
  rcases h.nw c hi with h1 | h1
  ·exact h1
  ·omega, fun b hb => by
  rcases h'.nw b hb with h1 | h1
  ·exact h.nw b h1
  ·exact .inr (Nat.le_trans h.fm.nx h1)⟩
end Go.Di
end
section
namespace Go.Di
open Go.Ev
variable {C : Nat → Ev.Call}
def zad (C : Nat → Ev.Call) (r : Ru) (k : Nat) : Prop :=
 ∀ (v : AV) (neg : Bool) (H : Hp) {l : List (Nd × AV)} {cs : List AV} {P : Nat → Prop}, Gl 5 H v l.length (l.flatMap ndC) → RuC P H r cs → (∀ b, P b → ¬ In v b) → l.length + r.size ≤ 1000000 →
  Ok (C k (.f qmt) [v, .agg cs, .bool neg] H) fun w H' => ∃ l', AcS 5 ndC (In v) H H' w l' ∧ l'.map Prod.fst = l.map Prod.fst ++ r.nodes neg
theorem qx7 {l : List (Nd × AV)} {i : Nat} (h : i < l.length) (x : AV) : (l.set i (l[i].1, x)).map Prod.fst = l.map Prod.fst := by
 refine List.ext_getElem (by simp) fun j h1 h2 => ?_
 simp only [List.getElem_map, List.getElem_set]
 split
 ·subst_vars; rfl
 ·rfl
theorem qs8 {call : Ev.Call} {S : Nat → Prop} {H0 H : Hp} {w : AV} {l : List (Nd × AV)} (h : AcS 5 ndC S H0 H w l) {i : Nat} (hi : i < l.length) {x : AV} (hx : x = .nilsl ∨ ∃ b o n m e, x = .sl b o n m e) :
  Ok (qf5 call w (.int .i64 (.ofNat i)) x H) fun r H' => ∃ l', AcS 5 ndC S H0 H' r l' ∧ l'.map Prod.fst = l.map Prod.fst := by
 obtain ⟨b, o, H', e1, e2, g, f, nx⟩ := h.gl.set1 hi (j := 3) (by omega) x
 unfold qf5
 rw [q72 x l i hi] at g
 refine Ok.mono (Q := fun r H2 => r = w ∧ H2 = H') ?_ ?_
 ·rcases hx with rfl | ⟨_, _, _, _, _, rfl⟩ <;> (simp (disch := first | omega | exact ti rfl | (simp only [np, nq]; first | done | omega)) only [go_sem, reduceAdd, reduceMul, reduceSub, reduceLeDiff, reduceEqDiff, reduceShiftRight, reduceAnd, e1, e2]; exact Ok.ret ⟨rfl, rfl⟩)
 ·rintro _ _ ⟨rfl, rfl⟩
  exact ⟨_, ⟨by rw [List.length_set]; exact g, h.fm.then f fun c hc hi => by
   rcases h.nw c hi with h1 | h1
   ·exact h1
   ·omega, h.nw⟩, qx7 hi x⟩
theorem qo0 {j : Nat} {r : Ru} (hR : zad C r j) {g : AV → AV → AV → Hp → R1} {Q : AV → Hp → Prop} {w x : AV} {H : Hp} {l : List (Nd × AV)} {xs ca cb cc : List AV} {a0 bl kd t : Nat} {neg : Bool} {P : Nat → Prop}
  (hw : Gl 5 H w l.length (l.flatMap ndC)) (hx : Gl 1 H x t xs) (ht : t < 2) (hll : l.length + r.size ≤ 1000000)
  (ha : a0 < H.nx) (hb : bl < H.nx) (ka : H.get a0 = qaa 0 [.int .u8 (.ofNat kd), sE.v, sE.v, .sl bl 0 2 2 true]) (kb : H.get bl = qaa 0 (ca ++ cb))
  (hrd : qba (qaa 0 (ca ++ cb)) (t * 4) 4 = some cc) (hrc : RuC P H r cc)
  (d1 : ∀ b, In x b → ¬ In w b) (hda : ¬ In w a0 ∧ ¬ In x a0) (hdb : ¬ In w bl ∧ ¬ In x bl) (dPw : ∀ b, P b → ¬ In w b) (dPx : ∀ b, P b → ¬ In x b)
  (hg : ∀ (w' x' : AV) (H' : Hp) (l' : List (Nd × AV)) (xs' : List AV), Gl 5 H' w' l'.length (l'.flatMap ndC) → (∀ b, In w' b → In w b ∨ H.nx ≤ b) → l'.map Prod.fst = l.map Prod.fst ++ r.nodes (neg || (decide (kd = 6) && decide (t = 1))) →
   Fm (fun b => In w b ∨ In x b) H H' → Gl 1 H' x' (t + 1) xs' → (∀ b, In x' b → H.nx ≤ b ∧ ¬ In w' b) → Ok (g w' x' (.int .i64 (.ofNat (t + 1))) H') Q) :
  Ok (qp2 (C j) g w (.bool neg) (.ptr a0 0) x (.int .i64 (.ofNat t)) H) Q := by
 unfold qp2
 have hl := hw.lenV
 simp (disch := first | omega | exact ti rfl | (simp only [np, nq]; first | done | omega)) only [go_sem, reduceAdd, reduceMul, reduceSub, reduceLeDiff, reduceEqDiff, reduceShiftRight, reduceAnd, hl]
 have fp : Fm No H (qal H (qaa 0 [.int .i64 (.ofNat l.length)])) := by (repeat (first | exact Fm.refl _ _ | assumption | refine Fm.push ?_ _ | refine Fm.up2 ?_ (by (first | omega | (simp only [np, nq]; omega))) | refine Fm.put_new ?_ _ _ (by (first | omega | (simp only [np, nq]; omega)))))
 obtain ⟨H2, e2, g2, q2, f2, n2⟩ := (hx.no fp).append (k := 1) (w := 8) (x := [.int .i64 (.ofNat l.length)]) (by omega) rfl (by omega) (by omega)
 simp only [np] at n2
 refine Ok.veE e2 ?_
 have fA : Fm (In x) H H2 := (fp.mono (T := In x) (fun _ _ h => absurd h id)).then f2 fun _ _ h => h
 have kp : ∀ b, b < H.nx → ¬ In x b → H2.get b = H.get b := fun b hb hx' => fA.get b hb hx'
 have ka2 : H2.get a0 = qaa 0 [.int .u8 (.ofNat kd), sE.v, sE.v, .sl bl 0 2 2 true] := (kp a0 ha hda.2).trans ka
 have kb2 : H2.get bl = qaa 0 (ca ++ cb) := (kp bl hb hdb.2).trans kb
 have r2 : qba (H2.get bl) (t * 4) 4 = some cc := by rw [kb2]; exact hrd
 have hcf := hrc.four
 obtain ⟨c0, c1, c2, c3, hcc⟩ := hcf
 subst hcc
 unfold sE SS.v at ka2
 have hwk : Gl 5 H2 w l.length (l.flatMap ndC) := hw.keep fA.nx (fun b hb hl => kp b hl (fun hx' => d1 b hx' hb))
 have fin : ∀ (b : Bool), b = (neg || (decide (kd = 6) && decide (t = 1))) → ∀ (w3 : AV) (H3 : Hp) (l3 : List (Nd × AV)), AcS 5 ndC (In w) H2 H3 w3 l3 → l3.map Prod.fst = l.map Prod.fst ++ r.nodes b →
   Ok (g w3 (.sl (qal H (qaa 0 [.int .i64 (.ofNat l.length)])).nx 0 (t + 1) (t + 1) false) (.int .i64 (.ofNat (t + 1))) H3) Q := by
  rintro _ rfl w3 H3 l3 hw3 hl3
  refine hg w3 _ H3 l3 _ hw3.gl (fun b hb => ?_) hl3 ?_ (g2.keep hw3.fm.nx fun b hb hlt => hw3.fm.get b hlt fun h => ?_) (fun b hb => ⟨?_, fun h => ?_⟩)
  ·rcases hw3.nw b hb with h | h
   ·exact .inl h
   ·exact .inr (by omega)
  ·exact (fA.mono fun _ _ h => .inr h).then hw3.fm fun _ _ h => .inl h
  ·obtain ⟨_, _, _, _, hb⟩ := hb
   cases hb
   have := hw.lt h
   simp only [np] at this
   omega
  ·obtain ⟨_, _, _, _, hb⟩ := hb
   cases hb
   simp only [np]; omega
  ·obtain ⟨_, _, _, _, hb⟩ := hb
   cases hb
   simp only [np] at h
   rcases hw3.nw _ h with h | h
   ·have := hw.lt h
    omega
   ·omega
 have call : ∀ b : Bool, Ok (C j (.f qmt) [w, .agg [c0, c1, c2, c3], .bool b] H2) fun w' H' => ∃ l', AcS 5 ndC (In w) H2 H' w' l' ∧ l'.map Prod.fst = l.map Prod.fst ++ r.nodes b := fun b => hR w b H2 hwk (hrc.fmS fA dPx) dPw hll
 have hcf4 : eqF 64 (.agg [c0, c1, c2, c3]) (.agg [c0, c1, c2, c3]) = true := by
  have hfl := hrc.flat
  refine qrr _ ?_
  unfold Tr
  rw [hfl]; rfl
 cases neg
 ·by_cases h6 : kd = 6
  ·subst h6
   simp (disch := first | omega | exact ti rfl | (simp only [np, nq]; first | done | omega)) only [go_sem, reduceAdd, reduceMul, reduceSub, reduceLeDiff, reduceEqDiff, reduceShiftRight, reduceAnd, ka2, r2]
   refine Ok.deO (call (decide (t = 1))) ?_
   rintro w3 H3 ⟨l3, hw3, hl3⟩
   have f3 := hw3.fm
   have ka3 : H3.get a0 = qaa 0 [.int .u8 (.ofNat 6), .str 0 0, .str 0 0, .sl bl 0 2 2 true] := (f3.get a0 (by omega) hda.1).trans ka2
   have r3 : qba (H3.get bl) (t * 4) 4 = some [c0, c1, c2, c3] := by rw [f3.get bl (by omega) hdb.1]; exact r2
   have ec := hcf4
   simp (disch := first | omega | exact ti rfl | (simp only [np, nq]; first | done | omega)) only [go_sem, reduceAdd, reduceMul, reduceSub, reduceLeDiff, reduceEqDiff, reduceShiftRight, reduceAnd, ka3, r3, ec]
   unfold qlf
   simp (disch := first | omega | exact ti rfl | (simp only [np, nq]; first | done | omega)) only [go_sem, reduceAdd, reduceMul, reduceSub, reduceLeDiff, reduceEqDiff, reduceShiftRight, reduceAnd]
   exact fin (decide (t = 1)) (by simp) w3 H3 l3 hw3 hl3
  ·simp (disch := first | omega | exact ti rfl | (simp only [np, nq]; first | done | omega)) only [go_sem, reduceAdd, reduceMul, reduceSub, reduceLeDiff, reduceEqDiff, reduceShiftRight, reduceAnd, ka2, r2, h6]
   refine Ok.deO (call false) ?_
   rintro w3 H3 ⟨l3, hw3, hl3⟩
   have f3 := hw3.fm
   have ka3 : H3.get a0 = qaa 0 [.int .u8 (.ofNat kd), .str 0 0, .str 0 0, .sl bl 0 2 2 true] := (f3.get a0 (by omega) hda.1).trans ka2
   have r3 : qba (H3.get bl) (t * 4) 4 = some [c0, c1, c2, c3] := by rw [f3.get bl (by omega) hdb.1]; exact r2
   have ec := hcf4
   simp (disch := first | omega | exact ti rfl | (simp only [np, nq]; first | done | omega)) only [go_sem, reduceAdd, reduceMul, reduceSub, reduceLeDiff, reduceEqDiff, reduceShiftRight, reduceAnd, ka3, r3, ec]
   unfold qlf
   simp (disch := first | omega | exact ti rfl | (simp only [np, nq]; first | done | omega)) only [go_sem, reduceAdd, reduceMul, reduceSub, reduceLeDiff, reduceEqDiff, reduceShiftRight, reduceAnd]
   exact fin false (by simp [h6]) w3 H3 l3 hw3 hl3
 ·simp (disch := first | omega | exact ti rfl | (simp only [np, nq]; first | done | omega)) only [go_sem, reduceAdd, reduceMul, reduceSub, reduceLeDiff, reduceEqDiff, reduceShiftRight, reduceAnd, ka2, r2]
  refine Ok.deO (call true) ?_
  rintro w3 H3 ⟨l3, hw3, hl3⟩
  have f3 := hw3.fm
  have ka3 : H3.get a0 = qaa 0 [.int .u8 (.ofNat kd), .str 0 0, .str 0 0, .sl bl 0 2 2 true] := (f3.get a0 (by omega) hda.1).trans ka2
  have r3 : qba (H3.get bl) (t * 4) 4 = some [c0, c1, c2, c3] := by rw [f3.get bl (by omega) hdb.1]; exact r2
  have ec := hcf4
  simp (disch := first | omega | exact ti rfl | (simp only [np, nq]; first | done | omega)) only [go_sem, reduceAdd, reduceMul, reduceSub, reduceLeDiff, reduceEqDiff, reduceShiftRight, reduceAnd, ka3, r3, ec]
  unfold qlf
  simp (disch := first | omega | exact ti rfl | (simp only [np, nq]; first | done | omega)) only [go_sem, reduceAdd, reduceMul, reduceSub, reduceLeDiff, reduceEqDiff, reduceShiftRight, reduceAnd]
  exact fin true (by simp) w3 H3 l3 hw3 hl3
end Go.Di
end
section
namespace Go.Di
open Go.Ev
variable {C : Nat → Ev.Call}
theorem AcS.base {α : Type} {z : Nat} {f : α → List AV} {S : Nat → Prop} {H0 H1 H : Hp} {v : AV} {l : List α} (a : Fm No H0 H1) (h : AcS z f S H1 H v l) : AcS z f S H0 H v l :=
 ⟨h.gl, (a.mono fun _ _ h => absurd h id).then h.fm fun _ _ h => h, fun b hb => (h.nw b hb).imp id fun h => Nat.le_trans a.nx h⟩
theorem Gl.startS {α : Type} {z : Nat} {f : α → List AV} {H H1 : Hp} {v : AV} {l : List α} (h : Gl z H v l.length (l.flatMap f)) (a : Fm No H H1) : AcS z f (In v) H1 H1 v l := ⟨h.no a, Fm.refl _ _, fun _ h => .inl h⟩
theorem n15 (call : Ev.Call) (q : AV → AV → Hp → R1) (x2 x4 : AV) (n : Nat) : qi4 call q x2 x4 (n + 1) = qi5 call q x2 x4 (qi4 call q x2 x4 n) := rfl
theorem qzr : ∀ r : Ru, 0 < r.size
 | .leaf _ _ _ => Nat.one_pos
 | .node _ _ _ => Nat.succ_pos _
theorem q0i (hC : qav C) : ∀ (r : Ru) (k : Nat), r.depth ≤ k → zad C r k := by
 intro r
 induction r with
 | leaf kd rl to =>
  intro k hk v neg H l cs P hv hr hP hll
  unfold Ru.depth at hk
  obtain ⟨j, rfl⟩ : ∃ j, k = j + 1 := ⟨k - 1, by omega⟩
  rw [(hC j).zAr]
  unfold zAr zb1
  obtain rfl : cs = lfC kd rl to := hr
  have hl := hv.lenV
  unfold lfC SS.v
  simp (disch := first | omega | exact ti rfl | (simp only [np, nq]; first | done | omega)) only [go_sem, reduceAdd, reduceMul, reduceSub, reduceLeDiff, reduceEqDiff, reduceShiftRight, reduceAnd, hl]
  have fX : Fm No H (qal (qal H (qaa 0 [.int .u8 (.ofNat kd), .str rl.n rl.a, .str to.n to.a, .nilsl])) (qaa 0 (ndC (⟨kd, rl, to, neg⟩, .nilsl)))) := by (repeat (first | exact Fm.refl _ _ | assumption | refine Fm.push ?_ _ | refine Fm.up2 ?_ (by (first | omega | (simp only [np, nq]; omega))) | refine Fm.put_new ?_ _ _ (by (first | omega | (simp only [np, nq]; omega)))))
  unfold Ru.size at hll
  refine Ok.ve ((hv.startS fX).add (⟨kd, rl, to, neg⟩, .nilsl) 72 rfl (by omega) (by omega)) ?_
  intro w H1 hw
  have k1 : H1.get H.nx = qaa 0 [.int .u8 (.ofNat kd), .str rl.n rl.a, .str to.n to.a, .nilsl] := (hw.fm.get _ (by (first | omega | (simp only [np, nq]; omega))) fun h => by have := hv.lt h; omega).trans (by simp (disch := first | omega | exact ti rfl | (simp only [np, nq]; first | done | omega)) only [go_sem, reduceAdd, reduceMul, reduceSub, reduceLeDiff, reduceEqDiff, reduceShiftRight, reduceAnd])
  unfold qp3
  obtain ⟨m, hm⟩ : ∃ m, qak = m + 1 := ⟨999999, by rw [qaf]⟩
  rw [qan, hm]
  rw [n15]
  unfold qi5
  simp (disch := first | omega | exact ti rfl | (simp only [np, nq]; first | done | omega)) only [go_sem, reduceAdd, reduceMul, reduceSub, reduceLeDiff, reduceEqDiff, reduceShiftRight, reduceAnd, k1]
  refine (qs8 (call := C j) hw (by simp) (.inl rfl)).mono ?_
  rintro r H2 ⟨l', h1, h2⟩
  exact ⟨l', h1.base fX, by rw [h2]; simp [Ru.nodes]⟩
 | node kd a b iha ihb =>
  intro k hk v neg H l cs P hv hr hP hll
  unfold Ru.depth at hk
  obtain ⟨j, rfl⟩ : ∃ j, k = j + 1 := ⟨k - 1, by omega⟩
  rw [(hC j).zAr]
  unfold zAr zb1
  obtain ⟨bl, ca, cb, rfl, hbl, hPb, kb, hca, hcb⟩ := hr
  have hl := hv.lenV
  unfold sE SS.v
  simp (disch := first | omega | exact ti rfl | (simp only [np, nq]; first | done | omega)) only [go_sem, reduceAdd, reduceMul, reduceSub, reduceLeDiff, reduceEqDiff, reduceShiftRight, reduceAnd, hl]
  have fX : Fm No H (qal (qal H (qaa 0 [.int .u8 (.ofNat kd), .str 0 0, .str 0 0, .sl bl 0 2 2 true])) (qaa 0 (ndC (⟨kd, sE, sE, neg⟩, .nilsl)))) := by (repeat (first | exact Fm.refl _ _ | assumption | refine Fm.push ?_ _ | refine Fm.up2 ?_ (by (first | omega | (simp only [np, nq]; omega))) | refine Fm.put_new ?_ _ _ (by (first | omega | (simp only [np, nq]; omega)))))
  unfold Ru.size at hll
  refine Ok.ve ((hv.startS fX).add (⟨kd, sE, sE, neg⟩, .nilsl) 72 rfl (by omega) (by omega)) ?_
  intro w H1 hw
  have f1 := hw.fm
  have n1 := f1.nx
  simp only [np] at n1
  have k1 : H1.get H.nx = qaa 0 [.int .u8 (.ofNat kd), .str 0 0, .str 0 0, .sl bl 0 2 2 true] := (hw.fm.get _ (by (first | omega | (simp only [np, nq]; omega))) fun h => by have := hv.lt h; omega).trans (by simp (disch := first | omega | exact ti rfl | (simp only [np, nq]; first | done | omega)) only [go_sem, reduceAdd, reduceMul, reduceSub, reduceLeDiff, reduceEqDiff, reduceShiftRight, reduceAnd])
  have fH : Fm (In v) H H1 := (fX.mono fun _ _ h => absurd h id).then f1 fun _ _ h => h
  have kb1 : H1.get bl = qaa 0 (ca ++ cb) := (fH.get bl hbl (hP bl hPb)).trans kb
  have hca1 : RuC (fun x => P x ∧ x < H.nx) H1 a ca := (hca.mono fun b h1 h2 => (⟨h2, h1⟩ : P b ∧ b < H.nx)).fmS fH fun b h => hP b h.1
  have hcb1 : RuC (fun x => P x ∧ x < H.nx) H1 b cb := (hcb.mono fun b h1 h2 => (⟨h2, h1⟩ : P b ∧ b < H.nx)).fmS fH fun b h => hP b h.1
  have dw : ∀ x, In w x → In v x ∨ H.nx + 2 ≤ x := fun x h => by
   rcases hw.nw x h with h | h
   ·exact .inl h
   ·exact .inr (by simp only [np] at h; omega)
  have la : ca.length = 4 := by obtain ⟨_, _, _, _, h⟩ := hca.four; rw [h]; rfl
  have lb : cb.length = 4 := by obtain ⟨_, _, _, _, h⟩ := hcb.four; rw [h]; rfl
  have nn : ∀ x, ¬ In AV.nilsl x := fun x h => by obtain ⟨_, _, _, _, h⟩ := h; cases h
  have no : ∀ x, x < H.nx + 2 → ¬ In v x → ¬ In w x := fun x h1 h2 h => (dw x h).elim h2 fun h => by omega
  unfold qp3
  obtain ⟨m, hm⟩ : ∃ m, qak = m + 3 := ⟨999997, by rw [qaf]⟩
  rw [qan, hm]
  rw [n15]
  unfold qi5
  simp (disch := first | omega | exact ti rfl | (simp only [np, nq]; first | done | omega)) only [go_sem, reduceAdd, reduceMul, reduceSub, reduceLeDiff, reduceEqDiff, reduceShiftRight, reduceAnd, k1]
  have sa := qzr a
  have sb := qzr b
  refine qo0 (r := a) (P := fun x => P x ∧ x < H.nx) (ca := ca) (cb := cb) (cc := ca) (kd := kd) (bl := bl) (iha j (by omega)) hw.gl (Gl.nil 1 H1) (by omega) (by simp; omega) (by omega) (by omega) k1 kb1 (by rw [Nat.zero_mul, qdb, if_pos (by simp; omega), List.drop_zero, List.take_left' la]) hca1 (fun x h => absurd h (nn x))
   ⟨no _ (by omega) (fun h => by have := hv.lt h; omega), nn _⟩ ⟨no _ (by omega) (hP bl hPb), nn _⟩ (fun x hx => no _ (by omega) (hP x hx.1)) (fun x _ => nn x) ?_
  intro w2 x2 H2 l2 xs2 hw2 nw2 hl2 f2 hx2 nx2
  rw [n15]
  unfold qi5
  have no2 : ∀ x, x < H1.nx → ¬ In w x → ¬ In w2 x := fun x h1 h2 h => (nw2 x h).elim h2 fun h => by omega
  have na0 : ¬ In w H.nx := no _ (by omega) (fun h => by have := hv.lt h; omega)
  have nbl : ¬ In w bl := no _ (by omega) (hP bl hPb)
  have fw : ∀ x, x < H1.nx → ¬ In w x → H2.get x = H1.get x := fun x h1 h2 => f2.get x h1 fun h => h.elim h2 (nn x)
  have n2 := f2.nx
  have k2 := (fw _ (by omega) na0).trans k1
  have kb2 := (fw _ (by omega) nbl).trans kb1
  simp (disch := first | omega | exact ti rfl | (simp only [np, nq]; first | done | omega)) only [go_sem, reduceAdd, reduceMul, reduceSub, reduceLeDiff, reduceEqDiff, reduceShiftRight, reduceAnd, k2]
  have hcb2 : RuC (fun x => P x ∧ x < H.nx) H2 b cb := hcb1.fmS f2 fun b h => fun h' => h'.elim (no _ (by omega) (hP b h.1)) (nn b)
  have l2n : l2.length = l.length + 1 + a.size := by
   have := congrArg List.length hl2
   simp only [List.length_map, List.length_append, List.length_cons, List.length_nil, qbx] at this
   omega
  refine qo0 (r := b) (P := fun x => P x ∧ x < H.nx) (ca := ca) (cb := cb) (cc := cb) (kd := kd) (bl := bl) (t := 1) (ihb j (by omega)) hw2 hx2 (by omega) (by omega) (by omega) (by omega) k2 kb2 (by rw [Nat.one_mul, qdb, if_pos (by simp; omega), List.drop_left' la, ← lb, List.take_length]) hcb2 (fun x h => (nx2 x h).2)
   ⟨no2 _ (by omega) na0, fun h => by have := (nx2 _ h).1; omega⟩ ⟨no2 _ (by omega) nbl, fun h => by have := (nx2 _ h).1; omega⟩ (fun x hx => no2 _ (by omega) (no _ (by omega) (hP x hx.1))) (fun x hx h => by have := (nx2 _ h).1; omega) ?_
  intro w3 x3 H3 l3 xs3 hw3 nw3 hl3 f3 hx3 nx3
  rw [n15]
  unfold qi5
  have n3 := f3.nx
  have k3 : H3.get H.nx = qaa 0 [.int .u8 (.ofNat kd), .str 0 0, .str 0 0, .sl bl 0 2 2 true] := (f3.get _ (by omega) fun h => h.elim (no2 _ (by omega) na0) fun h => by have := (nx2 _ h).1; omega).trans k2
  simp (disch := first | omega | exact ti rfl | (simp only [np, nq]; first | done | omega)) only [go_sem, reduceAdd, reduceMul, reduceSub, reduceLeDiff, reduceEqDiff, reduceShiftRight, reduceAnd, k3]
  have l3n : l3.length = l2.length + b.size := by
   have := congrArg List.length hl3
   simp only [List.length_map, List.length_append, qbx] at this
   omega
  have hS : AcS 5 ndC (In v) H H3 w3 l3 := by
   refine ⟨hw3, ?_, ?_⟩
   ·refine (fH.then f2 fun c hc h => ?_).then f3 fun c hc h => ?_
    ·rcases h with h | h
     ·exact (dw c h).elim id fun h => by omega
     ·exact absurd h (nn c)
    ·rcases h with h | h
     ·exact (nw2 c h).elim (fun h => (dw c h).elim id fun h => by omega) fun h => by omega
     ·have := (nx2 c h).1; omega
   ·intro x hx
    rcases nw3 x hx with h | h
    ·rcases nw2 x h with h | h
     ·rcases dw x h with h | h
      ·exact .inl h
      ·exact .inr (by omega)
     ·exact .inr (by omega)
    ·exact .inr (by omega)
  refine (qs8 (call := C j) hS (i := l.length) (by omega) ?_).mono ?_
  ·rcases hx3.is with ⟨h, _⟩ | ⟨_, _, _, _, _, h, _⟩
   ·exact .inl h
   ·exact .inr ⟨_, _, _, _, _, h⟩
  ·rintro r H4 ⟨l', h1, h2⟩
   refine ⟨l', h1, ?_⟩
   rw [h2, hl3, hl2]
   simp [Ru.nodes]
end Go.Di
end
section
namespace Go.Di
open Go.Ev
variable {C : Nat → Ev.Call}
def hasN (kd : Nat) (s : SS) (n : Nd) : Bool := decide (n.k = kd) && decide (n.rl = s)
def hasR (r : Ru) (kd : Nat) (s : SS) : Bool := (r.nodes false).any (hasN kd s)
theorem qri {call : Ev.Call} {l : List (Nd × AV)} {v : AV} {H : Hp} {kd : Nat} {s : SS} (hv : Rs 5 ndC H v l) (hb : l.length ≤ 1000000) {Q : AV → Hp → Prop} {q : Hp → R1} {qr : AV → Hp → R1}
  (hr : l.any (fun x => hasN kd s x.1) = true → Ok (qr (.bool true) H) Q) (hq : l.any (fun x => hasN kd s x.1) = false → Ok (q H) Q) :
  ∀ (k i : Nat), i ≤ l.length → l.length - i < k → (l.take i).any (fun x => hasN kd s x.1) = false →
   Ok (qn0 call qr q (.int .u8 (.ofNat kd)) s.v v k (.int .i64 (.ofNat i)) H) Q
 | 0, i, _, h, _ => by omega
 | k + 1, i, hi, hk, hn => by
  show Ok (q53 call _ _ _ _ _ (qn0 call _ _ _ _ _ k) _ H) Q
  unfold q53
  have hl := hv.len
  by_cases hlt : i < l.length
  ·simp (disch := first | omega | exact ti rfl | (simp only [np, nq]; first | done | omega)) only [go_sem, reduceAdd, reduceMul, reduceSub, reduceLeDiff, reduceEqDiff, reduceShiftRight, reduceAnd, hl, hlt]
   unfold qwc
   obtain ⟨b, o, e1, e2, _, e3, e4⟩ := hv.at' i hlt
   have r0 : qap (H.get b) o = .val (.int .u8 (.ofNat l[i].1.k)) := e4 0 (by rw [qcm]; omega)
   have r1 : qap (H.get b) (o + 1) = .val (.str l[i].1.rl.n l[i].1.rl.a) := e4 1 (by rw [qcm]; omega)
   have hs : (l.take (i + 1)).any (fun x => hasN kd s x.1) = hasN kd s l[i].1 := by
    rw [List.take_succ_eq_append_getElem hlt, List.any_append, hn]; simp
   unfold SS.v
   by_cases h1 : l[i].1.k = kd
   ·have h1t := eq_true h1
    by_cases h2 : l[i].1.rl.n = s.n ∧ l[i].1.rl.a = s.a
    ·have h2t := eq_true h2
     have hh : hasN kd s l[i].1 = true := by unfold hasN; rw [decide_eq_true h1, decide_eq_true ((qde _ _).2 h2)]; rfl
     simp (disch := first | omega | exact ti rfl | (simp only [np, nq]; first | done | omega)) only [go_sem, reduceAdd, reduceMul, reduceSub, reduceLeDiff, reduceEqDiff, reduceShiftRight, reduceAnd, e1, r0, r1, h1t, h2t]
     refine hr ?_
     rw [List.any_eq_true]
     exact ⟨l[i], List.getElem_mem hlt, hh⟩
    ·have hh : hasN kd s l[i].1 = false := by unfold hasN; rw [decide_eq_false (fun h => h2 ((qde _ _).1 h))]; simp
     simp (disch := first | omega | exact ti rfl | (simp only [np, nq]; first | done | omega)) only [go_sem, reduceAdd, reduceMul, reduceSub, reduceLeDiff, reduceEqDiff, reduceShiftRight, reduceAnd, e1, r0, r1, h1t, h2]
     unfold qy8
     simp (disch := first | omega | exact ti rfl | (simp only [np, nq]; first | done | omega)) only [go_sem, reduceAdd, reduceMul, reduceSub, reduceLeDiff, reduceEqDiff, reduceShiftRight, reduceAnd]
     exact qri hv hb hr hq k (i + 1) (by omega) (by omega) (by rw [hs, hh])
   ·have hh : hasN kd s l[i].1 = false := by unfold hasN; rw [decide_eq_false h1]; simp
    simp (disch := first | omega | exact ti rfl | (simp only [np, nq]; first | done | omega)) only [go_sem, reduceAdd, reduceMul, reduceSub, reduceLeDiff, reduceEqDiff, reduceShiftRight, reduceAnd, e1, r0, r1, h1]
    unfold qy8
    simp (disch := first | omega | exact ti rfl | (simp only [np, nq]; first | done | omega)) only [go_sem, reduceAdd, reduceMul, reduceSub, reduceLeDiff, reduceEqDiff, reduceShiftRight, reduceAnd]
    exact qri hv hb hr hq k (i + 1) (by omega) (by omega) (by rw [hs, hh])
  ·have he : i = l.length := by omega
   simp (disch := first | omega | exact ti rfl | (simp only [np, nq]; first | done | omega)) only [go_sem, reduceAdd, reduceMul, reduceSub, reduceLeDiff, reduceEqDiff, reduceShiftRight, reduceAnd, hl, hlt]
   rw [he, List.take_length] at hn
   exact hq hn
theorem zfd (hC : qav C) {k : Nat} {r : Ru} (hk : r.depth + 1 ≤ k) (hs : r.size ≤ 100000) {H : Hp} {cs : List AV} {P : Nat → Prop} (hr : RuC P H r cs) (kd : Nat) (s : SS) :
  Ok (C k (.f qtu) [.agg cs, .int .u8 (.ofNat kd), s.v] H) fun v H' => v = .bool (hasR r kd s) ∧ Fm No H H' := by
 obtain ⟨j, rfl⟩ : ∃ j, k = j + 1 := ⟨k - 1, by omega⟩
 rw [(hC j).zAn]
 unfold zAn zg3
 obtain ⟨c0, c1, c2, c3, rfl⟩ := hr.four
 simp (disch := first | omega | exact ti rfl | (simp only [np, nq]; first | done | omega)) only [go_sem, reduceAdd, reduceMul, reduceSub, reduceLeDiff, reduceEqDiff, reduceShiftRight, reduceAnd]
 have fX : Fm No H (qal H (qaa 0 [c0, c1, c2, c3])) := by (repeat (first | exact Fm.refl _ _ | assumption | refine Fm.push ?_ _ | refine Fm.up2 ?_ (by (first | omega | (simp only [np, nq]; omega))) | refine Fm.put_new ?_ _ _ (by (first | omega | (simp only [np, nq]; omega)))))
 have nn : ∀ x, ¬ In AV.nilsl x := fun x h => by obtain ⟨_, _, _, _, h⟩ := h; cases h
 refine Ok.ve (q0i hC r j (by omega) .nilsl false _ (l := []) (Gl.nil 5 _) (hr.fm fX) (fun b _ => nn b) (by simp; omega)) ?_
 rintro w H1 ⟨l, hw, hl⟩
 have f1 : Fm No H H1 := fX.then hw.fm fun c _ h => absurd h (nn c)
 have hln : l.length = r.size := by
  have := congrArg List.length hl
  simpa [qbx] using this
 have hany : hasR r kd s = l.any (fun x => hasN kd s x.1) := by
  have hl' : l.map Prod.fst = r.nodes false := by simpa using hl
  unfold hasR
  rw [← hl', List.any_map]; rfl
 unfold q54
 rw [qan]
 refine qri (hw.gl.rs qcm) (by omega) (fun h => ?_) (fun h => ?_) qak 0 (Nat.zero_le _) (by rw [qaf]; omega) rfl
 ·exact Ok.ret ⟨by rw [hany, h], f1⟩
 ·unfold qli
  exact Ok.ret ⟨by rw [hany, h], f1⟩
end Go.Di
end
section
namespace Go.Di
open Go.Ev
variable {C : Nat → Ev.Call}
structure RelS where
 name : SS
 types : List TyS
 rule : Ru
structure SpS where
 name : SS
 rels : List RelS
structure RelG where
 r : RelS
 tv : AV
 cs : List AV
def relC (g : RelG) : List AV := [g.r.name.v, g.tv, g.cs.getD 0 .undef, g.cs.getD 1 .undef, g.cs.getD 2 .undef, g.cs.getD 3 .undef]
theorem qie (g : RelG) : (relC g).length = 6 := rfl
structure qdz (A B : Nat) (H : Hp) (rv : AV) (gs : List RelG) : Prop where
 gl : Gl 6 H rv gs.length (gs.flatMap relC)
 inn : ∀ b, In rv b → A ≤ b ∧ b < B
 ty : ∀ g ∈ gs, Rs 2 tC H g.tv g.r.types ∧ (g.tv = .nilsl ∨ ∃ b o n m e, g.tv = .sl b o n m e ∧ n ≤ m) ∧ ∀ b, In g.tv b → A ≤ b ∧ b < B ∧ ¬ In rv b
 ru : ∀ g ∈ gs, RuC (fun b => A ≤ b ∧ b < B ∧ ¬ In rv b) H g.r.rule g.cs
theorem qdz.nil (A B : Nat) (H : Hp) : qdz A B H .nilsl [] := ⟨Gl.nil 6 H, (fun b h => by obtain ⟨_, _, _, _, h⟩ := h; cases h), (fun g hg => by cases hg), (fun g hg => by cases hg)⟩
theorem qdz.fmS {A B : Nat} {S : Nat → Prop} {H H' : Hp} {rv : AV} {gs : List RelG} (h : qdz A B H rv gs) (f : Fm S H H') (hs : ∀ b, A ≤ b → b < B → ¬ S b) : qdz A B H' rv gs :=
 ⟨h.gl.fm f fun b hb => hs b (h.inn b hb).1 (h.inn b hb).2, h.inn, fun g hg => ⟨(h.ty g hg).1.fmS f fun b hb => hs b ((h.ty g hg).2.2 b hb).1 ((h.ty g hg).2.2 b hb).2.1, (h.ty g hg).2⟩,
  fun g hg => (h.ru g hg).fmS f fun b hb => hs b hb.1 hb.2.1⟩
theorem qdz.up {A B B' : Nat} {H : Hp} {rv : AV} {gs : List RelG} (h : qdz A B H rv gs) (hb : B ≤ B') : qdz A B' H rv gs :=
 ⟨h.gl, fun b x => ⟨(h.inn b x).1, Nat.lt_of_lt_of_le (h.inn b x).2 hb⟩, fun g hg => ⟨(h.ty g hg).1, (h.ty g hg).2.1, fun b x => by have := (h.ty g hg).2.2 b x; exact ⟨this.1, by omega, this.2.2⟩⟩,
  fun g hg => (h.ru g hg).mono fun b _ x => ⟨x.1, by omega, x.2.2⟩⟩
structure SpG where
 name : SS
 gs : List RelG
 rv : AV
 A : Nat
 B : Nat
def spC (g : SpG) : List AV := [g.name.v, g.rv]
theorem qee (g : SpG) : (spC g).length = 2 := rfl
def SpG.sp (g : SpG) : SpS := ⟨g.name, g.gs.map RelG.r⟩
structure SchM (H : Hp) (sv : AV) (l : List SpG) : Prop where
 gl : Gl 2 H sv l.length (l.flatMap spC)
 ord : l.Pairwise fun a b => a.B ≤ b.A
 rel : ∀ g ∈ l, qdz g.A g.B H g.rv g.gs ∧ g.B ≤ H.nx
 dj : ∀ g ∈ l, ∀ b, In sv b → ¬ (g.A ≤ b ∧ b < g.B)
theorem SchM.no {H H' : Hp} {sv : AV} {l : List SpG} (h : SchM H sv l) (f : Fm No H H') : SchM H' sv l :=
 ⟨h.gl.no f, h.ord, fun g hg => ⟨(h.rel g hg).1.fmS f fun _ _ _ h => h, Nat.le_trans (h.rel g hg).2 f.nx⟩, h.dj⟩
theorem SchM.fmS {S : Nat → Prop} {H H' : Hp} {sv : AV} {l : List SpG} (h : SchM H sv l) (f : Fm S H H') (hs : ∀ b, In sv b → ¬ S b) (hg : ∀ g ∈ l, ∀ b, g.A ≤ b → b < g.B → ¬ S b) : SchM H' sv l :=
 ⟨h.gl.fm f hs, h.ord, fun g hgl => ⟨(h.rel g hgl).1.fmS f (hg g hgl), Nat.le_trans (h.rel g hgl).2 f.nx⟩, h.dj⟩
theorem SchM.push {S : Nat → Prop} {H H' : Hp} {sv sv' : AV} {l : List SpG} (h : SchM H sv l) (f : Fm S H H') (hg : ∀ g ∈ l, ∀ b, g.A ≤ b → b < g.B → ¬ S b) (name : SS)
  (gl : Gl 2 H' sv' (l.length + 1) (l.flatMap spC ++ [name.v, .nilsl])) (nw : ∀ b, In sv' b → H.nx ≤ b) : SchM H' sv' (l ++ [⟨name, [], .nilsl, H'.nx, H'.nx⟩]) := by
 refine ⟨?_, ?_, ?_, ?_⟩
 ·rw [List.length_append, List.flatMap_append, List.flatMap_singleton]; exact gl
 ·rw [List.pairwise_append]
  refine ⟨h.ord, List.pairwise_singleton _ _, fun a ha b hb => ?_⟩
  rw [List.mem_singleton] at hb
  subst hb
  exact Nat.le_trans (h.rel a ha).2 f.nx
 ·intro g hgl
  rw [List.mem_append, List.mem_singleton] at hgl
  rcases hgl with hgl | rfl
  ·exact ⟨(h.rel g hgl).1.fmS f (hg g hgl), Nat.le_trans (h.rel g hgl).2 f.nx⟩
  ·exact ⟨qdz.nil _ _ _, Nat.le_refl _⟩
 ·intro g hgl b hb
  rw [List.mem_append, List.mem_singleton] at hgl
  rcases hgl with hgl | rfl
  ·have := nw b hb
   have := (h.rel g hgl).2
   omega
  ·simp only
   omega
end Go.Di
end
section
namespace Go.Di
open Go.Ev
variable {C : Nat → Ev.Call}
def rel0 (L : List (List Nat)) (n : Nat) : RelS := ⟨qa8 n, qbh L n, (qa3 L n 6 2 false).1⟩
structure OfI (L : List (List Nat)) (v : AV) (H0 H : Hp) (cb sb : Nat) (sv : AV) (l : List SpG) (g : SpG) : Prop where
 cbk : qg4 H cb v
 sbk : H.get sb = qaa 0 [sv]
 sbl : H0.nx ≤ sb ∧ sb < g.A ∧ sb < H.nx
 cbl : cb < g.A
 ne : cb < sb ∨ sb < cb
 ns : ¬ In sv sb ∧ ¬ In sv cb
 svn : ∀ b, In sv b → H0.nx ≤ b ∧ b < g.A
 sbd : ∀ x ∈ l, ¬ (x.A ≤ sb ∧ sb < x.B)
 m : SchM H sv (l ++ [g])
 an : ∀ x ∈ l ++ [g], H0.nx ≤ x.A
 ax : g.A ≤ H.nx
 fm : Fm No H0 H
theorem q65 (X : List AV) (a b c : AV) : setL (X ++ [a, b]) (X.length + 1) [c] = X ++ [a, c] := by
 unfold setL
 rw [List.take_length_add_append, Nat.add_assoc, List.drop_length_add_append]
 simp
theorem zcz (hC : qav C) {j : Nat} (hj : 20 ≤ j) {L : List (List Nat)} {v : AV} {n : Nat} (hn : n < qaq L) {H0 H : Hp} {cb sb : Nat} {sv : AV} {l : List SpG} {g : SpG} (hv : ArgC H0 v L) (hI : OfI L v H0 H cb sb sv l g)
  (hl : l.length = 1 + n / 4) (hgs : g.gs.length ≤ 12) {G : AV → Hp → R1} {Q : AV → Hp → Prop}
  (hG : ∀ (H' : Hp) (rv' : AV) (rg : RelG), rg.r = rel0 L n → OfI L v H0 H' cb sb sv l ⟨g.name, g.gs ++ [rg], rv', g.A, H'.nx⟩ → Ok (G (.int .i64 (.ofNat (n + 1))) H') Q) :
  Ok (qhr (C j) G (.ptr cb 0) (.ptr sb 0) (.int .i64 (.ofNat n)) H) Q := by
 have hm : qaq L ≤ 12 := Nat.min_le_right _ _
 have hnL : n < L.length := Nat.lt_of_lt_of_le hn (Nat.min_le_left _ _)
 have hvH := hv.fm hI.fm
 rw [qn9]
 unfold qfa
 have e0 := hI.cbk.is
 simp (disch := first | omega | exact ti rfl | (simp only [np, nq]; first | done | omega)) only [go_sem, reduceAdd, reduceMul, reduceSub, reduceLeDiff, reduceEqDiff, reduceShiftRight, reduceAnd, e0]
 refine Ok.ve (zhu hC 6 j (by omega) 2 1 false H (by omega) (by omega) hvH ⟨hn, hm, fun h => by cases h⟩) ?_
 rintro _ H1 ⟨cs, rfl, hcs, f1⟩
 obtain ⟨c0, c1, c2, c3, rfl⟩ := hcs.four
 have n1 := f1.nx
 have hsb := hI.sbl
 have s1 := (f1.keep hsb.2.2).trans hI.sbk
 have m1 := hI.m.no f1
 have hgB := (m1.rel g (by simp)).2
 have hix : 1 + n / 4 < (l ++ [g]).length := by simp; omega
 obtain ⟨b, o, i1, i2, i3, i4, i5⟩ := (m1.gl.rs qee).at' (1 + n / 4) hix
 have hlast : (l ++ [g])[1 + n / 4] = g := by
  rw [List.getElem_append_right (by omega)]; simp [hl]
 rw [hlast] at i4 i5
 have r1 : qap (H1.get b) (o + 1) = .val g.rv := i5 1 (by rw [qee]; omega)
 have bA := (hI.svn b i3).2
 have cl := hI.cbk.lt
 have cbl1 : cb < H1.nx := by omega
 have k1 := (hI.cbk.fm f1).is
 simp (disch := first | omega | exact ti rfl | (simp only [np, nq]; first | done | omega)) only [go_sem, reduceAdd, reduceMul, reduceSub, reduceLeDiff, reduceEqDiff, reduceShiftRight, reduceAnd, s1, i1, r1, k1]
 have er : eqF 64 g.rv g.rv = true := by
  refine qca ?_ 63
  rcases (m1.rel g (by simp)).1.gl.is with ⟨h, _⟩ | ⟨_, _, _, _, _, h, _⟩ <;> (rw [h]; rfl)
 have ev : eqF 64 (.agg [v]) (.agg [v]) = true := qrr _ (by unfold Tr; rw [List.all_cons, hvH.flat]; rfl)
 have ec : eqF 64 (.agg [c0, c1, c2, c3]) (.agg [c0, c1, c2, c3]) = true := qrr _ (by unfold Tr; rw [hcs.flat]; rfl)
 have fX : Fm No H1 ⟨((qal H1 (qaa 0 [.int .u8 (.ofNat 0), .str 0 0, .str 0 0, .nilsl])).put H1.nx (qaa 0 [c0, c1, c2, c3])).t, H1.nx + 1 + 17⟩ := by (repeat (first | exact Fm.refl _ _ | assumption | refine Fm.push ?_ _ | refine Fm.up2 ?_ (by (first | omega | (simp only [np, nq]; omega))) | refine Fm.put_new ?_ _ _ (by (first | omega | (simp only [np, nq]; omega)))))
 refine Ok.deO (qsq hC (k := j) (by omega) n (by omega) _) ?_
 rintro _ H3 ⟨rfl, f3⟩
 have n3 : H1.nx + 1 + 17 ≤ H3.nx := f3.nx
 have q3 : H3.get H1.nx = qaa 0 [c0, c1, c2, c3] := (f3.keep (show H1.nx < H1.nx + 1 + 17 by omega)).trans (by simp (disch := first | omega | exact ti rfl | (simp only [np, nq]; first | done | omega)) only [go_sem, reduceAdd, reduceMul, reduceSub, reduceLeDiff, reduceEqDiff, reduceShiftRight, reduceAnd])
 have f13 := fX.trans f3
 have k3 := (f13.keep cbl1).trans k1
 have r3 : qap (H3.get b) (o + 1) = .val g.rv := by rw [f13.keep i2]; exact r1
 unfold SS.v
 simp (disch := first | omega | exact ti rfl | (simp only [np, nq]; first | done | omega)) only [go_sem, reduceAdd, reduceMul, reduceSub, reduceLeDiff, reduceEqDiff, reduceShiftRight, reduceAnd, q3, k3, r3, er, ev, ec]
 refine Ok.deO (qzh hC (k := j) (by omega) ((hvH.fm f1).fm f13) hn) ?_
 intro tv H4 ht
 have f4 := ht.fm
 have n4 := f4.nx
 have q4 := (f4.keep (show H1.nx < H3.nx by omega)).trans q3
 have k4 := (f4.keep (by omega)).trans k3
 have r4 : qap (H4.get b) (o + 1) = .val g.rv := by rw [f4.keep (by omega)]; exact r3
 have htl : 0 < (qbh L n).length := by unfold qbh tyA; simp
 obtain ⟨tb, to, te, htv⟩ : ∃ tb to te, tv = .sl tb to (qbh L n).length (qbh L n).length te := by
  rcases ht.gl.is with ⟨_, h⟩ | ⟨tb, to, te, _, _, h, _⟩
  ·omega
  ·exact ⟨tb, to, te, h⟩
 subst htv
 simp (disch := first | omega | exact ti rfl | (simp only [np, nq]; first | done | omega)) only [go_sem, reduceAdd, reduceMul, reduceSub, reduceLeDiff, reduceEqDiff, reduceShiftRight, reduceAnd, q4, k4, r4, er, ev, ec]
 have gB : g.B ≤ H.nx := (hI.m.rel g (by simp)).2
 have ax := hI.ax
 have fV : Fm No H1 (H4.put (H1.nx + 1 + 12) (qaa 0 [.str (qa8 n).n (qa8 n).a, .sl tb to (qbh L n).length (qbh L n).length te, c0, c1, c2, c3])) := (f13.trans f4).put_new _ _ (by omega)
 have relV := (m1.rel g (by simp)).1.fmS fV fun _ _ _ h => h
 obtain ⟨H5, e5, g5, q5, f5, n5⟩ := relV.gl.append (k := 1) (w := 104) (x := [.str (qa8 n).n (qa8 n).a, .sl tb to (qbh L n).length (qbh L n).length te, c0, c1, c2, c3]) (by omega) rfl (by omega) (by omega)
 simp only [nq] at e5 g5 q5 n5
 refine Ok.deE e5 ?_
 have rin : ∀ x, In g.rv x → g.A ≤ x ∧ x < g.B := fun x hx => (m1.rel g (by simp)).1.inn x hx
 have svn := hI.svn
 have f15 : Fm (In g.rv) H1 H5 := (fV.mono fun _ _ h => absurd h id).then f5 fun _ _ h => h
 have gl5 : Gl 2 H5 sv (l ++ [g]).length ((l ++ [g]).flatMap spC) := m1.gl.fm f15 fun x hx h => by have := (svn x hx).2; have := (rin x h).1; omega
 obtain ⟨b', o', H6, i6, e6, g6, f6, n6⟩ := gl5.set1 hix (j := 1) (by omega) (.sl H4.nx 0 (g.gs.length + 1) (g.gs.length + 1) false)
 rw [i1] at i6
 injection i6 with i6
 injection i6 with i6 i7
 subst i6 i7
 simp (disch := first | omega | exact ti rfl | (simp only [np, nq]; first | done | omega)) only [go_sem, reduceAdd, reduceMul, reduceSub, reduceLeDiff, reduceEqDiff, reduceShiftRight, reduceAnd, e6]
 rw [qoa]
 unfold qfb
 simp (disch := first | omega | exact ti rfl | (simp only [np, nq]; first | done | omega)) only [go_sem, reduceAdd, reduceMul, reduceSub, reduceLeDiff, reduceEqDiff, reduceShiftRight, reduceAnd]
 have f16 : Fm (fun x => In g.rv x ∨ In sv x) H1 H6 := (f15.mono fun _ _ h => .inl h).then f6 fun _ _ h => .inr h
 have n46 : H4.nx + 1 = H6.nx := by omega
 have n16 : H1.nx ≤ H6.nx := f16.nx
 have hlow : ∀ x, x < g.A → ¬ In sv x → x < H1.nx → H6.get x = H1.get x := fun x h1 h2 h3 => f16.get x h3 fun h => h.elim (fun h => by have := (rin x h).1; omega) h2
 refine hG H6 (.sl H4.nx 0 (g.gs.length + 1) (g.gs.length + 1) false) ⟨rel0 L n, .sl tb to (qbh L n).length (qbh L n).length te, [c0, c1, c2, c3]⟩ rfl ⟨⟨by omega, (hlow cb hI.cbl hI.ns.2 cbl1).trans k1⟩, (hlow sb hsb.2.1 hI.ns.1 (by omega)).trans s1, ⟨hsb.1, hsb.2.1, by omega⟩, hI.cbl, hI.ne, hI.ns, hI.svn, hI.sbd, ?_, ?_, by show g.A ≤ H6.nx; omega, ?_⟩
 ·have inr' : ∀ x, In (.sl H4.nx 0 (g.gs.length + 1) (g.gs.length + 1) false) x → x = H4.nx := fun x hx => by
   obtain ⟨_, _, _, _, hx⟩ := hx
   cases hx; rfl
  refine ⟨?_, ?_, ?_, ?_⟩
  ·rw [List.length_append, List.flatMap_append, List.flatMap_singleton] at g6 ⊢
   rw [show (1 + n / 4) * 2 + 1 = (l.flatMap spC).length + 1 by
    have : ∀ q : List SpG, (q.flatMap spC).length = q.length * 2 := fun q => by
     induction q with
     | nil => rfl
     | cons a q ih => rw [List.flatMap_cons, List.length_append, ih, qee, List.length_cons]; omega
    rw [this, hl]] at g6
   unfold spC at g6 ⊢
   rw [q65] at g6
   exact g6
  ·have ho := m1.ord
   rw [List.pairwise_append] at ho ⊢
   refine ⟨ho.1, List.pairwise_singleton _ _, fun a ha c hc => ?_⟩
   rw [List.mem_singleton] at hc
   subst hc
   exact ho.2.2 a ha g (by simp)
  ·intro x hx
   rw [List.mem_append, List.mem_singleton] at hx
   rcases hx with hx | rfl
   ·have ho := m1.ord
    rw [List.pairwise_append] at ho
    have hxg := ho.2.2 x hx g (by simp)
    refine ⟨(m1.rel x (by simp [hx])).1.fmS f16 fun c h1 h2 h => ?_, Nat.le_trans (m1.rel x (by simp [hx])).2 n16⟩
    rcases h with h | h
    ·have := (rin c h).1; omega
    ·exact m1.dj x (by simp [hx]) c h ⟨h1, h2⟩
   ·have hr := (m1.rel g (by simp)).1
    refine ⟨⟨?_, ?_, ?_, ?_⟩, Nat.le_refl _⟩
    ·show Gl 6 H6 _ (g.gs ++ [_]).length ((g.gs ++ [_]).flatMap relC)
     rw [List.length_append, List.flatMap_append, List.flatMap_singleton]
     exact g5.fm f6 fun c hc h => by have := inr' c hc; have := (svn c h).2; omega
    ·intro c hc
     have := inr' c hc
     show g.A ≤ c ∧ c < H6.nx
     omega
    ·intro y hy
     show _ ∧ _ ∧ ∀ c, In y.tv c → g.A ≤ c ∧ c < H6.nx ∧ _
     rw [List.mem_append, List.mem_singleton] at hy
     rcases hy with hy | rfl
     ·obtain ⟨h1, h2, h3⟩ := hr.ty y hy
      refine ⟨h1.fmS f16 fun c hc h => ?_, h2, fun c hc => ⟨(h3 c hc).1, by have := (h3 c hc).2.1; omega, fun h => by have := inr' c h; have := (h3 c hc).2.1; omega⟩⟩
      rcases h with h | h
      ·exact (h3 c hc).2.2 h
      ·have := (svn c h).2; have := (h3 c hc).1; omega
     ·have tin : ∀ c, In (.sl tb to (qbh L n).length (qbh L n).length te) c → H3.nx ≤ c ∧ c < H4.nx := fun c hc => ⟨ht.nw c hc, ht.gl.lt hc⟩
      refine ⟨?_, .inr ⟨_, _, _, _, _, rfl, Nat.le_refl _⟩, fun c hc => ⟨by have := (tin c hc).1; omega, by have := (tin c hc).2; omega, fun h => by have := inr' c h; have := (tin c hc).2; omega⟩⟩
      have fput : Fm (fun x => x = H1.nx + 1 + 12) H4 (H4.put (H1.nx + 1 + 12) (qaa 0 [.str (qa8 n).n (qa8 n).a, .sl tb to (qbh L n).length (qbh L n).length te, c0, c1, c2, c3])) := (Fm.refl _ _).put _ _ fun _ => rfl
      refine (((ht.rs qh7).fmS fput fun c hc h => ?_).fmS f5 fun c hc h => ?_).fmS f6 fun c hc h => ?_
      ·have := (tin c hc).1; omega
      ·have := (tin c hc).1; have := (rin c h).2; omega
      ·have := (tin c hc).1; have := (svn c h).2; omega
    ·intro y hy
     show RuC (fun c => g.A ≤ c ∧ c < H6.nx ∧ _) H6 _ _
     rw [List.mem_append, List.mem_singleton] at hy
     rcases hy with hy | rfl
     ·refine ((hr.ru y hy).fmS f16 fun c hc h => ?_).mono fun c _ hc => ⟨hc.1, by omega, fun h => by have := inr' c h; omega⟩
      rcases h with h | h
      ·exact hc.2.2 h
      ·have := (svn c h).2; omega
     ·have h1 : RuC (fun c => H.nx ≤ c ∧ c < H1.nx) H1 (qa3 L n 6 2 false).1 [c0, c1, c2, c3] := hcs.mono fun c h1 h2 => ⟨h2, h1⟩
      refine (h1.fmS f16 fun c hc h => ?_).mono fun c _ hc => ⟨by omega, by omega, fun h => by have := inr' c h; omega⟩
      rcases h with h | h
      ·have := (rin c h).2; omega
      ·have := (svn c h).2; omega
  ·intro x hx c hc
   rw [List.mem_append, List.mem_singleton] at hx
   rcases hx with hx | rfl
   ·exact m1.dj x (by simp [hx]) c hc
   ·have := (svn c hc).2
    show ¬ (g.A ≤ c ∧ _)
    omega
 ·intro x hx
  rw [List.mem_append, List.mem_singleton] at hx
  rcases hx with hx | rfl
  ·exact hI.an x (by simp [hx])
  ·exact hI.an g (by simp)
 ·refine (hI.fm.trans f1).then f16 fun c hc h => ?_
  rcases h with h | h
  ·have := (rin c h).1; have := hI.an g (by simp); omega
  ·have := (svn c h).1; omega
end Go.Di
end
section
namespace Go.Di
open Go.Ev
variable {C : Nat → Ev.Call}
theorem q7s (hC : qav C) {j : Nat} (hj : 20 ≤ j) {L : List (List Nat)} {v : AV} {n : Nat} (hn : n < qaq L) (h4 : n % 4 = 0) {H0 H : Hp} {cb sb : Nat} {sv : AV} {l : List SpG} {g : SpG} (hI : OfI L v H0 H cb sb sv l g)
  (hl : l.length ≤ 1000) {G : AV → Hp → R1} {Q : AV → Hp → Prop}
  (hG : ∀ (H' : Hp) (sv' : AV) (A : Nat), OfI L v H0 H' cb sb sv' (l ++ [g]) ⟨spOf (n / 4), [], .nilsl, A, A⟩ → Ok (qhr (C j) G (.ptr cb 0) (.ptr sb 0) (.int .i64 (.ofNat n)) H') Q) :
  Ok (qkh (C j) G (.ptr cb 0) (.ptr sb 0) (.int .i64 (.ofNat n)) H) Q := by
 have hm : qaq L ≤ 12 := Nat.min_le_right _ _
 rw [qhs]
 unfold qc7
 have hsb := hI.sbl
 have s0 := hI.sbk
 have m0 := hI.m
 have ax := hI.ax
 have gB : g.B ≤ H.nx := (m0.rel g (by simp)).2
 have es : eqF 64 sv sv = true := by
  refine qca ?_ 63
  rcases m0.gl.is with ⟨h, _⟩ | ⟨_, _, _, _, _, h, _⟩ <;> (rw [h]; rfl)
 simp (disch := first | omega | exact ti rfl | (simp only [np, nq]; first | done | omega)) only [go_sem, reduceAdd, reduceMul, reduceSub, reduceLeDiff, reduceEqDiff, reduceShiftRight, reduceAnd, s0, h4]
 have fX : Fm No H ⟨H.t, H.nx + 10⟩ := by (repeat (first | exact Fm.refl _ _ | assumption | refine Fm.push ?_ _ | refine Fm.up2 ?_ (by (first | omega | (simp only [np, nq]; omega))) | refine Fm.put_new ?_ _ _ (by (first | omega | (simp only [np, nq]; omega)))))
 refine Ok.deO (qki hC (k := j) (by omega) (n / 4) (by omega) _) ?_
 rintro _ H1 ⟨rfl, f1⟩
 have f01 := fX.trans f1
 have n1 : H.nx + 10 ≤ H1.nx := f1.nx
 have s1 := (f01.keep hsb.2.2).trans s0
 unfold SS.v
 simp (disch := first | omega | exact ti rfl | (simp only [np, nq]; first | done | omega)) only [go_sem, reduceAdd, reduceMul, reduceSub, reduceLeDiff, reduceEqDiff, reduceShiftRight, reduceAnd, s1, es]
 have fV : Fm No H (H1.put (H.nx + 6) (qaa 0 [.str (spOf (n / 4)).n (spOf (n / 4)).a, .nilsl])) := f01.put_new _ _ (by omega)
 have mV := m0.no fV
 obtain ⟨H2, e2, g2, q2, f2, n2⟩ := mV.gl.append (k := 1) (w := 40) (x := [.str (spOf (n / 4)).n (spOf (n / 4)).a, .nilsl]) (by omega) rfl (by simp; omega) (by simp; omega)
 simp only [nq] at e2 g2 q2 n2
 have sb2 : H2.get sb = qaa 0 [sv] := (f2.get sb (by simp only [nq]; omega) hI.ns.1).trans ((fV.keep hsb.2.2).trans s0)
 refine Ok.deE e2 ?_
 simp (disch := first | omega | exact ti rfl | (simp only [np, nq]; first | done | omega)) only [go_sem, reduceAdd, reduceMul, reduceSub, reduceLeDiff, reduceEqDiff, reduceShiftRight, reduceAnd, sb2]
 have fS : Fm (fun x => x = sb) H2 (H2.put sb (qaa 0 [.sl H1.nx 0 ((l ++ [g]).length + 1) ((l ++ [g]).length + 1) false])) := (Fm.refl _ _).put _ _ fun _ => rfl
 have f02 : Fm (In sv) H H2 := (fV.mono fun _ _ h => absurd h id).then f2 fun _ _ h => h
 have fA : Fm (fun x => In sv x ∨ x = sb) H (H2.put sb (qaa 0 [.sl H1.nx 0 ((l ++ [g]).length + 1) ((l ++ [g]).length + 1) false])) := (f02.mono fun _ _ h => .inl h).then fS fun _ _ h => .inr h
 have inr' : ∀ x, In (.sl H1.nx 0 ((l ++ [g]).length + 1) ((l ++ [g]).length + 1) false) x → x = H1.nx := fun x hx => by
  obtain ⟨_, _, _, _, hx⟩ := hx
  cases hx; rfl
 have svn := hI.svn
 have cl := hI.cbk.lt
 have n02 : H2.nx = H1.nx + 1 := n2
 have nsb : ∀ x ∈ l ++ [g], ¬ (x.A ≤ sb ∧ sb < x.B) := fun x hx => by
  rw [List.mem_append, List.mem_singleton] at hx
  rcases hx with hx | rfl
  ·exact hI.sbd x hx
  ·omega
 refine hG _ (.sl H1.nx 0 ((l ++ [g]).length + 1) ((l ++ [g]).length + 1) false) H2.nx ⟨⟨?_, ?_⟩, qam _ _ _, ⟨hsb.1, ?_, ?_⟩, ?_, hI.ne, ⟨fun h => ?_, fun h => ?_⟩, fun x hx => ?_, nsb, ?_, fun x hx => ?_, Nat.le_refl _, ?_⟩
 ·show cb < H2.nx; omega
 ·rw [qat _ _ _ _ (by have := hI.ne; omega)]
  exact (f02.get cb cl hI.ns.2).trans hI.cbk.is
 ·show sb < H2.nx; omega
 ·show sb < H2.nx; omega
 ·show cb < H2.nx; omega
 ·have := inr' _ h; omega
 ·have := inr' _ h; omega
 ·have h0 := hI.fm.nx
  have := inr' _ hx
  show _ ∧ x < H2.nx
  omega
 ·refine m0.push fA (fun x hx b h1 h2 h => ?_) _ ?_ fun b hb => by have := inr' _ hb; omega
  ·rcases h with h | rfl
   ·exact m0.dj x hx b h ⟨h1, h2⟩
   ·exact nsb x hx ⟨h1, h2⟩
  ·exact g2.fm fS fun b hb h => by have := inr' _ hb; omega
 ·rw [List.mem_append, List.mem_singleton] at hx
  rcases hx with hx | rfl
  ·exact hI.an x hx
  ·have h0 := hI.fm.nx
   show H0.nx ≤ H2.nx
   omega
 ·refine hI.fm.then fA fun c hc h => ?_
  rcases h with h | rfl
  ·have := (svn c h).1; omega
  ·omega
end Go.Di
end
section
namespace Go.Di
open Go.Ev
variable {C : Nat → Ev.Call}
def spN (L : List (List Nat)) (i n : Nat) : SpS := ⟨spOf i, (rg (4 * i) n).map (rel0 L)⟩
def spF (L : List (List Nat)) (i : Nat) : SpS := spN L i (4 * i + 4)
def pre (L : List (List Nat)) (q : Nat) : List SpS := ⟨sU, []⟩ :: (List.range q).map (spF L)
theorem zdc (L : List (List Nat)) (q : Nat) : pre L (q + 1) = pre L q ++ [spF L q] := by
 unfold pre
 rw [List.range_succ, List.map_append]; rfl
def Mid (L : List (List Nat)) (n : Nat) (l : List SpG) (g : SpG) : Prop := ∃ q, l.map SpG.sp = pre L q ∧ g.sp = spN L q n ∧ 4 * q ≤ n ∧ n < 4 * q + 4
def St (L : List (List Nat)) (n : Nat) (l : List SpG) (g : SpG) : Prop := (n = 0 ∧ l = [] ∧ g.sp = ⟨sU, []⟩) ∨ ∃ q, l.map SpG.sp = pre L q ∧ g.sp = spN L q n ∧ 4 * q < n ∧ n ≤ 4 * q + 4
theorem Mid.len {L : List (List Nat)} {n : Nat} {l : List SpG} {g : SpG} (h : Mid L n l g) : l.length = 1 + n / 4 ∧ g.gs.length ≤ 4 := by
 obtain ⟨q, h1, h2, h3, h4⟩ := h
 have e1 := congrArg List.length h1
 have e2 := congrArg (fun s => s.rels.length) h2
 simp only [List.length_map, pre, List.length_cons, List.length_range, SpG.sp, spN, qj7] at e1 e2
 omega
theorem Mid.rel {L : List (List Nat)} {n : Nat} {l : List SpG} {g : SpG} (h : Mid L n l g) {rv : AV} {A B : Nat} {r : RelG} (hr : r.r = rel0 L n) : St L (n + 1) l ⟨g.name, g.gs ++ [r], rv, A, B⟩ := by
 obtain ⟨q, h1, h2, h3, h4⟩ := h
 refine .inr ⟨q, h1, ?_, by omega, by omega⟩
 unfold SpG.sp spN at *
 injection h2 with e1 e2
 rw [qjf h3, List.map_append, List.map_append, e1, e2]
 simp [hr]
theorem St.push {L : List (List Nat)} {n : Nat} {l : List SpG} {g : SpG} (h : St L n l g) (h4 : n % 4 = 0) (A : Nat) : Mid L n (l ++ [g]) ⟨spOf (n / 4), [], .nilsl, A, A⟩ := by
 rcases h with ⟨rfl, rfl, h⟩ | ⟨q, h1, h2, h3, h5⟩
 ·exact ⟨0, by simp [pre, h], rfl, by omega, by omega⟩
 ·have hn : n = 4 * q + 4 := by omega
  subst hn
  refine ⟨q + 1, by rw [List.map_append, h1, zdc, List.map_singleton, h2]; rfl, ?_, by omega, by omega⟩
  unfold SpG.sp spN
  rw [show (4 * q + 4) / 4 = q + 1 by omega, show 4 * q + 4 = 4 * (q + 1) by omega, qq3]
  rfl
theorem St.mid {L : List (List Nat)} {n : Nat} {l : List SpG} {g : SpG} (h : St L n l g) (h4 : ¬ n % 4 = 0) : Mid L n l g := by
 rcases h with ⟨rfl, _, _⟩ | ⟨q, h1, h2, h3, h5⟩
 ·omega
 ·exact ⟨q, h1, h2, by omega, by omega⟩
theorem St.len {L : List (List Nat)} {n : Nat} {l : List SpG} {g : SpG} (h : St L n l g) (hn : n ≤ 12) : l.length ≤ 4 := by
 rcases h with ⟨rfl, rfl, _⟩ | ⟨q, h1, h2, h3, h5⟩
 ·simp
 ·have e1 := congrArg List.length h1
  simp only [List.length_map, pre, List.length_cons, List.length_range] at e1
  omega
theorem q71 (hC : qav C) {j : Nat} (hj : 20 ≤ j) {L : List (List Nat)} {v : AV} {H0 : Hp} {cb sb : Nat} (hv : ArgC H0 v L) {Q : AV → Hp → Prop} {q : Hp → R1}
  (hq : ∀ (H : Hp) (sv : AV) (l : List SpG) (g : SpG), OfI L v H0 H cb sb sv l g → St L (qaq L) l g → Ok (q H) Q) :
  ∀ (k n : Nat) (l : List SpG) (g : SpG) (sv : AV) (H : Hp), n ≤ qaq L → qaq L - n < k → OfI L v H0 H cb sb sv l g → St L n l g →
   Ok (qb4 (C j) q (.ptr cb 0) (.ptr sb 0) k (.int .i64 (.ofNat n)) H) Q
 | 0, n, _, _, _, _, _, h, _, _ => by omega
 | k + 1, n, l, g, sv, H, hi, hk, hI, hS => by
  show Ok (qxl (C j) _ _ _ (qb4 (C j) _ _ _ k) _ H) Q
  unfold qxl
  have hm : qaq L ≤ 12 := Nat.min_le_right _ _
  have e0 := hI.cbk.is
  simp (disch := first | omega | exact ti rfl | (simp only [np, nq]; first | done | omega)) only [go_sem, reduceAdd, reduceMul, reduceSub, reduceLeDiff, reduceEqDiff, reduceShiftRight, reduceAnd, e0]
  refine Ok.ve (qjl hC (k := j) (by omega) (hv.fm hI.fm)) ?_
  rintro _ H2 ⟨rfl, f2⟩
  have hI2 : OfI L v H0 H2 cb sb sv l g := ⟨hI.cbk.fm f2, (f2.keep hI.sbl.2.2).trans hI.sbk, ⟨hI.sbl.1, hI.sbl.2.1, Nat.lt_of_lt_of_le hI.sbl.2.2 f2.nx⟩, hI.cbl, hI.ne, hI.ns, hI.svn, hI.sbd, hI.m.no f2, hI.an, Nat.le_trans hI.ax f2.nx, hI.fm.trans f2⟩
  by_cases hlt : n < qaq L
  ·simp (disch := first | omega | exact ti rfl | (simp only [np, nq]; first | done | omega)) only [go_sem, reduceAdd, reduceMul, reduceSub, reduceLeDiff, reduceEqDiff, reduceShiftRight, reduceAnd, hlt]
   have next : ∀ (l : List SpG) (g : SpG) (sv : AV) (H : Hp), OfI L v H0 H cb sb sv l g → Mid L n l g → Ok (qhr (C j) (qb4 (C j) q (.ptr cb 0) (.ptr sb 0) k) (.ptr cb 0) (.ptr sb 0) (.int .i64 (.ofNat n)) H) Q := by
    intro l g sv H hI hM
    refine zcz hC hj hlt hv hI hM.len.1 (by have := hM.len.2; omega) fun H' rv' rg hr hI' => ?_
    exact q71 hC hj hv hq k (n + 1) l _ sv H' (by omega) (by omega) hI' (hM.rel hr)
   by_cases h4 : n % 4 = 0
   ·refine q7s hC hj hlt h4 hI2 (by have := hS.len (by omega); omega) fun H' sv' A hI' => ?_
    exact next _ _ _ _ hI' (hS.push h4 A)
   ·rw [qhs]
    unfold qc7
    simp (disch := first | omega | exact ti rfl | (simp only [np, nq]; first | done | omega)) only [go_sem, reduceAdd, reduceMul, reduceSub, reduceLeDiff, reduceEqDiff, reduceShiftRight, reduceAnd, h4]
    exact next _ _ _ _ hI2 (hS.mid h4)
  ·have he : n = qaq L := by omega
   subst he
   simp (disch := first | omega | exact ti rfl | (simp only [np, nq]; first | done | omega)) only [go_sem, reduceAdd, reduceMul, reduceSub, reduceLeDiff, reduceEqDiff, reduceShiftRight, reduceAnd, hlt]
   exact hq H2 sv l g hI2 hS
end Go.Di
end
section
namespace Go.Di
open Go.Ev
variable {C : Nat → Ev.Call}
theorem Gl.sub {z n : Nat} {H : Hp} {v : AV} {l : List AV} (h : Gl z H v n l) {i : Nat} (hi : i < n) : ∃ b o, idxS z v (.int .i64 (.ofNat i)) = .val (.ptr b o) ∧ b < H.nx ∧ In v b ∧ ∀ s k, s + k ≤ z → qba (H.get b) (o + s) k = some ((((l.drop (i * z)).take z).drop s).take k) := by
 have hl := h.len
 rcases h.is with ⟨rfl, rfl⟩ | ⟨b, o, e, q, L, rfl, h1, h2, h3, h4, h5⟩
 ·omega
 ·have hm : i * z + z ≤ n * z := by
   have : (i + 1) * z ≤ n * z := Nat.mul_le_mul_right z hi
   rw [Nat.add_mul, Nat.one_mul] at this; exact this
  have hL : o + n * z = L.length := by rw [← h3, List.length_drop] at hl; omega
  refine ⟨b, o + i * z, qg8 _ _ _ _ _ _ _ _ hi, h5, ⟨_, _, _, _, rfl⟩, fun s k hs => ?_⟩
  have e2 : ((l.drop (i * z)).take z).drop s = (L.drop (o + i * z + s)).take (z - s) := by
   rw [List.drop_take, ← h3, List.drop_drop, List.drop_drop, Nat.add_assoc]
  rw [e2, List.take_take, Nat.min_eq_left (by omega), h1, qdb, if_pos (by omega)]
theorem qdz.at {A B : Nat} {H : Hp} {rv : AV} {gs : List RelG} (h : qdz A B H rv gs) {i : Nat} (hi : i < gs.length) :
  ∃ b o, idxS 6 rv (.int .i64 (.ofNat i)) = .val (.ptr b o) ∧ b < H.nx ∧ In rv b ∧ qap (H.get b) o = .val (.str gs[i].r.name.n gs[i].r.name.a) ∧ qap (H.get b) (o + 1) = .val gs[i].tv ∧ qba (H.get b) (o + 2) 4 = some gs[i].cs ∧ qba (H.get b) o 6 = some (relC gs[i]) := by
 obtain ⟨b, o, h1, h2, h3, h4⟩ := h.gl.sub hi
 obtain ⟨b', o', g1, _, _, g4, g5⟩ := (h.gl.rs qie).at' i hi
 rw [h1] at g1
 injection g1 with g1
 injection g1 with g1 g2
 subst g1 g2
 refine ⟨b, o, h1, h2, h3, g5 0 (by rw [qie]; omega), g5 1 (by rw [qie]; omega), ?_, g4⟩
 rw [h4 2 4 (by omega), qmx qie gs i hi]
 obtain ⟨c0, c1, c2, c3, hc⟩ := (h.ru gs[i] (List.getElem_mem hi)).four
 unfold relC
 rw [hc]; rfl
def qqt (rels : List RelS) (r : RelS) : Bool := hasR r.rule 1 sE || rels.any fun x => hasR x.rule 3 r.name
theorem qlu (hC : qav C) {j : Nat} (hj : 20 ≤ j) {A B : Nat} {rv : AV} {gs : List RelG} {H0 : Hp} (hI : qdz A B H0 rv gs) (hlen : gs.length ≤ 1000) (hd : ∀ g ∈ gs, g.r.rule.depth ≤ 12 ∧ g.r.rule.size ≤ 10000) {kk : Nat} (hkk : kk < gs.length)
  {u0 : Bool} {Q : AV → Hp → Prop} {q : AV → Hp → R1} (hq : ∀ H, Fm No H0 H → Ok (q (.bool (u0 || gs.any fun x => hasR x.r.rule 3 gs[kk].r.name)) H) Q) :
  ∀ (k i : Nat) (u : Bool) (H : Hp), i ≤ gs.length → gs.length - i < k → Fm No H0 H → u = (u0 || (gs.take i).any fun x => hasR x.r.rule 3 gs[kk].r.name) →
   Ok (qeb (C j) q rv (.int .i64 (.ofNat kk)) k (.bool u) (.int .i64 (.ofNat i)) H) Q
 | 0, i, _, _, _, h, _, _ => by omega
 | k + 1, i, u, H, hi, hk, hf, hu => by
  show Ok (qxm (C j) _ _ _ (qeb (C j) _ _ _ k) _ _ H) Q
  unfold qxm
  have hIH := hI.fmS hf fun _ _ _ h => h
  have hl := hIH.gl.lenV
  by_cases hlt : i < gs.length
  ·simp (disch := first | omega | exact ti rfl | (simp only [np, nq]; first | done | omega)) only [go_sem, reduceAdd, reduceMul, reduceSub, reduceLeDiff, reduceEqDiff, reduceShiftRight, reduceAnd, hl, hlt]
   rw [qoe]
   unfold qff
   have hs : ((gs.take (i + 1)).any fun x => hasR x.r.rule 3 gs[kk].r.name) = (((gs.take i).any fun x => hasR x.r.rule 3 gs[kk].r.name) || hasR gs[i].r.rule 3 gs[kk].r.name) := by
    rw [List.take_succ_eq_append_getElem hlt, List.any_append]; simp
   cases u with
   | true =>
    simp (disch := first | omega | exact ti rfl | (simp only [np, nq]; first | done | omega)) only [go_sem, reduceAdd, reduceMul, reduceSub, reduceLeDiff, reduceEqDiff, reduceShiftRight, reduceAnd]
    rw [qjb]
    unfold qd0
    simp (disch := first | omega | exact ti rfl | (simp only [np, nq]; first | done | omega)) only [go_sem, reduceAdd, reduceMul, reduceSub, reduceLeDiff, reduceEqDiff, reduceShiftRight, reduceAnd]
    refine qlu hC hj hI hlen hd hkk hq k (i + 1) true H (by omega) (by omega) hf ?_
    rw [hs, ← Bool.or_assoc, ← hu]; rfl
   | false =>
    obtain ⟨b, o, e1, e2, _, _, _, e6, _⟩ := hIH.at hlt
    obtain ⟨b', o', g1, g2, _, g4, _, _, _⟩ := hIH.at hkk
    simp (disch := first | omega | exact ti rfl | (simp only [np, nq]; first | done | omega)) only [go_sem, reduceAdd, reduceMul, reduceSub, reduceLeDiff, reduceEqDiff, reduceShiftRight, reduceAnd, e1, e6, g1, g4]
    refine Ok.deO (zfd hC (k := j) (r := gs[i].r.rule) (by have := (hd _ (List.getElem_mem hlt)).1; omega) (by have := (hd _ (List.getElem_mem hlt)).2; omega) (hIH.ru _ (List.getElem_mem hlt)) 3 gs[kk].r.name) ?_
    rintro _ H2 ⟨rfl, f2⟩
    simp (disch := first | omega | exact ti rfl | (simp only [np, nq]; first | done | omega)) only [go_sem, reduceAdd, reduceMul, reduceSub, reduceLeDiff, reduceEqDiff, reduceShiftRight, reduceAnd]
    rw [qjb]
    unfold qd0
    simp (disch := first | omega | exact ti rfl | (simp only [np, nq]; first | done | omega)) only [go_sem, reduceAdd, reduceMul, reduceSub, reduceLeDiff, reduceEqDiff, reduceShiftRight, reduceAnd]
    refine qlu hC hj hI hlen hd hkk hq k (i + 1) _ H2 (by omega) (by omega) (hf.trans f2) ?_
    rw [hs, ← Bool.or_assoc, ← hu]; rfl
  ·have he : i = gs.length := by omega
   simp (disch := first | omega | exact ti rfl | (simp only [np, nq]; first | done | omega)) only [go_sem, reduceAdd, reduceMul, reduceSub, reduceLeDiff, reduceEqDiff, reduceShiftRight, reduceAnd, hl, hlt]
   rw [he, List.take_length] at hu
   rw [hu]
   exact hq H hf
end Go.Di
end
section
namespace Go.Di
open Go.Ev
variable {C : Nat → Ev.Call}
def qcc (rels : List RelS) (r : RelS) : RelS := if qqt rels r then r else ⟨r.name, [], r.rule⟩
theorem qb7 (rels : List RelS) (r : RelS) : (qcc rels r).rule = r.rule := by unfold qcc; split <;> rfl
theorem Rs.nil {α : Type} (z : Nat) (f : α → List AV) (H : Hp) : Rs z f H .nilsl ([] : List α) := ⟨rfl, fun i h => by simp at h⟩
def noTy (g : RelG) : RelG := ⟨⟨g.r.name, [], g.r.rule⟩, .nilsl, g.cs⟩
theorem q7g : ∀ (l : List RelG) (i : Nat) (h : i < l.length), setL (l.flatMap relC) (i * 6 + 1) [.nilsl] = (l.set i (noTy l[i])).flatMap relC
 | [], _, h => by simp at h
 | x :: l, 0, _ => by simp [setL, relC, noTy]
 | x :: l, i + 1, h => by
  have := q7g l i (by simpa using h)
  rw [List.set_cons_succ, List.flatMap_cons, List.flatMap_cons, List.getElem_cons_succ, ← this]
  unfold setL
  have e : (i + 1) * 6 + 1 = (relC x).length + (i * 6 + 1) := by rw [qie]; omega
  rw [e, List.take_length_add_append, List.append_assoc, List.append_assoc]
  congr 1
  rw [List.append_assoc]
  congr 2
  rw [Nat.add_assoc, List.drop_length_add_append]
def midR (rels : List RelS) (k : Nat) : List RelS := (rels.take k).map (qcc rels) ++ rels.drop k
theorem q73 {rels : List RelS} {k : Nat} (h : k < rels.length) (h' : k < (midR rels k).length) : (midR rels k)[k] = rels[k] := by
 have e : (midR rels k)[k]? = some rels[k] := by
  unfold midR
  rw [List.getElem?_append_right (by simp; omega)]
  simp [Nat.min_eq_left (Nat.le_of_lt h), h]
 exact Option.some.inj ((List.getElem?_eq_getElem h').symm.trans e)
theorem zdn (rels : List RelS) (k : Nat) (s : SS) : (midR rels k).any (fun x => hasR x.rule 3 s) = rels.any (fun x => hasR x.rule 3 s) := by
 unfold midR
 rw [List.any_append, List.any_map]
 conv => rhs; rw [← List.take_append_drop k rels, List.any_append]
 congr 2
 funext x
 simp only [Function.comp, qb7]
theorem qrd (rels : List RelS) (k : Nat) : (midR rels k).length = rels.length := by
 unfold midR; simp; omega
theorem qs9 {rels : List RelS} {k : Nat} (h : k < rels.length) : midR rels (k + 1) = (midR rels k).set k (qcc rels rels[k]) := by
 unfold midR
 rw [List.take_succ_eq_append_getElem h, List.map_append, List.map_singleton, List.append_assoc, List.set_append_right _ _ (by simp; omega)]
 simp only [List.length_map, List.length_take, Nat.min_eq_left (Nat.le_of_lt h), Nat.sub_self]
 conv => rhs; rw [List.drop_eq_getElem_cons h]
 rfl
theorem qdz.set {A B : Nat} {H : Hp} {rv : AV} {gs : List RelG} (h : qdz A B H rv gs) {i : Nat} (hi : i < gs.length) :
  ∃ b o H', idxS 6 rv (.int .i64 (.ofNat i)) = .val (.ptr b o) ∧ storeAt H b (o + 1) [.nilsl] .undef = .ok .undef H' ∧ qdz A B H' rv (gs.set i (noTy gs[i])) ∧ Fm (In rv) H H' := by
 obtain ⟨b, o, H', e1, e2, g, f, _⟩ := h.gl.set1 hi (j := 1) (by omega) .nilsl
 rw [q7g gs i hi] at g
 refine ⟨b, o, H', e1, e2, ⟨by rw [List.length_set]; exact g, h.inn, fun y hy => ?_, fun y hy => ?_⟩, f⟩
 ·rcases List.mem_or_eq_of_mem_set hy with hy | rfl
  ·exact ⟨(h.ty y hy).1.fmS f fun c hc => ((h.ty y hy).2.2 c hc).2.2, (h.ty y hy).2⟩
  ·exact ⟨Rs.nil _ _ _, .inl rfl, fun c hc => by obtain ⟨_, _, _, _, hc⟩ := hc; cases hc⟩
 ·rcases List.mem_or_eq_of_mem_set hy with hy | rfl
  ·exact (h.ru y hy).fmS f fun c hc => hc.2.2
  ·exact (h.ru gs[i] (List.getElem_mem hi)).fmS f fun c hc => hc.2.2
theorem qjr (hC : qav C) {j : Nat} (hj : 20 ≤ j) {A B : Nat} {rv : AV} {rels : List RelS} {H1 : Hp} (hlen : rels.length ≤ 1000) (hd : ∀ r ∈ rels, r.rule.depth ≤ 12 ∧ r.rule.size ≤ 10000)
  {Q : AV → Hp → Prop} {q : Hp → R1} (hq : ∀ gs H, gs.map RelG.r = rels.map (qcc rels) → qdz A B H rv gs → Fm (In rv) H1 H → Ok (q H) Q) :
  ∀ (k i : Nat) (gs : List RelG) (H : Hp), i ≤ rels.length → rels.length - i < k → gs.map RelG.r = midR rels i → qdz A B H rv gs → Fm (In rv) H1 H →
   Ok (qbi (C j) q rv k (.int .i64 (.ofNat i)) H) Q
 | 0, i, _, _, _, h, _, _, _ => by omega
 | k + 1, i, gs, H, hi, hk, hg, hI, hf => by
  show Ok (qxn (C j) _ _ (qbi (C j) _ _ k) _ H) Q
  unfold qxn
  have hl := hI.gl.lenV
  have hgl : gs.length = rels.length := by
   have := congrArg List.length hg
   rwa [List.length_map, qrd] at this
  have hdg : ∀ g ∈ gs, g.r.rule.depth ≤ 12 ∧ g.r.rule.size ≤ 10000 := fun g hgm => by
   have : g.r ∈ midR rels i := by rw [← hg]; exact List.mem_map_of_mem hgm
   unfold midR at this
   rw [List.mem_append, List.mem_map] at this
   rcases this with ⟨r, hr, he⟩ | h
   ·rw [← he, qb7]; exact hd r (List.mem_of_mem_take hr)
   ·exact hd _ (List.mem_of_mem_drop h)
  by_cases hlt : i < rels.length
  ·have hlt' : i < gs.length := by omega
   simp (disch := first | omega | exact ti rfl | (simp only [np, nq]; first | done | omega)) only [go_sem, reduceAdd, reduceMul, reduceSub, reduceLeDiff, reduceEqDiff, reduceShiftRight, reduceAnd, hl, hlt']
   rw [qod]
   unfold qfe
   obtain ⟨b, o, e1, e2, _, _, _, e6, _⟩ := hI.at hlt'
   simp (disch := first | omega | exact ti rfl | (simp only [np, nq]; first | done | omega)) only [go_sem, reduceAdd, reduceMul, reduceSub, reduceLeDiff, reduceEqDiff, reduceShiftRight, reduceAnd, e1, e6]
   refine Ok.ve (zfd hC (k := j) (r := gs[i].r.rule) (by have := (hdg _ (List.getElem_mem hlt')).1; omega) (by have := (hdg _ (List.getElem_mem hlt')).2; omega) (hI.ru _ (List.getElem_mem hlt')) 1 sE) ?_
   rintro _ H2 ⟨rfl, f2⟩
   have hI2 := hI.fmS f2 fun _ _ _ h => h
   have hir : gs[i].r = rels[i] := by
    have h1 : (gs.map RelG.r)[i]'(by simpa using hlt') = gs[i].r := List.getElem_map ..
    rw [← h1, ← q73 hlt (by rw [qrd]; exact hlt)]
    congr 1
   have hus : (hasR gs[i].r.rule 1 sE || gs.any fun x => hasR x.r.rule 3 gs[i].r.name) = qqt rels rels[i] := by
    unfold qqt
    rw [hir, ← zdn rels i, ← hg, List.any_map]; rfl
   unfold qxq
   rw [qan]
   refine qlu hC hj hI2 (by omega) hdg hlt' (u0 := hasR gs[i].r.rule 1 sE) (fun H3 f3 => ?_) qak 0 _ H2 (Nat.zero_le _) (by rw [qaf]; omega) (Fm.refl _ _) (by simp)
   rw [hus]
   rw [qof]
   unfold qfg
   have hI3 := hI2.fmS f3 fun _ _ _ h => h
   have hf3 : Fm (In rv) H1 H3 := (hf.then f2 fun _ _ h => absurd h id).then f3 fun _ _ h => absurd h id
   cases hu : qqt rels rels[i] with
   | true =>
    simp (disch := first | omega | exact ti rfl | (simp only [np, nq]; first | done | omega)) only [go_sem, reduceAdd, reduceMul, reduceSub, reduceLeDiff, reduceEqDiff, reduceShiftRight, reduceAnd]
    rw [qjc]
    unfold qd1
    simp (disch := first | omega | exact ti rfl | (simp only [np, nq]; first | done | omega)) only [go_sem, reduceAdd, reduceMul, reduceSub, reduceLeDiff, reduceEqDiff, reduceShiftRight, reduceAnd]
    refine qjr hC hj hlen hd hq k (i + 1) gs H3 (by omega) (by omega) ?_ hI3 hf3
    rw [qs9 hlt, hg]
    have : qcc rels rels[i] = (midR rels i)[i]'(by rw [qrd]; exact hlt) := by rw [q73 hlt]; unfold qcc; rw [hu]; rfl
    rw [this, List.set_getElem_self]
   | false =>
    obtain ⟨b', o', H4, g1, g2, g3, g4⟩ := hI3.set hlt'
    simp (disch := first | omega | exact ti rfl | (simp only [np, nq]; first | done | omega)) only [go_sem, reduceAdd, reduceMul, reduceSub, reduceLeDiff, reduceEqDiff, reduceShiftRight, reduceAnd, g1, g2]
    rw [qjc]
    unfold qd1
    simp (disch := first | omega | exact ti rfl | (simp only [np, nq]; first | done | omega)) only [go_sem, reduceAdd, reduceMul, reduceSub, reduceLeDiff, reduceEqDiff, reduceShiftRight, reduceAnd]
    refine qjr hC hj hlen hd hq k (i + 1) _ H4 (by omega) (by omega) ?_ g3 (hf3.then g4 fun _ _ h => h)
    rw [qs9 hlt, List.map_set, hg]
    congr 1
    unfold qcc noTy
    rw [hu, hir]; rfl
  ·have he : i = rels.length := by omega
   have hlt' : ¬ i < gs.length := by omega
   simp (disch := first | omega | exact ti rfl | (simp only [np, nq]; first | done | omega)) only [go_sem, reduceAdd, reduceMul, reduceSub, reduceLeDiff, reduceEqDiff, reduceShiftRight, reduceAnd, hl, hlt']
   refine hq gs H ?_ hI hf
   rw [hg, he]
   unfold midR
   rw [List.take_length, List.drop_length, List.append_nil]
end Go.Di
end
section
namespace Go.Di
open Go.Ev
variable {C : Nat → Ev.Call}
theorem q2s (L : List (List Nat)) (n : Nat) : ∀ (d i : Nat) (neg : Bool), i ≤ (qa3 L n d i neg).2 ∧ (qa3 L n d i neg).1.size ≤ 2 * ((qa3 L n d i neg).2 - i) + 1 ∧ (qa3 L n d i neg).1.depth ≤ d + 1 := by
 have hl : ∀ neg, (qjm neg).size = 1 ∧ (qjm neg).depth = 1 := fun neg => by cases neg <;> exact ⟨rfl, rfl⟩
 have ha : ∀ c neg, (arrR L n c neg).size = 1 ∧ (arrR L n c neg).depth = 1 := fun c neg => by
  unfold arrR; split
  ·exact hl neg
  ·exact ⟨rfl, rfl⟩
 intro d
 induction d with
 | zero => intro i neg; unfold qa3; have := hl neg; simp only; omega
 | succ d ih =>
  intro i neg
  unfold qa3
  have h1 := hl neg
  split
  ·simp only; omega
  split
  ·simp only; omega
  split
  ·simp only [cmpR, Ru.size, Ru.depth]; omega
  split
  ·have := ha (qa4 L n i / 8) neg; simp only; omega
  have h1 := ih (i + 1) neg
  have h2 := ih (qa3 L n d (i + 1) neg).2 (neg || decide (qij n (qa4 L n i) = 6))
  simp only [Ru.size, Ru.depth]
  omega
theorem ql3 (L : List (List Nat)) (n : Nat) : (rel0 L n).rule.size ≤ 21 ∧ (rel0 L n).rule.depth ≤ 7 := by
 have h1 := q2s L n 6 2 false
 have h2 := (qkm L n 6 2 false).2
 unfold rel0
 simp only
 omega
def q14 (p : SpS) : SpS := ⟨p.name, p.rels.map (qcc p.rels)⟩
def rawC (L : List (List Nat)) : List SpS := ⟨sU, []⟩ :: (List.range ((qaq L + 3) / 4)).map fun i => spN L i (min (qaq L) (4 * i + 4))
def schC (L : List (List Nat)) : List SpS := (rawC L).map q14
theorem St.raw {L : List (List Nat)} {l : List SpG} {g : SpG} (h : St L (qaq L) l g) : (l ++ [g]).map SpG.sp = rawC L := by
 unfold rawC
 rw [List.map_append, List.map_singleton]
 rcases h with ⟨h0, rfl, h⟩ | ⟨q, h1, h2, h3, h5⟩
 ·rw [h0, h]; rfl
 ·have hq : (qaq L + 3) / 4 = q + 1 := by omega
  rw [hq, List.range_succ, List.map_append, List.map_singleton, h1, h2]
  unfold pre
  rw [List.cons_append]
  congr 2
  ·refine List.map_congr_left fun i hi => ?_
   rw [List.mem_range] at hi
   unfold spF
   rw [Nat.min_eq_right (by omega)]
  ·rw [Nat.min_eq_left (by omega)]
theorem q7i {L : List (List Nat)} {p : SpS} (hp : p ∈ rawC L) : p.rels.length ≤ 4 ∧ ∀ r ∈ p.rels, ∃ n, n < qaq L ∧ r = rel0 L n := by
 unfold rawC at hp
 rw [List.mem_cons, List.mem_map] at hp
 rcases hp with rfl | ⟨i, hi, rfl⟩
 ·exact ⟨by simp, fun r hr => by cases hr⟩
 ·refine ⟨by simp only [spN, List.length_map, qj7]; omega, fun r hr => ?_⟩
  simp only [spN, List.mem_map, qgg] at hr
  obtain ⟨n, hn, rfl⟩ := hr
  exact ⟨n, by omega, rfl⟩
theorem qdz.flat {A B : Nat} {H : Hp} {rv : AV} {gs : List RelG} (h : qdz A B H rv gs) : qim rv = true := by
 rcases h.gl.is with ⟨h, _⟩ | ⟨_, _, _, _, _, h, _⟩ <;> (rw [h]; rfl)
theorem SchM.setG {H H' : Hp} {sv : AV} {X : List SpG} (m : SchM H sv X) {i : Nat} (hi : i < X.length) {gs : List RelG} (hr : qdz X[i].A X[i].B H' X[i].rv gs) (f : Fm (In X[i].rv) H H') :
  SchM H' sv (X.set i ⟨X[i].name, gs, X[i].rv, X[i].A, X[i].B⟩) := by
 have hm := List.getElem_mem hi
 have rin := (m.rel _ hm).1.inn
 refine ⟨?_, ?_, ?_, ?_⟩
 ·have e : (X.set i ⟨X[i].name, gs, X[i].rv, X[i].A, X[i].B⟩).flatMap spC = X.flatMap spC := by
   rw [List.flatMap_def, List.flatMap_def, List.map_set]
   congr 1
   have : (X.map spC)[i]'(by simpa using hi) = spC ⟨X[i].name, gs, X[i].rv, X[i].A, X[i].B⟩ := by rw [List.getElem_map]; rfl
   rw [← this, List.set_getElem_self]
  rw [List.length_set, e]
  exact m.gl.fm f fun b h1 h2 => m.dj _ hm b h1 (rin b h2)
 ·have ho := m.ord
  rw [List.pairwise_iff_getElem] at ho ⊢
  intro a b ha hb hab
  rw [List.length_set] at ha hb
  have := ho a b ha hb hab
  rw [List.getElem_set, List.getElem_set]
  split <;> split <;> (subst_vars; first | exact this | omega)
 ·intro g hg
  rw [List.mem_iff_getElem] at hg
  obtain ⟨j, hj, rfl⟩ := hg
  rw [List.length_set] at hj
  rw [List.getElem_set]
  split
  ·exact ⟨hr, Nat.le_trans (m.rel _ hm).2 f.nx⟩
  ·rename_i hne
   have hjm := List.getElem_mem hj
   refine ⟨(m.rel _ hjm).1.fmS f fun b h1 h2 h3 => ?_, Nat.le_trans (m.rel _ hjm).2 f.nx⟩
   have h4 := rin b h3
   have ho := m.ord
   rw [List.pairwise_iff_getElem] at ho
   rcases Nat.lt_or_gt_of_ne hne with h | h
   ·have := ho i j hi hj h; omega
   ·have := ho j i hj hi h; omega
 ·intro g hg b hb
  rcases List.mem_or_eq_of_mem_set hg with hg | rfl
  ·exact m.dj g hg b hb
  ·exact m.dj _ hm b hb
structure ClI (H0 H : Hp) (sb : Nat) (sv : AV) (X : List SpG) : Prop where
 m : SchM H sv X
 an : ∀ x ∈ X, H0.nx ≤ x.A ∧ ¬ (x.A ≤ sb ∧ sb < x.B)
 sbk : H.get sb = qaa 0 [sv]
 sbl : H0.nx ≤ sb ∧ sb < H.nx
 svn : ∀ b, In sv b → H0.nx ≤ b
 fm : Fm No H0 H
theorem qlx (hC : qav C) {j : Nat} (hj : 20 ≤ j) {H0 : Hp} {sb : Nat} {sv : AV} {S : List SpS} (hS : S.length ≤ 1000) (hr : ∀ p ∈ S, p.rels.length ≤ 1000 ∧ ∀ r ∈ p.rels, r.rule.depth ≤ 12 ∧ r.rule.size ≤ 10000)
  {Q : AV → Hp → Prop} {q : Hp → R1} (hq : ∀ X H, X.map SpG.sp = S.map q14 → ClI H0 H sb sv X → Ok (q H) Q) :
  ∀ (k i : Nat) (X : List SpG) (H : Hp), i ≤ S.length → S.length - i < k → X.map SpG.sp = (S.take i).map q14 ++ S.drop i → ClI H0 H sb sv X →
   Ok (qa0 (C j) q (.ptr sb 0) k (.int .i64 (.ofNat i)) H) Q
 | 0, i, _, _, _, h, _, _ => by omega
 | k + 1, i, X, H, hi, hk, hX, hI => by
  show Ok (qxo (C j) _ _ (qa0 (C j) _ _ k) _ H) Q
  unfold qxo
  have hl := hI.m.gl.lenV
  have e0 := hI.sbk
  have hXl : X.length = S.length := by
   have := congrArg List.length hX
   simp only [List.length_map, List.length_append, List.length_take, List.length_drop] at this
   omega
  by_cases hlt : i < S.length
  ·have hlt' : i < X.length := by omega
   simp (disch := first | omega | exact ti rfl | (simp only [np, nq]; first | done | omega)) only [go_sem, reduceAdd, reduceMul, reduceSub, reduceLeDiff, reduceEqDiff, reduceShiftRight, reduceAnd, e0, hl, hlt']
   rw [qoc]
   unfold qfd
   obtain ⟨b, o, e1, e2, _, _, e4⟩ := (hI.m.gl.rs qee).at' i hlt'
   have r1 : qap (H.get b) (o + 1) = .val X[i].rv := e4 1 (by rw [qee]; omega)
   simp (disch := first | omega | exact ti rfl | (simp only [np, nq]; first | done | omega)) only [go_sem, reduceAdd, reduceMul, reduceSub, reduceLeDiff, reduceEqDiff, reduceShiftRight, reduceAnd, e0, e1, r1]
   unfold qxr
   rw [qan]
   have hsp : X[i].sp = S[i] := by
    have h1 : (X.map SpG.sp)[i]'(by simpa using hlt') = X[i].sp := List.getElem_map ..
    have h2 : (X.map SpG.sp)[i]? = some S[i] := by
     rw [hX, List.getElem?_append_right (by simp; omega)]
     simp [Nat.min_eq_left hi, hlt]
    rw [← h1]
    exact Option.some.inj ((List.getElem?_eq_getElem _).symm.trans h2)
   have hrl : X[i].gs.map RelG.r = S[i].rels := congrArg SpS.rels hsp
   have hSm := hr S[i] (List.getElem_mem hlt)
   have hm := List.getElem_mem hlt'
   refine qjr hC hj (rels := S[i].rels) (A := X[i].A) (B := X[i].B) (rv := X[i].rv) (H1 := H) hSm.1 hSm.2 (fun gs H' hg hR f => ?_) qak 0 X[i].gs H (Nat.zero_le _) (by rw [qaf]; omega) (by rw [hrl]; simp [midR]) (hI.m.rel _ hm).1 (Fm.refl _ _)
   rw [qog]
   unfold qfh
   simp (disch := first | omega | exact ti rfl | (simp only [np, nq]; first | done | omega)) only [go_sem, reduceAdd, reduceMul, reduceSub, reduceLeDiff, reduceEqDiff, reduceShiftRight, reduceAnd]
   have rin := (hI.m.rel _ hm).1.inn
   have han := hI.an _ hm
   have hsbl := hI.sbl
   refine qlx hC hj hS hr hq k (i + 1) _ H' (by omega) (by omega) ?_ ⟨hI.m.setG hlt' hR f, ?_, ?_, ?_, hI.svn, ?_⟩
   ·rw [List.map_set, hX, List.take_succ_eq_append_getElem hlt, List.map_append, List.map_singleton, List.append_assoc, List.set_append_right _ _ (by simp; omega)]
    simp only [List.length_map, List.length_take, Nat.min_eq_left hi, Nat.sub_self]
    rw [List.drop_eq_getElem_cons hlt, List.set_cons_zero, List.singleton_append]
    congr 2
    unfold SpG.sp q14
    rw [hg]
    congr 1
    exact congrArg SpS.name hsp
   ·intro x hx
    rcases List.mem_or_eq_of_mem_set hx with hx | rfl
    ·exact hI.an x hx
    ·exact han
   ·exact (f.get _ hsbl.2 fun h => han.2 (rin _ h)).trans hI.sbk
   ·exact ⟨hsbl.1, Nat.lt_of_lt_of_le hsbl.2 f.nx⟩
   ·exact hI.fm.then f fun c hc h => by have := (rin c h).1; omega
  ·have he : i = S.length := by omega
   have hlt' : ¬ i < X.length := by omega
   simp (disch := first | omega | exact ti rfl | (simp only [np, nq]; first | done | omega)) only [go_sem, reduceAdd, reduceMul, reduceSub, reduceLeDiff, reduceEqDiff, reduceShiftRight, reduceAnd, e0, hl, hlt']
   refine hq X H ?_ hI
   rw [hX, he, List.take_length, List.drop_length, List.append_nil]
end Go.Di
end
section
namespace Go.Di
open Go.Ev
variable {C : Nat → Ev.Call}
structure RelR (H : Hp) (g : RelG) : Prop where
 ty : Rs 2 tC H g.tv g.r.types
 tc : g.tv = .nilsl ∨ ∃ b o n m e, g.tv = .sl b o n m e ∧ n ≤ m
 ru : RuC (fun _ => True) H g.r.rule g.cs
structure SpR (H : Hp) (g : SpG) : Prop where
 len : lenSl g.rv = .val (.int .i64 (.ofNat g.gs.length))
 fl : qim g.rv = true
 at' : ∀ i (h : i < g.gs.length), ∃ b o, idxS 6 g.rv (.int .i64 (.ofNat i)) = .val (.ptr b o) ∧ b < H.nx ∧ qap (H.get b) o = .val (.str g.gs[i].r.name.n g.gs[i].r.name.a) ∧ qap (H.get b) (o + 1) = .val g.gs[i].tv ∧ qba (H.get b) (o + 2) 4 = some g.gs[i].cs ∧ qba (H.get b) o 6 = some (relC g.gs[i])
 rel : ∀ x ∈ g.gs, RelR H x
structure SchR (H : Hp) (sv : AV) (X : List SpG) : Prop where
 rs : Rs 2 spC H sv X
 fl : qim sv = true
 sp : ∀ g ∈ X, SpR H g
theorem RelR.tf {H : Hp} {g : RelG} (h : RelR H g) : qim g.tv = true := by
 rcases h.tc with h | ⟨_, _, _, _, _, h, _⟩ <;> (rw [h]; rfl)
theorem RelR.fm {H H' : Hp} {g : RelG} (h : RelR H g) (f : Fm No H H') : RelR H' g := ⟨h.ty.fm f, h.tc, h.ru.fm f⟩
theorem SpR.fm {H H' : Hp} {g : SpG} (h : SpR H g) (f : Fm No H H') : SpR H' g := ⟨h.len, h.fl, fun i hi => by
 obtain ⟨b, o, e1, e2, e3, e4, e5, e6⟩ := h.at' i hi
 have e := f.keep e2
 exact ⟨b, o, e1, Nat.lt_of_lt_of_le e2 f.nx, by rw [e]; exact e3, by rw [e]; exact e4, by rw [e]; exact e5, by rw [e]; exact e6⟩, fun x hx => (h.rel x hx).fm f⟩
theorem SchR.fm {H H' : Hp} {sv : AV} {X : List SpG} (h : SchR H sv X) (f : Fm No H H') : SchR H' sv X := ⟨h.rs.fm f, h.fl, fun g hg => (h.sp g hg).fm f⟩
theorem SchM.sr {H : Hp} {sv : AV} {X : List SpG} (m : SchM H sv X) : SchR H sv X := by
 refine ⟨m.gl.rs qee, ?_, fun g hg => ?_⟩
 ·rcases m.gl.is with ⟨h, _⟩ | ⟨_, _, _, _, _, h, _⟩ <;> (rw [h]; rfl)
 ·have r := (m.rel g hg).1
  refine ⟨r.gl.lenV, r.flat, fun i hi => ?_, fun x hx => ⟨(r.ty x hx).1, (r.ty x hx).2.1, (r.ru x hx).mono fun _ _ _ => trivial⟩⟩
  ·obtain ⟨b, o, e1, e2, _, e4, e5, e6, e7⟩ := r.at hi
   exact ⟨b, o, e1, e2, e4, e5, e6, e7⟩
theorem zmz (hC : qav C) {k : Nat} (hk : 21 ≤ k) {v : AV} {L : List (List Nat)} {H : Hp} (hv : ArgC H v L) :
  Ok (C k (.f q1g) [.agg [v]] H) fun r H' => ∃ sv X, r = .agg [sv] ∧ SchR H' sv X ∧ X.map SpG.sp = schC L ∧ Fm No H H' := by
 obtain ⟨j, rfl⟩ : ∃ j, k = j + 1 := ⟨k - 1, by omega⟩
 rw [(hC j).zAb]
 unfold zAb zhe
 simp (disch := first | omega | exact ti rfl | (simp only [np, nq]; first | done | omega)) only [go_sem, reduceAdd, reduceMul, reduceSub, reduceLeDiff, reduceEqDiff, reduceShiftRight, reduceAnd]
 unfold qxp
 rw [qan]
 have f0 : Fm No H (qal (qal H (qaa 0 [v])) (qaa 0 [.nilsl])) := by (repeat (first | exact Fm.refl _ _ | assumption | refine Fm.push ?_ _ | refine Fm.up2 ?_ (by (first | omega | (simp only [np, nq]; omega))) | refine Fm.put_new ?_ _ _ (by (first | omega | (simp only [np, nq]; omega)))))
 have hv0 := hv.fm f0
 have hl0 : lenSl v = .val (.int .i64 (.ofNat L.length)) := hv.len
 refine q71 hC (by omega) (H0 := qal (qal H (qaa 0 [v])) (qaa 0 [.nilsl])) (cb := H.nx) (sb := H.nx + 3) hv0 (fun H1 sv l g hI hS => ?_) qak 0 [] ⟨sU, [], .nilsl, H.nx + 4, H.nx + 4⟩ (.sl (H.nx + 2) 0 1 1 true) _ (Nat.zero_le _) (by have : qaq L ≤ 12 := Nat.min_le_right _ _; rw [qaf]; omega) ⟨?_, ?_, ?_, ?_, ?_, ?_, ?_, ?_, ?_, ?_, ?_, ?_⟩ (.inl ⟨rfl, rfl, rfl⟩)
 ·rw [qob]
  unfold qfc qxs
  rw [qan]
  have hraw := hS.raw
  refine qlx hC (by omega) (H0 := qal (qal H (qaa 0 [v])) (qaa 0 [.nilsl])) (sb := H.nx + 3) (sv := sv) (S := rawC L) ?_ (fun p hp => ?_) (fun X H2 hX hI2 => ?_) qak 1 (l ++ [g]) H1 ?_ ?_ ?_ ⟨hI.m, fun x hx => ⟨hI.an x hx, ?_⟩, hI.sbk, ⟨hI.sbl.1, hI.sbl.2.2⟩, fun b hb => (hI.svn b hb).1, hI.fm⟩
  ·unfold rawC
   have : qaq L ≤ 12 := Nat.min_le_right _ _
   simp; omega
  ·have h1 := q7i hp
   refine ⟨by omega, fun r hr => ?_⟩
   obtain ⟨n, _, rfl⟩ := h1.2 r hr
   have := ql3 L n
   omega
  ·rw [qr7]
   unfold qhq
   have e0 := hI2.sbk
   have nx2 := hI2.fm.nx
   simp only [np] at nx2
   have er : H2.get (H.nx + 1) = qaa 0 [.nilsl] := (hI2.fm.keep (by (first | omega | (simp only [np, nq]; omega)))).trans (by simp (disch := first | omega | exact ti rfl | (simp only [np, nq]; first | done | omega)) only [go_sem, reduceAdd, reduceMul, reduceSub, reduceLeDiff, reduceEqDiff, reduceShiftRight, reduceAnd])
   have fF : Fm (fun b => b = H.nx + 1) H2 (H2.put (H.nx + 1) (qaa 0 [sv])) := (Fm.refl _ _).put _ _ fun _ => rfl
   have sb2 := hI2.sbl
   simp only [np] at sb2
   simp (disch := first | omega | exact ti rfl | (simp only [np, nq]; first | done | omega)) only [go_sem, reduceAdd, reduceMul, reduceSub, reduceLeDiff, reduceEqDiff, reduceShiftRight, reduceAnd, e0, er]
   refine Ok.ret ⟨sv, X, rfl, (hI2.m.fmS fF (fun b hb h => ?_) (fun g hg b h1 _ h => ?_)).sr, hX, (f0.trans hI2.fm).then fF fun c hc h => ?_⟩
   ·have := hI2.svn b hb
    simp only [np] at this
    omega
   ·have := (hI2.an g hg).1
    simp only [np] at this
    omega
   ·omega
  ·have := hS.len (Nat.min_le_right _ _)
   rw [← hraw]
   simp
  ·rw [← hraw]
   have := hS.len (Nat.min_le_right _ _)
   rw [qaf]; simp; omega
  ·rw [hraw]
   rfl
  ·rw [List.mem_append, List.mem_singleton] at hx
   rcases hx with hx | rfl
   ·exact hI.sbd x hx
   ·have := hI.sbl; omega
 ·exact ⟨by (first | omega | (simp only [np, nq]; omega)), by simp (disch := first | omega | exact ti rfl | (simp only [np, nq]; first | done | omega)) only [go_sem, reduceAdd, reduceMul, reduceSub, reduceLeDiff, reduceEqDiff, reduceShiftRight, reduceAnd]⟩
 ·simp (disch := first | omega | exact ti rfl | (simp only [np, nq]; first | done | omega)) only [go_sem, reduceAdd, reduceMul, reduceSub, reduceLeDiff, reduceEqDiff, reduceShiftRight, reduceAnd]
 ·simp only [np, nq]; omega
 ·simp only; omega
 ·left; omega
 ·constructor <;> (rintro ⟨_, _, _, _, h⟩; injection h; omega)
 ·rintro b ⟨_, _, _, _, h⟩
  cases h
  simp only [np]; omega
 ·intro x hx; cases hx
 ·refine ⟨⟨rfl, .inr ⟨H.nx + 2, 0, true, 0, _, rfl, ?_, Nat.zero_le _, rfl, .inl rfl, ?_⟩⟩, List.pairwise_singleton _ _, fun x hx => ?_, fun x hx b hb => ?_⟩
  ·simp (disch := first | omega | exact ti rfl | (simp only [np, nq]; first | done | omega)) only [go_sem, reduceAdd, reduceMul, reduceSub, reduceLeDiff, reduceEqDiff, reduceShiftRight, reduceAnd]; rfl
  ·(first | omega | (simp only [np, nq]; omega))
  ·rw [List.nil_append, List.mem_singleton] at hx
   subst hx
   exact ⟨qdz.nil _ _ _, by (first | omega | (simp only [np, nq]; omega))⟩
  ·rw [List.nil_append, List.mem_singleton] at hx
   subst hx
   simp only; omega
 ·intro x hx
  rw [List.nil_append, List.mem_singleton] at hx
  subst hx
  simp only [np]; omega
 ·(first | omega | (simp only [np, nq]; omega))
 ·(repeat (first | exact Fm.refl _ _ | assumption | refine Fm.push ?_ _ | refine Fm.up2 ?_ (by (first | omega | (simp only [np, nq]; omega))) | refine Fm.put_new ?_ _ _ (by (first | omega | (simp only [np, nq]; omega)))))
end Go.Di
end
section
namespace Go.Di
open Go.Ev
variable {C : Nat → Ev.Call}
def qdt (X : List SpG) (a b : SS) : Option RelG := match X.find? fun g => decide (g.name = a) with
 | none => none
 | some g => g.gs.find? fun x => decide (x.r.name = b)
theorem q82 {α : Type} {p : α → Bool} {l : List α} {i : Nat} (hi : i < l.length) (h : p l[i] = true) (hb : ∀ k (hk : k < i), p (l[k]'(by omega)) = false) : l.find? p = some l[i] := by
 rw [List.find?_eq_some_iff_getElem]
 exact ⟨h, i, hi, rfl, fun j hj => by rw [hb j hj]; rfl⟩
theorem q81 {α : Type} {p : α → Bool} {l : List α} (hb : ∀ k (hk : k < l.length), p (l[k]) = false) : l.find? p = none := by
 rw [List.find?_eq_none]
 intro x hx
 obtain ⟨i, hi, rfl⟩ := List.getElem_of_mem hx
 rw [hb i hi]; simp
theorem qoq {call : Ev.Call} {H : Hp} {sb : Nat} {sv : AV} {X : List SpG} (hX : SchR H sv X) (hs : X.length < 1000000) (hb : H.get sb = qaa 0 [sv]) (a : SS) {Q : AV → Hp → Prop} {q : Hp → R1} {qr : AV → Hp → R1}
  (hr : ∀ i (hi : i < X.length), X[i].name = a → (∀ k (hk : k < i), X[k].name ≠ a) → Ok (qr (.int .i64 (.ofNat i)) H) Q) (hq : (∀ k (hk : k < X.length), X[k].name ≠ a) → Ok (q H) Q) :
  ∀ (k i : Nat), i ≤ X.length → X.length - i < k → (∀ k (hk : k < i) (hl : k < X.length), X[k].name ≠ a) → Ok (qnx call qr q a.v (.ptr sb 0) k (.int .i64 (.ofNat i)) H) Q
 | 0, i, _, h, _ => by omega
 | k + 1, i, hi, hk, hn => by
  show Ok (q5i call _ _ _ _ (qnx call _ _ _ _ k) _ H) Q
  unfold q5i
  have hl := hX.rs.len
  by_cases hlt : i < X.length
  ·simp (disch := first | omega | exact ti rfl | (simp only [np, nq]; first | done | omega)) only [go_sem, reduceAdd, reduceMul, reduceSub, reduceLeDiff, reduceEqDiff, reduceShiftRight, reduceAnd, hb, hl, hlt]
   unfold qvl
   obtain ⟨b, o, e1, e2, _, _, e4⟩ := hX.rs.at' i hlt
   have r0 : qap (H.get b) o = .val (.str X[i].name.n X[i].name.a) := e4 0 (by rw [qee]; omega)
   unfold SS.v
   by_cases h : X[i].name.n = a.n ∧ X[i].name.a = a.a
   ·have ht := eq_true h
    simp (disch := first | omega | exact ti rfl | (simp only [np, nq]; first | done | omega)) only [go_sem, reduceAdd, reduceMul, reduceSub, reduceLeDiff, reduceEqDiff, reduceShiftRight, reduceAnd, hb, e1, r0, ht]
    exact hr i hlt ((qde _ _).2 h) fun k hk => hn k hk (by omega)
   ·simp (disch := first | omega | exact ti rfl | (simp only [np, nq]; first | done | omega)) only [go_sem, reduceAdd, reduceMul, reduceSub, reduceLeDiff, reduceEqDiff, reduceShiftRight, reduceAnd, hb, e1, r0, h]
    unfold q5h
    simp (disch := first | omega | exact ti rfl | (simp only [np, nq]; first | done | omega)) only [go_sem, reduceAdd, reduceMul, reduceSub, reduceLeDiff, reduceEqDiff, reduceShiftRight, reduceAnd]
    refine qoq hX hs hb a hr hq k (i + 1) (by omega) (by omega) fun m hm hl => ?_
    by_cases he : m = i
    ·subst he; exact fun h' => h ((qde _ _).1 h')
    ·exact hn m (by omega) hl
  ·simp (disch := first | omega | exact ti rfl | (simp only [np, nq]; first | done | omega)) only [go_sem, reduceAdd, reduceMul, reduceSub, reduceLeDiff, reduceEqDiff, reduceShiftRight, reduceAnd, hb, hl, hlt]
   exact hq fun m hm => hn m (by omega) hm
theorem zew (hC : qav C) {k : Nat} (hk : 1 ≤ k) {H : Hp} {sv : AV} {X : List SpG} (hX : SchR H sv X) (hs : X.length < 1000000) (a : SS) :
  Ok (C k (.f q04) [.agg [sv], a.v] H) fun r H' => Fm No H H' ∧ ((∃ i, ∃ hi : i < X.length, r = .int .i64 (.ofNat i) ∧ X.find? (fun g => decide (g.name = a)) = some X[i]) ∨ (r = .int .i64 (.negSucc 0) ∧ X.find? (fun g => decide (g.name = a)) = none)) := by
 obtain ⟨j, rfl⟩ : ∃ j, k = j + 1 := ⟨k - 1, by omega⟩
 rw [(hC j).zBg]
 unfold zBg zgl
 simp (disch := first | omega | exact ti rfl | (simp only [np, nq]; first | done | omega)) only [go_sem, reduceAdd, reduceMul, reduceSub, reduceLeDiff, reduceEqDiff, reduceShiftRight, reduceAnd]
 have f : Fm No H (qal H (qaa 0 [sv])) := by (repeat (first | exact Fm.refl _ _ | assumption | refine Fm.push ?_ _ | refine Fm.up2 ?_ (by (first | omega | (simp only [np, nq]; omega))) | refine Fm.put_new ?_ _ _ (by (first | omega | (simp only [np, nq]; omega)))))
 unfold q5j
 rw [qan]
 refine qoq (hX.fm f) hs (qbc _ _) a (fun i hi h1 h2 => ?_) (fun h => ?_) qak 0 (Nat.zero_le _) (by rw [qaf]; omega) (fun k hk => by omega)
 ·refine Ok.ret ⟨f, .inl ⟨i, hi, rfl, q82 hi (by simpa using h1) fun k hk => by simpa using h2 k hk⟩⟩
 ·unfold qk9
  refine Ok.ret ⟨f, .inr ⟨rfl, q81 fun k hk => by simpa using h k hk⟩⟩
def qnh : List AV := [.str 0 0, .nilsl, .int .u8 (.ofNat 0), .str 0 0, .str 0 0, .nilsl]
def zae (X : List SpG) (a b : SS) (r : AV) : Prop := match qdt X a b with
 | some g => r = .tup [.agg (relC g), .bool true]
 | none => r = .tup [.agg qnh, .bool false]
theorem qt0 {call : Ev.Call} {H : Hp} {sb rb : Nat} {sv : AV} {X : List SpG} (hX : SchR H sv X) {s : Nat} (hs : s < X.length) (hb : H.get sb = qaa 0 [sv]) (hg : X[s].gs.length < 1000000) (he : H.get rb = qaa 0 qnh) (b : SS) {Q : AV → Hp → Prop} {q : Hp → R1} {qr : AV → Hp → R1}
  (hr : ∀ g, X[s].gs.find? (fun x => decide (x.r.name = b)) = some g → Ok (qr (.bool true) (H.put rb (qaa 0 (relC g)))) Q) (hq : X[s].gs.find? (fun x => decide (x.r.name = b)) = none → Ok (q H) Q) :
  ∀ (k i : Nat), i ≤ X[s].gs.length → X[s].gs.length - i < k → (∀ k (hk : k < i) (hl : k < X[s].gs.length), X[s].gs[k].r.name ≠ b) → Ok (qlg call qr q b.v (.ptr sb 0) (.ptr rb 0) (.int .i64 (.ofNat s)) k (.int .i64 (.ofNat i)) H) Q
 | 0, i, _, h, _ => by omega
 | k + 1, i, hi, hk, hn => by
  show Ok (qr5 call _ _ _ _ _ _ (qlg call _ _ _ _ _ _ k) _ H) Q
  unfold qr5
  obtain ⟨b1, o1, e1, e2, _, _, e4⟩ := hX.rs.at' s hs
  have r1 : qap (H.get b1) (o1 + 1) = .val X[s].rv := e4 1 (by rw [qee]; omega)
  have hp := hX.sp _ (List.getElem_mem hs)
  have hl := hp.len
  by_cases hlt : i < X[s].gs.length
  ·simp (disch := first | omega | exact ti rfl | (simp only [np, nq]; first | done | omega)) only [go_sem, reduceAdd, reduceMul, reduceSub, reduceLeDiff, reduceEqDiff, reduceShiftRight, reduceAnd, hb, e1, r1, hl, hlt, Nat.zero_le]
   unfold qv9
   obtain ⟨b2, o2, g1, g2, g3, g4, g5, g6⟩ := hp.at' i hlt
   unfold SS.v
   by_cases h : X[s].gs[i].r.name.n = b.n ∧ X[s].gs[i].r.name.a = b.a
   ·have ht := eq_true h
    simp (disch := first | omega | exact ti rfl | (simp only [np, nq]; first | done | omega)) only [go_sem, reduceAdd, reduceMul, reduceSub, reduceLeDiff, reduceEqDiff, reduceShiftRight, reduceAnd, hb, e1, r1, g1, g3, ht, g6]
    unfold relC at *
    unfold qnh at he
    simp (disch := first | omega | exact ti rfl | (simp only [np, nq]; first | done | omega)) only [go_sem, reduceAdd, reduceMul, reduceSub, reduceLeDiff, reduceEqDiff, reduceShiftRight, reduceAnd, he]
    refine hr X[s].gs[i] (q82 hlt (by simpa using (qde _ _).2 h) fun k hk => by simpa using hn k hk (by omega))
   ·simp (disch := first | omega | exact ti rfl | (simp only [np, nq]; first | done | omega)) only [go_sem, reduceAdd, reduceMul, reduceSub, reduceLeDiff, reduceEqDiff, reduceShiftRight, reduceAnd, hb, e1, r1, g1, g3, h]
    unfold q5v
    simp (disch := first | omega | exact ti rfl | (simp only [np, nq]; first | done | omega)) only [go_sem, reduceAdd, reduceMul, reduceSub, reduceLeDiff, reduceEqDiff, reduceShiftRight, reduceAnd]
    refine qt0 hX hs hb hg he b hr hq k (i + 1) (by omega) (by omega) fun m hm hl => ?_
    by_cases he : m = i
    ·subst he; exact fun h' => h ((qde _ _).1 h')
    ·exact hn m (by omega) hl
  ·simp (disch := first | omega | exact ti rfl | (simp only [np, nq]; first | done | omega)) only [go_sem, reduceAdd, reduceMul, reduceSub, reduceLeDiff, reduceEqDiff, reduceShiftRight, reduceAnd, hb, e1, r1, hl, hlt, Nat.zero_le]
   exact hq (q81 fun m hm => by simpa using hn m (by omega) hm)
theorem qy2 (hC : qav C) {k : Nat} (hk : 2 ≤ k) {H : Hp} {sv : AV} {X : List SpG} (hX : SchR H sv X) (hs : X.length < 1000000) (hg : ∀ g ∈ X, g.gs.length < 900000) (a b : SS) :
  Ok (C k (.f qph) [.agg [sv], a.v, b.v] H) fun r H' => Fm No H H' ∧ zae X a b r := by
 obtain ⟨j, rfl⟩ : ∃ j, k = j + 1 := ⟨k - 1, by omega⟩
 rw [(hC j).zAq]
 unfold zAq zg0
 simp (disch := first | omega | exact ti rfl | (simp only [np, nq]; first | done | omega)) only [go_sem, reduceAdd, reduceMul, reduceSub, reduceLeDiff, reduceEqDiff, reduceShiftRight, reduceAnd]
 have f : Fm No H (qal (qal H (qaa 0 [sv])) (qaa 0 qnh)) := by (repeat (first | exact Fm.refl _ _ | assumption | refine Fm.push ?_ _ | refine Fm.up2 ?_ (by (first | omega | (simp only [np, nq]; omega))) | refine Fm.put_new ?_ _ _ (by (first | omega | (simp only [np, nq]; omega)))))
 refine Ok.ve (zew hC (k := j) (by omega) (hX.fm f) hs a) ?_
 rintro r H1 ⟨f1, h⟩
 have n1 := f1.nx
 simp only [np] at n1
 have hb : H1.get H.nx = qaa 0 [sv] := (f1.keep (by (first | omega | (simp only [np, nq]; omega)))).trans (by simp (disch := first | omega | exact ti rfl | (simp only [np, nq]; first | done | omega)) only [go_sem, reduceAdd, reduceMul, reduceSub, reduceLeDiff, reduceEqDiff, reduceShiftRight, reduceAnd])
 have hr : H1.get (H.nx + 1) = qaa 0 qnh := (f1.keep (by (first | omega | (simp only [np, nq]; omega)))).trans (by simp (disch := first | omega | exact ti rfl | (simp only [np, nq]; first | done | omega)) only [go_sem, reduceAdd, reduceMul, reduceSub, reduceLeDiff, reduceEqDiff, reduceShiftRight, reduceAnd])
 unfold q5w
 obtain ⟨m, hm⟩ : ∃ m, qak = m + 1 := ⟨999999, by rw [qaf]⟩
 unfold zae qdt
 have fin : Ok (qj1 (C j) (.ptr (H.nx + 1) 0) H1) fun r H' => Fm No H H' ∧ r = .tup [.agg qnh, .bool false] := by
  unfold qj1
  unfold qnh at hr ⊢
  simp (disch := first | omega | exact ti rfl | (simp only [np, nq]; first | done | omega)) only [go_sem, reduceAdd, reduceMul, reduceSub, reduceLeDiff, reduceEqDiff, reduceShiftRight, reduceAnd, hr]
  exact Ok.ret ⟨(f.trans f1).put_new _ _ (by omega), rfl⟩
 rcases h with ⟨i, hi, rfl, h⟩ | ⟨rfl, h⟩
 ·rw [qan, h]
  refine qt0 ((hX.fm f).fm f1) hi hb (by have := hg _ (List.getElem_mem hi); omega) hr b (fun g h2 => ?_) (fun h2 => ?_) qak 0 (Nat.zero_le _) (by have := hg _ (List.getElem_mem hi); rw [qaf]; omega) (fun k hk => by omega)
  ·simp only
   rw [h2]
   unfold relC
   simp (disch := first | omega | exact ti rfl | (simp only [np, nq]; first | done | omega)) only [go_sem, reduceAdd, reduceMul, reduceSub, reduceLeDiff, reduceEqDiff, reduceShiftRight, reduceAnd]
   exact Ok.ret ⟨(f.trans f1).put_new _ _ (by omega), rfl⟩
  ·simp only
   rw [h2]
   exact fin
 ·rw [qan, hm, h]
  show Ok (qr5 (C j) _ _ _ _ _ _ (qlg (C j) _ _ _ _ _ _ m) _ H1) _
  unfold qr5
  simp (disch := first | omega | exact ti rfl | (simp only [np, nq]; first | done | omega)) only [go_sem, reduceAdd, reduceMul, reduceSub, reduceLeDiff, reduceEqDiff, reduceShiftRight, reduceAnd]
  exact fin
end Go.Di
end
section
namespace Go.Di
open Go.Ev
variable {C : Nat → Ev.Call}
def pC (p : SS × SS) : List AV := [p.1.v, p.2.v]
theorem qmf (p : SS × SS) : (pC p).length = 2 := rfl
def allG (X : List SpG) : List (SS × SS) := X.flatMap fun g => g.gs.map fun x => (g.name, x.r.name)
structure Sml (X : List SpG) : Prop where
 n : X.length ≤ 100
 r : ∀ g ∈ X, g.gs.length ≤ 100
 t : ∀ g ∈ X, ∀ x ∈ g.gs, x.r.types.length ≤ 100
theorem Sml.all {X : List SpG} (h : Sml X) : ∀ i, ((X.take i).flatMap fun g => g.gs.map fun x => (g.name, x.r.name)).length ≤ 10000 := fun i => by
 have h1 : ∀ l : List SpG, (∀ g ∈ l, g.gs.length ≤ 100) → (l.flatMap fun g => g.gs.map fun x => (g.name, x.r.name)).length ≤ 100 * l.length := by
  intro l
  induction l with
  | nil => intro _; simp
  | cons a l ih =>
   intro h
   rw [List.flatMap_cons, List.length_append, List.length_map, List.length_cons]
   have := ih fun g hg => h g (List.mem_cons_of_mem _ hg)
   have := h a List.mem_cons_self
   omega
 have h2 := h1 (X.take i) fun g hg => h.r g (List.mem_of_mem_take hg)
 have h3 : (X.take i).length ≤ X.length := by rw [List.length_take]; omega
 have := h.n
 omega
theorem quj {call : Ev.Call} {H0 : Hp} {sb : Nat} {sv : AV} {X : List SpG} (hX : SchR H0 sv X) (hS : Sml X) (hb : H0.get sb = qaa 0 [sv]) (hbl : sb < H0.nx) {s : Nat} (hs : s < X.length) {A : List (SS × SS)} (hA : A.length ≤ 1000000) {Q : AV → Hp → Prop} {q : AV → Hp → R1}
  (hq : ∀ w H, Ac 2 pC H0 H w (A ++ X[s].gs.map fun x => (X[s].name, x.r.name)) → Ok (q w H) Q) :
  ∀ (k i : Nat) (w : AV) (H : Hp), i ≤ X[s].gs.length → X[s].gs.length - i < k → Ac 2 pC H0 H w (A ++ (X[s].gs.take i).map fun x => (X[s].name, x.r.name)) →
   Ok (qnz call q (.ptr sb 0) (.int .i64 (.ofNat s)) k w (.int .i64 (.ofNat i)) H) Q
 | 0, i, _, _, _, h, _ => by omega
 | k + 1, i, w, H, hi, hk, hw => by
  show Ok (q5y call _ _ _ (qnz call _ _ _ k) _ _ H) Q
  unfold q5y
  have hX1 := hX.fm hw.fm
  have hb1 := (hw.fm.keep hbl).trans hb
  obtain ⟨b1, o1, e1, e2, _, _, e4⟩ := hX1.rs.at' s hs
  have r0 : qap (H.get b1) o1 = .val (.str X[s].name.n X[s].name.a) := e4 0 (by rw [qee]; omega)
  have r1 : qap (H.get b1) (o1 + 1) = .val X[s].rv := e4 1 (by rw [qee]; omega)
  have hp := hX1.sp _ (List.getElem_mem hs)
  have hl := hp.len
  have hr := hS.r _ (List.getElem_mem hs)
  by_cases hlt : i < X[s].gs.length
  ·simp (disch := first | omega | exact ti rfl | (simp only [np, nq]; first | done | omega)) only [go_sem, reduceAdd, reduceMul, reduceSub, reduceLeDiff, reduceEqDiff, reduceShiftRight, reduceAnd, hb1, e1, r1, hl, hlt]
   unfold qwb
   obtain ⟨b2, o2, g1, g2, g3, _, _, _⟩ := hp.at' i hlt
   have hll : (A ++ (X[s].gs.take i).map fun x => (X[s].name, x.r.name)).length ≤ 1001000 := by
    rw [List.length_append, List.length_map, List.length_take]; omega
   simp (disch := first | omega | exact ti rfl | (simp only [np, nq]; first | done | omega)) only [go_sem, reduceAdd, reduceMul, reduceSub, reduceLeDiff, reduceEqDiff, reduceShiftRight, reduceAnd, hb1, e1, r0, r1, g1, g3]
   refine Ok.deO ((hw.no (by (repeat (first | exact Fm.refl _ _ | assumption | refine Fm.push ?_ _ | refine Fm.up2 ?_ (by (first | omega | (simp only [np, nq]; omega))) | refine Fm.put_new ?_ _ _ (by (first | omega | (simp only [np, nq]; omega))))))).add (X[s].name, X[s].gs[i].r.name) 32 rfl (by omega) (by omega)) ?_
   intro w2 H2 hw2
   simp (disch := first | omega | exact ti rfl | (simp only [np, nq]; first | done | omega)) only [go_sem, reduceAdd, reduceMul, reduceSub, reduceLeDiff, reduceEqDiff, reduceShiftRight, reduceAnd]
   unfold q5x
   simp (disch := first | omega | exact ti rfl | (simp only [np, nq]; first | done | omega)) only [go_sem, reduceAdd, reduceMul, reduceSub, reduceLeDiff, reduceEqDiff, reduceShiftRight, reduceAnd]
   refine quj hX hS hb hbl hs hA hq k (i + 1) w2 H2 (by omega) (by omega) ?_
   rw [List.take_succ_eq_append_getElem hlt, List.map_append, List.map_singleton, ← List.append_assoc]
   exact hw2
  ·simp (disch := first | omega | exact ti rfl | (simp only [np, nq]; first | done | omega)) only [go_sem, reduceAdd, reduceMul, reduceSub, reduceLeDiff, reduceEqDiff, reduceShiftRight, reduceAnd, hb1, e1, r1, hl, hlt]
   have he : i = X[s].gs.length := by omega
   rw [he, List.take_length] at hw
   exact hq w H hw
theorem q17 {call : Ev.Call} {H0 : Hp} {sb : Nat} {sv : AV} {X : List SpG} (hX : SchR H0 sv X) (hS : Sml X) (hb : H0.get sb = qaa 0 [sv]) (hbl : sb < H0.nx) {Q : AV → Hp → Prop} {q : AV → Hp → R1}
  (hq : ∀ w H, Ac 2 pC H0 H w (allG X) → Ok (q w H) Q) :
  ∀ (k i : Nat) (w : AV) (H : Hp), i ≤ X.length → X.length - i < k → Ac 2 pC H0 H w ((X.take i).flatMap fun g => g.gs.map fun x => (g.name, x.r.name)) →
   Ok (qg5 call q (.ptr sb 0) k w (.int .i64 (.ofNat i)) H) Q
 | 0, i, _, _, _, h, _ => by omega
 | k + 1, i, w, H, hi, hk, hw => by
  show Ok (q50 call _ _ (qg5 call _ _ k) _ _ H) Q
  unfold q50
  have hn := hS.n
  have hX1 := hX.fm hw.fm
  have hb1 := (hw.fm.keep hbl).trans hb
  have hl := hX1.rs.len
  by_cases hlt : i < X.length
  ·simp (disch := first | omega | exact ti rfl | (simp only [np, nq]; first | done | omega)) only [go_sem, reduceAdd, reduceMul, reduceSub, reduceLeDiff, reduceEqDiff, reduceShiftRight, reduceAnd, hb1, hl, hlt]
   unfold qwa q51
   rw [qan]
   have hr := hS.r _ (List.getElem_mem hlt)
   refine quj hX hS hb hbl hlt (Nat.le_trans (hS.all i) (by omega)) (fun w2 H2 hw2 => ?_) qak 0 w H (Nat.zero_le _) (by rw [qaf]; omega) (by simpa using hw)
   unfold qlh
   simp (disch := first | omega | exact ti rfl | (simp only [np, nq]; first | done | omega)) only [go_sem, reduceAdd, reduceMul, reduceSub, reduceLeDiff, reduceEqDiff, reduceShiftRight, reduceAnd]
   refine q17 hX hS hb hbl hq k (i + 1) w2 H2 (by omega) (by omega) ?_
   rw [List.take_succ_eq_append_getElem hlt, List.flatMap_append, List.flatMap_singleton]
   exact hw2
  ·simp (disch := first | omega | exact ti rfl | (simp only [np, nq]; first | done | omega)) only [go_sem, reduceAdd, reduceMul, reduceSub, reduceLeDiff, reduceEqDiff, reduceShiftRight, reduceAnd, hb1, hl, hlt]
   have he : i = X.length := by omega
   rw [he, List.take_length] at hw
   exact hq w H hw
theorem zfo (hC : qav C) {k : Nat} (hk : 1 ≤ k) {H : Hp} {sv : AV} {X : List SpG} (hX : SchR H sv X) (hS : Sml X) :
  Ok (C k (.f qtt) [.agg [sv]] H) fun r H' => Ac 2 pC H H' r (allG X) := by
 obtain ⟨j, rfl⟩ : ∃ j, k = j + 1 := ⟨k - 1, by omega⟩
 rw [(hC j).zAo]
 unfold zAo zg2
 simp (disch := first | omega | exact ti rfl | (simp only [np, nq]; first | done | omega)) only [go_sem, reduceAdd, reduceMul, reduceSub, reduceLeDiff, reduceEqDiff, reduceShiftRight, reduceAnd]
 have f : Fm No H (qal H (qaa 0 [sv])) := by (repeat (first | exact Fm.refl _ _ | assumption | refine Fm.push ?_ _ | refine Fm.up2 ?_ (by (first | omega | (simp only [np, nq]; omega))) | refine Fm.put_new ?_ _ _ (by (first | omega | (simp only [np, nq]; omega)))))
 have hn := hS.n
 unfold q52
 rw [qan]
 refine q17 (hX.fm f) hS (qbc _ _) (by (first | omega | (simp only [np, nq]; omega))) (fun w H2 hw => ?_) qak 0 .nilsl _ (Nat.zero_le _) (by rw [qaf]; omega) (Ac.nil _ _ (Fm.refl _ _))
 unfold qf6
 exact Ok.ret (hw.trans f)
def numG (X : List SpG) (a b : SS) : Nat := (allG X).findIdx fun p => decide (p = (a, b))
theorem q0h {call : Ev.Call} {H : Hp} {v : AV} {l : List (SS × SS)} (hv : Rs 2 pC H v l) (a b : SS) {Q : AV → Hp → Prop} {q : Hp → R1} {qr : AV → Hp → R1}
  (hr : l.findIdx (fun p => decide (p = (a, b))) < l.length → Ok (qr (.int .i64 (.ofNat (l.findIdx fun p => decide (p = (a, b))))) H) Q) (hq : (a, b) ∉ l → Ok (q H) Q) (hll : l.length ≤ 1000000000) :
  ∀ (k i : Nat), i ≤ l.length → l.length - i < k → (∀ m (_ : m < i) (hl : m < l.length), l[m] ≠ (a, b)) → Ok (qld call qr q a.v b.v v k (.int .i64 (.ofNat i)) H) Q
 | 0, i, _, h, _ => by omega
 | k + 1, i, hi, hk, hn => by
  show Ok (q5t call _ _ _ _ _ (qld call _ _ _ _ _ k) _ H) Q
  unfold q5t
  have hl := hv.len
  have next : i < l.length → l[i]? ≠ some (a, b) → Ok (qy7 call (qld call qr q a.v b.v v k) (.int .i64 (.ofNat i)) H) Q := fun hlt hne => by
   unfold qy7
   simp (disch := first | omega | exact ti rfl | (simp only [np, nq]; first | done | omega)) only [go_sem, reduceAdd, reduceMul, reduceSub, reduceLeDiff, reduceEqDiff, reduceShiftRight, reduceAnd]
   refine q0h hv a b hr hq hll k (i + 1) (by omega) (by omega) fun m hm hl => ?_
   by_cases he : m = i
   ·subst he; intro h; exact hne (by rw [List.getElem?_eq_getElem hl, h])
   ·exact hn m (by omega) hl
  by_cases hlt : i < l.length
  ·simp (disch := first | omega | exact ti rfl | (simp only [np, nq]; first | done | omega)) only [go_sem, reduceAdd, reduceMul, reduceSub, reduceLeDiff, reduceEqDiff, reduceShiftRight, reduceAnd, hl, hlt]
   unfold qv8
   obtain ⟨b1, o1, e1, e2, _, _, e4⟩ := hv.at' i hlt
   have r0 : qap (H.get b1) o1 = .val (.str l[i].1.n l[i].1.a) := e4 0 (by rw [qmf]; omega)
   have r1 : qap (H.get b1) (o1 + 1) = .val (.str l[i].2.n l[i].2.a) := e4 1 (by rw [qmf]; omega)
   unfold SS.v
   by_cases h1 : l[i].1.n = a.n ∧ l[i].1.a = a.a
   ·have h1t := eq_true h1
    by_cases h2 : l[i].2.n = b.n ∧ l[i].2.a = b.a
    ·have h2t := eq_true h2
     simp (disch := first | omega | exact ti rfl | (simp only [np, nq]; first | done | omega)) only [go_sem, reduceAdd, reduceMul, reduceSub, reduceLeDiff, reduceEqDiff, reduceShiftRight, reduceAnd, e1, r0, r1, h1t, h2t]
     have hp : l[i] = (a, b) := Prod.ext ((qde _ _).2 h1) ((qde _ _).2 h2)
     have hx : l.findIdx (fun p => decide (p = (a, b))) = i := by
      rw [List.findIdx_eq hlt]
      exact ⟨by simpa using hp, fun m hm => by simpa using hn m hm (by omega)⟩
     have hrr := hr (by rw [hx]; exact hlt)
     rw [hx] at hrr
     exact hrr
    ·simp (disch := first | omega | exact ti rfl | (simp only [np, nq]; first | done | omega)) only [go_sem, reduceAdd, reduceMul, reduceSub, reduceLeDiff, reduceEqDiff, reduceShiftRight, reduceAnd, e1, r0, r1, h1t, h2]
     refine next hlt fun h => h2 ?_
     rw [List.getElem?_eq_getElem hlt] at h
     injection h with h
     rw [h]; exact ⟨rfl, rfl⟩
   ·simp (disch := first | omega | exact ti rfl | (simp only [np, nq]; first | done | omega)) only [go_sem, reduceAdd, reduceMul, reduceSub, reduceLeDiff, reduceEqDiff, reduceShiftRight, reduceAnd, e1, r0, r1, h1]
    refine next hlt fun h => h1 ?_
    rw [List.getElem?_eq_getElem hlt] at h
    injection h with h
    rw [h]; exact ⟨rfl, rfl⟩
  ·simp (disch := first | omega | exact ti rfl | (simp only [np, nq]; first | done | omega)) only [go_sem, reduceAdd, reduceMul, reduceSub, reduceLeDiff, reduceEqDiff, reduceShiftRight, reduceAnd, hl, hlt]
   refine hq fun hm => ?_
   obtain ⟨m, hm, he⟩ := List.getElem_of_mem hm
   exact hn m (by omega) hm he
theorem zac (hC : qav C) {k : Nat} (hk : 2 ≤ k) {H : Hp} {sv : AV} {X : List SpG} (hX : SchR H sv X) (hS : Sml X) (a b : SS) :
  Ok (C k (.f qms) [.agg [sv], a.v, b.v] H) fun r H' => Fm No H H' ∧ ((numG X a b < (allG X).length ∧ r = .int .i64 (.ofNat (numG X a b))) ∨ ((a, b) ∉ allG X ∧ r = .int .i64 (.negSucc 0))) := by
 obtain ⟨j, rfl⟩ : ∃ j, k = j + 1 := ⟨k - 1, by omega⟩
 rw [(hC j).zAs]
 unfold zAs zgz
 simp (disch := first | omega | exact ti rfl | (simp only [np, nq]; first | done | omega)) only [go_sem, reduceAdd, reduceMul, reduceSub, reduceLeDiff, reduceEqDiff, reduceShiftRight, reduceAnd]
 have f : Fm No H (qal H (qaa 0 [sv])) := by (repeat (first | exact Fm.refl _ _ | assumption | refine Fm.push ?_ _ | refine Fm.up2 ?_ (by (first | omega | (simp only [np, nq]; omega))) | refine Fm.put_new ?_ _ _ (by (first | omega | (simp only [np, nq]; omega)))))
 refine Ok.ve (zfo hC (k := j) (by omega) (hX.fm f) hS) ?_
 intro w H1 hw
 have hal : (allG X).length ≤ 10000 := by have := hS.all X.length; rwa [List.take_length] at this
 unfold q5u
 rw [qan]
 refine q0h (hw.rs qmf) a b (fun h => ?_) (fun h => ?_) (by omega) qak 0 (Nat.zero_le _) (by rw [qaf]; omega) (fun m hm => by omega)
 ·exact Ok.ret ⟨f.trans hw.fm, .inl ⟨h, rfl⟩⟩
 ·unfold qle
  exact Ok.ret ⟨f.trans hw.fm, .inr ⟨h, rfl⟩⟩
end Go.Di
end
