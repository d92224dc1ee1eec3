/-
 For GraphsOf: functions in direct style, their contracts, and the plain mathematics, part 4 of 6. No conditions beyond those that each theorem states.
-/
import Derived.Test.YtigaopnmpflgmaaGreatConC
set_option linter.unusedSimpArgs false
set_option linter.unusedVariables false
open Nat (reduceAdd reduceMul reduceSub reduceLeDiff reduceEqDiff reduceShiftRight reduceAnd)
section
namespace Go.Di
open Go.Ev
variable {C : Nat → Ev.Call}
def tgP (X : List SpG) (to : SS) (t : TyS) : Bool := decide (t.rl = sE) && (qdt X t.sp to).isSome
def tgL (X : List SpG) (to : SS) (l : List TyS) : List SS := (l.filter (tgP X to)).map TyS.sp
def qel (X : List SpG) (a rel to : SS) : List SS := match qdt X a rel with
 | none => []
 | some g => tgL X to g.r.types
theorem qkn (g : RelG) : ∃ c2 c3 c4 c5, relC g = [.str g.r.name.n g.r.name.a, g.tv, c2, c3, c4, c5] := ⟨_, _, _, _, rfl⟩
theorem qqv (X : List SpG) (to : SS) (l : List TyS) : (tgL X to l).length ≤ l.length := by
 unfold tgL
 rw [List.length_map]; exact List.length_filter_le _ _
theorem qzl (X : List SpG) (to : SS) {l : List TyS} {i : Nat} (h : i < l.length) : tgL X to (l.take (i + 1)) = tgL X to (l.take i) ++ if tgP X to l[i] then [l[i].sp] else [] := by
 unfold tgL
 rw [List.take_succ_eq_append_getElem h, List.filter_append, List.map_append, List.filter_cons]
 split <;> simp
theorem qh6 (hC : qav C) {j : Nat} (hj : 2 ≤ j) {H0 : Hp} {sb rb : Nat} {sv tv c0 c2 c3 c4 c5 : AV} {X : List SpG} (hX : SchR H0 sv X) (hS : Sml X) (hb : H0.get sb = qaa 0 [sv]) (hbl : sb < H0.nx) (hr : H0.get rb = qaa 0 [c0, tv, c2, c3, c4, c5]) (hrl : rb < H0.nx)
  {ts : List TyS} (ht : Rs 2 tC H0 tv ts) (htl : ts.length ≤ 1000) (to : SS) {Q : AV → Hp → Prop} {q : AV → Hp → R1}
  (hq : ∀ w H, Ac 1 sC H0 H w (tgL X to ts) → Ok (q w H) Q) :
  ∀ (k i : Nat) (w : AV) (H : Hp), i ≤ ts.length → ts.length - i < k → Ac 1 sC H0 H w (tgL X to (ts.take i)) →
   Ok (qh1 (C j) q to.v (.ptr sb 0) (.ptr rb 0) k w (.int .i64 (.ofNat i)) H) Q
 | 0, i, _, _, _, h, _ => by omega
 | k + 1, i, w, H, hi, hk, hw => by
  show Ok (q5s (C j) _ _ _ _ (qh1 (C j) _ _ _ _ k) _ _ H) Q
  unfold q5s
  have hX1 := hX.fm hw.fm
  have hb1 := (hw.fm.keep hbl).trans hb
  have hr1 := (hw.fm.keep hrl).trans hr
  have ht1 := ht.fm hw.fm
  have hl := ht1.len
  have nx1 := hw.fm.nx
  have hn := hS.n
  by_cases hlt : i < ts.length
  ·simp (disch := first | omega | exact ti rfl | (simp only [np, nq]; first | done | omega)) only [go_sem, reduceAdd, reduceMul, reduceSub, reduceLeDiff, reduceEqDiff, reduceShiftRight, reduceAnd, hr1, hl, hlt]
   rw [qny]
   unfold qe1
   obtain ⟨b1, o1, e1, e2, _, _, e4⟩ := ht1.at' i hlt
   have r0 : qap (H.get b1) o1 = .val (.str ts[i].sp.n ts[i].sp.a) := e4 0 (by rw [qh7]; omega)
   have r1 : qap (H.get b1) (o1 + 1) = .val (.str ts[i].rl.n ts[i].rl.a) := e4 1 (by rw [qh7]; omega)
   simp (disch := first | omega | exact ti rfl | (simp only [np, nq]; first | done | omega)) only [go_sem, reduceAdd, reduceMul, reduceSub, reduceLeDiff, reduceEqDiff, reduceShiftRight, reduceAnd, hr1, hb1, e1, r0]
   have fU : Fm No H ⟨H.t, H.nx + 15⟩ := by (repeat (first | exact Fm.refl _ _ | assumption | refine Fm.push ?_ _ | refine Fm.up2 ?_ (by (first | omega | (simp only [np, nq]; omega))) | refine Fm.put_new ?_ _ _ (by (first | omega | (simp only [np, nq]; omega)))))
   refine Ok.deO (qy2 hC (k := j) hj (hX1.fm fU) (by omega) (fun g hg => by have := hS.r g hg; omega) ts[i].sp to) ?_
   rintro r H2 ⟨f2, hfr⟩
   have f02 := fU.trans f2
   have n2 : H.nx + 15 ≤ H2.nx := f2.nx
   have hs := qzl X to hlt
   have hll := qqv X to (ts.take i)
   rw [List.length_take] at hll
   have skip : ∀ H3, Fm No H H3 → tgP X to ts[i] = false → Ok (qhn (C j) (qh1 (C j) q to.v (.ptr sb 0) (.ptr rb 0) k) w (.int .i64 (.ofNat i)) H3) Q := fun H3 f3 h => by
    unfold qhn
    simp (disch := first | omega | exact ti rfl | (simp only [np, nq]; first | done | omega)) only [go_sem, reduceAdd, reduceMul, reduceSub, reduceLeDiff, reduceEqDiff, reduceShiftRight, reduceAnd]
    refine qh6 hC hj hX hS hb hbl hr hrl ht htl to hq k (i + 1) w H3 (by omega) (by omega) ?_
    rw [hs, h]
    simpa using hw.no f3
   have push : ∀ H3, Fm No H H3 → tgP X to ts[i] = true → Ok (ve (qa2 1 16 (qal H3 (qaa 0 [.str ts[i].sp.n ts[i].sp.a])) w (some ⟨1, [.str ts[i].sp.n ts[i].sp.a]⟩)) fun a41 H => qhn (C j) (qh1 (C j) q to.v (.ptr sb 0) (.ptr rb 0) k) a41 (.int .i64 (.ofNat i)) H) Q := fun H3 f3 h => by
    refine Ok.ve ((hw.no (f3.trans (by (repeat (first | exact Fm.refl _ _ | assumption | refine Fm.push ?_ _ | refine Fm.up2 ?_ (by (first | omega | (simp only [np, nq]; omega))) | refine Fm.put_new ?_ _ _ (by (first | omega | (simp only [np, nq]; omega)))))))).add ts[i].sp 16 rfl (by omega) (by omega)) ?_
    intro w4 H4 hw4
    unfold qhn
    simp (disch := first | omega | exact ti rfl | (simp only [np, nq]; first | done | omega)) only [go_sem, reduceAdd, reduceMul, reduceSub, reduceLeDiff, reduceEqDiff, reduceShiftRight, reduceAnd]
    refine qh6 hC hj hX hS hb hbl hr hrl ht htl to hq k (i + 1) w4 H4 (by omega) (by omega) ?_
    rw [hs, h]
    exact hw4
   unfold zae at hfr
   have hr2 := (f02.keep (by omega)).trans hr1
   have r02 : qap (H2.get b1) o1 = .val (.str ts[i].sp.n ts[i].sp.a) := by rw [f02.keep e2]; exact r0
   have r12 : qap (H2.get b1) (o1 + 1) = .val (.str ts[i].rl.n ts[i].rl.a) := by rw [f02.keep e2]; exact r1
   unfold tgP at skip push
   by_cases h1 : ts[i].rl.n = 0 ∧ ts[i].rl.a = 0
   ·have h1' : ts[i].rl = sE := (qde _ _).2 h1
    have h1t := eq_true h1
    rw [decide_eq_true h1'] at skip push
    cases hf : qdt X ts[i].sp to with
    | none =>
     rw [hf] at hfr skip
     subst hfr
     unfold qnh
     simp (disch := first | omega | exact ti rfl | (simp only [np, nq]; first | done | omega)) only [go_sem, reduceAdd, reduceMul, reduceSub, reduceLeDiff, reduceEqDiff, reduceShiftRight, reduceAnd, hr2, e1, r12, h1t]
     exact skip _ (((f02.put_new (H.nx + 12) _ (by omega))).put_new (H.nx + 12) _ (by omega)) rfl
    | some g =>
     rw [hf] at hfr push
     subst hfr
     obtain ⟨d2, d3, d4, d5, hd⟩ := qkn g
     rw [hd]
     simp (disch := first | omega | exact ti rfl | (simp only [np, nq]; first | done | omega)) only [go_sem, reduceAdd, reduceMul, reduceSub, reduceLeDiff, reduceEqDiff, reduceShiftRight, reduceAnd, hr2, e1, r02, r12, h1t]
     exact push _ (((f02.put_new (H.nx + 12) _ (by omega))).put_new (H.nx + 12) _ (by omega)) rfl
   ·rw [decide_eq_false (fun h => h1 ((qde _ _).1 h))] at skip
    cases hf : qdt X ts[i].sp to with
    | none =>
     rw [hf] at hfr skip
     subst hfr
     unfold qnh
     simp (disch := first | omega | exact ti rfl | (simp only [np, nq]; first | done | omega)) only [go_sem, reduceAdd, reduceMul, reduceSub, reduceLeDiff, reduceEqDiff, reduceShiftRight, reduceAnd, hr2, e1, r12, h1]
     exact skip _ (((f02.put_new (H.nx + 12) _ (by omega))).put_new (H.nx + 12) _ (by omega)) rfl
    | some g =>
     rw [hf] at hfr skip
     subst hfr
     obtain ⟨d2, d3, d4, d5, hd⟩ := qkn g
     rw [hd]
     simp (disch := first | omega | exact ti rfl | (simp only [np, nq]; first | done | omega)) only [go_sem, reduceAdd, reduceMul, reduceSub, reduceLeDiff, reduceEqDiff, reduceShiftRight, reduceAnd, hr2, e1, r12, h1]
     exact skip _ (((f02.put_new (H.nx + 12) _ (by omega))).put_new (H.nx + 12) _ (by omega)) rfl
  ·simp (disch := first | omega | exact ti rfl | (simp only [np, nq]; first | done | omega)) only [go_sem, reduceAdd, reduceMul, reduceSub, reduceLeDiff, reduceEqDiff, reduceShiftRight, reduceAnd, hr1, hl, hlt]
   have he : i = ts.length := by omega
   rw [he, List.take_length] at hw
   exact hq w H hw
theorem q4c (hC : qav C) {k : Nat} (hk : 3 ≤ k) {H : Hp} {sv : AV} {X : List SpG} (hX : SchR H sv X) (hS : Sml X) (a b to : SS) :
  Ok (C k (.f q09) [.agg [sv], a.v, b.v, to.v] H) fun r H' => Ac 1 sC H H' r (qel X a b to) := by
 obtain ⟨j, rfl⟩ : ∃ j, k = j + 1 := ⟨k - 1, by omega⟩
 rw [(hC j).zAu]
 unfold zAu zgx
 simp (disch := first | omega | exact ti rfl | (simp only [np, nq]; first | done | omega)) only [go_sem, reduceAdd, reduceMul, reduceSub, reduceLeDiff, reduceEqDiff, reduceShiftRight, reduceAnd]
 have f : Fm No H (qal H (qaa 0 [sv])) := by (repeat (first | exact Fm.refl _ _ | assumption | refine Fm.push ?_ _ | refine Fm.up2 ?_ (by (first | omega | (simp only [np, nq]; omega))) | refine Fm.put_new ?_ _ _ (by (first | omega | (simp only [np, nq]; omega)))))
 have hn := hS.n
 refine Ok.ve (qy2 hC (k := j) (by omega) (hX.fm f) (by omega) (fun g hg => by have := hS.r g hg; omega) a b) ?_
 rintro r H2 ⟨f2, hfr⟩
 have n2 := f2.nx
 simp only [np] at n2
 have f02 := f.trans f2
 have b2 : H2.get H.nx = qaa 0 [sv] := (f2.keep (by (first | omega | (simp only [np, nq]; omega)))).trans (qbc _ _)
 unfold zae at hfr
 unfold qel
 cases hf : qdt X a b with
 | none =>
  rw [hf] at hfr
  subst hfr
  unfold qnh
  simp (disch := first | omega | exact ti rfl | (simp only [np, nq]; first | done | omega)) only [go_sem, reduceAdd, reduceMul, reduceSub, reduceLeDiff, reduceEqDiff, reduceShiftRight, reduceAnd]
  have f3 : Fm No H2 (qal H2 (qaa 0 [.str 0 0, .nilsl, .int .u8 (.ofNat 0), .str 0 0, .str 0 0, .nilsl])) := by (repeat (first | exact Fm.refl _ _ | assumption | refine Fm.push ?_ _ | refine Fm.up2 ?_ (by (first | omega | (simp only [np, nq]; omega))) | refine Fm.put_new ?_ _ _ (by (first | omega | (simp only [np, nq]; omega)))))
  have f4 : Fm No H2 ((qal H2 (qaa 0 [.str 0 0, .nilsl, .int .u8 (.ofNat 0), .str 0 0, .str 0 0, .nilsl])).put H2.nx (qaa 0 [.str 0 0, .nilsl, .int .u8 (.ofNat 0), .str 0 0, .str 0 0, .nilsl])) := by (repeat (first | exact Fm.refl _ _ | assumption | refine Fm.push ?_ _ | refine Fm.up2 ?_ (by (first | omega | (simp only [np, nq]; omega))) | refine Fm.put_new ?_ _ _ (by (first | omega | (simp only [np, nq]; omega)))))
  unfold qy6
  rw [qan]
  refine qh6 hC (by omega) (hX.fm (f02.trans f4)) hS ((f4.keep (by omega)).trans b2) (by (first | omega | (simp only [np, nq]; omega))) (qam _ _ _) (by (first | omega | (simp only [np, nq]; omega))) (Rs.nil 2 tC _) (by simp) to (fun w H5 hw => ?_) qak 0 .nilsl _ (Nat.zero_le _) (by rw [qaf]; simp) (Ac.nil _ _ (Fm.refl _ _))
  unfold qh2
  exact Ok.ret (hw.trans (f02.trans f4))
 | some g =>
  rw [hf] at hfr
  subst hfr
  obtain ⟨d2, d3, d4, d5, hd⟩ := qkn g
  rw [hd]
  simp (disch := first | omega | exact ti rfl | (simp only [np, nq]; first | done | omega)) only [go_sem, reduceAdd, reduceMul, reduceSub, reduceLeDiff, reduceEqDiff, reduceShiftRight, reduceAnd]
  have f4 : Fm No H2 ((qal H2 (qaa 0 [.str 0 0, .nilsl, .int .u8 (.ofNat 0), .str 0 0, .str 0 0, .nilsl])).put H2.nx (qaa 0 [.str g.r.name.n g.r.name.a, g.tv, d2, d3, d4, d5])) := by (repeat (first | exact Fm.refl _ _ | assumption | refine Fm.push ?_ _ | refine Fm.up2 ?_ (by (first | omega | (simp only [np, nq]; omega))) | refine Fm.put_new ?_ _ _ (by (first | omega | (simp only [np, nq]; omega)))))
  unfold qy6
  rw [qan]
  obtain ⟨p, hp, hg⟩ : ∃ p ∈ X, g ∈ p.gs := by
   unfold qdt at hf
   cases h : X.find? fun g => decide (g.name = a) with
   | none => rw [h] at hf; cases hf
   | some p =>
    rw [h] at hf
    exact ⟨p, List.mem_of_find?_eq_some h, List.mem_of_find?_eq_some hf⟩
  have hty := hS.t p hp g hg
  refine qh6 hC (by omega) (hX.fm (f02.trans f4)) hS ((f4.keep (by omega)).trans b2) (by (first | omega | (simp only [np, nq]; omega))) (qam _ _ _) (by (first | omega | (simp only [np, nq]; omega))) ((((hX.sp p hp).rel g hg).ty).fm (f02.trans f4)) (by omega) to (fun w H5 hw => ?_) qak 0 .nilsl _ (Nat.zero_le _) (by rw [qaf]; omega) (Ac.nil _ _ (Fm.refl _ _))
  unfold qh2
  exact Ok.ret (hw.trans (f02.trans f4))
end Go.Di
end
section
namespace Go.Di
open Go.Ev
variable {C : Nat → Ev.Call}
theorem zds (hC : qav C) {k : Nat} (hk : 1 ≤ k) (n : Int) (H : Hp) : C k (.f qtj) [.int .i64 n] H = .ok (.bool false) H := by
 obtain ⟨j, rfl⟩ : ∃ j, k = j + 1 := ⟨k - 1, by omega⟩
 rw [(hC j).zCe]
 unfold zCe zf3
 simp only [go_sem]
def cmpI (a b : Int) : Int := if a < b then -1 else if b < a then 1 else 0
theorem qrw (hC : qav C) {k : Nat} (hk : 2 ≤ k) (a b : Int) (H : Hp) : C k (.f qpb) [.int .i64 a, .int .i64 b] H = .ok (.int .i64 (cmpI a b)) H := by
 obtain ⟨j, rfl⟩ : ∃ j, k = j + 1 := ⟨k - 1, by omega⟩
 rw [(hC j).zBq]
 unfold zBq zgf
 simp only [zds hC (show 1 ≤ j by omega), go_sem]
 unfold q45 q46 q47 q48 cmpI
 by_cases h : a < b
 ·simp only [h, go_sem]; rfl
 ·by_cases h2 : b < a
  ·simp only [h, h2, go_sem]; rfl
  ·simp only [h, h2, go_sem]; rfl
def sgn (s : Bool) : Int := if s then 1 else 0
theorem zhq (hC : qav C) {k : Nat} (hk : 1 ≤ k) (a b : AV) (s : Bool) (H : Hp) : C k (.f qtn) [.agg [a, b, .bool s]] H = .ok (.int .i64 (sgn s)) (qal H (qaa 0 [a, b, .bool s])) := by
 obtain ⟨j, rfl⟩ : ∃ j, k = j + 1 := ⟨k - 1, by omega⟩
 rw [(hC j).zBr]
 unfold zBr zge q44
 cases s <;> simp (disch := first | omega | exact ti rfl | (simp only [np, nq]; first | done | omega)) only [go_sem, reduceAdd, reduceMul, reduceSub, reduceLeDiff, reduceEqDiff, reduceShiftRight, reduceAnd, Nat.beq] <;> rfl
end Go.Di
end
section
namespace Go.Di
open Go.Ev
variable {C : Nat → Ev.Call}
def ints (l : List Int) : List AV := l.map (fun n => .int .i64 n)
theorem zdu (l : List Int) (i : Nat) (h : i < l.length) : (ints l)[i]? = some (.int .i64 l[i]) := by simp [ints, h]
def orI : List Int → Int
 | [] => 0
 | x :: l => if x = 0 then orI l else x
theorem zab {call : Ev.Call} {H : Hp} {b m : Nat} {e : Bool} {q : Nat} {l : List Int} (h0 : H.get b = qaa q (ints l)) (hl : l.length < 1000000) :
  ∀ (k i : Nat), i ≤ l.length → l.length - i < k → qnv call (fun x2 H => .ok x2 H) (fun H => qk4 call (.int .i64 (.ofNat 0)) H) (.int .i64 (.ofNat 0)) (.sl b 0 l.length m e) (.int .i64 (.ofNat l.length)) k (.int .i64 (.ofNat i)) H = .ok (.int .i64 (orI (l.drop i))) H
 | 0, i, _, h => by omega
 | k + 1, i, hi, hk => by
  show q42 call _ _ _ _ _ (qnv call _ _ _ _ _ k) _ H = _
  unfold q42
  by_cases hlt : i < l.length
  ·simp (disch := omega) only [go_sem, hlt]
   unfold q40
   have hd : l.drop i = l[i] :: l.drop (i + 1) := List.drop_eq_getElem_cons hlt
   simp (disch := omega) only [go_sem, h0, zdu _ _ hlt]
   rw [hd]
   show _ = R1.ok (.int .i64 (if l[i] = 0 then orI (l.drop (i + 1)) else l[i])) H
   by_cases hz : l[i] = Int.ofNat 0
   ·have hz' : l[i] = 0 := hz
    simp only [hz', go_sem]
    unfold q41
    simp (disch := omega) only [go_sem]
    exact zab h0 hl k (i + 1) (by omega) (by omega)
   ·have hz' : ¬ l[i] = 0 := hz
    simp only [hz, hz', go_sem]
  ·have hd : l.drop i = [] := List.drop_eq_nil_of_le (by omega)
   simp (disch := omega) only [go_sem, hlt]
   rw [hd]; rfl
theorem Or_ok (hC : qav C) {k : Nat} (hk : 1 ≤ k) {H : Hp} {b m : Nat} {e : Bool} {q n : Nat} {l : List Int} (hn : l.length = n) (h0 : H.get b = qaa q (ints l)) (hl : l.length < 1000000) :
  C k (.f q00) [.sl b 0 n m e] H = .ok (.int .i64 (orI l)) H := by
 obtain ⟨j, rfl⟩ : ∃ j, k = j + 1 := ⟨k - 1, by omega⟩
 subst hn
 rw [(hC j).zBs]
 unfold zBs zgd q43
 simp only [go_sem]
 rw [qan]
 exact zab h0 hl _ 0 (Nat.zero_le _) (by rw [qaf]; omega)
structure Edge where
 (f t : Nat)
 s : Bool
deriving DecidableEq
def Edge.cells (e : Edge) : List AV := [.int .i64 (.ofNat e.f), .int .i64 (.ofNat e.t), .bool e.s]
def cmpE (x y : Edge) : Int := orI [cmpI (.ofNat x.f) (.ofNat y.f), cmpI (.ofNat x.t) (.ofNat y.t), cmpI (sgn x.s) (sgn y.s)]
theorem q3s (hC : qav C) {k : Nat} (hk : 3 ≤ k) (x y : Edge) (H : Hp) : Ok (C k (.f qmq) [.agg x.cells, .agg y.cells] H) fun v H' => v = .int .i64 (cmpE x y) ∧ Fm No H H' := by
 obtain ⟨j, rfl⟩ : ∃ j, k = j + 1 := ⟨k - 1, by omega⟩
 rw [(hC j).zBa]
 unfold zBa zgr Edge.cells
 simp (disch := first | omega | exact ti rfl | (simp only [np, nq]; first | done | omega)) only [go_sem, reduceAdd, reduceMul, reduceSub, reduceLeDiff, reduceEqDiff, reduceShiftRight, reduceAnd, Nat.beq, qrw hC (show 2 ≤ j by omega), zhq hC (show 1 ≤ j by omega)]
 refine Ok.deE (Or_ok hC (show 1 ≤ j by omega) (l := [cmpI (.ofNat x.f) (.ofNat y.f), cmpI (.ofNat x.t) (.ofNat y.t), cmpI (sgn x.s) (sgn y.s)]) rfl (qam _ _ _) (by simp)) ?_
 simp (disch := first | omega | exact ti rfl | (simp only [np, nq]; first | done | omega)) only [go_sem, reduceAdd, reduceMul, reduceSub, reduceLeDiff, reduceEqDiff, reduceShiftRight, reduceAnd]
 exact Ok.ret ⟨rfl, by (repeat (first | exact Fm.refl _ _ | assumption | refine Fm.push ?_ _ | refine Fm.up2 ?_ (by (first | omega | (simp only [np, nq]; omega))) | refine Fm.put_new ?_ _ _ (by (first | omega | (simp only [np, nq]; omega)))))⟩
end Go.Di
end
section
namespace Go.Di
open Go.Ev
variable {C : Nat → Ev.Call}
def qt6 (es : List Edge) : List AV := (es.map Edge.cells).flatten
theorem qt5 : ∀ (es : List Edge) (i : Nat) (h : i < es.length), ((qt6 es).drop (i * 3)).take 3 = es[i].cells
 | x :: l, 0, _ => by simp [qt6, Edge.cells]
 | x :: l, i + 1, h => by
  have : (qt6 (x :: l)).drop ((i + 1) * 3) = (qt6 l).drop (i * 3) := by
   rw [show (i + 1) * 3 = (i * 3 + 3) by omega]; rfl
  rw [this]
  exact qt5 l i (by simpa using h)
structure qjw (n : Nat) (es : List Edge) : Prop where
 rng : ∀ e ∈ es, e.f < n ∧ e.t < n
 ord : ∀ i, (h : i + 1 < es.length) → cmpE es[i] es[i + 1] < 0
theorem q8x (a b : Int) (k : IntKind) : qer minV (.int k a) [.int k b] = .val (.int k (min a b)) := by
 show R0.val (.int k (bif ltI b a then b else a)) = _
 rw [qd2]
 by_cases h : b < a
 ·rw [decide_eq_true h, Int.min_eq_right (by omega)]; rfl
 ·rw [decide_eq_false h, Int.min_eq_left (by omega)]; rfl
theorem q8y (a b : Int) (k : IntKind) : qer maxV (.int k a) [.int k b] = .val (.int k (max a b)) := by
 show R0.val (.int k (bif ltI a b then b else a)) = _
 rw [qd2]
 by_cases h : a < b
 ·rw [decide_eq_true h, Int.max_eq_right (by omega)]; rfl
 ·rw [decide_eq_false h, Int.max_eq_left (by omega)]; rfl
structure IsE (H : Hp) (v : AV) (es : List Edge) : Prop where
 flat : qim v = true
 len : lenSl v = .val (.int .i64 (.ofNat es.length))
 lt' : ∀ b, In v b → b < H.nx
 at' : ∀ (i : Nat) (hi : i < es.length), ∃ b o, idxS 3 v (.int .i64 (.ofNat i)) = .val (.ptr b o) ∧ b < H.nx ∧ qba (H.get b) o 3 = some es[i].cells
theorem IsE.at {H : Hp} {v : AV} {es : List Edge} (h : IsE H v es) {i : Nat} (hi : i < es.length) : ∃ b o, idxS 3 v (.int .i64 (.ofNat i)) = .val (.ptr b o) ∧ b < H.nx ∧ qba (H.get b) o 3 = some es[i].cells := h.at' i hi
theorem IsE.fm {H H' : Hp} {v : AV} {es : List Edge} (h : IsE H v es) (a : Fm No H H') : IsE H' v es := ⟨h.flat, h.len, fun b hb => Nat.lt_of_lt_of_le (h.lt' b hb) a.nx, fun i hi => by
 obtain ⟨b, o, e1, e2, e3⟩ := h.at' i hi
 exact ⟨b, o, e1, Nat.lt_of_lt_of_le e2 a.nx, by rw [a.keep e2]; exact e3⟩⟩
theorem zlt {z i b o : Nat} {v : AV} (h : idxS z v (.int .i64 (.ofNat i)) = .val (.ptr b o)) : In v b := by
 cases v with
 | sl b' o' n m e =>
  have h : (bif Nat.blt i n then R0.val (.ptr b' (o' + i * z)) else .bad) = .val (.ptr b o) := h
  cases hb : Nat.blt i n with
  | true => rw [hb] at h; cases h; exact ⟨_, _, _, _, rfl⟩
  | false => rw [hb] at h; cases h
 | _ => cases h
theorem IsE.keep {H H' : Hp} {v : AV} {es : List Edge} (h : IsE H v es) (hn : H.nx ≤ H'.nx) (hk : ∀ b, In v b → b < H.nx → H'.get b = H.get b) : IsE H' v es := ⟨h.flat, h.len, fun b hb => Nat.lt_of_lt_of_le (h.lt' b hb) hn, fun i hi => by
 obtain ⟨b, o, e1, e2, e3⟩ := h.at' i hi
 exact ⟨b, o, e1, Nat.lt_of_lt_of_le e2 hn, by rw [hk b (zlt e1) e2]; exact e3⟩⟩
theorem IsE.lt {H : Hp} {v : AV} {es : List Edge} (h : IsE H v es) {b : Nat} (hb : In v b) : b < H.nx := h.lt' b hb
def GlE (H : Hp) (v : AV) (es : List Edge) : Prop := Gl 3 H v es.length (qt6 es)
theorem Gl.flat {z n : Nat} {H : Hp} {v : AV} {l : List AV} (h : Gl z H v n l) : qim v = true := by
 rcases h.is with ⟨rfl, rfl⟩ | ⟨b, o, e, q, L, rfl, _⟩ <;> rfl
theorem IsE.eqF {H : Hp} {v : AV} {es : List Edge} (h : IsE H v es) : eqF 64 v v = true := qca h.flat 63
theorem GlE.isE {H : Hp} {v : AV} {es : List Edge} (h : GlE H v es) : IsE H v es := ⟨Gl.flat h, Gl.lenV h, fun b hb => Gl.lt h hb, fun i hi => by
 obtain ⟨b, o, e1, e2, _, e3, _⟩ := Gl.atN h hi
 exact ⟨b, o, e1, e2, by rw [e3, qt5 _ _ hi]⟩⟩
theorem qjx (hC : qav C) {j : Nat} (hj : 3 ≤ j) {n : Nat} {es : List Edge} (hE : qjw n es) {v : AV} {g : Nat} {H0 : Hp} (hlen : es.length < 1000000) {Q : AV → Hp → Prop} {q5e0 : Hp → R1}
  (hq : ∀ H, Fm No H0 H → Ok (q5e0 H) Q) :
  ∀ (k i : Nat) (H : Hp), i ≤ es.length → es.length - i < k → IsE H v es → g < H.nx → H.get g = qaa 0 [.int .i64 (.ofNat n), v] → Fm No H0 H →
   Ok (qll (C j) (fun x2 H => .ok x2 H) q5e0 (.ptr g 0) v (.int .i64 (.ofNat es.length)) k (.int .i64 (.ofNat i)) H) Q
 | 0, i, _, _, h, _, _, _, _ => by omega
 | k + 1, i, H, hi, hk, hv, hg1, hg2, hf => by
  show Ok (q56 (C j) _ _ _ _ _ (qll (C j) _ _ _ _ _ k) _ H) Q
  unfold q56
  by_cases hlt : i < es.length
  ·obtain ⟨b, o1, e1, e2, e3⟩ := hv.at hlt
   have hr := hE.rng es[i] (List.getElem_mem hlt)
   simp (disch := first | omega | exact ti rfl | (simp only [np, nq]; first | done | omega)) only [go_sem, reduceAdd, reduceMul, reduceSub, reduceLeDiff, reduceEqDiff, reduceShiftRight, reduceAnd, hlt]
   unfold qwl zg8
   have hmin : (min (Int.ofNat es[i].f) (Int.ofNat es[i].t) < Int.ofNat 0) = False := by simp only [Int.ofNat_eq_natCast, eq_iff_iff, iff_false]; omega
   have hmax : (Int.ofNat n ≤ max (Int.ofNat es[i].f) (Int.ofNat es[i].t)) = False := by simp only [Int.ofNat_eq_natCast, eq_iff_iff, iff_false]; omega
   by_cases h0 : 0 < i
   ·obtain ⟨p, rfl⟩ : ∃ p, i = p + 1 := ⟨i - 1, by omega⟩
    obtain ⟨b', o2, e1', e2', e3'⟩ := hv.at (show p < es.length by omega)
    have hv64 := hv.eqF
    simp (disch := first | omega | exact ti rfl | (simp only [np, nq]; first | done | omega)) only [go_sem, reduceAdd, reduceMul, reduceSub, reduceLeDiff, reduceEqDiff, reduceShiftRight, reduceAnd, e1, e3, Edge.cells, q8x, q8y, hmin, hmax, hg2, h0, e1', e3', Nat.add_sub_cancel]
    refine Ok.deO (q3s hC hj es[p] es[p + 1] _) ?_
    rintro v' H' ⟨rfl, f'⟩
    have k1 : H'.get g = qaa 0 [.int .i64 (.ofNat n), v] := (f'.keep (by (first | omega | (simp only [np, nq]; omega)))).trans (by simp (disch := first | omega | exact ti rfl | (simp only [np, nq]; first | done | omega)) only [go_sem, reduceAdd, reduceMul, reduceSub, reduceLeDiff, reduceEqDiff, reduceShiftRight, reduceAnd, hg2])
    have k2 : qba (H'.get b') o2 3 = some es[p].cells := by rw [f'.keep (by (first | omega | (simp only [np, nq]; omega)))]; simp (disch := first | omega | exact ti rfl | (simp only [np, nq]; first | done | omega)) only [go_sem, reduceAdd, reduceMul, reduceSub, reduceLeDiff, reduceEqDiff, reduceShiftRight, reduceAnd, e3']
    have k3 : H'.get H.nx = qaa 0 es[p + 1].cells := (f'.keep (by (first | omega | (simp only [np, nq]; omega)))).trans (by simp (disch := first | omega | exact ti rfl | (simp only [np, nq]; first | done | omega)) only [go_sem, reduceAdd, reduceMul, reduceSub, reduceLeDiff, reduceEqDiff, reduceShiftRight, reduceAnd, Edge.cells])
    have ho : (Int.ofNat 0 ≤ cmpE es[p] es[p + 1]) = False := by
     have := hE.ord p hlt
     simp only [Int.ofNat_eq_natCast, eq_iff_iff, iff_false]; omega
    simp (disch := first | omega | exact ti rfl | (simp only [np, nq]; first | done | omega)) only [go_sem, reduceAdd, reduceMul, reduceSub, reduceLeDiff, reduceEqDiff, reduceShiftRight, reduceAnd, k1, k2, k3, hv64, Edge.cells, ho]
    unfold qy9
    simp (disch := first | omega | exact ti rfl | (simp only [np, nq]; first | done | omega)) only [go_sem, reduceAdd, reduceMul, reduceSub, reduceLeDiff, reduceEqDiff, reduceShiftRight, reduceAnd]
    have fH : Fm No H H' := by refine Fm.trans ?_ f'; (repeat (first | exact Fm.refl _ _ | assumption | refine Fm.push ?_ _ | refine Fm.up2 ?_ (by (first | omega | (simp only [np, nq]; omega))) | refine Fm.put_new ?_ _ _ (by (first | omega | (simp only [np, nq]; omega)))))
    exact qjx hC hj hE hlen hq k (p + 1 + 1) H' (by omega) (by omega) (hv.fm fH) (Nat.lt_of_lt_of_le hg1 fH.nx) k1 (hf.trans fH)
   ·simp (disch := first | omega | exact ti rfl | (simp only [np, nq]; first | done | omega)) only [go_sem, reduceAdd, reduceMul, reduceSub, reduceLeDiff, reduceEqDiff, reduceShiftRight, reduceAnd, e1, e3, Edge.cells, q8x, q8y, hmin, hmax, hg2, h0]
    unfold qy9
    simp (disch := first | omega | exact ti rfl | (simp only [np, nq]; first | done | omega)) only [go_sem, reduceAdd, reduceMul, reduceSub, reduceLeDiff, reduceEqDiff, reduceShiftRight, reduceAnd]
    have fH : Fm No H ((qal H (qaa 0 [.int .i64 (.ofNat 0), .int .i64 (.ofNat 0), .bool false])).put H.nx (qaa 0 [.int .i64 (.ofNat es[i].f), .int .i64 (.ofNat es[i].t), .bool es[i].s])) := by (repeat (first | exact Fm.refl _ _ | assumption | refine Fm.push ?_ _ | refine Fm.up2 ?_ (by (first | omega | (simp only [np, nq]; omega))) | refine Fm.put_new ?_ _ _ (by (first | omega | (simp only [np, nq]; omega)))))
    exact qjx hC hj hE hlen hq k (i + 1) _ (by omega) (by omega) (hv.fm fH) (Nat.lt_of_lt_of_le hg1 fH.nx) ((fH.keep hg1).trans hg2) (hf.trans fH)
  ·simp (disch := first | omega | exact ti rfl | (simp only [np, nq]; first | done | omega)) only [go_sem, reduceAdd, reduceMul, reduceSub, reduceLeDiff, reduceEqDiff, reduceShiftRight, reduceAnd, hlt]
   exact hq H hf
theorem ze2 (hC : qav C) {k : Nat} (hk : 4 ≤ k) {n : Nat} {es : List Edge} (hE : qjw n es) (hn : n ≤ 256) (hlen : es.length < 1000000) {v : AV} {H : Hp} (hv : IsE H v es) :
  Ok (C k (.f q1b) [.agg [.int .i64 (.ofNat n), v]] H) fun r H' => r = .int .i64 (.ofNat 0) ∧ Fm No H H' := by
 obtain ⟨j, rfl⟩ : ∃ j, k = j + 1 := ⟨k - 1, by omega⟩
 rw [(hC j).zAg]
 unfold zAg zg9
 have h256 : (256 < n) = False := by simp only [eq_iff_iff, iff_false]; omega
 simp (disch := first | omega | exact ti rfl | (simp only [np, nq]; first | done | omega)) only [go_sem, reduceAdd, reduceMul, reduceSub, reduceLeDiff, reduceEqDiff, reduceShiftRight, reduceAnd, h256, Nat.not_lt_zero]
 unfold qwk q57
 have fH : Fm No H (qal H (qaa 0 [.int .i64 (.ofNat n), v])) := by (repeat (first | exact Fm.refl _ _ | assumption | refine Fm.push ?_ _ | refine Fm.up2 ?_ (by (first | omega | (simp only [np, nq]; omega))) | refine Fm.put_new ?_ _ _ (by (first | omega | (simp only [np, nq]; omega)))))
 simp (disch := first | omega | exact ti rfl | (simp only [np, nq]; first | done | omega)) only [go_sem, reduceAdd, reduceMul, reduceSub, reduceLeDiff, reduceEqDiff, reduceShiftRight, reduceAnd, hv.len]
 rw [qan]
 refine qjx hC (by omega) hE hlen (fun H hf => ?_) _ 0 _ (Nat.zero_le _) (by rw [qaf]; omega) (hv.fm fH) (by (first | omega | (simp only [np, nq]; omega))) (qbc _ _) fH
 exact Ok.ret ⟨rfl, hf⟩
end Go.Di
end
section
namespace Go.Di
open Go.Ev
variable {C : Nat → Ev.Call}
def nats (l : List Nat) : List AV := l.map (fun n => .int .i64 (.ofNat n))
theorem ints_set (l : List Int) (i : Nat) (n : Int) (h : i < l.length) : setL (ints l) i [.int .i64 n] = ints (l.set i n) := by
 unfold setL ints
 apply List.ext_getElem
 ·simp; omega
 ·intro j h1 h2
  simp only [List.length_map, List.length_set] at h2
  simp only [List.getElem_map, List.getElem_set]
  by_cases hj : j < i
  ·rw [List.getElem_append_left (by simp; omega), List.getElem_append_left (by simp; omega)]
   simp [show ¬ i = j by omega]
  ·by_cases he : i = j
   ·subst he
    rw [List.getElem_append_left (by simp; omega), List.getElem_append_right (by simp; exact Nat.min_le_left _ _)]
    simp [Nat.min_eq_left (Nat.le_of_lt h)]
   ·rw [List.getElem_append_right (by simp; omega)]
    simp [he, Nat.min_eq_left (Nat.le_of_lt h)]
    congr 2; omega
theorem qtg (l : List Nat) : ints (l.map Int.ofNat) = nats l := by unfold ints nats; rw [List.map_map]; rfl
theorem Gl.at {n : Nat} {H : Hp} {v : AV} {l : List AV} (h : Gl 1 H v n l) {i : Nat} {x : AV} (hx : l[i]? = some x) : ∃ b o, idxS 1 v (.int .i64 (.ofNat i)) = .val (.ptr b o) ∧ b < H.nx ∧ In v b ∧ qap (H.get b) o = .val x := by
 have hl := h.len
 have hi : i < l.length := by
  rcases Nat.lt_or_ge i l.length with h | h
  ·exact h
  ·rw [List.getElem?_eq_none h] at hx; cases hx
 rcases h.is with ⟨rfl, rfl⟩ | ⟨b, o, e, q, L, rfl, h1, h2, h3, h4, h5⟩
 ·omega
 ·refine ⟨b, o + i, ?_, h5, ⟨_, _, _, _, rfl⟩, ?_⟩
  ·rw [qg8 _ _ _ _ _ _ _ _ (by omega), Nat.mul_one]
  ·have : L[o + i]? = some x := by rw [← List.getElem?_drop, h3]; exact hx
   rw [h1, qga, this]
theorem Gl.clip {z n : Nat} {H : Hp} {v : AV} {l : List AV} (h : Gl z H v n l) : ∃ w, qbq z v none (some (.int .i64 (.ofNat n))) (some (.int .i64 (.ofNat n))) = .val w ∧ Gl z H w n l ∧ capV w = .val (.int .i64 (.ofNat n)) ∧ (∀ b, In w b → In v b) := by
 rcases h.is with ⟨rfl, rfl⟩ | ⟨b, o, e, q, L, rfl, h1, h2, h3, h4, h5⟩
 ·exact ⟨.nilsl, rfl, h, rfl, fun b h => h⟩
 ·have e1 : qbq z (.sl b o n n e) none (some (.int .i64 (.ofNat n))) (some (.int .i64 (.ofNat n))) = mkSl b o z ⟨0, n, n⟩ true := by
   show (match bounds n n none (some (.int .i64 (.ofNat n))) (some (.int .i64 (.ofNat n))) with | some bd => mkSl b o z bd true | none => R0.bad) = _
   have : bounds n n none (some (.int .i64 (.ofNat n))) (some (.int .i64 (.ofNat n))) = some ⟨0, n, n⟩ := by
    show (match (bif Nat.ble n n then some n else none) with | none => none | some m => match (bif Nat.ble n m then some n else none) with | none => none | some h => match (some 0 : Option Nat) with | none => none | some l => some (Bd.mk l h m)) = _
    rw [ble_eq, decide_eq_true (Nat.le_refl n)]; simp only [cond_true, ble_eq, decide_eq_true (Nat.le_refl n)]
   rw [this]
  rw [e1]
  unfold mkSl
  simp only [beq_eq]
  by_cases hn : n = 0
  ·subst hn
   exact ⟨.sl b o 0 0 true, rfl, ⟨h.len, .inr ⟨b, o, true, q, L, rfl, h1, h2, h3, .inl rfl, h5⟩⟩, rfl, fun c hc => by obtain ⟨_, _, _, _, h'⟩ := hc; cases h'; exact ⟨_, _, _, _, rfl⟩⟩
  ·rw [decide_eq_false hn]
   refine ⟨.sl b o n n true, ?_, ⟨h.len, .inr ⟨b, o, true, q, L, rfl, h1, h2, h3, .inl rfl, h5⟩⟩, rfl, fun c hc => by obtain ⟨_, _, _, _, h'⟩ := hc; cases h'; exact ⟨_, _, _, _, rfl⟩⟩
   show R0.val (.sl b (o + 0 * z) (n - 0) (n - 0) true) = _
   rw [Nat.zero_mul, Nat.add_zero, Nat.sub_zero]
theorem zj2 (hC : qav C) {k : Nat} (hk : 1 ≤ k) {n : Nat} {H : Hp} {v : AV} {l : List AV} (h : Gl 1 H v n l) :
  ∃ w, C k (.f q0q) [v] H = .ok w H ∧ Gl 1 H w n l ∧ capV w = .val (.int .i64 (.ofNat n)) ∧ (∀ b, In w b → In v b) := by
 obtain ⟨j, rfl⟩ : ∃ j, k = j + 1 := ⟨k - 1, by omega⟩
 obtain ⟨w, e, h1, h2, h3⟩ := h.clip
 refine ⟨w, ?_, h1, h2, h3⟩
 rw [(hC j).zCk]
 unfold zCk zfx
 simp (disch := first | omega | exact ti rfl | (simp only [np, nq]; first | done | omega)) only [go_sem, reduceAdd, reduceMul, reduceSub, reduceLeDiff, reduceEqDiff, reduceShiftRight, reduceAnd, h.lenV, e]
end Go.Di
end
section
namespace Go.Di
open Go.Ev
variable {C : Nat → Ev.Call}
theorem zdk (l : List Nat) : (nats l).length = l.length := by simp [nats]
theorem q0l (l : List Nat) (i : Nat) (h : i < l.length) : (nats l)[i]? = some (.int .i64 (.ofNat l[i])) := by simp [nats, h]
theorem zdj (l : List Nat) (i n : Nat) (h : i < l.length) : setL (nats l) i [.int .i64 (.ofNat n)] = nats (l.set i n) := by
 rw [← qtg, ints_set _ _ _ (by simpa using h), ← qtg, List.map_set]
structure MOk (n : Nat) (ms : List Nat) : Prop where
 hn : n ≤ 256
 len : ms.length = n * n
 le : ∀ x ∈ ms, x ≤ 3
structure IsM (H : Hp) (v : AV) (b n : Nat) (ms : List Nat) : Prop where
 hv : v = .agg [.int .i64 (.ofNat n), .sl b 0 (n * n) (n * n) true]
 lt : b < H.nx
 get : H.get b = qaa 0 (nats ms)
 ok : MOk n ms
theorem IsM.fm {H H' : Hp} {v : AV} {b n : Nat} {ms : List Nat} (h : IsM H v b n ms) (a : Fm No H H') : IsM H' v b n ms := ⟨h.hv, Nat.lt_of_lt_of_le h.lt a.nx, (a.keep h.lt).trans h.get, h.ok⟩
theorem qsf {n : Nat} (h : n ≤ 256) : n * n ≤ 65536 := Nat.mul_le_mul h h
theorem q8m {n i k : Nat} (hi : i < n) (hk : k < n) : i * n + k < n * n := by
 have : (i + 1) * n ≤ n * n := Nat.mul_le_mul_right n hi
 rw [Nat.add_mul, Nat.one_mul] at this; omega
theorem zmt (hC : qav C) {k : Nat} (hk : 1 ≤ k) {n : Nat} (hn : n ≤ 256) {H : Hp} :
  Ok (C k (.f q1a) [.int .i64 (.ofNat n)] H) fun r H' => IsM H' r (H.nx + 1) n (List.replicate (n * n) 0) ∧ Fm No H H' := by
 obtain ⟨j, rfl⟩ : ∃ j, k = j + 1 := ⟨k - 1, by omega⟩
 rw [(hC j).zAp]
 unfold zAp zg1
 have hs := qsf hn
 have hr : reps [.int .i64 (.ofNat 0)] (n * n) = nats (List.replicate (n * n) 0) := by rw [qz3]; simp [nats]
 simp (disch := first | omega | exact ti rfl | (simp only [np, nq]; first | done | omega)) only [go_sem, reduceAdd, reduceMul, reduceSub, reduceLeDiff, reduceEqDiff, reduceShiftRight, reduceAnd, q74, hr]
 refine Ok.ret ⟨⟨rfl, ?_, ?_, ⟨hn, List.length_replicate, fun x hx => by rw [List.eq_of_mem_replicate hx]; omega⟩⟩, by (repeat (first | exact Fm.refl _ _ | assumption | refine Fm.push ?_ _ | refine Fm.up2 ?_ (by (first | omega | (simp only [np, nq]; omega))) | refine Fm.put_new ?_ _ _ (by (first | omega | (simp only [np, nq]; omega)))))⟩
 ·(first | omega | (simp only [np, nq]; omega))
 ·simp (disch := first | omega | exact ti rfl | (simp only [np, nq]; first | done | omega)) only [go_sem, reduceAdd, reduceMul, reduceSub, reduceLeDiff, reduceEqDiff, reduceShiftRight, reduceAnd]
def putM (n : Nat) (ms : List Nat) (f t : Nat) (s : Bool) : List Nat :=
 if ms.getD (f * n + t) 0 / (if s then 2 else 1) % 2 = 0 then ms.set (f * n + t) (ms.getD (f * n + t) 0 + (if s then 2 else 1)) else ms
theorem qye (hC : qav C) {k : Nat} (hk : 1 ≤ k) {n b f t : Nat} {ms : List Nat} {v : AV} {H : Hp} (hM : IsM H v b n ms) (hf : f < n) (ht : t < n) (s : Bool) :
  Ok (C k (.f qpg) [v, .int .i64 (.ofNat f), .int .i64 (.ofNat t), .bool s] H) fun _ H' => IsM H' v b n (putM n ms f t s) ∧ Fm (· = b) H H' := by
 obtain ⟨j, rfl⟩ : ∃ j, k = j + 1 := ⟨k - 1, by omega⟩
 obtain ⟨rfl, hb, hg, hok⟩ := hM
 rw [(hC j).zAt]
 unfold zAt zgy
 have hs := qsf hok.hn
 have hi := q8m hf ht
 have hfn : f * n < 9223372036854775808 := by omega
 have hl := hok.len
 have hget := q0l ms (f * n + t) (by omega)
 have hle := hok.le ms[f * n + t] (List.getElem_mem _)
 have h1 : f * n + t + 1 ≤ n * n := hi
 have hgd : ms.getD (f * n + t) 0 = ms[f * n + t] := by rw [List.getD_eq_getElem?_getD, List.getElem?_eq_getElem (by omega)]; rfl
 have fin : ∀ d : Nat, 0 < d → d < 3 → d = (if s then 2 else 1) → (ms[f * n + t] / d % 2 = 0 → ms[f * n + t] + d ≤ 3) → Ok (qlc (C j) (.int .i64 (.ofNat f)) (.int .i64 (.ofNat t)) (.ptr H.nx 0) (.int .i64 (.ofNat d)) (qal H (qaa 0 [.int .i64 (.ofNat n), .sl b 0 (n * n) (n * n) true]))) fun _ H' => IsM H' (.agg [.int .i64 (.ofNat n), .sl b 0 (n * n) (n * n) true]) b n (putM n ms f t s) ∧ Fm (· = b) H H' := by
  intro d hd1 hd hds hd2
  unfold qlc
  by_cases hz : ms[f * n + t] / d % 2 = 0
  ·simp (disch := first | omega | exact ti rfl | (simp only [np, nq]; first | done | omega)) only [go_sem, reduceAdd, reduceMul, reduceSub, reduceLeDiff, reduceEqDiff, reduceShiftRight, reduceAnd, hg, hget, hz, zdk, hl, h1, zdj]
   have hd3 := hd2 hz
   have hp : putM n ms f t s = ms.set (f * n + t) (ms[f * n + t] + d) := by
    unfold putM
    rw [hgd, ← hds, if_pos hz]
   rw [hp]
   refine Ok.ret ⟨⟨rfl, by (first | omega | (simp only [np, nq]; omega)), qam _ _ _, ⟨hok.hn, by rw [List.length_set]; exact hl, fun x hx => ?_⟩⟩, by (repeat (first | exact Fm.refl _ _ | assumption | refine Fm.push ?_ _ | refine Fm.up2 ?_ (by (first | omega | (simp only [np, nq]; omega))) | refine Fm.put_new ?_ _ _ (by (first | omega | (simp only [np, nq]; omega))) | refine Fm.put ?_ _ _ (fun _ => rfl)))⟩
   rcases List.mem_or_eq_of_mem_set hx with h | h
   ·exact hok.le x h
   ·omega
  ·simp (disch := first | omega | exact ti rfl | (simp only [np, nq]; first | done | omega)) only [go_sem, reduceAdd, reduceMul, reduceSub, reduceLeDiff, reduceEqDiff, reduceShiftRight, reduceAnd, hg, hget, hz]
   have hp : putM n ms f t s = ms := by
    unfold putM
    rw [hgd, ← hds, if_neg hz]
   rw [hp]
   exact Ok.ret ⟨⟨rfl, by (first | omega | (simp only [np, nq]; omega)), (qgk _ _ _ hb).trans hg, hok⟩, by (repeat (first | exact Fm.refl _ _ | assumption | refine Fm.push ?_ _ | refine Fm.up2 ?_ (by (first | omega | (simp only [np, nq]; omega))) | refine Fm.put_new ?_ _ _ (by (first | omega | (simp only [np, nq]; omega))) | refine Fm.put ?_ _ _ (fun _ => rfl)))⟩
 cases s
 ·simp (disch := first | omega | exact ti rfl | (simp only [np, nq]; first | done | omega)) only [go_sem, reduceAdd, reduceMul, reduceSub, reduceLeDiff, reduceEqDiff, reduceShiftRight, reduceAnd]
  exact fin 1 (by omega) (by omega) rfl (fun h => by omega)
 ·simp (disch := first | omega | exact ti rfl | (simp only [np, nq]; first | done | omega)) only [go_sem, reduceAdd, reduceMul, reduceSub, reduceLeDiff, reduceEqDiff, reduceShiftRight, reduceAnd]
  exact fin 2 (by omega) (by omega) rfl (fun h => by omega)
end Go.Di
end
section
namespace Go.Di
open Go.Ev
variable {C : Nat → Ev.Call}
structure T3 where
 (f t s : Nat)
def T3.cells (e : T3) : List AV := [.int .i64 (.ofNat e.f), .int .i64 (.ofNat e.t), .int .i64 (.ofNat e.s)]
def qdr (ts : List T3) : List AV := (ts.map T3.cells).flatten
theorem qon (es : List T3) (e : T3) : qdr es ++ e.cells = qdr (es ++ [e]) := by simp [qdr]
theorem qh5 : ∀ (es : List T3) (i j : Nat) (h : i < es.length), j < 3 → (qdr es).getD (i * 3 + j) .undef = es[i].cells.getD j .undef
 | x :: l, 0, j, _, hj => by
  show (x.cells ++ qdr l).getD (0 * 3 + j) .undef = _
  rw [Nat.zero_mul, Nat.zero_add, List.getD_eq_getElem?_getD, List.getElem?_append_left (by simp [T3.cells]; omega)]
  simp [List.getD_eq_getElem?_getD]
 | x :: l, i + 1, j, h, hj => by
  show (x.cells ++ qdr l).getD ((i + 1) * 3 + j) .undef = _
  rw [List.getD_eq_getElem?_getD, List.getElem?_append_right (by simp [T3.cells]; omega), show (i + 1) * 3 + j - x.cells.length = i * 3 + j by simp [T3.cells]; omega]
  have := qh5 l i j (by simpa using h) hj
  rw [List.getD_eq_getElem?_getD] at this
  simpa using this
theorem T3_at {H : Hp} {v : AV} {ts : List T3} (h : Gl 3 H v ts.length (qdr ts)) {i : Nat} (hi : i < ts.length) :
  ∃ b o, idxS 3 v (.int .i64 (.ofNat i)) = .val (.ptr b o) ∧ b < H.nx ∧ In v b ∧ qap (H.get b) o = .val (.int .i64 (.ofNat ts[i].f)) ∧ qap (H.get b) (o + 1) = .val (.int .i64 (.ofNat ts[i].t)) ∧ qap (H.get b) (o + 2) = .val (.int .i64 (.ofNat ts[i].s)) := by
 obtain ⟨b, o, e1, e2, e3, _, e4⟩ := h.atN hi
 refine ⟨b, o, e1, e2, e3, ?_, ?_, ?_⟩
 ·have := e4 0 (by omega); rw [qh5 _ _ _ hi (by omega)] at this; exact this
 ·have := e4 1 (by omega); rw [qh5 _ _ _ hi (by omega)] at this; exact this
 ·have := e4 2 (by omega); rw [qh5 _ _ _ hi (by omega)] at this; exact this
def qdf (n : Nat) : List Nat → List T3 → List Nat
 | ms, [] => ms
 | ms, e :: l => qdf n (putM n ms e.f e.t (decide (e.s = 1))) l
end Go.Di
end
section
namespace Go.Di
open Go.Ev
variable {C : Nat → Ev.Call}
def ent (n : Nat) (ms : List Nat) (i k : Nat) : List T3 := (if ms.getD (i * n + k) 0 % 2 = 1 then [⟨i, k, 0⟩] else []) ++ (if 1 < ms.getD (i * n + k) 0 then [⟨i, k, 1⟩] else [])
def eR (n : Nat) (ms : List Nat) (i : Nat) : Nat → List T3
 | 0 => []
 | k + 1 => eR n ms i k ++ ent n ms i k
def eM (n : Nat) (ms : List Nat) : Nat → List T3
 | 0 => []
 | i + 1 => eM n ms i ++ eR n ms i n
theorem zjb (n : Nat) (ms : List Nat) (i k : Nat) : (ent n ms i k).length ≤ 2 := by
 unfold ent; split <;> split <;> simp
theorem q9l (n : Nat) (ms : List Nat) (i : Nat) : ∀ k, (eR n ms i k).length ≤ 2 * k
 | 0 => Nat.le_refl _
 | k + 1 => by
  have h1 := q9l n ms i k
  have h2 := zjb n ms i k
  simp only [eR, List.length_append]; omega
theorem q9m (n : Nat) (ms : List Nat) : ∀ i, (eM n ms i).length ≤ 2 * (i * n)
 | 0 => by simp [eM]
 | i + 1 => by
  have h1 := q9m n ms i
  have h2 := q9l n ms i n
  simp only [eM, List.length_append, Nat.add_mul, Nat.one_mul]; omega
theorem qr0 {call : Ev.Call} {n i g : Nat} {ms : List Nat} {mv : AV} {mb : Nat} {H1 : Hp} {Q : AV → Hp → Prop} {q5 : AV → Hp → R1} (pre : List T3)
  (hM : IsM H1 mv mb n ms) (hg : g < H1.nx) (hgv : H1.get g = qaa 0 [.int .i64 (.ofNat n), .sl mb 0 (n * n) (n * n) true]) (hin : i < n) (hpre : pre.length ≤ 2 * (i * n))
  (hq : ∀ w H, Gl 3 H w (pre ++ eR n ms i n).length (qdr (pre ++ eR n ms i n)) → Fm No H1 H → (∀ b, In w b → H1.nx ≤ b) → Ok (q5 w H) Q) :
  ∀ (k c : Nat) (w : AV) (H : Hp), c ≤ n → n - c < k → Gl 3 H w (pre ++ eR n ms i c).length (qdr (pre ++ eR n ms i c)) → Fm No H1 H → (∀ b, In w b → H1.nx ≤ b) →
   Ok (qj3 call q5 (.ptr g 0) (.int .i64 (.ofNat i)) k w (.int .i64 (.ofNat c)) H) Q
 | 0, c, _, _, _, h, _, _, _ => by omega
 | k + 1, c, w, H, hc, hk, hw, hfm, hwn => by
  show Ok (q6b call _ _ _ (qj3 call _ _ _ k) _ _ H) Q
  unfold q6b
  have k1 : H.get g = qaa 0 [.int .i64 (.ofNat n), .sl mb 0 (n * n) (n * n) true] := (hfm.keep hg).trans hgv
  have hsq := qsf hM.ok.hn
  have n1 := hfm.nx
  by_cases hlt : c < n
  ·simp (disch := first | omega | exact ti rfl | (simp only [np, nq]; first | done | omega)) only [go_sem, reduceAdd, reduceMul, reduceSub, reduceLeDiff, reduceEqDiff, reduceShiftRight, reduceAnd, k1, hlt]
   unfold qwp
   have hi := q8m hin hlt
   have hl := hM.ok.len
   have hget : (nats ms)[i * n + c]? = some (.int .i64 (.ofNat (ms.getD (i * n + c) 0))) := by
    rw [q0l _ _ (by omega)]; simp [List.getD_eq_getElem?_getD, show i * n + c < ms.length by omega]
   have kM : H.get mb = qaa 0 (nats ms) := (hfm.keep hM.lt).trans hM.get
   have hpl := q9l n ms i c
   have hlen : (pre ++ eR n ms i c).length ≤ 200000 := by rw [List.length_append]; omega
   have hnx : eR n ms i (c + 1) = eR n ms i c ++ ent n ms i c := rfl
   -- the second half
   have half : ∀ (w : AV) (H : Hp) (l : List T3), pre ++ eR n ms i (c + 1) = l ++ (if 1 < ms.getD (i * n + c) 0 then [⟨i, c, 1⟩] else []) → l.length ≤ 300000 → Gl 3 H w l.length (qdr l) → Fm No H1 H → (∀ b, In w b → H1.nx ≤ b) →
     Ok (qln call (qj3 call q5 (.ptr g 0) (.int .i64 (.ofNat i)) k) (.ptr g 0) w (.int .i64 (.ofNat i)) (.int .i64 (.ofNat c)) H) Q := by
    intro w H l hl2 hll hw hfm hwn
    unfold qln
    have k1 : H.get g = qaa 0 [.int .i64 (.ofNat n), .sl mb 0 (n * n) (n * n) true] := (hfm.keep hg).trans hgv
    have kM : H.get mb = qaa 0 (nats ms) := (hfm.keep hM.lt).trans hM.get
    have n1 := hfm.nx
    by_cases h1 : 1 < ms.getD (i * n + c) 0
    ·simp (disch := first | omega | exact ti rfl | (simp only [np, nq]; first | done | omega)) only [go_sem, reduceAdd, reduceMul, reduceSub, reduceLeDiff, reduceEqDiff, reduceShiftRight, reduceAnd, k1, kM, hget, h1]
     rw [if_pos h1] at hl2
     have fH : Fm No H (qal H (qaa 0 [.int .i64 (.ofNat i), .int .i64 (.ofNat c), .int .i64 (.ofNat 1)])) := by (repeat (first | exact Fm.refl _ _ | assumption | refine Fm.push ?_ _ | refine Fm.up2 ?_ (by (first | omega | (simp only [np, nq]; omega))) | refine Fm.put_new ?_ _ _ (by (first | omega | (simp only [np, nq]; omega)))))
     obtain ⟨H', e, gl', _, fm', nx'⟩ := (hw.no fH).append (k := 1) (w := 24) (x := (⟨i, c, 1⟩ : T3).cells) (by omega) rfl (by omega) (by omega)
     refine Ok.veE e ?_
     unfold qr6
     simp (disch := first | omega | exact ti rfl | (simp only [np, nq]; first | done | omega)) only [go_sem, reduceAdd, reduceMul, reduceSub, reduceLeDiff, reduceEqDiff, reduceShiftRight, reduceAnd]
     rw [qon, ← hl2] at gl'
     refine qr0 pre hM hg hgv hin hpre hq k (c + 1) _ H' (by omega) (by omega) (by rw [hl2] at gl' ⊢; rw [List.length_append]; exact gl') ((hfm.trans fH).then fm' fun c hc h => by have := hwn c h; omega) (fun b hb => ?_)
     obtain ⟨_, _, _, _, h⟩ := hb
     cases h; (first | omega | (simp only [np, nq]; omega))
    ·simp (disch := first | omega | exact ti rfl | (simp only [np, nq]; first | done | omega)) only [go_sem, reduceAdd, reduceMul, reduceSub, reduceLeDiff, reduceEqDiff, reduceShiftRight, reduceAnd, k1, kM, hget, h1]
     rw [if_neg h1, List.append_nil] at hl2
     unfold qr6
     simp (disch := first | omega | exact ti rfl | (simp only [np, nq]; first | done | omega)) only [go_sem, reduceAdd, reduceMul, reduceSub, reduceLeDiff, reduceEqDiff, reduceShiftRight, reduceAnd]
     exact qr0 pre hM hg hgv hin hpre hq k (c + 1) w H (by omega) (by omega) (by rw [hl2]; exact hw) hfm hwn
   by_cases h2 : ms.getD (i * n + c) 0 % 2 = 1
   ·simp (disch := first | omega | exact ti rfl | (simp only [np, nq]; first | done | omega)) only [go_sem, reduceAdd, reduceMul, reduceSub, reduceLeDiff, reduceEqDiff, reduceShiftRight, reduceAnd, k1, kM, hget, h2]
    have fH : Fm No H (qal H (qaa 0 [.int .i64 (.ofNat i), .int .i64 (.ofNat c), .int .i64 (.ofNat 0)])) := by (repeat (first | exact Fm.refl _ _ | assumption | refine Fm.push ?_ _ | refine Fm.up2 ?_ (by (first | omega | (simp only [np, nq]; omega))) | refine Fm.put_new ?_ _ _ (by (first | omega | (simp only [np, nq]; omega)))))
    obtain ⟨H', e, gl', _, fm', nx'⟩ := (hw.no fH).append (k := 1) (w := 24) (x := (⟨i, c, 0⟩ : T3).cells) (by omega) rfl (by omega) (by omega)
    refine Ok.veE e ?_
    rw [qon] at gl'
    refine half _ H' (pre ++ eR n ms i c ++ [⟨i, c, 0⟩]) ?_ (by have : (pre ++ eR n ms i c ++ [(⟨i, c, 0⟩ : T3)]).length = (pre ++ eR n ms i c).length + 1 := List.length_append; omega) (by rw [show (pre ++ eR n ms i c ++ [(⟨i, c, 0⟩ : T3)]).length = (pre ++ eR n ms i c).length + 1 from List.length_append]; exact gl') ((hfm.trans fH).then fm' fun c hc h => by have := hwn c h; omega) (fun b hb => ?_)
    ·rw [hnx]; unfold ent; rw [if_pos h2]; simp only [List.append_assoc]
    ·obtain ⟨_, _, _, _, h⟩ := hb
     cases h; (first | omega | (simp only [np, nq]; omega))
   ·simp (disch := first | omega | exact ti rfl | (simp only [np, nq]; first | done | omega)) only [go_sem, reduceAdd, reduceMul, reduceSub, reduceLeDiff, reduceEqDiff, reduceShiftRight, reduceAnd, k1, kM, hget, h2]
    refine half w H (pre ++ eR n ms i c) ?_ (by omega) hw hfm hwn
    rw [hnx]; unfold ent; rw [if_neg h2]; simp only [List.append_assoc, List.nil_append]
  ·have : c = n := by omega
   simp (disch := first | omega | exact ti rfl | (simp only [np, nq]; first | done | omega)) only [go_sem, reduceAdd, reduceMul, reduceSub, reduceLeDiff, reduceEqDiff, reduceShiftRight, reduceAnd, k1, hlt]
   rw [this] at hw
   exact hq w H hw hfm hwn
theorem qup {call : Ev.Call} {n g : Nat} {ms : List Nat} {mv : AV} {mb : Nat} {H1 : Hp} {Q : AV → Hp → Prop} {q2 : AV → Hp → R1}
  (hM : IsM H1 mv mb n ms) (hg : g < H1.nx) (hgv : H1.get g = qaa 0 [.int .i64 (.ofNat n), .sl mb 0 (n * n) (n * n) true])
  (hq : ∀ w H, Gl 3 H w (eM n ms n).length (qdr (eM n ms n)) → Fm No H1 H → (∀ b, In w b → H1.nx ≤ b) → Ok (q2 w H) Q) :
  ∀ (k i : Nat) (w : AV) (H : Hp), i ≤ n → n - i < k → Gl 3 H w (eM n ms i).length (qdr (eM n ms i)) → Fm No H1 H → (∀ b, In w b → H1.nx ≤ b) →
   Ok (qf8 call q2 (.ptr g 0) k w (.int .i64 (.ofNat i)) H) Q
 | 0, i, _, _, _, h, _, _, _ => by omega
 | k + 1, i, w, H, hi, hk, hw, hfm, hwn => by
  show Ok (q6c call _ _ (qf8 call _ _ k) _ _ H) Q
  unfold q6c
  have k1 : H.get g = qaa 0 [.int .i64 (.ofNat n), .sl mb 0 (n * n) (n * n) true] := (hfm.keep hg).trans hgv
  by_cases hlt : i < n
  ·simp (disch := first | omega | exact ti rfl | (simp only [np, nq]; first | done | omega)) only [go_sem, reduceAdd, reduceMul, reduceSub, reduceLeDiff, reduceEqDiff, reduceShiftRight, reduceAnd, k1, hlt]
   unfold qwo q6d
   rw [qan]
   have hn := hM.ok.hn
   refine qr0 (eM n ms i) hM hg hgv hlt (q9m n ms i) (fun w' H' gw f' hw' => ?_) qak 0 w H (Nat.zero_le _) (by rw [qaf]; omega) (by rw [show eM n ms i ++ eR n ms i 0 = eM n ms i from List.append_nil _]; exact hw) hfm hwn
   unfold qj4
   simp (disch := first | omega | exact ti rfl | (simp only [np, nq]; first | done | omega)) only [go_sem, reduceAdd, reduceMul, reduceSub, reduceLeDiff, reduceEqDiff, reduceShiftRight, reduceAnd]
   exact qup hM hg hgv hq k (i + 1) w' H' (by omega) (by omega) gw f' hw'
  ·have : i = n := by omega
   simp (disch := first | omega | exact ti rfl | (simp only [np, nq]; first | done | omega)) only [go_sem, reduceAdd, reduceMul, reduceSub, reduceLeDiff, reduceEqDiff, reduceShiftRight, reduceAnd, k1, hlt]
   rw [this] at hw
   exact hq w H hw hfm hwn
theorem zez (hC : qav C) {k : Nat} (hk : 1 ≤ k) {n mb : Nat} {ms : List Nat} {mv : AV} {H : Hp} (hM : IsM H mv mb n ms) :
  Ok (C k (.f q1d) [mv] H) fun w H' => Gl 3 H' w (eM n ms n).length (qdr (eM n ms n)) ∧ Fm No H H' ∧ (∀ b, In w b → H.nx ≤ b) := by
 obtain ⟨j, rfl⟩ : ∃ j, k = j + 1 := ⟨k - 1, by omega⟩
 have hr := hM.hv
 subst hr
 rw [(hC j).zAe]
 unfold zAe zhb q6e
 have fH : Fm No H (qal H (qaa 0 [.int .i64 (.ofNat n), .sl mb 0 (n * n) (n * n) true])) := by (repeat (first | exact Fm.refl _ _ | assumption | refine Fm.push ?_ _ | refine Fm.up2 ?_ (by (first | omega | (simp only [np, nq]; omega))) | refine Fm.put_new ?_ _ _ (by (first | omega | (simp only [np, nq]; omega)))))
 simp (disch := first | omega | exact ti rfl | (simp only [np, nq]; first | done | omega)) only [go_sem, reduceAdd, reduceMul, reduceSub, reduceLeDiff, reduceEqDiff, reduceShiftRight, reduceAnd]
 rw [qan]
 have hn := hM.ok.hn
 refine qup (H1 := qal H (qaa 0 [.int .i64 (.ofNat n), .sl mb 0 (n * n) (n * n) true])) (hM.fm fH) (by (first | omega | (simp only [np, nq]; omega))) (qbc _ _) (fun w H' gw f' hw => ?_) qak 0 _ _ (Nat.zero_le _) (by rw [qaf]; omega) (Gl.nil _ _) (Fm.refl _ _) (fun b hb => by obtain ⟨_, _, _, _, h⟩ := hb; cases h)
 unfold qfy
 exact Ok.ret ⟨gw, fH.trans f', fun b hb => Nat.le_trans (Nat.le_succ _) (hw b hb)⟩
end Go.Di
end
section
namespace Go.Di
open Go.Ev
variable {C : Nat → Ev.Call}
def toE (e : T3) : Edge := ⟨e.f, e.t, decide (e.s = 1)⟩
def qfs (n : Nat) (ms : List Nat) : List Edge := (eM n ms n).map toE
end Go.Di
end
section
namespace Go.Di
open Go.Ev
variable {C : Nat → Ev.Call}
def tE (X : List SpG) (n : Nat) (neg : Bool) (p : SS × SS) : T3 := ⟨n, numG X p.1 p.2, if neg then 1 else 0⟩
structure OfR (X : List SpG) (sv : AV) (cb gb b rb : Nat) (av nv : AV) (N : Nat) (g : RelG) (l : List (Nd × AV)) (H : Hp) : Prop where
 sch : SchR H sv X
 x1 : H.get cb = qaa 0 [sv]
 x3 : Rs 2 pC H av (allG X)
 x4 : H.get gb = qaa 0 [.int .i64 (.ofNat N), .sl b 0 (N * N) (N * N) true]
 x6 : H.get rb = qaa 0 (relC g)
 ty : Rs 2 tC H g.tv g.r.types
 tf : qim g.tv = true
 x8 : Rs 5 ndC H nv l
theorem qq8 (X : List SpG) (N n : Nat) (neg : Bool) (p : SS × SS) (ms : List Nat) : qdf N ms [tE X n neg p] = putM N ms n (numG X p.1 p.2) neg := by
 cases neg <;> rfl
theorem qgc (n : Nat) : ∀ (l l' : List T3) (ms : List Nat), qdf n ms (l ++ l') = qdf n (qdf n ms l) l'
 | [], _, _ => rfl
 | _ :: l, l', _ => qgc n l l' _
theorem qmk {X : List SpG} {a b : SS} (h : (a, b) ∈ allG X) : numG X a b < (allG X).length := by
 unfold numG
 rw [List.findIdx_lt_length]
 exact ⟨_, h, by simp⟩
theorem qne (hC : qav C) {k : Nat} (hk : 2 ≤ k) {H : Hp} {sv : AV} {X : List SpG} (hX : SchR H sv X) (hS : Sml X) {a b : SS} (h : (a, b) ∈ allG X) :
  Ok (C k (.f qms) [.agg [sv], a.v, b.v] H) fun r H' => r = .int .i64 (.ofNat (numG X a b)) ∧ Fm No H H' :=
 (zac hC hk hX hS a b).mono fun r H' ⟨f, h'⟩ => by
  rcases h' with ⟨_, h'⟩ | ⟨h', _⟩
  ·exact ⟨h', f⟩
  ·exact absurd h h'
def tyT (l : List TyS) : List (SS × SS) := (l.filter fun t => !decide (t.rl = sE)).map fun t => (t.sp, t.rl)
theorem qzi {l : List TyS} {i : Nat} (h : i < l.length) : tyT (l.take (i + 1)) = tyT (l.take i) ++ if l[i].rl = sE then [] else [(l[i].sp, l[i].rl)] := by
 unfold tyT
 rw [List.take_succ_eq_append_getElem h, List.filter_append, List.map_append, List.filter_cons]
 by_cases h : l[i].rl = sE
 ·simp [h]
 ·simp [h]
theorem qmj (hC : qav C) {j : Nat} (hj : 2 ≤ j) {X : List SpG} (hS : Sml X) {sv av nv : AV} {cb gb b rb N : Nat} {g : RelG} {l : List (Nd × AV)} {Hb : Hp} (hR : ∀ H, Fm (· = b) Hb H → OfR X sv cb gb b rb av nv N g l H)
  (hN : N = (allG X).length) {n x : Nat} (hn : n < N) (hx : x < l.length) (hcb : cb < Hb.nx ∧ gb < Hb.nx ∧ rb < Hb.nx) (hty : g.r.types.length ≤ 1000) (hin : ∀ p ∈ tyT g.r.types, p ∈ allG X) {Q : AV → Hp → Prop} {q : Hp → R1} {ms : List Nat}
  (hq : ∀ H, IsM H (.agg [.int .i64 (.ofNat N), .sl b 0 (N * N) (N * N) true]) b N (qdf N ms ((tyT g.r.types).map (tE X n l[x].1.neg))) → Fm (· = b) Hb H → Ok (q H) Q) :
  ∀ (k i : Nat) (H : Hp), i ≤ g.r.types.length → g.r.types.length - i < k → IsM H (.agg [.int .i64 (.ofNat N), .sl b 0 (N * N) (N * N) true]) b N (qdf N ms ((tyT (g.r.types.take i)).map (tE X n l[x].1.neg))) → Fm (· = b) Hb H →
   Ok (qja (C j) q (.ptr cb 0) (.ptr gb 0) (.int .i64 (.ofNat n)) (.ptr rb 0) nv (.int .i64 (.ofNat x)) k (.int .i64 (.ofNat i)) H) Q
 | 0, i, _, _, h, _, _ => by omega
 | k + 1, i, H, hi, hk, hM, hf => by
  show Ok (qw3 (C j) _ _ _ _ _ _ _ (qja (C j) _ _ _ _ _ _ _ k) _ H) Q
  unfold qw3
  have h1 := hR H hf
  have x6 := h1.x6
  obtain ⟨d2, d3, d4, d5, hd⟩ := qkn g
  rw [hd] at x6
  have hl := h1.ty.len
  have hnx := hf.nx
  have hm := qsf hM.ok.hn
  by_cases hlt : i < g.r.types.length
  ·simp (disch := first | omega | exact ti rfl | (simp only [np, nq]; first | done | omega)) only [go_sem, reduceAdd, reduceMul, reduceSub, reduceLeDiff, reduceEqDiff, reduceShiftRight, reduceAnd, x6, hl, hlt]
   unfold qw2
   obtain ⟨b1, o1, e1, e2, _, _, e4⟩ := h1.ty.at' i hlt
   have r0 : qap (H.get b1) o1 = .val (.str g.r.types[i].sp.n g.r.types[i].sp.a) := e4 0 (by rw [qh7]; omega)
   have r1 : qap (H.get b1) (o1 + 1) = .val (.str g.r.types[i].rl.n g.r.types[i].rl.a) := e4 1 (by rw [qh7]; omega)
   obtain ⟨b2, o2, g1, g2, _, _, g4⟩ := h1.x8.at' x hx
   have r4 : qap (H.get b2) (o2 + 4) = .val (.bool l[x].1.neg) := g4 4 (by rw [qcm]; omega)
   have x1 := h1.x1
   have x4 := h1.x4
   have hs := qzi hlt
   by_cases hz : g.r.types[i].rl.n = 0 ∧ g.r.types[i].rl.a = 0
   ·have hzt := eq_true hz
    rw [if_pos ((qde _ _).2 hz), List.append_nil] at hs
    simp (disch := first | omega | exact ti rfl | (simp only [np, nq]; first | done | omega)) only [go_sem, reduceAdd, reduceMul, reduceSub, reduceLeDiff, reduceEqDiff, reduceShiftRight, reduceAnd, x6, e1, r1, hzt]
    unfold qlp
    simp (disch := first | omega | exact ti rfl | (simp only [np, nq]; first | done | omega)) only [go_sem, reduceAdd, reduceMul, reduceSub, reduceLeDiff, reduceEqDiff, reduceShiftRight, reduceAnd]
    exact qmj hC hj hS hR hN hn hx hcb hty hin hq k (i + 1) H (by omega) (by omega) (by rw [hs]; exact hM) hf
   ·have hz' : ¬ g.r.types[i].rl = sE := fun h => hz ((qde _ _).1 h)
    rw [if_neg hz'] at hs
    have hpm : (g.r.types[i].sp, g.r.types[i].rl) ∈ allG X := hin _ (by
     unfold tyT
     rw [List.mem_map]
     exact ⟨g.r.types[i], by rw [List.mem_filter]; exact ⟨List.getElem_mem hlt, by simpa using hz'⟩, rfl⟩)
    simp (disch := first | omega | exact ti rfl | (simp only [np, nq]; first | done | omega)) only [go_sem, reduceAdd, reduceMul, reduceSub, reduceLeDiff, reduceEqDiff, reduceShiftRight, reduceAnd, x6, x1, x4, e1, r0, r1, hz, g1, r4]
    refine Ok.deO (qne hC (k := j) hj h1.sch hS hpm) ?_
    rintro _ H2 ⟨rfl, f2⟩
    have x42 := (f2.keep (by omega)).trans x4
    have r42 : qap (H2.get b2) (o2 + 4) = .val (.bool l[x].1.neg) := by rw [f2.keep g2]; exact r4
    simp (disch := first | omega | exact ti rfl | (simp only [np, nq]; first | done | omega)) only [go_sem, reduceAdd, reduceMul, reduceSub, reduceLeDiff, reduceEqDiff, reduceShiftRight, reduceAnd, x42, r42]
    refine Ok.deO (qye hC (k := j) (by omega) (hM.fm f2) hn (by rw [hN]; exact qmk hpm) l[x].1.neg) ?_
    rintro _ H3 ⟨hM3, f3⟩
    simp (disch := first | omega | exact ti rfl | (simp only [np, nq]; first | done | omega)) only [go_sem, reduceAdd, reduceMul, reduceSub, reduceLeDiff, reduceEqDiff, reduceShiftRight, reduceAnd]
    unfold qlp
    simp (disch := first | omega | exact ti rfl | (simp only [np, nq]; first | done | omega)) only [go_sem, reduceAdd, reduceMul, reduceSub, reduceLeDiff, reduceEqDiff, reduceShiftRight, reduceAnd]
    refine qmj hC hj hS hR hN hn hx hcb hty hin hq k (i + 1) H3 (by omega) (by omega) ?_ ((hf.then f2 fun _ _ h => absurd h id).then f3 fun _ _ h => h)
    rw [hs, List.map_append, qgc, List.map_singleton, qq8]
    exact hM3
  ·simp (disch := first | omega | exact ti rfl | (simp only [np, nq]; first | done | omega)) only [go_sem, reduceAdd, reduceMul, reduceSub, reduceLeDiff, reduceEqDiff, reduceShiftRight, reduceAnd, x6, hl, hlt]
   have he : i = g.r.types.length := by omega
   rw [he, List.take_length] at hM
   exact hq H hM hf
theorem qs5 (hC : qav C) {j : Nat} (hj : 2 ≤ j) {X : List SpG} (hS : Sml X) {sv av nv tv : AV} {cb gb b rb N : Nat} {g : RelG} {l : List (Nd × AV)} {Hb : Hp} (hR : ∀ H, Fm (· = b) Hb H → OfR X sv cb gb b rb av nv N g l H)
  (hN : N = (allG X).length) {n x : Nat} (hn : n < N) (hx : x < l.length) (hcb : cb < Hb.nx ∧ gb < Hb.nx ∧ rb < Hb.nx) {ts : List SS} (hT : ∀ H, Fm (· = b) Hb H → Rs 1 sC H tv ts) (hty : ts.length ≤ 1000) (hin : ∀ s ∈ ts, (s, l[x].1.to) ∈ allG X) {Q : AV → Hp → Prop} {q : Hp → R1} {ms : List Nat}
  (hq : ∀ H, IsM H (.agg [.int .i64 (.ofNat N), .sl b 0 (N * N) (N * N) true]) b N (qdf N ms ((ts.map fun s => (s, l[x].1.to)).map (tE X n l[x].1.neg))) → Fm (· = b) Hb H → Ok (q H) Q) :
  ∀ (k i : Nat) (H : Hp), i ≤ ts.length → ts.length - i < k → IsM H (.agg [.int .i64 (.ofNat N), .sl b 0 (N * N) (N * N) true]) b N (qdf N ms (((ts.take i).map fun s => (s, l[x].1.to)).map (tE X n l[x].1.neg))) → Fm (· = b) Hb H →
   Ok (qgp (C j) q (.ptr cb 0) (.ptr gb 0) (.int .i64 (.ofNat n)) nv (.int .i64 (.ofNat x)) tv k (.int .i64 (.ofNat i)) H) Q
 | 0, i, _, _, h, _, _ => by omega
 | k + 1, i, H, hi, hk, hM, hf => by
  show Ok (qqk (C j) _ _ _ _ _ _ _ (qgp (C j) _ _ _ _ _ _ _ k) _ H) Q
  unfold qqk
  have h1 := hR H hf
  have ht := hT H hf
  have hl := ht.len
  have hnx := hf.nx
  have hm := qsf hM.ok.hn
  by_cases hlt : i < ts.length
  ·simp (disch := first | omega | exact ti rfl | (simp only [np, nq]; first | done | omega)) only [go_sem, reduceAdd, reduceMul, reduceSub, reduceLeDiff, reduceEqDiff, reduceShiftRight, reduceAnd, hl, hlt]
   unfold qqi
   obtain ⟨b1, o1, e1, e2, e3⟩ := ht.at1 (g := SS.v) (fun _ => rfl) hlt
   unfold SS.v at e3
   obtain ⟨b2, o2, g1, g2, _, _, g4⟩ := h1.x8.at' x hx
   have r2 : qap (H.get b2) (o2 + 2) = .val (.str l[x].1.to.n l[x].1.to.a) := g4 2 (by rw [qcm]; omega)
   have r4 : qap (H.get b2) (o2 + 4) = .val (.bool l[x].1.neg) := g4 4 (by rw [qcm]; omega)
   have x1 := h1.x1
   have x4 := h1.x4
   have hpm := hin ts[i] (List.getElem_mem hlt)
   simp (disch := first | omega | exact ti rfl | (simp only [np, nq]; first | done | omega)) only [go_sem, reduceAdd, reduceMul, reduceSub, reduceLeDiff, reduceEqDiff, reduceShiftRight, reduceAnd, x1, x4, e1, e3, g1, r2, r4]
   refine Ok.deO (qne hC (k := j) hj h1.sch hS hpm) ?_
   rintro _ H2 ⟨rfl, f2⟩
   have x42 := (f2.keep (by omega)).trans x4
   have r42 : qap (H2.get b2) (o2 + 4) = .val (.bool l[x].1.neg) := by rw [f2.keep g2]; exact r4
   simp (disch := first | omega | exact ti rfl | (simp only [np, nq]; first | done | omega)) only [go_sem, reduceAdd, reduceMul, reduceSub, reduceLeDiff, reduceEqDiff, reduceShiftRight, reduceAnd, x42, r42]
   refine Ok.deO (qye hC (k := j) (by omega) (hM.fm f2) hn (by rw [hN]; exact qmk hpm) l[x].1.neg) ?_
   rintro _ H3 ⟨hM3, f3⟩
   simp (disch := first | omega | exact ti rfl | (simp only [np, nq]; first | done | omega)) only [go_sem, reduceAdd, reduceMul, reduceSub, reduceLeDiff, reduceEqDiff, reduceShiftRight, reduceAnd]
   unfold qqj
   simp (disch := first | omega | exact ti rfl | (simp only [np, nq]; first | done | omega)) only [go_sem, reduceAdd, reduceMul, reduceSub, reduceLeDiff, reduceEqDiff, reduceShiftRight, reduceAnd]
   refine qs5 hC hj hS hR hN hn hx hcb hT hty hin hq k (i + 1) H3 (by omega) (by omega) ?_ ((hf.then f2 fun _ _ h => absurd h id).then f3 fun _ _ h => h)
   rw [List.take_succ_eq_append_getElem hlt, List.map_append, List.map_append, qgc, List.map_singleton, List.map_singleton, qq8]
   exact hM3
  ·simp (disch := first | omega | exact ti rfl | (simp only [np, nq]; first | done | omega)) only [go_sem, reduceAdd, reduceMul, reduceSub, reduceLeDiff, reduceEqDiff, reduceShiftRight, reduceAnd, hl, hlt]
   have he : i = ts.length := by omega
   rw [he, List.take_length] at hM
   exact hq H hM hf
end Go.Di
end
section
namespace Go.Di
open Go.Ev
variable {C : Nat → Ev.Call}
def ndT (X : List SpG) (a : SS) (g : RelG) (x : Nd) : List (SS × SS) :=
 if x.k = 1 then tyT g.r.types else if x.k = 2 then [(a, x.rl)] else if x.k = 3 then (qel X a x.rl x.to).map fun s => (s, x.to) else []
def ndE (X : List SpG) (n : Nat) (a : SS) (g : RelG) (x : Nd) : List T3 := (ndT X a g x).map (tE X n x.neg)
theorem qlv {X : List SpG} (hS : Sml X) (a b to : SS) : (qel X a b to).length ≤ 100 := by
 unfold qel
 cases h : qdt X a b with
 | none => simp
 | some g =>
  refine Nat.le_trans (qqv X to _) ?_
  unfold qdt at h
  cases h2 : X.find? fun g => decide (g.name = a) with
  | none => rw [h2] at h; cases h
  | some p =>
   rw [h2] at h
   exact hS.t p (List.mem_of_find?_eq_some h2) g (List.mem_of_find?_eq_some h)
theorem qs7 (hC : qav C) {j : Nat} (hj : 4 ≤ j) {X : List SpG} (hS : Sml X) {sv av nv : AV} {cb gb b rb N : Nat} {g : RelG} {l : List (Nd × AV)} {Hb : Hp} (hR : ∀ H, Fm (· = b) Hb H → OfR X sv cb gb b rb av nv N g l H)
  (hN : N = (allG X).length) {n : Nat} (hn : n < (allG X).length) (hcb : cb < Hb.nx ∧ gb < Hb.nx ∧ rb < Hb.nx) (hb : b < Hb.nx) (hty : g.r.types.length ≤ 100) (hll : l.length ≤ 100000) (hin : ∀ y ∈ l, ∀ p ∈ ndT X (allG X)[n].1 g y.1, p ∈ allG X) {Q : AV → Hp → Prop} {q : Hp → R1} {ms : List Nat}
  (hq : ∀ H, IsM H (.agg [.int .i64 (.ofNat N), .sl b 0 (N * N) (N * N) true]) b N (qdf N ms (l.flatMap fun y => ndE X n (allG X)[n].1 g y.1)) → Fm (· = b) Hb H → Ok (q H) Q) :
  ∀ (k i : Nat) (H : Hp), i ≤ l.length → l.length - i < k → IsM H (.agg [.int .i64 (.ofNat N), .sl b 0 (N * N) (N * N) true]) b N (qdf N ms ((l.take i).flatMap fun y => ndE X n (allG X)[n].1 g y.1)) → Fm (· = b) Hb H →
   Ok (qcj (C j) q (.ptr cb 0) av (.ptr gb 0) (.int .i64 (.ofNat n)) (.ptr rb 0) nv k (.int .i64 (.ofNat i)) H) Q
 | 0, i, _, _, h, _, _ => by omega
 | k + 1, i, H, hi, hk, hM, hf => by
  show Ok (qw4 (C j) _ _ _ _ _ _ _ (qcj (C j) _ _ _ _ _ _ _ k) _ H) Q
  unfold qw4
  have h1 := hR H hf
  have hl := h1.x8.len
  have hnx := hf.nx
  have hm := qsf hM.ok.hn
  by_cases hlt : i < l.length
  ·simp (disch := first | omega | exact ti rfl | (simp only [np, nq]; first | done | omega)) only [go_sem, reduceAdd, reduceMul, reduceSub, reduceLeDiff, reduceEqDiff, reduceShiftRight, reduceAnd, hl, hlt]
   unfold qqh
   obtain ⟨b2, o2, g1, g2, _, _, g4⟩ := h1.x8.at' i hlt
   have r0 : qap (H.get b2) o2 = .val (.int .u8 (.ofNat l[i].1.k)) := g4 0 (by rw [qcm]; omega)
   have r1 : qap (H.get b2) (o2 + 1) = .val (.str l[i].1.rl.n l[i].1.rl.a) := g4 1 (by rw [qcm]; omega)
   have r2 : qap (H.get b2) (o2 + 2) = .val (.str l[i].1.to.n l[i].1.to.a) := g4 2 (by rw [qcm]; omega)
   have r4 : qap (H.get b2) (o2 + 4) = .val (.bool l[i].1.neg) := g4 4 (by rw [qcm]; omega)
   obtain ⟨b3, o3, k1, k2, _, _, k4⟩ := h1.x3.at' n hn
   have s0 : qap (H.get b3) o3 = .val (.str (allG X)[n].1.n (allG X)[n].1.a) := k4 0 (by rw [qmf]; omega)
   have x1 := h1.x1
   have x4 := h1.x4
   have hlm := List.getElem_mem hlt
   have hini := hin _ hlm
   have next : ∀ H, IsM H (.agg [.int .i64 (.ofNat N), .sl b 0 (N * N) (N * N) true]) b N (qdf N (qdf N ms ((l.take i).flatMap fun y => ndE X n (allG X)[n].1 g y.1)) (ndE X n (allG X)[n].1 g l[i].1)) → Fm (· = b) Hb H →
     Ok (qck (C j) (qcj (C j) q (.ptr cb 0) av (.ptr gb 0) (.int .i64 (.ofNat n)) (.ptr rb 0) nv k) (.int .i64 (.ofNat i)) H) Q := fun H hM hf => by
    unfold qck
    simp (disch := first | omega | exact ti rfl | (simp only [np, nq]; first | done | omega)) only [go_sem, reduceAdd, reduceMul, reduceSub, reduceLeDiff, reduceEqDiff, reduceShiftRight, reduceAnd]
    refine qs7 hC hj hS hR hN hn hcb hb hty hll hin hq k (i + 1) H (by omega) (by omega) ?_ hf
    rw [List.take_succ_eq_append_getElem hlt, List.flatMap_append, qgc, List.flatMap_singleton]
    exact hM
   unfold ndE ndT at next
   unfold ndT at hini
   by_cases q1 : l[i].1.k = 1
   ·have q1t := eq_true q1
    rw [if_pos q1] at next hini
    simp (disch := first | omega | exact ti rfl | (simp only [np, nq]; first | done | omega)) only [go_sem, reduceAdd, reduceMul, reduceSub, reduceLeDiff, reduceEqDiff, reduceShiftRight, reduceAnd, g1, r0, q1t]
    unfold qw6
    rw [qan]
    refine qmj hC (by omega) hS (Hb := H) (fun H' f' => hR H' (hf.then f' fun _ _ h => h)) hN (by omega) hlt ⟨by omega, by omega, by omega⟩ (by omega) hini (fun H' hM' f' => next H' hM' (hf.then f' fun _ _ h => h)) qak 0 H (Nat.zero_le _) (by rw [qaf]; omega) hM (Fm.refl _ _)
   ·rw [if_neg q1] at next hini
    by_cases q2 : l[i].1.k = 2
    ·have q2t := eq_true q2
     rw [if_pos q2] at next hini
     have hpm := hini _ List.mem_cons_self
     simp (disch := first | omega | exact ti rfl | (simp only [np, nq]; first | done | omega)) only [go_sem, reduceAdd, reduceMul, reduceSub, reduceLeDiff, reduceEqDiff, reduceShiftRight, reduceAnd, g1, r0, q1, q2t, x1, x4, k1, s0, r1, r4]
     refine Ok.deO (qne hC (k := j) (by omega) h1.sch hS hpm) ?_
     rintro _ H2 ⟨rfl, f2⟩
     have x42 := (f2.keep (by omega)).trans x4
     have r42 : qap (H2.get b2) (o2 + 4) = .val (.bool l[i].1.neg) := by rw [f2.keep g2]; exact r4
     simp (disch := first | omega | exact ti rfl | (simp only [np, nq]; first | done | omega)) only [go_sem, reduceAdd, reduceMul, reduceSub, reduceLeDiff, reduceEqDiff, reduceShiftRight, reduceAnd, x42, r42]
     refine Ok.deO (qye hC (k := j) (by omega) (hM.fm f2) (by omega) (by rw [hN]; exact qmk hpm) l[i].1.neg) ?_
     rintro _ H3 ⟨hM3, f3⟩
     simp (disch := first | omega | exact ti rfl | (simp only [np, nq]; first | done | omega)) only [go_sem, reduceAdd, reduceMul, reduceSub, reduceLeDiff, reduceEqDiff, reduceShiftRight, reduceAnd]
     refine next H3 ?_ ((hf.then f2 fun _ _ h => absurd h id).then f3 fun _ _ h => h)
     rw [List.map_singleton, qq8]
     exact hM3
    ·rw [if_neg q2] at next hini
     by_cases q3 : l[i].1.k = 3
     ·have q3t := eq_true q3
      rw [if_pos q3] at next hini
      simp (disch := first | omega | exact ti rfl | (simp only [np, nq]; first | done | omega)) only [go_sem, reduceAdd, reduceMul, reduceSub, reduceLeDiff, reduceEqDiff, reduceShiftRight, reduceAnd, g1, r0, q1, q2, q3t, x1, k1, s0, r1, r2]
      refine Ok.deO (q4c hC (k := j) (by omega) h1.sch hS (allG X)[n].1 l[i].1.rl l[i].1.to) ?_
      intro tv H2 ht
      simp (disch := first | omega | exact ti rfl | (simp only [np, nq]; first | done | omega)) only [go_sem, reduceAdd, reduceMul, reduceSub, reduceLeDiff, reduceEqDiff, reduceShiftRight, reduceAnd]
      unfold qql
      rw [qan]
      have f2 := ht.fm
      have hf2 : Fm (· = b) Hb H2 := hf.then f2 fun _ _ h => absurd h id
      have n2 := f2.nx
      have htl := qlv hS (allG X)[n].1 l[i].1.rl l[i].1.to
      refine qs5 hC (by omega) hS (Hb := H2) (fun H' f' => hR H' (hf2.then f' fun _ _ h => h)) hN (by omega) hlt ⟨by omega, by omega, by omega⟩ (fun H' f' => (ht.rs q7a).fmS f' fun c hc h => by have := ht.nw c hc; omega) (by omega) (fun s hs => hini _ (List.mem_map_of_mem hs)) (fun H' hM' f' => next H' hM' (hf2.then f' fun _ _ h => h)) qak 0 H2 (Nat.zero_le _) (by rw [qaf]; omega) (hM.fm f2) (Fm.refl _ _)
     ·rw [if_neg q3] at next
      simp (disch := first | omega | exact ti rfl | (simp only [np, nq]; first | done | omega)) only [go_sem, reduceAdd, reduceMul, reduceSub, reduceLeDiff, reduceEqDiff, reduceShiftRight, reduceAnd, g1, r0, q1, q2, q3]
      exact next H hM hf
  ·simp (disch := first | omega | exact ti rfl | (simp only [np, nq]; first | done | omega)) only [go_sem, reduceAdd, reduceMul, reduceSub, reduceLeDiff, reduceEqDiff, reduceShiftRight, reduceAnd, hl, hlt]
   have he : i = l.length := by omega
   rw [he, List.take_length] at hM
   exact hq H hM hf
end Go.Di
end
section
namespace Go.Di
open Go.Ev
variable {C : Nat → Ev.Call}
theorem qin {X : List SpG} {a b : SS} {g : RelG} (h : qdt X a b = some g) : ∃ p ∈ X, g ∈ p.gs ∧ p.name = a ∧ g.r.name = b := by
 unfold qdt at h
 cases h2 : X.find? fun g => decide (g.name = a) with
 | none => rw [h2] at h; cases h
 | some p =>
  rw [h2] at h
  exact ⟨p, List.mem_of_find?_eq_some h2, List.mem_of_find?_eq_some h, by simpa using List.find?_some h2, by simpa using List.find?_some h⟩
structure OfW (X : List SpG) : Prop where
 sm : Sml X
 n : (allG X).length ≤ 256
 at' : ∀ i (h : i < (allG X).length), ∃ g, qdt X (allG X)[i].1 (allG X)[i].2 = some g ∧ g.r.rule.depth ≤ 12 ∧ g.r.rule.size ≤ 10000 ∧ ∀ x ∈ g.r.rule.nodes false, ∀ p ∈ ndT X (allG X)[i].1 g x, p ∈ allG X
def tsN (X : List SpG) (n : Nat) : List T3 := match (allG X)[n]? with
 | none => []
 | some p => match qdt X p.1 p.2 with
  | none => []
  | some g => (g.r.rule.nodes false).flatMap (ndE X n p.1 g)
def tsG (X : List SpG) (m : Nat) : List T3 := (List.range m).flatMap (tsN X)
theorem qs6 (hC : qav C) {j : Nat} (hj : 14 ≤ j) {X : List SpG} (hW : OfW X) {sv av : AV} {cb gb b N : Nat} {Hb : Hp}
  (hR : ∀ H, Fm (· = b) Hb H → SchR H sv X ∧ H.get cb = qaa 0 [sv] ∧ Rs 2 pC H av (allG X) ∧ H.get gb = qaa 0 [.int .i64 (.ofNat N), .sl b 0 (N * N) (N * N) true])
  (hN : N = (allG X).length) (hcb : cb < Hb.nx ∧ gb < Hb.nx) (hb : b < Hb.nx) {Q : AV → Hp → Prop} {q : Hp → R1} {ms : List Nat}
  (hq : ∀ H, IsM H (.agg [.int .i64 (.ofNat N), .sl b 0 (N * N) (N * N) true]) b N (qdf N ms (tsG X N)) → Fm (· = b) Hb H → Ok (q H) Q) :
  ∀ (k i : Nat) (H : Hp), i ≤ N → N - i < k → IsM H (.agg [.int .i64 (.ofNat N), .sl b 0 (N * N) (N * N) true]) b N (qdf N ms (tsG X i)) → Fm (· = b) Hb H →
   Ok (qb1 (C j) q (.ptr cb 0) av (.ptr gb 0) k (.int .i64 (.ofNat i)) H) Q
 | 0, i, _, _, h, _, _ => by omega
 | k + 1, i, H, hi, hk, hM, hf => by
  show Ok (qw5 (C j) _ _ _ _ (qb1 (C j) _ _ _ _ k) _ H) Q
  unfold qw5
  obtain ⟨hX, x1, x3, x4⟩ := hR H hf
  have hl := x3.len
  have hnx := hf.nx
  have hm := qsf hM.ok.hn
  have hn256 := hW.n
  have hsn := hW.sm.n
  by_cases hlt : i < (allG X).length
  ·simp (disch := first | omega | exact ti rfl | (simp only [np, nq]; first | done | omega)) only [go_sem, reduceAdd, reduceMul, reduceSub, reduceLeDiff, reduceEqDiff, reduceShiftRight, reduceAnd, hl, hlt]
   unfold qqg
   obtain ⟨b3, o3, k1, k2, _, _, k4⟩ := x3.at' i hlt
   have s0 : qap (H.get b3) o3 = .val (.str (allG X)[i].1.n (allG X)[i].1.a) := k4 0 (by rw [qmf]; omega)
   have s1 : qap (H.get b3) (o3 + 1) = .val (.str (allG X)[i].2.n (allG X)[i].2.a) := k4 1 (by rw [qmf]; omega)
   simp (disch := first | omega | exact ti rfl | (simp only [np, nq]; first | done | omega)) only [go_sem, reduceAdd, reduceMul, reduceSub, reduceLeDiff, reduceEqDiff, reduceShiftRight, reduceAnd, x1, k1, s0, s1]
   have fU : Fm No H ⟨H.t, H.nx + 18⟩ := by (repeat (first | exact Fm.refl _ _ | assumption | refine Fm.push ?_ _ | refine Fm.up2 ?_ (by (first | omega | (simp only [np, nq]; omega))) | refine Fm.put_new ?_ _ _ (by (first | omega | (simp only [np, nq]; omega)))))
   refine Ok.deO (qy2 hC (k := j) (by omega) (hX.fm fU) (by omega) (fun g hg => by have := hW.sm.r g hg; omega) (allG X)[i].1 (allG X)[i].2) ?_
   rintro r H2 ⟨f2, hfr⟩
   obtain ⟨g, hg, hgd, hgs, hgi⟩ := hW.at' i hlt
   unfold zae at hfr
   rw [hg] at hfr
   subst hfr
   have f02 := fU.trans f2
   have n2 : H.nx + 18 ≤ H2.nx := f2.nx
   obtain ⟨p, hp, hgp, _, _⟩ := qin hg
   have hru0 := (((hX.sp p hp).rel g hgp).ru)
   obtain ⟨c0, c1, c2, c3, hcs⟩ := hru0.four
   have hrc : relC g = [.str g.r.name.n g.r.name.a, g.tv, c0, c1, c2, c3] := by unfold relC; rw [hcs]; rfl
   rw [hrc]
   simp (disch := first | omega | exact ti rfl | (simp only [np, nq]; first | done | omega)) only [go_sem, reduceAdd, reduceMul, reduceSub, reduceLeDiff, reduceEqDiff, reduceShiftRight, reduceAnd]
   have f3 : Fm No H (H2.put (H.nx + 15) (qaa 0 [.str g.r.name.n g.r.name.a, g.tv, c0, c1, c2, c3])) := f02.put_new (H.nx + 15) _ (by omega)
   have f3' : Fm No H ((H2.put (H.nx + 15) (qaa 0 [.str 0 0, .nilsl, .int .u8 (.ofNat 0), .str 0 0, .str 0 0, .nilsl])).put (H.nx + 15) (qaa 0 [.str g.r.name.n g.r.name.a, g.tv, c0, c1, c2, c3])) := (f02.put_new (H.nx + 15) _ (by omega)).put_new (H.nx + 15) _ (by omega)
   have nn : ∀ x, ¬ In AV.nilsl x := fun x h => by obtain ⟨_, _, _, _, h⟩ := h; cases h
   refine Ok.ve (q0i hC g.r.rule j (by omega) .nilsl false _ (l := []) (P := fun _ => True) (cs := [c0, c1, c2, c3]) (Gl.nil 5 _) ?_ (fun b _ => nn b) (by simp; omega)) ?_
   ·rw [hcs] at hru0; exact hru0.fm f3'
   rintro w H4 ⟨l, hw, hlr⟩
   have f4 : Fm No ((H2.put (H.nx + 15) (qaa 0 [.str 0 0, .nilsl, .int .u8 (.ofNat 0), .str 0 0, .str 0 0, .nilsl])).put (H.nx + 15) (qaa 0 [.str g.r.name.n g.r.name.a, g.tv, c0, c1, c2, c3])) H4 := hw.fm.mono fun c _ h => absurd h (nn c)
   have n4 : H2.nx ≤ H4.nx := f4.nx
   have f04 := f3'.trans f4
   have hf4 : Fm (· = b) Hb H4 := hf.then f04 fun _ _ h => absurd h id
   have hlr' : l.map Prod.fst = g.r.rule.nodes false := by simpa using hlr
   have hln : l.length = g.r.rule.size := by
    have := congrArg List.length hlr'
    simpa [qbx] using this
   have x6 : H4.get (H.nx + 15) = qaa 0 (relC g) := by
    rw [hrc]
    exact (f4.keep (show H.nx + 15 < H2.nx by omega)).trans (qam _ _ _)
   have hwn : ∀ c, In w c → H2.nx ≤ c := fun c hc => by
    rcases hw.nw c hc with h | h
    ·exact absurd h (nn c)
    ·exact h
   unfold qw7
   rw [qan]
   have hMlt := hM.lt
   refine qs7 hC (by omega) hW.sm (sv := sv) (Hb := H4) (X := X) (g := g) (l := l) (rb := H.nx + 15) (N := N) (fun H' f' => ?_) hN hlt ⟨by omega, by omega, by omega⟩ (by omega) ?_ (by omega) ?_ (fun H' hM' f' => ?_) qak 0 H4 (Nat.zero_le _) (by rw [qaf]; omega) (hM.fm f04) (Fm.refl _ _)
   ·obtain ⟨y1, y2, y3, y4⟩ := hR H' (hf4.then f' fun _ _ h => h)
    have hrr := (y1.sp p hp).rel g hgp
    exact ⟨y1, y2, y3, y4, (f'.get _ (by omega) (by omega)).trans x6, hrr.ty, hrr.tf, (hw.gl.rs qcm).fmS f' fun c hc h => by have := hwn c hc; omega⟩
   ·have := hW.sm.t p hp g hgp; omega
   ·intro y hy p hp
    refine hgi y.1 ?_ p hp
    rw [← hlr']
    exact List.mem_map_of_mem hy
   ·unfold qcl
    simp (disch := first | omega | exact ti rfl | (simp only [np, nq]; first | done | omega)) only [go_sem, reduceAdd, reduceMul, reduceSub, reduceLeDiff, reduceEqDiff, reduceShiftRight, reduceAnd]
    refine qs6 hC hj hW hR hN hcb hb hq k (i + 1) H' (by omega) (by omega) ?_ (hf4.then f' fun _ _ h => h)
    have hts : tsN X i = l.flatMap fun y => ndE X i (allG X)[i].1 g y.1 := by
     unfold tsN
     rw [List.getElem?_eq_getElem hlt]
     simp only
     rw [hg]
     simp only
     rw [← hlr', List.flatMap_map]
    unfold tsG at hM' ⊢
    rw [List.range_succ, List.flatMap_append, qgc, List.flatMap_singleton, hts]
    exact hM'
  ·simp (disch := first | omega | exact ti rfl | (simp only [np, nq]; first | done | omega)) only [go_sem, reduceAdd, reduceMul, reduceSub, reduceLeDiff, reduceEqDiff, reduceShiftRight, reduceAnd, hl, hlt]
   have he : i = N := by omega
   rw [he] at hM
   exact hq H hM hf
theorem zc1 (hC : qav C) {k : Nat} (hk : 15 ≤ k) {H : Hp} {sv : AV} {X : List SpG} (hX : SchR H sv X) (hW : OfW X) :
  Ok (C k (.f q1f) [.agg [sv]] H) fun r H' => ∃ b, IsM H' r b (allG X).length (qdf (allG X).length (List.replicate ((allG X).length * (allG X).length) 0) (tsG X (allG X).length)) ∧ H.nx ≤ b ∧ Fm No H H' := by
 obtain ⟨j, rfl⟩ : ∃ j, k = j + 1 := ⟨k - 1, by omega⟩
 rw [(hC j).zAc]
 unfold zAc zhd
 simp (disch := first | omega | exact ti rfl | (simp only [np, nq]; first | done | omega)) only [go_sem, reduceAdd, reduceMul, reduceSub, reduceLeDiff, reduceEqDiff, reduceShiftRight, reduceAnd]
 have f : Fm No H (qal (qal H (qaa 0 [sv])) (qaa 0 [.int .i64 (.ofNat 0), .nilsl])) := by (repeat (first | exact Fm.refl _ _ | assumption | refine Fm.push ?_ _ | refine Fm.up2 ?_ (by (first | omega | (simp only [np, nq]; omega))) | refine Fm.put_new ?_ _ _ (by (first | omega | (simp only [np, nq]; omega)))))
 have hn256 := hW.n
 refine Ok.ve (zfo hC (k := j) (by omega) (hX.fm f) hW.sm) ?_
 intro av H1 ha
 have f1 := ha.fm
 have n1 := f1.nx
 simp only [np] at n1
 have hl := ha.lenV
 simp (disch := first | omega | exact ti rfl | (simp only [np, nq]; first | done | omega)) only [go_sem, reduceAdd, reduceMul, reduceSub, reduceLeDiff, reduceEqDiff, reduceShiftRight, reduceAnd, hl]
 refine Ok.ve (zmt hC (k := j) (by omega) hn256) ?_
 rintro r H2 ⟨hM, f2⟩
 obtain ⟨hr, hbl, hget, hok⟩ := hM
 subst hr
 have n2 := f2.nx
 have hm := qsf hok.hn
 simp (disch := first | omega | exact ti rfl | (simp only [np, nq]; first | done | omega)) only [go_sem, reduceAdd, reduceMul, reduceSub, reduceLeDiff, reduceEqDiff, reduceShiftRight, reduceAnd]
 generalize hH4 : (qal H2 (qaa 0 [.int .i64 (.ofNat 0), .nilsl])).put H2.nx (qaa 0 [.int .i64 (.ofNat (allG X).length), .sl (H1.nx + 1) 0 ((allG X).length * (allG X).length) ((allG X).length * (allG X).length) true]) = H4
 have f4 : Fm No H2 H4 := by rw [← hH4]; (repeat (first | exact Fm.refl _ _ | assumption | refine Fm.push ?_ _ | refine Fm.up2 ?_ (by (first | omega | (simp only [np, nq]; omega))) | refine Fm.put_new ?_ _ _ (by (first | omega | (simp only [np, nq]; omega)))))
 have n4 : H4.nx = H2.nx + 1 := by rw [← hH4]; rfl
 have k0 : H4.get H.nx = qaa 0 [sv] := ((f1.trans (f2.trans f4)).keep (by (first | omega | (simp only [np, nq]; omega)))).trans (by simp (disch := first | omega | exact ti rfl | (simp only [np, nq]; first | done | omega)) only [go_sem, reduceAdd, reduceMul, reduceSub, reduceLeDiff, reduceEqDiff, reduceShiftRight, reduceAnd])
 have k1 : H4.get (H.nx + 1) = qaa 0 [.int .i64 (.ofNat 0), .nilsl] := ((f1.trans (f2.trans f4)).keep (by (first | omega | (simp only [np, nq]; omega)))).trans (by simp (disch := first | omega | exact ti rfl | (simp only [np, nq]; first | done | omega)) only [go_sem, reduceAdd, reduceMul, reduceSub, reduceLeDiff, reduceEqDiff, reduceShiftRight, reduceAnd])
 have k4 : H4.get H2.nx = qaa 0 [.int .i64 (.ofNat (allG X).length), .sl (H1.nx + 1) 0 ((allG X).length * (allG X).length) ((allG X).length * (allG X).length) true] := by rw [← hH4]; exact qam _ _ _
 have fA := ((f.trans f1).trans f2).trans f4
 unfold qw8
 rw [qan]
 refine qs6 hC (by omega) hW (sv := sv) (Hb := H4) (b := H1.nx + 1) (N := (allG X).length) (fun H' f' => ⟨hX.fm (fA.then f' fun c hc h => by omega), (f'.get _ (by omega) (by omega)).trans k0, ?_, (f'.get _ (by omega) (by omega)).trans k4⟩) rfl ⟨by omega, by omega⟩ (by omega) (fun H' hM' f' => ?_) qak 0 H4 (Nat.zero_le _) (by rw [qaf]; omega) ⟨rfl, by omega, (f4.keep hbl).trans hget, hok⟩ (Fm.refl _ _)
 ·refine (((ha.rs qmf).fm f2).fm f4).fmS f' fun c hc h => ?_
  have := ha.gl.lt hc
  omega
 ·unfold qbu
  have k1' := (f'.get (H.nx + 1) (by omega) (by omega)).trans k1
  have k4' := (f'.get H2.nx (by omega) (by omega)).trans k4
  simp (disch := first | omega | exact ti rfl | (simp only [np, nq]; first | done | omega)) only [go_sem, reduceAdd, reduceMul, reduceSub, reduceLeDiff, reduceEqDiff, reduceShiftRight, reduceAnd, k1', k4']
  have n5 := f'.nx
  refine Ok.ret ⟨H1.nx + 1, ⟨rfl, by (first | omega | (simp only [np, nq]; omega)), ?_, hM'.ok⟩, by omega, (fA.then f' fun c hc h => by omega).put_new _ _ (by omega)⟩
  rw [qat _ _ _ _ (by omega)]
  exact hM'.get
end Go.Di
end
section
namespace Go.Di
open Go.Ev
variable {C : Nat → Ev.Call}
def nmL : List SS := [sU, spOf 0, spOf 1, spOf 2, qa8 0, qa8 1, qa8 2, qa8 3]
def Nm (s : SS) : Prop := s ∈ nmL
theorem Nm.ne {s : SS} (h : Nm s) : ¬ (s.n = 0 ∧ s.a = 0) := by
 have : ∀ s ∈ nmL, ¬ (s.n = 0 ∧ s.a = 0) := by decide
 exact this s h
structure LnkN (c : Ev.Call) : Prop where
 r : ∀ s, Nm s → ∀ H, c (.f q8s) [s.v] H = .ok (.bool true) H
 p : ∀ s, Nm s → ∀ H, c (.f qtl) [s.v] H = .ok (.bool true) H
abbrev qbs (C : Nat → Ev.Call) : Prop := ∀ k, LnkN (C (k + 1))
def Ru.Fit : Ru → Prop
 | .leaf k rl to => (k = 1 ∧ rl = sE ∧ to = sE) ∨ (k = 2 ∧ Nm rl ∧ to = sE) ∨ (k = 3 ∧ Nm rl ∧ Nm to)
 | .node k a b => (k = 4 ∨ k = 5 ∨ k = 6) ∧ a.Fit ∧ b.Fit
theorem qkr (a b c d : Bool) : qdy true (qcd (fun xs ys => qcn p1 ⟨qet⟩ 1 xs ys 2 0) (.agg [.bool a, .bool b]) (.agg [.bool c, .bool d])) = .val (.bool (!(a == c && b == d))) := by
 cases a <;> cases b <;> cases c <;> cases d <;> rfl
structure At4 (H : Hp) (b o : Nat) (cs : List AV) : Prop where
 lt : b < H.nx
 at' : ∀ j (h : j < cs.length), qap (H.get b) (o + j) = .val cs[j]
theorem At4.keep {H H' : Hp} {b o : Nat} {cs : List AV} (h : At4 H b o cs) (hn : H.nx ≤ H'.nx) (e : H'.get b = H.get b) : At4 H' b o cs := ⟨Nat.lt_of_lt_of_le h.lt hn, fun j hj => by rw [e]; exact h.at' j hj⟩
theorem At4.fm {H H' : Hp} {b o : Nat} {cs : List AV} (h : At4 H b o cs) (f : Fm No H H') : At4 H' b o cs := h.keep f.nx (f.keep h.lt)
theorem zeu (hC : qav C) (hN : qbs C) {k : Nat} (hk : 2 ≤ k) {H : Hp} {b o : Nat} {r : Ru} {cs : List AV} {P : Nat → Prop} (h4 : At4 H b o cs) (hr : RuC P H r cs) (hf : r.Fit) :
  Ok (C k (.f q0r) [.ptr b o] H) fun v H' => v = .int .i64 (.ofNat 0) ∧ Fm No H H' := by
 obtain ⟨j, rfl⟩ : ∃ j, k = j + 1 + 1 := ⟨k - 2, by omega⟩
 rw [(hC (j + 1)).zCj]
 unfold zCj zfy
 have hlt := h4.lt
 cases r with
 | leaf kd rl to =>
  obtain rfl : cs = lfC kd rl to := hr
  have r0 : qap (H.get b) o = .val (.int .u8 (.ofNat kd)) := h4.at' 0 (by simp [lfC])
  have r1 : qap (H.get b) (o + 1) = .val (.str rl.n rl.a) := h4.at' 1 (by simp [lfC])
  have r2 : qap (H.get b) (o + 2) = .val (.str to.n to.a) := h4.at' 2 (by simp [lfC])
  have r3 : qap (H.get b) (o + 3) = .val .nilsl := h4.at' 3 (by simp [lfC])
  have kp : ∀ i v, qap (H.get b) i = .val v → ∀ H', Fm No H H' → qap (H'.get b) i = .val v := fun i v h H' f => by rw [f.keep hlt]; exact h
  rcases hf with ⟨rfl, rfl, rfl⟩ | ⟨rfl, h1, rfl⟩ | ⟨rfl, h1, h2⟩
  ·unfold sE at r1 r2
   simp (disch := first | omega | exact ti rfl | (simp only [np, nq]; first | done | omega)) only [go_sem, reduceAdd, reduceMul, reduceSub, reduceLeDiff, reduceEqDiff, reduceShiftRight, reduceAnd, r0, r1, r2, r3, and_self]
   unfold qd8
   simp (disch := first | omega | exact ti rfl | (simp only [np, nq]; first | done | omega)) only [go_sem, reduceAdd, reduceMul, reduceSub, reduceLeDiff, reduceEqDiff, reduceShiftRight, reduceAnd, r0, qkr, and_self]
   unfold qhe qiw
   simp (disch := first | omega | exact ti rfl | (simp only [np, nq]; first | done | omega)) only [go_sem, reduceAdd, reduceMul, reduceSub, reduceLeDiff, reduceEqDiff, reduceShiftRight, reduceAnd]
   exact Ok.ret ⟨rfl, by (repeat (first | exact Fm.refl _ _ | assumption | refine Fm.push ?_ _ | refine Fm.up2 ?_ (by (first | omega | (simp only [np, nq]; omega))) | refine Fm.put_new ?_ _ _ (by (first | omega | (simp only [np, nq]; omega)))))⟩
  ·have n1 := h1.ne
   unfold sE at r2
   have e1 := (hN j).r rl h1
   unfold SS.v at e1
   simp (disch := first | omega | exact ti rfl | (simp only [np, nq]; first | done | omega)) only [go_sem, reduceAdd, reduceMul, reduceSub, reduceLeDiff, reduceEqDiff, reduceShiftRight, reduceAnd, r0, r1, r2, r3, n1, and_self]
   unfold qd8
   simp (disch := first | omega | exact ti rfl | (simp only [np, nq]; first | done | omega)) only [go_sem, reduceAdd, reduceMul, reduceSub, reduceLeDiff, reduceEqDiff, reduceShiftRight, reduceAnd, r0, r1, qkr, e1]
   unfold qhe qiw
   simp (disch := first | omega | exact ti rfl | (simp only [np, nq]; first | done | omega)) only [go_sem, reduceAdd, reduceMul, reduceSub, reduceLeDiff, reduceEqDiff, reduceShiftRight, reduceAnd]
   exact Ok.ret ⟨rfl, by (repeat (first | exact Fm.refl _ _ | assumption | refine Fm.push ?_ _ | refine Fm.up2 ?_ (by (first | omega | (simp only [np, nq]; omega))) | refine Fm.put_new ?_ _ _ (by (first | omega | (simp only [np, nq]; omega)))))⟩
  ·have n1 := h1.ne
   have n2 := h2.ne
   have e1 := (hN j).r rl h1
   have e2 := (hN j).r to h2
   unfold SS.v at e1 e2
   simp (disch := first | omega | exact ti rfl | (simp only [np, nq]; first | done | omega)) only [go_sem, reduceAdd, reduceMul, reduceSub, reduceLeDiff, reduceEqDiff, reduceShiftRight, reduceAnd, r0, r1, r2, r3, n1, n2]
   unfold qd8
   simp (disch := first | omega | exact ti rfl | (simp only [np, nq]; first | done | omega)) only [go_sem, reduceAdd, reduceMul, reduceSub, reduceLeDiff, reduceEqDiff, reduceShiftRight, reduceAnd, r0, r1, r2, qkr, e1, e2]
   unfold qhe qiw
   simp (disch := first | omega | exact ti rfl | (simp only [np, nq]; first | done | omega)) only [go_sem, reduceAdd, reduceMul, reduceSub, reduceLeDiff, reduceEqDiff, reduceShiftRight, reduceAnd]
   exact Ok.ret ⟨rfl, by (repeat (first | exact Fm.refl _ _ | assumption | refine Fm.push ?_ _ | refine Fm.up2 ?_ (by (first | omega | (simp only [np, nq]; omega))) | refine Fm.put_new ?_ _ _ (by (first | omega | (simp only [np, nq]; omega)))))⟩
 | node kd x y =>
  obtain ⟨bl, ca, cb, rfl, hbl, hPb, kb, hca, hcb⟩ := hr
  have r0 : qap (H.get b) o = .val (.int .u8 (.ofNat kd)) := h4.at' 0 (by simp)
  have r1 : qap (H.get b) (o + 1) = .val (.str 0 0) := h4.at' 1 (by simp)
  have r2 : qap (H.get b) (o + 2) = .val (.str 0 0) := h4.at' 2 (by simp)
  have r3 : qap (H.get b) (o + 3) = .val (.sl bl 0 2 2 true) := h4.at' 3 (by simp)
  rcases hf.1 with rfl | rfl | rfl <;> (
   simp (disch := first | omega | exact ti rfl | (simp only [np, nq]; first | done | omega)) only [go_sem, reduceAdd, reduceMul, reduceSub, reduceLeDiff, reduceEqDiff, reduceShiftRight, reduceAnd, r0, r1, r2, r3, and_self]
   unfold qpv
   simp (disch := first | omega | exact ti rfl | (simp only [np, nq]; first | done | omega)) only [go_sem, reduceAdd, reduceMul, reduceSub, reduceLeDiff, reduceEqDiff, reduceShiftRight, reduceAnd]
   unfold qd8
   simp (disch := first | omega | exact ti rfl | (simp only [np, nq]; first | done | omega)) only [go_sem, reduceAdd, reduceMul, reduceSub, reduceLeDiff, reduceEqDiff, reduceShiftRight, reduceAnd, r0, qkr, and_self]
   unfold qhe qiw
   simp (disch := first | omega | exact ti rfl | (simp only [np, nq]; first | done | omega)) only [go_sem, reduceAdd, reduceMul, reduceSub, reduceLeDiff, reduceEqDiff, reduceShiftRight, reduceAnd]
   exact Ok.ret ⟨rfl, by (repeat (first | exact Fm.refl _ _ | assumption | refine Fm.push ?_ _ | refine Fm.up2 ?_ (by (first | omega | (simp only [np, nq]; omega))) | refine Fm.put_new ?_ _ _ (by (first | omega | (simp only [np, nq]; omega)))))⟩)
end Go.Di
end
section
namespace Go.Di
open Go.Ev
variable {C : Nat → Ev.Call}
theorem q6s (H : Hp) (b o : Nat) (f : FuncId) (x y : List AV) : qbb H (.ptr b o) (.fn f x y) = storeAt H b o [.fn f x y] .undef := id rfl
theorem q9x (call : Ev.Call) (f : FuncId) (c args : List AV) (H : Hp) : qjt call (.fn f [] c) args H = call (.f f) (args ++ c) H := id rfl
theorem maxI (a b : Nat) : qer maxV (.int .i64 (.ofNat a)) [.int .i64 (.ofNat b)] = .val (.int .i64 (.ofNat (max a b))) := by
 show R0.val (.int .i64 (bif ltI (.ofNat a) (.ofNat b) then .ofNat b else .ofNat a)) = _
 rw [qd2]
 by_cases h : a < b
 ·rw [decide_eq_true (by simp only [Int.ofNat_eq_natCast]; omega), Nat.max_eq_right (by omega)]; rfl
 ·rw [decide_eq_false (by simp only [Int.ofNat_eq_natCast]; omega), Nat.max_eq_left (by omega)]; rfl
attribute [go_sem] q6s q9x maxI
structure WkI (H : Hp) (nb db fb vb : Nat) (l : List (Nd × AV)) (nv : AV) (d : Nat) : Prop where
 n : H.get nb = qaa 0 [nv]
 d : H.get db = qaa 0 [.int .i64 (.ofNat d)]
 f : H.get fb = qaa 0 [.int .i64 (.ofNat 0)]
 v : H.get vb = qaa 0 [.fn qka [] [.ptr nb 0, .ptr db 0, .ptr fb 0, .ptr vb 0]]
 o : nb < db ∧ db < fb ∧ fb < vb ∧ vb < H.nx
 gl : Gl 5 H nv l.length (l.flatMap ndC)
 nin : ∀ c, In nv c → vb < c
def WkS (nb db fb : Nat) (nv : AV) (c : Nat) : Prop := c = nb ∨ c = db ∨ c = fb ∨ In nv c
theorem WkI.no {H H' : Hp} {nb db fb vb : Nat} {l : List (Nd × AV)} {nv : AV} {d : Nat} (h : WkI H nb db fb vb l nv d) (f : Fm No H H') : WkI H' nb db fb vb l nv d := by
 obtain ⟨o1, o2, o3, o4⟩ := h.o
 exact ⟨(f.keep (by omega)).trans h.n, (f.keep (by omega)).trans h.d, (f.keep (by omega)).trans h.f, (f.keep (by omega)).trans h.v, ⟨o1, o2, o3, Nat.lt_of_lt_of_le o4 f.nx⟩, h.gl.no f, h.nin⟩
theorem qr9 (hC : qav C) {j : Nat} (hj : 1 ≤ j) {H : Hp} {nb db fb vb : Nat} {l : List (Nd × AV)} {nv : AV} {d : Nat} (hI : WkI H nb db fb vb l nv d) {i : Nat} (hi : i < l.length) {x : AV} {m : Nat} {xs : List AV} (hx : Gl 1 H x m xs) :
  Ok (qe0 (C j) (.ptr nb 0) (.int .i64 (.ofNat i)) x H) fun r H' => r = .bool true ∧ ∃ l', WkI H' nb db fb vb l' nv d ∧ l'.map Prod.fst = l.map Prod.fst ∧ Fm (In nv) H H' := by
 unfold qe0
 obtain ⟨w, e, hw, _, _⟩ := zj2 hC (k := j) hj hx
 have e0 := hI.n
 have ef := qca (Gl.flat hI.gl) 63
 obtain ⟨b, o, H', i1, i2, g, f, nx⟩ := hI.gl.set1 hi (j := 3) (by omega) w
 rw [q72 w l i hi] at g
 obtain ⟨o1, o2, o3, o4⟩ := hI.o
 have nn : ∀ c, c ≤ vb → ¬ In nv c := fun c hc h => by have := hI.nin c h; omega
 have fin : WkI H' nb db fb vb (l.set i (l[i].1, w)) nv d := ⟨(f.get _ (by omega) (nn _ (by omega))).trans hI.n, (f.get _ (by omega) (nn _ (by omega))).trans hI.d, (f.get _ (by omega) (nn _ (by omega))).trans hI.f, (f.get _ (by omega) (nn _ (by omega))).trans hI.v,
  ⟨o1, o2, o3, by omega⟩, by rw [List.length_set]; exact g, hI.nin⟩
 simp (disch := first | omega | exact ti rfl | (simp only [np, nq]; first | done | omega)) only [go_sem, reduceAdd, reduceMul, reduceSub, reduceLeDiff, reduceEqDiff, reduceShiftRight, reduceAnd, e0]
 refine Ok.deE e ?_
 rcases hw.is with ⟨h, _⟩ | ⟨_, _, _, _, _, h, _⟩
 ·subst h
  simp (disch := first | omega | exact ti rfl | (simp only [np, nq]; first | done | omega)) only [go_sem, reduceAdd, reduceMul, reduceSub, reduceLeDiff, reduceEqDiff, reduceShiftRight, reduceAnd, e0, ef, i1, i2]
  exact Ok.ret ⟨rfl, _, fin, qx7 hi _, f⟩
 ·subst h
  simp (disch := first | omega | exact ti rfl | (simp only [np, nq]; first | done | omega)) only [go_sem, reduceAdd, reduceMul, reduceSub, reduceLeDiff, reduceEqDiff, reduceShiftRight, reduceAnd, e0, ef, i1, i2]
  exact Ok.ret ⟨rfl, _, fin, qx7 hi _, f⟩
def q97 (C : Nat → Ev.Call) (r : Ru) (k : Nat) : Prop :=
 ∀ (b o lv : Nat) (neg : Bool) (H : Hp) (nb db fb vb : Nat) (l : List (Nd × AV)) (nv : AV) (d : Nat) (cs : List AV), WkI H nb db fb vb l nv d → At4 H b o cs → RuC (· < nb) H r cs → b < nb → lv + r.depth ≤ 9 → l.length + r.size ≤ 32 → d ≤ 8 →
  Ok (C k (.f qka) [.ptr b o, .int .i64 (.ofNat lv), .bool neg, .ptr nb 0, .ptr db 0, .ptr fb 0, .ptr vb 0] H) fun v H' => v = .bool true ∧ ∃ l' nv' d', WkI H' nb db fb vb l' nv' d' ∧
   l'.map Prod.fst = l.map Prod.fst ++ r.nodes neg ∧ d' ≤ 8 ∧ Fm (WkS nb db fb nv) H H' ∧ ∀ c, In nv' c → In nv c ∨ H.nx ≤ c
theorem qls (hC : qav C) (hN : qbs C) {j : Nat} (hj : 2 ≤ j) {b o lv : Nat} {neg : Bool} {H : Hp} {nb db fb vb : Nat} {l : List (Nd × AV)} {nv : AV} {d : Nat} {r : Ru} {kd : Nat} {rl to : SS} {av : AV} (hI : WkI H nb db fb vb l nv d)
  (h4 : At4 H b o [.int .u8 (.ofNat kd), .str rl.n rl.a, .str to.n to.a, av]) (hr : RuC (· < nb) H r [.int .u8 (.ofNat kd), .str rl.n rl.a, .str to.n to.a, av]) (hf : r.Fit) (hb : b < nb) (hlv : lv ≤ 8) (hll : l.length < 32) (hd : d ≤ 8) {Q : AV → Hp → Prop}
  (hg : ∀ H' w d', WkI H' nb db fb vb (l ++ [(⟨kd, rl, to, neg⟩, .nilsl)]) w d' → d' ≤ 8 → Fm (WkS nb db fb nv) H H' → (∀ c, In w c → H.nx ≤ c) →
   Ok (vq (lenSl av) H' fun a36 H => qk0 (C j) (fun x10 H => .ok x10 H) (fun x12 H => qe0 (C j) (.ptr nb 0) (.int .i64 (.ofNat l.length)) x12 H) (.ptr b o) (.int .i64 (.ofNat lv)) (.bool neg) (.ptr nb 0) (.ptr vb 0) a36 .nilsl (.int .i64 (.ofNat 0)) H) Q) :
  Ok (za0 (C j) (.ptr b o) (.int .i64 (.ofNat lv)) (.bool neg) (.ptr nb 0) (.ptr db 0) (.ptr fb 0) (.ptr vb 0) H) Q := by
 unfold za0
 obtain ⟨o1, o2, o3, o4⟩ := hI.o
 have e0 := hI.n
 have ed := hI.d
 have ef := hI.f
 have hl := hI.gl.lenV
 have h32 : ¬ l.length = 32 := by omega
 have h8 : ¬ 8 < lv := by omega
 have nn : ∀ c, c ≤ vb → ¬ In nv c := fun c hc h => by have := hI.nin c h; omega
 simp (disch := first | omega | exact ti rfl | (simp only [np, nq]; first | done | omega)) only [go_sem, reduceAdd, reduceMul, reduceSub, reduceLeDiff, reduceEqDiff, reduceShiftRight, reduceAnd, e0, hl, h32, h8]
 unfold quw
 simp (disch := first | omega | exact ti rfl | (simp only [np, nq]; first | done | omega)) only [go_sem, reduceAdd, reduceMul, reduceSub, reduceLeDiff, reduceEqDiff, reduceShiftRight, reduceAnd, ed, ef]
 have f1 : Fm (fun c => c = db) H (H.put db (qaa 0 [.int .i64 (.ofNat (max d lv))])) := (Fm.refl _ _).put _ _ fun _ => rfl
 refine Ok.ve (zeu hC hN (k := j) hj (h4.keep f1.nx (f1.get _ (by omega) (by omega))) (hr.fmS f1 fun c hc h => by omega) hf) ?_
 rintro _ H2 ⟨rfl, f2⟩
 have n2 : H.nx ≤ H2.nx := f2.nx
 have d2 : H2.get db = qaa 0 [.int .i64 (.ofNat (max d lv))] := (f2.keep (show db < H.nx by omega)).trans (qam _ _ _)
 have kp2 : ∀ c, c < H.nx → c ≠ db → H2.get c = H.get c := fun c h1 h2 => (f2.keep (show c < H.nx by omega)).trans (qat _ _ _ _ h2)
 have f22 := (kp2 fb (by omega) (by omega)).trans ef
 simp (disch := first | omega | exact ti rfl | (simp only [np, nq]; first | done | omega)) only [go_sem, reduceAdd, reduceMul, reduceSub, reduceLeDiff, reduceEqDiff, reduceShiftRight, reduceAnd, f22]
 unfold qpx
 have n22 := (kp2 nb (by omega) (by omega)).trans e0
 have v22 := (kp2 vb (by omega) (by omega)).trans hI.v
 have hb2 := kp2 b (by omega) (by omega)
 have r0 : qap (H2.get b) o = .val (.int .u8 (.ofNat kd)) := by rw [hb2]; exact h4.at' 0 (by simp)
 have r1 : qap (H2.get b) (o + 1) = .val (.str rl.n rl.a) := by rw [hb2]; exact h4.at' 1 (by simp)
 have r2 : qap (H2.get b) (o + 2) = .val (.str to.n to.a) := by rw [hb2]; exact h4.at' 2 (by simp)
 have r3 : qap (H2.get b) (o + 3) = .val av := by rw [hb2]; exact h4.at' 3 (by simp)
 simp (disch := first | omega | exact ti rfl | (simp only [np, nq]; first | done | omega)) only [go_sem, reduceAdd, reduceMul, reduceSub, reduceLeDiff, reduceEqDiff, reduceShiftRight, reduceAnd, n22, hl, r0, r1, r2]
 have hlt : ∀ c, In nv c → c < H.nx := fun c hc => hI.gl.lt hc
 have g2 : Gl 5 ((Hp.mk (H2.put fb (qaa 0 [.int .i64 (.ofNat 0)])).t (H2.nx + 18)).put (H2.nx + 15) (qaa 0 [.int .u8 (.ofNat kd), .str rl.n rl.a, .str to.n to.a, .nilsl, .bool neg])) nv l.length (l.flatMap ndC) := by
  refine hI.gl.keep (show H.nx ≤ H2.nx + 18 by omega) fun c hc hl => ?_
  have := hI.nin c hc
  rw [qat _ _ _ _ (by omega)]
  show (H2.put fb _).get c = _
  rw [qat _ _ _ _ (by omega)]
  exact kp2 c hl (by omega)
 obtain ⟨H3, e3, g3, q3, f3, n3⟩ := g2.append (k := 1) (w := 72) (x := [.int .u8 (.ofNat kd), .str rl.n rl.a, .str to.n to.a, .nilsl, .bool neg]) (by omega) rfl (by omega) (by omega)
 simp only [nq] at e3 g3 q3 n3 f3
 refine Ok.deE e3 ?_
 have kp3 : ∀ c, c < H2.nx → c ≠ fb → ¬ In nv c → H3.get c = H2.get c := fun c h1 h2 h3 => by
  refine (f3.get c (show c < H2.nx + 18 by omega) h3).trans ?_
  rw [qat _ _ _ _ (by omega)]
  show (H2.put fb _).get c = _
  rw [qat _ _ _ _ h2]
 have f33 : H3.get fb = qaa 0 [.int .i64 (.ofNat 0)] := by
  refine (f3.get fb (show fb < H2.nx + 18 by omega) (nn _ (by omega))).trans ?_
  rw [qat _ _ _ _ (by omega)]
  exact qam _ _ _
 have n33 := (kp3 nb (by omega) (by omega) (nn _ (by omega))).trans n22
 have d33 := (kp3 db (by omega) (by omega) (nn _ (by omega))).trans d2
 have v33 := (kp3 vb (by omega) (by omega) (nn _ (by omega))).trans v22
 have hb3 := kp3 b (by omega) (by omega) (nn _ (by omega))
 have r33 : qap (H3.get b) (o + 3) = .val av := by rw [hb3]; exact r3
 simp (disch := first | omega | exact ti rfl | (simp only [np, nq]; first | done | omega)) only [go_sem, reduceAdd, reduceMul, reduceSub, reduceLeDiff, reduceEqDiff, reduceShiftRight, reduceAnd, n33, r33]
 refine hg _ _ (max d lv) ⟨qam _ _ _, ?_, ?_, ?_, ⟨o1, o2, o3, show vb < H3.nx by omega⟩, ?_, ?_⟩ (by omega) ⟨show H.nx ≤ H3.nx by omega, fun c hc hs => ?_⟩ ?_
 ·rw [qat _ _ _ _ (by omega)]; exact d33
 ·rw [qat _ _ _ _ (by omega)]; exact f33
 ·rw [qat _ _ _ _ (by omega)]; exact v33
 ·rw [List.length_append, List.flatMap_append, List.flatMap_singleton]
  exact g3.keep (Nat.le_refl _) fun c hc _ => by
   obtain ⟨_, _, _, _, hc⟩ := hc
   injection hc with hc
   rw [qat _ _ _ _ (by omega)]
 ·rintro c ⟨_, _, _, _, hc⟩
  injection hc with hc
  omega
 ·unfold WkS at hs
  rw [qat _ _ _ _ (fun h => hs (.inl h))]
  exact (kp3 c (by omega) (fun h => hs (.inr (.inr (.inl h)))) fun h => hs (.inr (.inr (.inr h)))).trans (kp2 c hc fun h => hs (.inr (.inl h)))
 ·rintro c ⟨_, _, _, _, hc⟩
  injection hc with hc
  omega
end Go.Di
end
section
namespace Go.Di
open Go.Ev
variable {C : Nat → Ev.Call}
theorem qok (hC : qav C) {j : Nat} {r : Ru} (hR : q97 C r j) {g : AV → AV → Hp → R1} {qr : AV → Hp → R1} {Q : AV → Hp → Prop} {b o lv bl kd t d nb db fb vb : Nat} {neg : Bool} {H : Hp} {l : List (Nd × AV)} {nv x : AV} {xs ca cb cc : List AV}
  (hI : WkI H nb db fb vb l nv d) (hx : Gl 1 H x t xs) (ht : t < 2) (hxd : ∀ c, In x c → vb < c ∧ ¬ In nv c) (h4 : At4 H b o [.int .u8 (.ofNat kd), .str 0 0, .str 0 0, .sl bl 0 2 2 true]) (hb : b < nb) (hbl : bl < nb)
  (kb : H.get bl = qaa 0 (ca ++ cb)) (la : ca.length = 4) (lb : cb.length = 4) (hcc : cc = if t = 0 then ca else cb) (hrc : RuC (· < nb) H r cc) (hlv : lv + 1 + r.depth ≤ 9) (hll : l.length + r.size ≤ 32) (hd : d ≤ 8)
  (hg : ∀ (x' : AV) (H' : Hp) (l' : List (Nd × AV)) (nv' : AV) (d' : Nat) (xs' : List AV), WkI H' nb db fb vb l' nv' d' → l'.map Prod.fst = l.map Prod.fst ++ r.nodes (neg || (decide (kd = 6) && decide (t = 1))) → d' ≤ 8 →
   Fm (fun c => WkS nb db fb nv c ∨ In x c) H H' → (∀ c, In nv' c → In nv c ∨ H.nx ≤ c) → Gl 1 H' x' (t + 1) xs' → (∀ c, In x' c → vb < c ∧ ¬ In nv' c ∧ H.nx ≤ c) → Ok (g x' (.int .i64 (.ofNat (t + 1))) H') Q) :
  Ok (qpy (C j) qr g (.ptr b o) (.int .i64 (.ofNat lv)) (.bool neg) (.ptr nb 0) (.ptr vb 0) x (.int .i64 (.ofNat t)) H) Q := by
 unfold qpy
 obtain ⟨o1, o2, o3, o4⟩ := hI.o
 have e0 := hI.n
 have hl := hI.gl.lenV
 simp (disch := first | omega | exact ti rfl | (simp only [np, nq]; first | done | omega)) only [go_sem, reduceAdd, reduceMul, reduceSub, reduceLeDiff, reduceEqDiff, reduceShiftRight, reduceAnd, e0, hl]
 have fp : Fm No H (qal H (qaa 0 [.int .i64 (.ofNat l.length)])) := by (repeat (first | exact Fm.refl _ _ | assumption | refine Fm.push ?_ _ | refine Fm.up2 ?_ (by (first | omega | (simp only [np, nq]; omega))) | refine Fm.put_new ?_ _ _ (by (first | omega | (simp only [np, nq]; omega)))))
 obtain ⟨H2, e2, g2, q2, f2, n2⟩ := (hx.no fp).append (k := 1) (w := 8) (x := [.int .i64 (.ofNat l.length)]) (by omega) rfl (by omega) (by omega)
 simp only [np] at n2
 refine Ok.veE e2 ?_
 have fA : Fm (In x) H H2 := (fp.mono (T := In x) (fun _ _ h => absurd h id)).then f2 fun _ _ h => h
 have kp : ∀ c, c < H.nx → ¬ In x c → H2.get c = H.get c := fun c h1 h2 => fA.get c h1 h2
 have nix : ∀ c, c ≤ vb → ¬ In x c := fun c hc h => by have := (hxd c h).1; omega
 have ninv : ∀ c, c ≤ vb → ¬ In nv c := fun c hc h => by have := hI.nin c h; omega
 have I2 : WkI H2 nb db fb vb l nv d := ⟨(kp _ (by omega) (nix _ (by omega))).trans hI.n, (kp _ (by omega) (nix _ (by omega))).trans hI.d, (kp _ (by omega) (nix _ (by omega))).trans hI.f, (kp _ (by omega) (nix _ (by omega))).trans hI.v, ⟨o1, o2, o3, by omega⟩,
  hI.gl.keep fA.nx (fun c hc hl => kp c hl fun h => (hxd c h).2 hc), hI.nin⟩
 have v2 := I2.v
 have hb2 := kp b (by omega) (nix _ (by omega))
 have r0 : qap (H2.get b) o = .val (.int .u8 (.ofNat kd)) := by rw [hb2]; exact h4.at' 0 (by simp)
 have r3 : qap (H2.get b) (o + 3) = .val (.sl bl 0 2 2 true) := by rw [hb2]; exact h4.at' 3 (by simp)
 have kb2 := (kp bl (by omega) (nix _ (by omega))).trans kb
 have lcc : cc.length = 4 := by rw [hcc]; split <;> assumption
 have a4 : At4 H2 bl (t * 4) cc := ⟨by omega, fun i hi => by
  rw [kb2, qga]
  have : (ca ++ cb)[t * 4 + i]? = some cc[i] := by
   by_cases h0 : t = 0
   ·subst h0
    rw [if_pos rfl] at hcc
    subst hcc
    rw [Nat.zero_mul, Nat.zero_add, List.getElem?_append_left (by omega), List.getElem?_eq_getElem hi]
   ·have h1 : t = 1 := by omega
    subst h1
    rw [if_neg (by omega)] at hcc
    subst hcc
    rw [List.getElem?_append_right (by omega), show 1 * 4 + i - ca.length = i by omega, List.getElem?_eq_getElem hi]
  rw [this]⟩
 have hrc2 : RuC (· < nb) H2 r cc := hrc.fmS fA fun c hc => nix c (by omega)
 have call : ∀ n : Bool, Ok (C j (.f qka) [.ptr bl (t * 4), .int .i64 (.ofNat (lv + 1)), .bool n, .ptr nb 0, .ptr db 0, .ptr fb 0, .ptr vb 0] H2) _ := fun n => hR bl (t * 4) (lv + 1) n H2 nb db fb vb l nv d cc I2 a4 hrc2 hbl (by omega) hll hd
 have fin : ∀ (n : Bool), n = (neg || (decide (kd = 6) && decide (t = 1))) → ∀ (H3 : Hp) (l' : List (Nd × AV)) (nv' : AV) (d' : Nat), WkI H3 nb db fb vb l' nv' d' → l'.map Prod.fst = l.map Prod.fst ++ r.nodes n → d' ≤ 8 → Fm (WkS nb db fb nv) H2 H3 → (∀ c, In nv' c → In nv c ∨ H2.nx ≤ c) →
   Ok (g (.sl (qal H (qaa 0 [.int .i64 (.ofNat l.length)])).nx 0 (t + 1) (t + 1) false) (.int .i64 (.ofNat (t + 1))) H3) Q := by
  rintro _ rfl H3 l' nv' d' hI3 hl3 hd3 f3 hn3
  have hnew : ¬ WkS nb db fb nv (H.nx + 1) := fun h => by
   rcases h with h | h | h | h
   ·omega
   ·omega
   ·omega
   ·have := hI.gl.lt h; omega
  refine hg _ H3 l' nv' d' _ hI3 hl3 hd3 ((fA.mono fun _ _ h => .inr h).then f3 fun _ _ h => .inl h) (fun c hc => ?_) (g2.keep f3.nx fun c hc hlt => f3.get c hlt fun h => ?_) fun c hc => ?_
  ·rcases hn3 c hc with h | h
   ·exact .inl h
   ·exact .inr (by omega)
  ·obtain ⟨_, _, _, _, hc⟩ := hc
   injection hc with hc
   rw [np] at hc
   rw [← hc] at h
   exact hnew h
  ·obtain ⟨_, _, _, _, hc⟩ := hc
   injection hc with hc
   rw [np] at hc
   refine ⟨by omega, fun h => ?_, by omega⟩
   rcases hn3 c h with h | h
   ·have := hI.gl.lt h; omega
   ·omega
 cases neg
 ·by_cases h6 : kd = 6
  ·have h6t := eq_true h6
   simp (disch := first | omega | exact ti rfl | (simp only [np, nq]; first | done | omega)) only [go_sem, reduceAdd, reduceMul, reduceSub, reduceLeDiff, reduceEqDiff, reduceShiftRight, reduceAnd, v2, r0, r3, h6t]
   refine Ok.deO (call (decide (t = 1))) ?_
   rintro _ H3 ⟨rfl, l', nv', d', hI3, hl3, hd3, f3, hn3⟩
   simp (disch := first | omega | exact ti rfl | (simp only [np, nq]; first | done | omega)) only [go_sem, reduceAdd, reduceMul, reduceSub, reduceLeDiff, reduceEqDiff, reduceShiftRight, reduceAnd]
   unfold qkz
   simp (disch := first | omega | exact ti rfl | (simp only [np, nq]; first | done | omega)) only [go_sem, reduceAdd, reduceMul, reduceSub, reduceLeDiff, reduceEqDiff, reduceShiftRight, reduceAnd]
   exact fin (decide (t = 1)) (by simp [h6]) H3 l' nv' d' hI3 hl3 hd3 f3 hn3
  ·simp (disch := first | omega | exact ti rfl | (simp only [np, nq]; first | done | omega)) only [go_sem, reduceAdd, reduceMul, reduceSub, reduceLeDiff, reduceEqDiff, reduceShiftRight, reduceAnd, v2, r0, r3, h6]
   refine Ok.deO (call false) ?_
   rintro _ H3 ⟨rfl, l', nv', d', hI3, hl3, hd3, f3, hn3⟩
   simp (disch := first | omega | exact ti rfl | (simp only [np, nq]; first | done | omega)) only [go_sem, reduceAdd, reduceMul, reduceSub, reduceLeDiff, reduceEqDiff, reduceShiftRight, reduceAnd]
   unfold qkz
   simp (disch := first | omega | exact ti rfl | (simp only [np, nq]; first | done | omega)) only [go_sem, reduceAdd, reduceMul, reduceSub, reduceLeDiff, reduceEqDiff, reduceShiftRight, reduceAnd]
   exact fin false (by simp [h6]) H3 l' nv' d' hI3 hl3 hd3 f3 hn3
 ·simp (disch := first | omega | exact ti rfl | (simp only [np, nq]; first | done | omega)) only [go_sem, reduceAdd, reduceMul, reduceSub, reduceLeDiff, reduceEqDiff, reduceShiftRight, reduceAnd, v2, r0, r3]
  refine Ok.deO (call true) ?_
  rintro _ H3 ⟨rfl, l', nv', d', hI3, hl3, hd3, f3, hn3⟩
  simp (disch := first | omega | exact ti rfl | (simp only [np, nq]; first | done | omega)) only [go_sem, reduceAdd, reduceMul, reduceSub, reduceLeDiff, reduceEqDiff, reduceShiftRight, reduceAnd]
  unfold qkz
  simp (disch := first | omega | exact ti rfl | (simp only [np, nq]; first | done | omega)) only [go_sem, reduceAdd, reduceMul, reduceSub, reduceLeDiff, reduceEqDiff, reduceShiftRight, reduceAnd]
  exact fin true (by simp) H3 l' nv' d' hI3 hl3 hd3 f3 hn3
theorem w37 (call : Ev.Call) (qr : AV → Hp → R1) (q : AV → Hp → R1) (a b c d e f : AV) (n : Nat) : qix call qr q a b c d e f (n + 1) = qiy call qr q a b c d e f (qix call qr q a b c d e f n) := rfl
theorem zcj (hC : qav C) (hN : qbs C) : ∀ (r : Ru) (k : Nat), r.Fit → r.depth + 2 ≤ k → q97 C r k := by
 intro r
 induction r with
 | leaf kd rl to =>
  intro k hf hk b o lv neg H nb db fb vb l nv d cs hI h4 hr hb hlv hll hd
  unfold Ru.depth at hk hlv
  unfold Ru.size at hll
  obtain ⟨j, rfl⟩ : ∃ j, k = j + 1 := ⟨k - 1, by omega⟩
  rw [(hC j).zCb]
  unfold zCb
  have hcs : cs = lfC kd rl to := hr
  subst hcs
  refine qls hC hN (r := .leaf kd rl to) (by omega) hI h4 hr hf hb (by omega) (by omega) hd fun H' w d' hI' hd' f' hw => ?_
  unfold qk0
  obtain ⟨m, hm⟩ : ∃ m, qak = m + 1 := ⟨999999, by rw [qaf]⟩
  rw [qan, hm]
  simp (disch := first | omega | exact ti rfl | (simp only [np, nq]; first | done | omega)) only [go_sem, reduceAdd, reduceMul, reduceSub, reduceLeDiff, reduceEqDiff, reduceShiftRight, reduceAnd]
  rw [w37]
  unfold qiy
  simp (disch := first | omega | exact ti rfl | (simp only [np, nq]; first | done | omega)) only [go_sem, reduceAdd, reduceMul, reduceSub, reduceLeDiff, reduceEqDiff, reduceShiftRight, reduceAnd]
  refine (qr9 hC (j := j) (by omega) hI' (i := l.length) (by simp) (Gl.nil 1 H')).mono ?_
  rintro r H2 ⟨rfl, l', hI2, hl2, f2⟩
  refine ⟨rfl, l', w, d', hI2, by rw [hl2]; simp [Ru.nodes], hd', f'.then f2 fun c hc h => ?_, fun c hc => .inr (hw c hc)⟩
  have := hw c h; omega
 | node kd x y ihx ihy =>
  intro k hf hk b o lv neg H nb db fb vb l nv d cs hI h4 hr hb hlv hll hd
  unfold Ru.depth at hk hlv
  unfold Ru.size at hll
  obtain ⟨j, rfl⟩ : ∃ j, k = j + 1 := ⟨k - 1, by omega⟩
  rw [(hC j).zCb]
  unfold zCb
  have hr' := hr
  obtain ⟨bl, ca, cb, rfl, hbl, hPb, kb, hca, hcb⟩ := hr
  have la : ca.length = 4 := by obtain ⟨_, _, _, _, h⟩ := hca.four; rw [h]; rfl
  have lb : cb.length = 4 := by obtain ⟨_, _, _, _, h⟩ := hcb.four; rw [h]; rfl
  refine qls hC hN (r := .node kd x y) (rl := sE) (to := sE) (by omega) hI h4 hr' hf hb (by omega) (by omega) hd fun H1 w d1 hI1 hd1 f1 hw => ?_
  obtain ⟨o1, o2, o3, o4⟩ := hI.o
  have nS : ∀ c, c < nb → ¬ WkS nb db fb nv c := fun c hc h => by
   rcases h with h | h | h | h
   ·omega
   ·omega
   ·omega
   ·have := hI.nin c h; omega
  unfold qk0
  obtain ⟨m, hm⟩ : ∃ m, qak = m + 3 := ⟨999997, by rw [qaf]⟩
  rw [qan, hm]
  simp (disch := first | omega | exact ti rfl | (simp only [np, nq]; first | done | omega)) only [go_sem, reduceAdd, reduceMul, reduceSub, reduceLeDiff, reduceEqDiff, reduceShiftRight, reduceAnd]
  rw [w37]
  unfold qiy
  simp (disch := first | omega | exact ti rfl | (simp only [np, nq]; first | done | omega)) only [go_sem, reduceAdd, reduceMul, reduceSub, reduceLeDiff, reduceEqDiff, reduceShiftRight, reduceAnd]
  have nn : ∀ c, ¬ In AV.nilsl c := fun c h => by obtain ⟨_, _, _, _, h⟩ := h; cases h
  have l1 : (l ++ [((⟨kd, sE, sE, neg⟩ : Nd), AV.nilsl)]).length = l.length + 1 := by simp
  refine qok hC (r := x) (t := 0) (ca := ca) (cb := cb) (cc := ca) (ihx j hf.2.1 (by omega)) hI1 (Gl.nil 1 H1) (by omega) (fun c h => absurd h (nn c)) (h4.keep f1.nx (f1.get _ (by omega) (nS _ hb))) hb hPb ((f1.get _ hbl (nS _ hPb)).trans kb) la lb rfl (hca.fmS f1 fun c hc => nS c hc) (by omega) (by rw [l1]; omega) hd1 ?_
  intro x2 H2 l2 nv2 d2 xs2 hI2 hl2 hd2 f2 hn2 gx2 hx2
  have l2n : l2.length = l.length + 1 + x.size := by
   have := congrArg List.length hl2
   simp only [List.length_map, List.length_append, List.length_cons, List.length_nil, qbx] at this
   omega
  have n1 := f1.nx
  have n2 := f2.nx
  have nS2 : ∀ c, c < nb → ¬ (WkS nb db fb w c ∨ In AV.nilsl c) := fun c hc h => by
   rcases h with (h | h | h | h) | h
   ·omega
   ·omega
   ·omega
   ·have := hI1.nin c h; omega
   ·exact nn c h
  rw [w37]
  unfold qiy
  simp (disch := first | omega | exact ti rfl | (simp only [np, nq]; first | done | omega)) only [go_sem, reduceAdd, reduceMul, reduceSub, reduceLeDiff, reduceEqDiff, reduceShiftRight, reduceAnd]
  refine qok hC (r := y) (t := 1) (ca := ca) (cb := cb) (cc := cb) (ihy j hf.2.2 (by omega)) hI2 gx2 (by omega) (fun c h => ⟨(hx2 c h).1, (hx2 c h).2.1⟩) ((h4.keep f1.nx (f1.get _ (by omega) (nS _ hb))).keep n2 (f2.get _ (by omega) (nS2 _ hb))) hb hPb ((f2.get _ (by omega) (nS2 _ hPb)).trans ((f1.get _ hbl (nS _ hPb)).trans kb)) la lb rfl ((hcb.fmS f1 fun c hc => nS c hc).fmS f2 fun c hc => nS2 c hc) (by omega) (by omega) hd2 ?_
  intro x3 H3 l3 nv3 d3 xs3 hI3 hl3 hd3 f3 hn3 gx3 hx3
  rw [w37]
  unfold qiy
  simp (disch := first | omega | exact ti rfl | (simp only [np, nq]; first | done | omega)) only [go_sem, reduceAdd, reduceMul, reduceSub, reduceLeDiff, reduceEqDiff, reduceShiftRight, reduceAnd]
  have l3n : l3.length = l2.length + y.size := by
   have := congrArg List.length hl3
   simp only [List.length_map, List.length_append, qbx] at this
   omega
  have hin3 : ∀ c, In nv3 c → H.nx ≤ c := fun c hc => by
   rcases hn3 c hc with h | h
   ·rcases hn2 c h with h | h
    ·exact hw c h
    ·omega
   ·omega
  refine (qr9 hC (j := j) (by omega) hI3 (i := l.length) (by omega) gx3).mono ?_
  rintro r H4 ⟨rfl, l', hI4, hl4, f4⟩
  refine ⟨rfl, l', nv3, d3, hI4, ?_, hd3, ((f1.then f2 fun c hc h => ?_).then f3 fun c hc h => ?_).then f4 fun c hc h => ?_, fun c hc => .inr (hin3 c hc)⟩
  ·rw [hl4, hl3, hl2]
   simp [Ru.nodes]
  ·rcases h with (h | h | h | h) | h
   ·exact .inl h
   ·exact .inr (.inl h)
   ·exact .inr (.inr (.inl h))
   ·have := hw c h; omega
   ·exact absurd h (nn c)
  ·rcases h with (h | h | h | h) | h
   ·exact .inl h
   ·exact .inr (.inl h)
   ·exact .inr (.inr (.inl h))
   ·rcases hn2 c h with h | h
    ·have := hw c h; omega
    ·omega
   ·have := (hx2 c h).2.2; omega
  ·have := hin3 c h; omega
end Go.Di
end
section
namespace Go.Di
open Go.Ev
variable {C : Nat → Ev.Call}
theorem ze1 (hC : qav C) {k : Nat} (hk : 1 ≤ k) {n : Nat} {H : Hp} {v : AV} {l : List AV} (h : Gl 5 H v n l) :
  ∃ w, C k (.f q0x) [v] H = .ok w H ∧ Gl 5 H w n l ∧ capV w = .val (.int .i64 (.ofNat n)) ∧ (∀ b, In w b → In v b) := by
 obtain ⟨j, rfl⟩ : ∃ j, k = j + 1 := ⟨k - 1, by omega⟩
 obtain ⟨w, e, h1, h2, h3⟩ := h.clip
 refine ⟨w, ?_, h1, h2, h3⟩
 rw [(hC j).zCc]
 unfold zCc zf5
 simp (disch := first | omega | exact ti rfl | (simp only [np, nq]; first | done | omega)) only [go_sem, reduceAdd, reduceMul, reduceSub, reduceLeDiff, reduceEqDiff, reduceShiftRight, reduceAnd, h.lenV, e]
structure Ru.Rt (r : Ru) : Prop where
 fit : r.Fit
 dp : r.depth ≤ 8
 sz : r.size ≤ 32
theorem q6k (hC : qav C) (hN : qbs C) {k : Nat} (hk : 12 ≤ k) {H : Hp} {b : Nat} {r : Ru} {cs : List AV} {P : Nat → Prop} (h4 : At4 H b 0 cs) (hr : RuC P H r cs) (hf : r.Rt) :
  Ok (C k (.f qtq) [.ptr b 0] H) fun v H' => ∃ nv l d, v = .tup [nv, .int .i64 (.ofNat d), .int .i64 (.ofNat 0)] ∧ Ac 5 ndC H H' nv l ∧ l.map Prod.fst = r.nodes false := by
 obtain ⟨j, rfl⟩ : ∃ j, k = j + 1 := ⟨k - 1, by omega⟩
 rw [(hC j).zBk]
 unfold zBk zgh
 simp (disch := first | omega | exact ti rfl | (simp only [np, nq]; first | done | omega)) only [go_sem, reduceAdd, reduceMul, reduceSub, reduceLeDiff, reduceEqDiff, reduceShiftRight, reduceAnd]
 generalize hH1 : (qal ((qal (qal (qal H (qaa 0 [.nilsl])) (qaa 0 [.int .i64 (.ofNat 0)])) (qaa 0 [.int .i64 (.ofNat 0)])).put (H.nx + 1 + 1) (qaa 0 [.int .i64 (.ofNat 0)])) (qaa 0 [.nilfn])).put (H.nx + 1 + 1 + 1) (qaa 0 [.fn qka [] [.ptr H.nx 0, .ptr (H.nx + 1) 0, .ptr (H.nx + 1 + 1) 0, .ptr (H.nx + 1 + 1 + 1) 0]]) = H1
 have f1 : Fm No H H1 := by rw [← hH1]; (repeat (first | exact Fm.refl _ _ | assumption | refine Fm.push ?_ _ | refine Fm.up2 ?_ (by (first | omega | (simp only [np, nq]; omega))) | refine Fm.put_new ?_ _ _ (by (first | omega | (simp only [np, nq]; omega)))))
 have n1 : H1.nx = H.nx + 4 := by rw [← hH1]; rfl
 have k0 : H1.get H.nx = qaa 0 [.nilsl] := by rw [← hH1]; simp (disch := first | omega | exact ti rfl | (simp only [np, nq]; first | done | omega)) only [go_sem, reduceAdd, reduceMul, reduceSub, reduceLeDiff, reduceEqDiff, reduceShiftRight, reduceAnd]
 have k1 : H1.get (H.nx + 1) = qaa 0 [.int .i64 (.ofNat 0)] := by rw [← hH1]; simp (disch := first | omega | exact ti rfl | (simp only [np, nq]; first | done | omega)) only [go_sem, reduceAdd, reduceMul, reduceSub, reduceLeDiff, reduceEqDiff, reduceShiftRight, reduceAnd]
 have k2 : H1.get (H.nx + 1 + 1) = qaa 0 [.int .i64 (.ofNat 0)] := by rw [← hH1]; simp (disch := first | omega | exact ti rfl | (simp only [np, nq]; first | done | omega)) only [go_sem, reduceAdd, reduceMul, reduceSub, reduceLeDiff, reduceEqDiff, reduceShiftRight, reduceAnd]
 have k3 : H1.get (H.nx + 1 + 1 + 1) = qaa 0 [.fn qka [] [.ptr H.nx 0, .ptr (H.nx + 1) 0, .ptr (H.nx + 1 + 1) 0, .ptr (H.nx + 1 + 1 + 1) 0]] := by rw [← hH1]; exact qam _ _ _
 have hI : WkI H1 H.nx (H.nx + 1) (H.nx + 1 + 1) (H.nx + 1 + 1 + 1) [] .nilsl 0 := ⟨k0, k1, k2, k3, ⟨by omega, by omega, by omega, by omega⟩, Gl.nil 5 _, fun c h => by obtain ⟨_, _, _, _, h⟩ := h; cases h⟩
 have hlt := h4.lt
 have hr2 : RuC (· < H.nx) H1 r cs := (hr.mono (Q := fun c => c < H.nx) fun c h _ => h).fm f1
 refine Ok.ve (zcj hC hN r j hf.fit (by have := hf.dp; omega) b 0 1 false H1 _ _ _ _ [] .nilsl 0 cs hI (h4.fm f1) (hr2) hlt (by have := hf.dp; omega) (by have := hf.sz; simpa using this) (by omega)) ?_
 rintro _ H2 ⟨rfl, l, nv, d, hI2, hl2, hd2, f2, hn2⟩
 have n2 := f2.nx
 have e0 := hI2.n
 have ed := hI2.d
 have ef := hI2.f
 simp (disch := first | omega | exact ti rfl | (simp only [np, nq]; first | done | omega)) only [go_sem, reduceAdd, reduceMul, reduceSub, reduceLeDiff, reduceEqDiff, reduceShiftRight, reduceAnd]
 unfold qu6
 simp (disch := first | omega | exact ti rfl | (simp only [np, nq]; first | done | omega)) only [go_sem, reduceAdd, reduceMul, reduceSub, reduceLeDiff, reduceEqDiff, reduceShiftRight, reduceAnd, ef]
 unfold qu7
 obtain ⟨w, e, hw, _, hwi⟩ := ze1 hC (k := j) (by omega) hI2.gl
 have hfl := qca (Gl.flat hI2.gl) 63
 simp (disch := first | omega | exact ti rfl | (simp only [np, nq]; first | done | omega)) only [go_sem, reduceAdd, reduceMul, reduceSub, reduceLeDiff, reduceEqDiff, reduceShiftRight, reduceAnd, e0, ed]
 refine Ok.deE e ?_
 have fA : Fm No H H2 := f1.then f2 fun c hc h => by
  rcases h with h | h | h | ⟨_, _, _, _, h⟩
  ·omega
  ·omega
  ·omega
  ·cases h
 have inw : ∀ c, In w c → H.nx + 4 ≤ c := fun c hc => by
  rcases hn2 c (hwi c hc) with ⟨_, _, _, _, h⟩ | h
  ·cases h
  ·omega
 have gk : ∀ (x y : Blk), Gl 5 ((H2.put H.nx x).put (H.nx + 1) y) w l.length (l.flatMap ndC) := fun x y => hw.keep (Nat.le_refl _) fun c hc _ => by
  have := inw c hc
  rw [qat _ _ _ _ (by omega), qat _ _ _ _ (by omega)]
 have fk : ∀ (x y : Blk), Fm No H ((H2.put H.nx x).put (H.nx + 1) y) := fun x y => (fA.put_new _ _ (by omega)).put_new _ _ (by omega)
 rcases hw.is with ⟨h, _⟩ | ⟨_, _, _, _, _, h, _⟩
 ·subst h
  simp (disch := first | omega | exact ti rfl | (simp only [np, nq]; first | done | omega)) only [go_sem, reduceAdd, reduceMul, reduceSub, reduceLeDiff, reduceEqDiff, reduceShiftRight, reduceAnd, e0, ed, hfl]
  exact Ok.ret ⟨_, l, d, rfl, ⟨gk _ _, fk _ _, fun c hc => by have := inw c hc; omega⟩, by simpa using hl2⟩
 ·subst h
  simp (disch := first | omega | exact ti rfl | (simp only [np, nq]; first | done | omega)) only [go_sem, reduceAdd, reduceMul, reduceSub, reduceLeDiff, reduceEqDiff, reduceShiftRight, reduceAnd, e0, ed, hfl]
  exact Ok.ret ⟨_, l, d, rfl, ⟨gk _ _, fk _ _, fun c hc => by have := inw c hc; omega⟩, by simpa using hl2⟩
theorem At4.push {H : Hp} {cs : List AV} : At4 (qal H (qaa 0 cs)) H.nx 0 cs := ⟨by rw [np]; omega, fun j h => by rw [qbc, qga, Nat.zero_add, List.getElem?_eq_getElem h]⟩
theorem qnd (hC : qav C) (hN : qbs C) {k : Nat} (hk : 13 ≤ k) {H : Hp} {r : Ru} {cs : List AV} {P : Nat → Prop} (hr : RuC P H r cs) (hf : r.Rt) :
  Ok (C k (.f qpf) [.agg cs] H) fun v H' => ∃ nv l, v = .tup [nv, .int .i64 (.ofNat 0)] ∧ Ac 5 ndC H H' nv l ∧ l.map Prod.fst = r.nodes false := by
 obtain ⟨j, rfl⟩ : ∃ j, k = j + 1 := ⟨k - 1, by omega⟩
 rw [(hC j).zAw]
 unfold zAw zgv
 obtain ⟨c0, c1, c2, c3, hcs⟩ := hr.four
 subst hcs
 have f : Fm No H (qal H (qaa 0 [c0, c1, c2, c3])) := by (repeat (first | exact Fm.refl _ _ | assumption | refine Fm.push ?_ _ | refine Fm.up2 ?_ (by (first | omega | (simp only [np, nq]; omega))) | refine Fm.put_new ?_ _ _ (by (first | omega | (simp only [np, nq]; omega)))))
 simp (disch := first | omega | exact ti rfl | (simp only [np, nq]; first | done | omega)) only [go_sem, reduceAdd, reduceMul, reduceSub, reduceLeDiff, reduceEqDiff, reduceShiftRight, reduceAnd]
 refine Ok.ve (q6k hC hN (k := j) (by omega) At4.push (hr.fm f) hf) ?_
 rintro _ H1 ⟨nv, l, d, rfl, ha, hl⟩
 simp (disch := first | omega | exact ti rfl | (simp only [np, nq]; first | done | omega)) only [go_sem, reduceAdd, reduceMul, reduceSub, reduceLeDiff, reduceEqDiff, reduceShiftRight, reduceAnd]
 exact Ok.ret ⟨nv, l, rfl, ha.trans f, hl⟩
theorem q4d (hC : qav C) (hN : qbs C) {k : Nat} (hk : 13 ≤ k) {H : Hp} {r : Ru} {cs : List AV} {P : Nat → Prop} (hr : RuC P H r cs) (hf : r.Rt) :
  Ok (C k (.f q0v) [.agg cs] H) fun v H' => v = .int .i64 (.ofNat 0) ∧ Fm No H H' := by
 obtain ⟨j, rfl⟩ : ∃ j, k = j + 1 := ⟨k - 1, by omega⟩
 rw [(hC j).zCf]
 unfold zCf zf2
 obtain ⟨c0, c1, c2, c3, hcs⟩ := hr.four
 subst hcs
 have f : Fm No H (qal H (qaa 0 [c0, c1, c2, c3])) := by (repeat (first | exact Fm.refl _ _ | assumption | refine Fm.push ?_ _ | refine Fm.up2 ?_ (by (first | omega | (simp only [np, nq]; omega))) | refine Fm.put_new ?_ _ _ (by (first | omega | (simp only [np, nq]; omega)))))
 simp (disch := first | omega | exact ti rfl | (simp only [np, nq]; first | done | omega)) only [go_sem, reduceAdd, reduceMul, reduceSub, reduceLeDiff, reduceEqDiff, reduceShiftRight, reduceAnd]
 refine Ok.ve (q6k hC hN (k := j) (by omega) At4.push (hr.fm f) hf) ?_
 rintro _ H1 ⟨nv, l, d, rfl, ha, hl⟩
 simp (disch := first | omega | exact ti rfl | (simp only [np, nq]; first | done | omega)) only [go_sem, reduceAdd, reduceMul, reduceSub, reduceLeDiff, reduceEqDiff, reduceShiftRight, reduceAnd]
 exact Ok.ret ⟨rfl, f.trans ha.fm⟩
end Go.Di
end
section
namespace Go.Di
open Go.Ev
variable {C : Nat → Ev.Call}
structure PrX (X : List SpG) : Prop where
 n : X.length ≤ 16
 r : ∀ g ∈ X, g.gs.length ≤ 16 ∧ Nm g.name
 x : ∀ g ∈ X, ∀ x ∈ g.gs, x.r.types.length ≤ 8 ∧ Nm x.r.name ∧ x.r.rule.Rt ∧ ∀ t ∈ x.r.types, Nm t.sp ∧ (t.rl = sE ∨ Nm t.rl)
theorem PrX.sml {X : List SpG} (h : PrX X) : Sml X := ⟨by have := h.n; omega, fun g hg => by have := (h.r g hg).1; omega, fun g hg x hx => by have := (h.x g hg x hx).1; omega⟩
theorem ql9 (hN : qbs C) {j : Nat} (hj : 1 ≤ j) {ts : List TyS} {tv : AV} {Hb : Hp} (ht : Rs 2 tC Hb tv ts) (htl : ts.length ≤ 8) (hnm : ∀ t ∈ ts, Nm t.sp ∧ (t.rl = sE ∨ Nm t.rl)) {Q : AV → Hp → Prop} {q : Hp → R1} {qr : AV → Hp → R1} (hq : ∀ H, Fm No Hb H → Ok (q H) Q) :
  ∀ (k i : Nat) (H : Hp), i ≤ ts.length → ts.length - i < k → Fm No Hb H → Ok (qnu (C j) qr q tv (.int .i64 (.ofNat ts.length)) k (.int .i64 (.ofNat i)) H) Q
 | 0, i, _, _, h, _ => by omega
 | k + 1, i, H, hi, hk, hf => by
  show Ok (q4x (C j) _ _ _ _ (qnu (C j) _ _ _ _ k) _ H) Q
  unfold q4x
  obtain ⟨m, rfl⟩ : ∃ m, j = m + 1 := ⟨j - 1, by omega⟩
  by_cases hlt : i < ts.length
  ·simp (disch := first | omega | exact ti rfl | (simp only [np, nq]; first | done | omega)) only [go_sem, reduceAdd, reduceMul, reduceSub, reduceLeDiff, reduceEqDiff, reduceShiftRight, reduceAnd, hlt]
   unfold quy
   have h1 := ht.fm hf
   obtain ⟨b1, o1, e1, e2, _, e3, e4⟩ := h1.at' i hlt
   have hn := hnm ts[i] (List.getElem_mem hlt)
   have m1 := (hN m).p _ hn.1
   unfold tC SS.v at e3
   unfold SS.v at m1
   have nx1 := hf.nx
   by_cases hz : ts[i].rl.n = 0 ∧ ts[i].rl.a = 0
   ·have hzt := eq_true hz
    simp (disch := first | omega | exact ti rfl | (simp only [np, nq]; first | done | omega)) only [go_sem, reduceAdd, reduceMul, reduceSub, reduceLeDiff, reduceEqDiff, reduceShiftRight, reduceAnd, e1, e3, m1, hzt]
    unfold qpz
    simp (disch := first | omega | exact ti rfl | (simp only [np, nq]; first | done | omega)) only [go_sem, reduceAdd, reduceMul, reduceSub, reduceLeDiff, reduceEqDiff, reduceShiftRight, reduceAnd]
    exact ql9 hN hj ht htl hnm hq k (i + 1) _ (by omega) (by omega) (hf.trans (by (repeat (first | exact Fm.refl _ _ | assumption | refine Fm.push ?_ _ | refine Fm.up2 ?_ (by (first | omega | (simp only [np, nq]; omega))) | refine Fm.put_new ?_ _ _ (by (first | omega | (simp only [np, nq]; omega)))))))
   ·have m2 := (hN m).p ts[i].rl (by
     rcases hn.2 with h | h
     ·exact absurd ((qde _ _).1 h) hz
     ·exact h)
    unfold SS.v at m2
    simp (disch := first | omega | exact ti rfl | (simp only [np, nq]; first | done | omega)) only [go_sem, reduceAdd, reduceMul, reduceSub, reduceLeDiff, reduceEqDiff, reduceShiftRight, reduceAnd, e1, e3, m1, hz, m2]
    unfold qpz
    simp (disch := first | omega | exact ti rfl | (simp only [np, nq]; first | done | omega)) only [go_sem, reduceAdd, reduceMul, reduceSub, reduceLeDiff, reduceEqDiff, reduceShiftRight, reduceAnd]
    exact ql9 hN hj ht htl hnm hq k (i + 1) _ (by omega) (by omega) (hf.trans (by (repeat (first | exact Fm.refl _ _ | assumption | refine Fm.push ?_ _ | refine Fm.up2 ?_ (by (first | omega | (simp only [np, nq]; omega))) | refine Fm.put_new ?_ _ _ (by (first | omega | (simp only [np, nq]; omega)))))))
  ·simp (disch := first | omega | exact ti rfl | (simp only [np, nq]; first | done | omega)) only [go_sem, reduceAdd, reduceMul, reduceSub, reduceLeDiff, reduceEqDiff, reduceShiftRight, reduceAnd, hlt]
   exact hq H hf
theorem zj1 (hC : qav C) (hN : qbs C) {k : Nat} (hk : 14 ≤ k) {H : Hp} {g : RelG} (hg : RelR H g) (hp : g.r.types.length ≤ 8 ∧ Nm g.r.name ∧ g.r.rule.Rt ∧ ∀ t ∈ g.r.types, Nm t.sp ∧ (t.rl = sE ∨ Nm t.rl)) :
  Ok (C k (.f q0y) [.agg (relC g)] H) fun v H' => v = .int .i64 (.ofNat 0) ∧ Fm No H H' := by
 obtain ⟨j, rfl⟩ : ∃ j, k = j + 1 + 1 := ⟨k - 2, by omega⟩
 rw [(hC (j + 1)).zBv]
 unfold zBv zgb
 obtain ⟨c0, c1, c2, c3, hcs⟩ := hg.ru.four
 have hrc : relC g = [.str g.r.name.n g.r.name.a, g.tv, c0, c1, c2, c3] := by unfold relC; rw [hcs]; rfl
 rw [hrc]
 have m1 := (hN j).p _ hp.2.1
 unfold SS.v at m1
 have h8 : ¬ 8 < g.r.types.length := by omega
 have f : Fm No H (qal H (qaa 0 [.str g.r.name.n g.r.name.a, g.tv, c0, c1, c2, c3])) := by (repeat (first | exact Fm.refl _ _ | assumption | refine Fm.push ?_ _ | refine Fm.up2 ?_ (by (first | omega | (simp only [np, nq]; omega))) | refine Fm.put_new ?_ _ _ (by (first | omega | (simp only [np, nq]; omega)))))
 have ht := hg.ty.fm f
 have hl := ht.len
 simp (disch := first | omega | exact ti rfl | (simp only [np, nq]; first | done | omega)) only [go_sem, reduceAdd, reduceMul, reduceSub, reduceLeDiff, reduceEqDiff, reduceShiftRight, reduceAnd, m1, hl, h8]
 unfold qux
 simp (disch := first | omega | exact ti rfl | (simp only [np, nq]; first | done | omega)) only [go_sem, reduceAdd, reduceMul, reduceSub, reduceLeDiff, reduceEqDiff, reduceShiftRight, reduceAnd, hl]
 unfold q4y
 rw [qan]
 refine ql9 hN (by omega) ht hp.1 hp.2.2.2 (fun H2 f2 => ?_) qak 0 _ (Nat.zero_le _) (by rw [qaf]; omega) (Fm.refl _ _)
 unfold qk3
 have k2 : H2.get H.nx = qaa 0 [.str g.r.name.n g.r.name.a, g.tv, c0, c1, c2, c3] := (f2.keep (by (first | omega | (simp only [np, nq]; omega)))).trans (qbc _ _)
 simp (disch := first | omega | exact ti rfl | (simp only [np, nq]; first | done | omega)) only [go_sem, reduceAdd, reduceMul, reduceSub, reduceLeDiff, reduceEqDiff, reduceShiftRight, reduceAnd, k2]
 have hru := hg.ru.fm (f.trans f2)
 rw [hcs] at hru
 refine Ok.ve (q4d hC hN (k := j + 1) (by omega) hru hp.2.2.1) ?_
 rintro _ H3 ⟨rfl, f3⟩
 exact Ok.ret ⟨rfl, (f.trans f2).trans f3⟩
theorem qmc (hC : qav C) (hN : qbs C) {j : Nat} (hj : 14 ≤ j) {g : SpG} {Hb : Hp} (hg : SpR Hb g) (hgl : g.gs.length ≤ 16) (hp : ∀ x ∈ g.gs, x.r.types.length ≤ 8 ∧ Nm x.r.name ∧ x.r.rule.Rt ∧ ∀ t ∈ x.r.types, Nm t.sp ∧ (t.rl = sE ∨ Nm t.rl)) {Q : AV → Hp → Prop} {q : Hp → R1} {qr : AV → Hp → R1} (hq : ∀ H, Fm No Hb H → Ok (q H) Q) :
  ∀ (k i : Nat) (H : Hp), i ≤ g.gs.length → g.gs.length - i < k → Fm No Hb H → Ok (qi1 (C j) qr q g.rv (.int .i64 (.ofNat g.gs.length)) k (.int .i64 (.ofNat i)) H) Q
 | 0, i, _, _, h, _ => by omega
 | k + 1, i, H, hi, hk, hf => by
  show Ok (qvj (C j) _ _ _ _ (qi1 (C j) _ _ _ _ k) _ H) Q
  unfold qvj
  by_cases hlt : i < g.gs.length
  ·simp (disch := first | omega | exact ti rfl | (simp only [np, nq]; first | done | omega)) only [go_sem, reduceAdd, reduceMul, reduceSub, reduceLeDiff, reduceEqDiff, reduceShiftRight, reduceAnd, hlt]
   unfold qvh
   have h1 := hg.fm hf
   obtain ⟨b1, o1, e1, e2, _, _, _, e6⟩ := h1.at' i hlt
   have hm := List.getElem_mem hlt
   have nx1 := hf.nx
   have hr := h1.rel _ hm
   obtain ⟨c0, c1, c2, c3, hcs⟩ := hr.ru.four
   have hrc : relC g.gs[i] = [.str g.gs[i].r.name.n g.gs[i].r.name.a, g.gs[i].tv, c0, c1, c2, c3] := by unfold relC; rw [hcs]; rfl
   have f2 : Fm No H ((qal H (qaa 0 [.str 0 0, .nilsl, .int .u8 (.ofNat 0), .str 0 0, .str 0 0, .nilsl])).put H.nx (qaa 0 (relC g.gs[i]))) := by (repeat (first | exact Fm.refl _ _ | assumption | refine Fm.push ?_ _ | refine Fm.up2 ?_ (by (first | omega | (simp only [np, nq]; omega))) | refine Fm.put_new ?_ _ _ (by (first | omega | (simp only [np, nq]; omega)))))
   have call := zj1 hC hN (k := j) hj (hr.fm f2) (hp _ hm)
   rw [hrc] at e6 f2 call
   simp (disch := first | omega | exact ti rfl | (simp only [np, nq]; first | done | omega)) only [go_sem, reduceAdd, reduceMul, reduceSub, reduceLeDiff, reduceEqDiff, reduceShiftRight, reduceAnd, e1, e6]
   refine Ok.ve call ?_
   rintro _ H3 ⟨rfl, f3⟩
   simp (disch := first | omega | exact ti rfl | (simp only [np, nq]; first | done | omega)) only [go_sem, reduceAdd, reduceMul, reduceSub, reduceLeDiff, reduceEqDiff, reduceShiftRight, reduceAnd]
   unfold qvi
   simp (disch := first | omega | exact ti rfl | (simp only [np, nq]; first | done | omega)) only [go_sem, reduceAdd, reduceMul, reduceSub, reduceLeDiff, reduceEqDiff, reduceShiftRight, reduceAnd]
   exact qmc hC hN hj hg hgl hp hq k (i + 1) _ (by omega) (by omega) ((hf.trans f2).trans f3)
  ·simp (disch := first | omega | exact ti rfl | (simp only [np, nq]; first | done | omega)) only [go_sem, reduceAdd, reduceMul, reduceSub, reduceLeDiff, reduceEqDiff, reduceShiftRight, reduceAnd, hlt]
   exact hq H hf
theorem qox (hC : qav C) (hN : qbs C) {j : Nat} (hj : 14 ≤ j) {sv : AV} {X : List SpG} {Hb : Hp} (hX : SchR Hb sv X) (hP : PrX X) {Q : AV → Hp → Prop} {q : Hp → R1} {qr : AV → Hp → R1} (hq : ∀ H, Fm No Hb H → Ok (q H) Q) :
  ∀ (k i : Nat) (H : Hp), i ≤ X.length → X.length - i < k → Fm No Hb H → Ok (qf2 (C j) qr q sv (.int .i64 (.ofNat X.length)) k (.int .i64 (.ofNat i)) H) Q
 | 0, i, _, _, h, _ => by omega
 | k + 1, i, H, hi, hk, hf => by
  show Ok (q5f (C j) _ _ _ _ (qf2 (C j) _ _ _ _ k) _ H) Q
  unfold q5f
  obtain ⟨m, rfl⟩ : ∃ m, j = m + 1 := ⟨j - 1, by omega⟩
  have hn := hP.n
  by_cases hlt : i < X.length
  ·simp (disch := first | omega | exact ti rfl | (simp only [np, nq]; first | done | omega)) only [go_sem, reduceAdd, reduceMul, reduceSub, reduceLeDiff, reduceEqDiff, reduceShiftRight, reduceAnd, hlt]
   unfold qvf
   have h1 := hX.fm hf
   obtain ⟨b1, o1, e1, e2, _, e3, _⟩ := h1.rs.at' i hlt
   have hm := List.getElem_mem hlt
   have nx1 := hf.nx
   unfold spC SS.v at e3
   have hr := hP.r _ hm
   have m1 := (hN m).p _ hr.2
   unfold SS.v at m1
   have hsp := h1.sp _ hm
   have hl := hsp.len
   have h16 : ¬ 16 < X[i].gs.length := by omega
   simp (disch := first | omega | exact ti rfl | (simp only [np, nq]; first | done | omega)) only [go_sem, reduceAdd, reduceMul, reduceSub, reduceLeDiff, reduceEqDiff, reduceShiftRight, reduceAnd, e1, e3, m1, hl, h16]
   unfold qvg
   simp (disch := first | omega | exact ti rfl | (simp only [np, nq]; first | done | omega)) only [go_sem, reduceAdd, reduceMul, reduceSub, reduceLeDiff, reduceEqDiff, reduceShiftRight, reduceAnd, hl]
   unfold qvk
   rw [qan]
   have f2 : Fm No H ((qal H (qaa 0 [.str 0 0, .nilsl])).put H.nx (qaa 0 [.str X[i].name.n X[i].name.a, X[i].rv])) := by (repeat (first | exact Fm.refl _ _ | assumption | refine Fm.push ?_ _ | refine Fm.up2 ?_ (by (first | omega | (simp only [np, nq]; omega))) | refine Fm.put_new ?_ _ _ (by (first | omega | (simp only [np, nq]; omega)))))
   refine qmc hC hN hj (hsp.fm f2) hr.1 (hP.x _ hm) (fun H3 f3 => ?_) qak 0 _ (Nat.zero_le _) (by rw [qaf]; omega) (Fm.refl _ _)
   unfold qk8
   simp (disch := first | omega | exact ti rfl | (simp only [np, nq]; first | done | omega)) only [go_sem, reduceAdd, reduceMul, reduceSub, reduceLeDiff, reduceEqDiff, reduceShiftRight, reduceAnd]
   exact qox hC hN hj hX hP hq k (i + 1) _ (by omega) (by omega) ((hf.trans f2).trans f3)
  ·simp (disch := first | omega | exact ti rfl | (simp only [np, nq]; first | done | omega)) only [go_sem, reduceAdd, reduceMul, reduceSub, reduceLeDiff, reduceEqDiff, reduceShiftRight, reduceAnd, hlt]
   exact hq H hf
theorem q99 (hC : qav C) (hN : qbs C) {k : Nat} (hk : 15 ≤ k) {H : Hp} {sv : AV} {X : List SpG} (hX : SchR H sv X) (hP : PrX X) :
  Ok (C k (.f q03) [.agg [sv]] H) fun v H' => v = .int .i64 (.ofNat 0) ∧ Fm No H H' := by
 obtain ⟨j, rfl⟩ : ∃ j, k = j + 1 := ⟨k - 1, by omega⟩
 rw [(hC j).zBh]
 unfold zBh zgk
 have f : Fm No H (qal H (qaa 0 [sv])) := by (repeat (first | exact Fm.refl _ _ | assumption | refine Fm.push ?_ _ | refine Fm.up2 ?_ (by (first | omega | (simp only [np, nq]; omega))) | refine Fm.put_new ?_ _ _ (by (first | omega | (simp only [np, nq]; omega)))))
 have hl := hX.rs.len
 have hn := hP.n
 have h16 : ¬ 16 < X.length := by omega
 simp (disch := first | omega | exact ti rfl | (simp only [np, nq]; first | done | omega)) only [go_sem, reduceAdd, reduceMul, reduceSub, reduceLeDiff, reduceEqDiff, reduceShiftRight, reduceAnd, hl, h16]
 unfold qve
 simp (disch := first | omega | exact ti rfl | (simp only [np, nq]; first | done | omega)) only [go_sem, reduceAdd, reduceMul, reduceSub, reduceLeDiff, reduceEqDiff, reduceShiftRight, reduceAnd, hl]
 unfold q5g
 rw [qan]
 refine qox hC hN (by omega) (hX.fm f) hP (fun H3 f3 => ?_) qak 0 _ (Nat.zero_le _) (by rw [qaf]; omega) (Fm.refl _ _)
 unfold qfx
 exact Ok.ret ⟨rfl, f.trans f3⟩
end Go.Di
end
