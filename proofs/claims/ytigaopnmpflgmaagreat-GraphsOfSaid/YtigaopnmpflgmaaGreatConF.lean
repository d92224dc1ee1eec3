/-
 For GraphsOf: functions in direct style, their contracts, and the plain mathematics, part 6 of 6. No conditions beyond those that each theorem states.
-/
import Derived.Test.YtigaopnmpflgmaaGreatConE
import Derived.Test.YtigaopnmpflgmaaGreatConD
import Derived.Test.YtigaopnmpflgmaaGreatEv4
import Derived.Test.YtigaopnmpflgmaaGreatConB
import Derived.ChangeArms
import Derived.DataReads
set_option linter.unusedSimpArgs false
set_option linter.unusedVariables false
open Nat (reduceAdd reduceMul reduceSub reduceLeDiff reduceEqDiff reduceShiftRight reduceAnd)
noncomputable section
namespace Go.Di
open Go.Ev
variable {C : Nat → Ev.Call}
theorem ValX.tg {X : List SpG} (hV : ValX X) {a b to s : SS} (h : s ∈ qel X a b to) : (s, to) ∈ allG X := by
 unfold qel at h
 cases hf : qdt X a b with
 | none => rw [hf] at h; cases h
 | some x =>
  rw [hf] at h
  unfold tgL at h
  rw [List.mem_map] at h
  obtain ⟨t, ht, rfl⟩ := h
  rw [List.mem_filter] at ht
  have h2 := ht.2
  unfold tgP at h2
  rw [Bool.and_eq_true, qjq hV.al hV.sp] at h2
  simpa using h2.2
theorem ValX.ndt {X : List SpG} (hV : ValX X) {g : SpG} {x : RelG} (hm : g ∈ X ∧ x ∈ g.gs) {y : Nd} (hy : y ∈ x.r.rule.nodes false) : ∀ p ∈ ndT X g.name x y, p ∈ allG X := by
 intro p hp
 unfold ndT at hp
 have hnd := hV.nd _ hm.1 _ hm.2 y hy
 split at hp
 ·unfold tyT at hp
  rw [List.mem_map] at hp
  obtain ⟨t, ht, rfl⟩ := hp
  rw [List.mem_filter] at ht
  rcases ((hV.ty _ hm.1 _ hm.2).2 t ht.1).2 with h | h
  ·simp [h] at ht
  ·exact h
 split at hp
 ·rename_i h2
  rw [List.mem_singleton] at hp
  rw [hp]; exact hnd.1 (.inl h2)
 split at hp
 ·rw [List.mem_map] at hp
  obtain ⟨s, hs, rfl⟩ := hp
  exact hV.tg hs
 ·cases hp
theorem q2g {X : List SpG} (hP : PrX X) (a b to : SS) : (qel X a b to).length ≤ 8 := by
 unfold qel
 cases h : qdt X a b with
 | none => simp
 | some g =>
  refine Nat.le_trans (qqv X to _) ?_
  obtain ⟨p, hp, hx, _, _⟩ := qin h
  exact (hP.x p hp g hx).1
theorem zdi {X : List SpG} (hP : PrX X) {g : SpG} {x : RelG} (hx : x.r.types.length ≤ 8) (y : Nd) : (ndF X g x y).length ≤ 8 := by
 unfold ndF ndT
 rw [List.length_map]
 split
 ·have := qxy x.r.types; omega
 split
 ·simp
 split
 ·rw [List.length_map]; exact q2g hP _ _ _
 ·simp
def relE (X : List SpG) (g : SpG) (x : RelG) : List Edge := (x.r.rule.nodes false).flatMap (ndF X g x)
theorem qz5 {X : List SpG} (hP : PrX X) {g : SpG} {x : RelG} (hm : g ∈ X ∧ x ∈ g.gs) : (relE X g x).length ≤ 256 := by
 unfold relE
 have h1 := qb6 (ndF X g x) 8 (x.r.rule.nodes false) fun y _ => zdi hP (hP.x _ hm.1 _ hm.2).1 y
 have h2 := qbx x.r.rule false
 have h3 := (hP.x _ hm.1 _ hm.2).2.2.1.sz
 omega
def goE (X : List SpG) (l : List SpG) : List Edge := l.flatMap fun g => g.gs.flatMap (relE X g)
structure RlR (X : List SpG) (sv : AV) (xb nb mb : Nat) (H : Hp) : Prop where
 sch : SchR H sv X
 x1 : H.get xb = qaa 0 [sv]
 n : H.get nb = qaa 0 [.map mb]
 m : MapP H mb (allG X)
theorem q1j (hC : qav C) (hN : qbs C) {j : Nat} (hj : 22 ≤ j) {Hb : Hp} {ev0 sv : AV} {gb N xb nb mb pb : Nat} {X : List SpG} (hV : ValX X) {g : SpG} (hm : g ∈ X) (hR : ∀ H, Fm (fun c => c = gb ∨ In ev0 c) Hb H → RlR X sv xb nb mb H ∧ H.get pb = qaa 0 [.str g.name.n g.name.a, g.rv])
  (hlt' : xb < Hb.nx ∧ nb < Hb.nx ∧ mb < Hb.nx ∧ pb < Hb.nx) {E : List Edge} (hE : E.length ≤ 100000) {Q : AV → Hp → Prop} {q : Hp → R1}
  (hq : ∀ H ev, GOf Hb ev0 H gb N ev (E ++ g.gs.flatMap (relE X g)) → Ok (q H) Q) :
  ∀ (k i : Nat) (H : Hp) (ev : AV), i ≤ g.gs.length → g.gs.length - i < k → GOf Hb ev0 H gb N ev (E ++ (g.gs.take i).flatMap (relE X g)) →
   Ok (qb0 (C j) q (.ptr xb 0) (.ptr nb 0) (.ptr gb 0) (.ptr pb 0) g.rv (.int .i64 (.ofNat g.gs.length)) k (.int .i64 (.ofNat i)) H) Q
 | 0, i, _, _, _, h, _ => by omega
 | k + 1, i, H, ev, hi, hk, hG => by
  show Ok (qwv (C j) _ _ _ _ _ _ _ (qb0 (C j) _ _ _ _ _ _ _ k) _ H) Q
  unfold qwv
  obtain ⟨t1, t2, t3, t4⟩ := hlt'
  by_cases hlt : i < g.gs.length
  ·simp (disch := first | omega | exact ti rfl | (simp only [np, nq]; first | done | omega)) only [go_sem, reduceAdd, reduceMul, reduceSub, reduceLeDiff, reduceEqDiff, reduceShiftRight, reduceAnd, hlt]
   unfold qp9
   obtain ⟨r, rp⟩ := hR H hG.fm
   have hsp := r.sch.sp _ hm
   obtain ⟨b1, o1, e1, e2, _, _, _, e6⟩ := hsp.at' i hlt
   have hx := List.getElem_mem hlt
   have hrr := hsp.rel _ hx
   obtain ⟨c0, c1, c2, c3, hcs, hrc⟩ := qq5 hrr
   have hpr := hV.pr.x _ hm _ hx
   rw [hrc] at e6
   have h16 := (hV.pr.r _ hm).1
   obtain ⟨H1, hH1⟩ : ∃ H1, H1 = (qal H (qaa 0 [.str 0 0, .nilsl, .int .u8 (.ofNat 0), .str 0 0, .str 0 0, .nilsl])).put H.nx (qaa 0 [.str g.gs[i].r.name.n g.gs[i].r.name.a, g.gs[i].tv, c0, c1, c2, c3]) := ⟨_, rfl⟩
   have fp : Fm No H H1 := by rw [hH1]; (repeat (first | exact Fm.refl _ _ | assumption | refine Fm.push ?_ _ | refine Fm.up2 ?_ (by (first | omega | (simp only [np, nq]; omega))) | refine Fm.put_new ?_ _ _ (by (first | omega | (simp only [np, nq]; omega)))))
   have kb : H1.get H.nx = qaa 0 [.str g.gs[i].r.name.n g.gs[i].r.name.a, g.gs[i].tv, c0, c1, c2, c3] := by rw [hH1]; exact qam _ _ _
   have n1 : H1.nx = H.nx + 1 := by rw [hH1]; rfl
   have hru := hrr.ru.fm fp
   rw [hcs] at hru
   have call := qnd hC hN (k := j) (by omega) hru hpr.2.2.1
   simp (disch := first | omega | exact ti rfl | (simp only [np, nq]; first | done | omega)) only [go_sem, reduceAdd, reduceMul, reduceSub, reduceLeDiff, reduceEqDiff, reduceShiftRight, reduceAnd, e1, e6]
   rw [← hH1]
   refine Ok.ve call ?_
   rintro _ H2 ⟨nv, l, rfl, ha, hl⟩
   have hla := ha.lenV
   simp (disch := first | omega | exact ti rfl | (simp only [np, nq]; first | done | omega)) only [go_sem, reduceAdd, reduceMul, reduceSub, reduceLeDiff, reduceEqDiff, reduceShiftRight, reduceAnd, hla]
   unfold qwz
   rw [qan]
   have f2 := ha.fm
   have n2 := f2.nx
   have nx0 := hG.fm.nx
   have gbl := hG.lt
   have inH : ∀ c, In ev c → c < H.nx := fun c hc => hG.gl.lt hc
   have hln : l.length ≤ 32 := by
    have := congrArg List.length hl
    simp only [List.length_map, qbx] at this
    have := hpr.2.2.1.sz
    omega
   have hEl : (E ++ (g.gs.take i).flatMap (relE X g)).length ≤ 800000 := by
    have h1 := qb6 (relE X g) 256 (g.gs.take i) fun x hx => qz5 hV.pr ⟨hm, List.mem_of_mem_take hx⟩
    rw [List.length_append]
    have h2 : (g.gs.take i).length ≤ 16 := by rw [List.length_take]; omega
    omega
   have hG2 := hG.base (fp.trans f2)
   refine q1l hC hN hj (N := N) (Hb := H2) (ev0 := ev) (sv := sv) (mb := mb) hV (x := g.gs[i]) ⟨hm, hx⟩ (l := l) (fun H' f' => ?_) ⟨by omega, by omega, by omega, by omega, by omega⟩ hln hl (fun y hy => hV.ndt ⟨hm, hx⟩ (by rw [← hl]; exact List.mem_map_of_mem hy)) hEl (fun H' ev' h => ?_) qak 0 H2 ev (Nat.zero_le _) (by rw [qaf]; omega) (by simpa using hG2)
   ·have ft : Fm (fun c => c = gb ∨ In ev0 c) Hb H' := (hG.fm.then (fp.trans f2) fun _ _ h => absurd h id).then f' fun c hc hs => by
     rcases hs with hs | hs
     ·exact .inl hs
     ·rcases hG.nw c hs with h | h
      ·exact .inr h
      ·omega
    obtain ⟨r', rp'⟩ := hR H' ft
    refine ⟨r'.sch, r'.x1, r'.n, r'.m, rp', ⟨c0, c1, c2, c3, ?_⟩, (ha.rs qcm).fmS f' fun c hc hs => ?_⟩
    ·refine (f'.get H.nx (by omega) fun hs => ?_).trans ((f2.keep (by omega)).trans kb)
     rcases hs with hs | hs
     ·omega
     ·have := inH _ hs; omega
    ·have := ha.nw c hc
     rcases hs with hs | hs
     ·omega
     ·have := inH c hs; omega
   ·unfold qci
    simp (disch := first | omega | exact ti rfl | (simp only [np, nq]; first | done | omega)) only [go_sem, reduceAdd, reduceMul, reduceSub, reduceLeDiff, reduceEqDiff, reduceShiftRight, reduceAnd]
    refine q1j hC hN hj hV hm hR ⟨t1, t2, t3, t4⟩ hE hq k (i + 1) H' ev' (by omega) (by omega) ?_
    have hre : relE X g g.gs[i] = l.flatMap fun y => ndF X g g.gs[i] y.1 := by
     unfold relE
     rw [← hl, List.flatMap_map]
    rw [List.take_succ_eq_append_getElem hlt, List.flatMap_append, List.flatMap_singleton, ← List.append_assoc, hre]
    exact hG.comp (fp.trans f2) h
  ·simp (disch := first | omega | exact ti rfl | (simp only [np, nq]; first | done | omega)) only [go_sem, reduceAdd, reduceMul, reduceSub, reduceLeDiff, reduceEqDiff, reduceShiftRight, reduceAnd, hlt]
   have he : i = g.gs.length := by omega
   rw [he, List.take_length] at hG
   exact hq H ev hG
theorem q1k {X : List SpG} (hP : PrX X) (i : Nat) : (goE X (X.take i)).length ≤ 65536 := by
 unfold goE
 have h1 := qb6 (fun g : SpG => g.gs.flatMap (relE X g)) 4096 (X.take i) fun g hg => by
  have hgx := List.mem_of_mem_take hg
  have h2 := qb6 (relE X g) 256 g.gs fun x hx => qz5 hP ⟨hgx, hx⟩
  have := (hP.r g hgx).1
  omega
 have h2 : (X.take i).length ≤ 16 := by rw [List.length_take]; have := hP.n; omega
 omega
theorem q1i (hC : qav C) (hN : qbs C) {j : Nat} (hj : 22 ≤ j) {Hb : Hp} {ev0 sv : AV} {gb N xb nb mb : Nat} {X : List SpG} (hV : ValX X) (hR : ∀ H, Fm (fun c => c = gb ∨ In ev0 c) Hb H → RlR X sv xb nb mb H)
  (hlt' : xb < Hb.nx ∧ nb < Hb.nx ∧ mb < Hb.nx) {Q : AV → Hp → Prop} {q : Hp → R1}
  (hq : ∀ H ev, GOf Hb ev0 H gb N ev (goE X X) → Ok (q H) Q) :
  ∀ (k s : Nat) (H : Hp) (ev : AV), s ≤ X.length → X.length - s < k → GOf Hb ev0 H gb N ev (goE X (X.take s)) →
   Ok (qbo (C j) q (.ptr xb 0) (.ptr nb 0) (.ptr gb 0) sv (.int .i64 (.ofNat X.length)) k (.int .i64 (.ofNat s)) H) Q
 | 0, i, _, _, _, h, _ => by omega
 | k + 1, s, H, ev, hi, hk, hG => by
  show Ok (qww (C j) _ _ _ _ _ _ (qbo (C j) _ _ _ _ _ _ k) _ H) Q
  unfold qww
  obtain ⟨t1, t2, t3⟩ := hlt'
  have hn := hV.pr.n
  by_cases hlt : s < X.length
  ·simp (disch := first | omega | exact ti rfl | (simp only [np, nq]; first | done | omega)) only [go_sem, reduceAdd, reduceMul, reduceSub, reduceLeDiff, reduceEqDiff, reduceShiftRight, reduceAnd, hlt]
   unfold qp8
   have r := hR H hG.fm
   obtain ⟨b1, o1, e1, e2, _, e3, _⟩ := r.sch.rs.at' s hlt
   unfold spC SS.v at e3
   have hm := List.getElem_mem hlt
   have hl := (r.sch.sp _ hm).len
   have h16 := (hV.pr.r _ hm).1
   obtain ⟨H1, hH1⟩ : ∃ H1, H1 = (qal H (qaa 0 [.str 0 0, .nilsl])).put H.nx (qaa 0 [.str X[s].name.n X[s].name.a, X[s].rv]) := ⟨_, rfl⟩
   have fp : Fm No H H1 := by rw [hH1]; (repeat (first | exact Fm.refl _ _ | assumption | refine Fm.push ?_ _ | refine Fm.up2 ?_ (by (first | omega | (simp only [np, nq]; omega))) | refine Fm.put_new ?_ _ _ (by (first | omega | (simp only [np, nq]; omega)))))
   have kb : H1.get H.nx = qaa 0 [.str X[s].name.n X[s].name.a, X[s].rv] := by rw [hH1]; exact qam _ _ _
   have n1 : H1.nx = H.nx + 1 := by rw [hH1]; rfl
   simp (disch := first | omega | exact ti rfl | (simp only [np, nq]; first | done | omega)) only [go_sem, reduceAdd, reduceMul, reduceSub, reduceLeDiff, reduceEqDiff, reduceShiftRight, reduceAnd, e1, e3, hl]
   rw [← hH1]
   unfold qw0
   rw [qan]
   have nx0 := hG.fm.nx
   have gbl := hG.lt
   have inH : ∀ c, In ev c → c < H.nx := fun c hc => hG.gl.lt hc
   have hG1 := hG.base fp
   refine q1j hC hN hj (N := N) (Hb := H1) (ev0 := ev) (sv := sv) (mb := mb) hV hm (fun H' f' => ?_) ⟨by omega, by omega, by omega, by omega⟩ (E := goE X (X.take s)) (by have := q1k hV.pr s; omega) (fun H' ev' h => ?_) qak 0 H1 ev (Nat.zero_le _) (by rw [qaf]; omega) (by simpa using hG1)
   ·have ft : Fm (fun c => c = gb ∨ In ev0 c) Hb H' := (hG.fm.then fp fun _ _ h => absurd h id).then f' fun c hc hs => by
     rcases hs with hs | hs
     ·exact .inl hs
     ·rcases hG.nw c hs with h | h
      ·exact .inr h
      ·omega
    refine ⟨hR H' ft, (f'.get H.nx (by omega) fun hs => ?_).trans kb⟩
    rcases hs with hs | hs
    ·omega
    ·have := inH _ hs; omega
   ·unfold qbt
    simp (disch := first | omega | exact ti rfl | (simp only [np, nq]; first | done | omega)) only [go_sem, reduceAdd, reduceMul, reduceSub, reduceLeDiff, reduceEqDiff, reduceShiftRight, reduceAnd]
    refine q1i hC hN hj hV hR ⟨t1, t2, t3⟩ hq k (s + 1) H' ev' (by omega) (by omega) ?_
    unfold goE at h ⊢
    rw [List.take_succ_eq_append_getElem hlt, List.flatMap_append, List.flatMap_singleton]
    exact hG.comp fp h
  ·simp (disch := first | omega | exact ti rfl | (simp only [np, nq]; first | done | omega)) only [go_sem, reduceAdd, reduceMul, reduceSub, reduceLeDiff, reduceEqDiff, reduceShiftRight, reduceAnd, hlt]
   have he : s = X.length := by omega
   rw [he, List.take_length] at hG
   exact hq H ev hG
end Go.Di
end
noncomputable section
namespace Go.Di
open Go.Ev
def kT (n : Nat) (e : T3) : Nat := (e.f * n + e.t) * 2 + e.s
theorem q9a {n : Nat} {ms : List Nat} {i k : Nat} {e : T3} (h : e ∈ ent n ms i k) : e.f = i ∧ e.t = k ∧ e.s < 2 ∧ 0 < ms.getD (i * n + k) 0 := by
 unfold ent at h
 rcases List.mem_append.1 h with h | h
 ·split at h
  ·rw [List.mem_singleton] at h; subst h
   refine ⟨rfl, rfl, Nat.zero_lt_two, ?_⟩
   rcases Nat.eq_zero_or_pos (ms.getD (i * n + k) 0) with h0 | h0
   ·rename_i h1; rw [h0] at h1; omega
   ·exact h0
  ·cases h
 ·split at h
  ·rename_i h1
   rw [List.mem_singleton] at h; subst h
   exact ⟨rfl, rfl, Nat.one_lt_two, by omega⟩
  ·cases h
theorem zl5 (n : Nat) (ms : List Nat) (i k : Nat) : (ent n ms i k).Pairwise (fun a b => kT n a < kT n b) := by
 unfold ent
 split <;> split <;> simp [kT]
theorem q1x {n : Nat} {ms : List Nat} {i : Nat} {e : T3} : ∀ {k : Nat}, e ∈ eR n ms i k → e.f = i ∧ e.t < k ∧ e.s < 2 ∧ 0 < ms.getD (i * n + e.t) 0
 | 0, h => by cases h
 | k + 1, h => by
  rcases List.mem_append.1 h with h | h
  ·obtain ⟨h1, h2, h3, h4⟩ := q1x h
   exact ⟨h1, by omega, h3, h4⟩
  ·obtain ⟨h1, h2, h3, h4⟩ := q9a h
   exact ⟨h1, by omega, h3, by rw [h2]; exact h4⟩
theorem zma (n : Nat) (ms : List Nat) (i : Nat) : ∀ k, (eR n ms i k).Pairwise (fun a b => kT n a < kT n b)
 | 0 => List.Pairwise.nil
 | k + 1 => by
  refine List.pairwise_append.2 ⟨zma n ms i k, zl5 n ms i k, fun a ha b hb => ?_⟩
  obtain ⟨a1, a2, a3, _⟩ := q1x ha
  obtain ⟨b1, b2, b3, _⟩ := q9a hb
  unfold kT
  rw [a1, b1, b2]; omega
theorem qt7 {n : Nat} {ms : List Nat} {e : T3} : ∀ {i : Nat}, e ∈ eM n ms i → e.f < i ∧ e.t < n ∧ e.s < 2 ∧ 0 < ms.getD (e.f * n + e.t) 0
 | 0, h => by cases h
 | i + 1, h => by
  rcases List.mem_append.1 h with h | h
  ·obtain ⟨h1, h2, h3, h4⟩ := qt7 h
   exact ⟨by omega, h2, h3, h4⟩
  ·obtain ⟨h1, h2, h3, h4⟩ := q1x h
   exact ⟨by omega, h2, h3, by rw [h1]; exact h4⟩
theorem zmb (n : Nat) (ms : List Nat) : ∀ i, (eM n ms i).Pairwise (fun a b => kT n a < kT n b)
 | 0 => List.Pairwise.nil
 | i + 1 => by
  refine List.pairwise_append.2 ⟨zmb n ms i, zma n ms i n, fun a ha b hb => ?_⟩
  obtain ⟨a1, a2, a3, _⟩ := qt7 ha
  obtain ⟨b1, b2, b3, _⟩ := q1x hb
  have h1 : (a.f + 1) * n ≤ i * n := Nat.mul_le_mul_right n a1
  rw [Nat.add_mul, Nat.one_mul] at h1
  unfold kT
  rw [b1]; omega
theorem q9t {a b : Int} (h : a < b) : cmpI a b = -1 := by unfold cmpI; rw [if_pos h]
theorem qyv (a : Int) : cmpI a a = 0 := by unfold cmpI; rw [if_neg (Int.lt_irrefl a), if_neg (Int.lt_irrefl a)]
theorem zlr {n : Nat} {a b : T3} (ha : a.t < n) (hb : b.t < n) (sa : a.s < 2) (sb : b.s < 2) (h : kT n a < kT n b) : cmpE (toE a) (toE b) < 0 := by
 unfold kT at h
 unfold cmpE toE
 rcases Nat.lt_trichotomy a.f b.f with hf | hf | hf
 ·show orI [cmpI (.ofNat a.f) (.ofNat b.f), _, _] < 0
  rw [q9t (by simp only [Int.ofNat_eq_natCast]; omega)]; exact Int.negSucc_lt_zero 0
 ·have hft : a.f * n = b.f * n := by rw [hf]
  rcases Nat.lt_trichotomy a.t b.t with ht | ht | ht
  ·show orI [cmpI (.ofNat a.f) (.ofNat b.f), cmpI (.ofNat a.t) (.ofNat b.t), _] < 0
   rw [hf, qyv, q9t (a := .ofNat a.t) (by simp only [Int.ofNat_eq_natCast]; omega)]; exact Int.negSucc_lt_zero 0
  ·have hs : a.s = 0 ∧ b.s = 1 := by omega
   show orI [cmpI (.ofNat a.f) (.ofNat b.f), cmpI (.ofNat a.t) (.ofNat b.t), cmpI (sgn (decide (a.s = 1))) (sgn (decide (b.s = 1)))] < 0
   rw [hf, ht, qyv, qyv, hs.1, hs.2]; decide
  ·omega
 ·have h1 : (b.f + 1) * n ≤ a.f * n := Nat.mul_le_mul_right n hf
  rw [Nat.add_mul, Nat.one_mul] at h1
  omega
theorem q1v (n : Nat) (ms : List Nat) : qjw n (qfs n ms) := by
 refine ⟨fun e he => ?_, fun i hi => ?_⟩
 ·obtain ⟨x, hx, rfl⟩ := List.mem_map.1 he
  obtain ⟨h1, h2, _⟩ := qt7 hx
  exact ⟨h1, h2⟩
 ·unfold qfs at hi ⊢
  rw [List.length_map] at hi
  rw [List.getElem_map, List.getElem_map]
  have hp := zmb n ms n
  have := List.pairwise_iff_getElem.1 hp i (i + 1) (by omega) hi (Nat.lt_succ_self i)
  obtain ⟨_, a2, a3, _⟩ := qt7 (List.getElem_mem (show i < (eM n ms n).length by omega))
  obtain ⟨_, b2, b3, _⟩ := qt7 (List.getElem_mem hi)
  exact zlr a2 b2 a3 b3 this
theorem zi0 {n i j i' j' : Nat} (hj : j < n) (hj' : j' < n) (h : i * n + j = i' * n + j') : i = i' ∧ j = j' := by
 have h1 : (i * n + j) / n = i := by rw [Nat.mul_comm, Nat.mul_add_div (by omega), Nat.div_eq_of_lt hj, Nat.add_zero]
 have h2 : (i' * n + j') / n = i' := by rw [Nat.mul_comm, Nat.mul_add_div (by omega), Nat.div_eq_of_lt hj', Nat.add_zero]
 have e : i = i' := by rw [← h1, h, h2]
 subst e
 exact ⟨rfl, by omega⟩
def ltE (x y : Edge) : Bool := decide (cmpE x y < 0)
theorem qmw (cs : List Nat) (a c v : Nat) (hc : c < cs.length) : (cs.set a v).getD c 0 = if a = c then v else cs.getD c 0 := by
 rw [List.getD_eq_getElem?_getD, List.getD_eq_getElem?_getD, List.getElem?_set]
 by_cases h : a = c
 ·subst h; rw [if_pos rfl, if_pos rfl, if_pos hc]; rfl
 ·rw [if_neg h, if_neg h]
theorem zda (n : Nat) (ms : List Nat) (f t : Nat) (s : Bool) : (putM n ms f t s).length = ms.length := by
 unfold putM
 generalize (if s = true then 2 else 1) = d
 by_cases hd : ms.getD (f * n + t) 0 / d % 2 = 0
 ·rw [if_pos hd, List.length_set]
 ·rw [if_neg hd]
theorem zdb {n : Nat} {ms : List Nat} (hl : ms.length = n * n) {f t : Nat} (s : Bool) {i k : Nat} (hi : i < n) (hk : k < n) (ht : t < n) (h3 : ms.getD (i * n + k) 0 ≤ 3) :
  (putM n ms f t s).getD (i * n + k) 0 ≤ 3 ∧ ((putM n ms f t s).getD (i * n + k) 0 % 2 = 1 ↔ ms.getD (i * n + k) 0 % 2 = 1 ∨ (f = i ∧ t = k ∧ s = false)) ∧ (1 < (putM n ms f t s).getD (i * n + k) 0 ↔ 1 < ms.getD (i * n + k) 0 ∨ (f = i ∧ t = k ∧ s = true)) := by
 have hx := q8m hi hk
 by_cases e : f = i ∧ t = k
 ·obtain ⟨rfl, rfl⟩ := e
  unfold putM
  generalize hv : ms.getD (f * n + t) 0 = v at *
  cases s
  ·simp only [Bool.false_eq_true, if_false]
   by_cases h : v / 1 % 2 = 0
   ·rw [if_pos h, qmw _ _ _ _ (by omega), if_pos rfl]
    refine ⟨by omega, ?_, ?_⟩
    ·simp; omega
    ·simp; omega
   ·rw [if_neg h, hv]
    refine ⟨by omega, ?_, ?_⟩
    ·simp; omega
    ·simp
  ·simp only [if_true]
   by_cases h : v / 2 % 2 = 0
   ·rw [if_pos h, qmw _ _ _ _ (by omega), if_pos rfl]
    refine ⟨by omega, ?_, ?_⟩
    ·simp
    ·simp
   ·rw [if_neg h, hv]
    refine ⟨by omega, ?_, ?_⟩
    ·simp
    ·simp; omega
 ·have : (putM n ms f t s).getD (i * n + k) 0 = ms.getD (i * n + k) 0 := by
   unfold putM
   generalize (if s = true then 2 else 1) = d
   by_cases hd : ms.getD (f * n + t) 0 / d % 2 = 0
   ·rw [if_pos hd, qmw _ _ _ _ (by omega), if_neg fun h => e (zi0 ht hk h)]
   ·rw [if_neg hd]
  rw [this]
  exact ⟨h3, ⟨Or.inl, fun h => h.resolve_right fun g => e ⟨g.1, g.2.1⟩⟩, ⟨Or.inl, fun h => h.resolve_right fun g => e ⟨g.1, g.2.1⟩⟩⟩
theorem ql6 {n i k : Nat} (hi : i < n) (hk : k < n) : ∀ (ts : List T3) (ms : List Nat), ms.length = n * n → (∀ e ∈ ts, e.f < n ∧ e.t < n) → ms.getD (i * n + k) 0 ≤ 3 →
  ((qdf n ms ts).getD (i * n + k) 0 % 2 = 1 ↔ ms.getD (i * n + k) 0 % 2 = 1 ∨ ∃ e ∈ ts, e.f = i ∧ e.t = k ∧ decide (e.s = 1) = false) ∧ (1 < (qdf n ms ts).getD (i * n + k) 0 ↔ 1 < ms.getD (i * n + k) 0 ∨ ∃ e ∈ ts, e.f = i ∧ e.t = k ∧ decide (e.s = 1) = true)
 | [], ms, _, _, _ => by simp [qdf]
 | e :: l, ms, hl, hT, h3 => by
  obtain ⟨a1, a2, a3⟩ := zdb hl (f := e.f) (t := e.t) (decide (e.s = 1)) hi hk (hT e List.mem_cons_self).2 h3
  obtain ⟨b1, b2⟩ := ql6 hi hk l (putM n ms e.f e.t (decide (e.s = 1))) (by rw [zda, hl]) (fun x hx => hT x (List.mem_cons_of_mem _ hx)) a1
  show ((qdf n (putM n ms e.f e.t (decide (e.s = 1))) l).getD _ 0 % 2 = 1 ↔ _) ∧ _
  rw [b1, a2]
  show _ ∧ (1 < (qdf n (putM n ms e.f e.t (decide (e.s = 1))) l).getD _ 0 ↔ _)
  rw [b2, a3]
  simp only [List.mem_cons, exists_eq_or_imp, or_assoc, and_self]
def bn (b : Bool) : Nat := if b then 1 else 0
theorem zmm {a b : Bool} (h : bn a = bn b) : a = b := by cases a <;> cases b <;> first | rfl | (simp [bn] at h)
theorem ze5 (b : Bool) : sgn b = (bn b : Int) := by cases b <;> rfl
def LtE (x y : Edge) : Prop := x.f < y.f ∨ (x.f = y.f ∧ (x.t < y.t ∨ (x.t = y.t ∧ bn x.s < bn y.s)))
theorem q75 (x y : Edge) : ltE x y = true ↔ LtE x y := by
 unfold ltE cmpE LtE
 rw [ze5, ze5]
 simp only [orI, cmpI, Int.ofNat_eq_natCast, decide_eq_true_eq]
 (repeat' split) <;> omega
theorem qyj (x y : Edge) : ltE x y = false ↔ ¬ LtE x y := by
 rw [← q75]; cases ltE x y <;> simp
theorem LtE.tri {x y : Edge} (h1 : ¬ LtE x y) (h2 : ¬ LtE y x) : x = y := by
 unfold LtE at h1 h2
 obtain ⟨a, b, c⟩ := x
 obtain ⟨d, e, f⟩ := y
 simp only at h1 h2
 have e1 : a = d := by omega
 have e2 : b = e := by omega
 have e3 : bn c = bn f := by omega
 subst e1; subst e2
 rw [zmm e3]
theorem LtE.irr (x : Edge) : ¬ LtE x x := by unfold LtE; omega
theorem LtE.trans {x y z : Edge} : LtE x y → LtE y z → LtE x z := by unfold LtE; omega
abbrev Asc (l : List Edge) : Prop := l.Pairwise LtE
theorem Asc.nodup {l : List Edge} (h : Asc l) : l.Nodup := List.Pairwise.imp (fun {a b} (h : LtE a b) (e : a = b) => LtE.irr b (e ▸ h)) h
theorem Asc.uniq : ∀ {l l' : List Edge}, Asc l → Asc l' → l.Perm l' → l = l'
 | [], l', _, _, hp => by rw [List.nil_perm.1 hp]
 | x :: l, [], _, _, hp => by have := hp.length_eq; simp at this
 | x :: l, y :: l', h, h', hp => by
  have h := List.pairwise_cons.1 h
  have h' := List.pairwise_cons.1 h'
  have exy : x = y := by
   have hx : x ∈ y :: l' := hp.mem_iff.1 (List.mem_cons.2 (Or.inl rfl))
   have hy : y ∈ x :: l := hp.mem_iff.2 (List.mem_cons.2 (Or.inl rfl))
   rcases List.mem_cons.1 hx with e | hx
   ·exact e
   ·rcases List.mem_cons.1 hy with e | hy
    ·exact e.symm
    ·exact absurd ((h.1 y hy).trans (h'.1 x hx)) (LtE.irr _)
  subst exy
  rw [Asc.uniq h.2 h'.2 ((List.perm_cons x).1 hp)]
theorem qry {x y : Edge} : cmpE x y < 0 ↔ LtE x y := by rw [← q75]; unfold ltE; simp
theorem qjw.asc {n : Nat} {es : List Edge} (h : qjw n es) : Asc es := by
 refine List.pairwise_iff_getElem.2 ?_
 intro i j hi hj hij
 obtain ⟨k, rfl⟩ : ∃ k, j = i + 1 + k := ⟨j - i - 1, by omega⟩
 clear hij
 induction k with
 | zero => exact qry.1 (h.ord i hj)
 | succ k ih => exact (ih (by omega)).trans (qry.1 (h.ord (i + 1 + k) (by omega)))
theorem Asc.ok {n : Nat} {es : List Edge} (h : Asc es) (hr : ∀ e ∈ es, e.f < n ∧ e.t < n) : qjw n es :=
 ⟨hr, fun i hi => qry.2 (List.pairwise_iff_getElem.1 h i (i + 1) (by omega) hi (by omega))⟩
def bitE (n : Nat) (ms : List Nat) (f t : Nat) (s : Bool) : Prop := if s then 1 < ms.getD (f * n + t) 0 else ms.getD (f * n + t) 0 % 2 = 1
theorem qm2 {n : Nat} {ms : List Nat} {i k : Nat} {e : T3} : e ∈ ent n ms i k ↔ e.f = i ∧ e.t = k ∧ ((e.s = 0 ∧ ms.getD (i * n + k) 0 % 2 = 1) ∨ (e.s = 1 ∧ 1 < ms.getD (i * n + k) 0)) := by
 obtain ⟨f, t, s⟩ := e
 unfold ent
 rw [List.mem_append]
 constructor
 ·rintro (h | h)
  ·split at h
   ·rw [List.mem_singleton] at h; injection h with h1 h2 h3; exact ⟨h1, h2, .inl ⟨h3, by assumption⟩⟩
   ·cases h
  ·split at h
   ·rw [List.mem_singleton] at h; injection h with h1 h2 h3; exact ⟨h1, h2, .inr ⟨h3, by assumption⟩⟩
   ·cases h
 ·rintro ⟨rfl, rfl, ⟨h1, h2⟩ | ⟨h1, h2⟩⟩
  ·simp only at h1; subst h1; left; rw [if_pos h2]; exact List.mem_singleton.2 rfl
  ·simp only at h1; subst h1; right; rw [if_pos h2]; exact List.mem_singleton.2 rfl
theorem zfh {n : Nat} {ms : List Nat} {i : Nat} {e : T3} : ∀ {k : Nat}, e ∈ eR n ms i k ↔ e.t < k ∧ e ∈ ent n ms i e.t
 | 0 => by constructor; (intro h; cases h); (intro h; omega)
 | k + 1 => by
  show e ∈ eR n ms i k ++ ent n ms i k ↔ _
  rw [List.mem_append, zfh]
  constructor
  ·rintro (⟨h1, h2⟩ | h)
   ·exact ⟨by omega, h2⟩
   ·have h' := (qm2.1 h).2.1
    exact ⟨by omega, by rw [h']; exact h⟩
  ·rintro ⟨h1, h2⟩
   by_cases h : e.t < k
   ·exact .inl ⟨h, h2⟩
   ·have : e.t = k := by omega
    rw [this] at h2; exact .inr h2
theorem q1y {n : Nat} {ms : List Nat} {e : T3} : ∀ {m : Nat}, e ∈ eM n ms m ↔ e.f < m ∧ e.t < n ∧ e ∈ ent n ms e.f e.t
 | 0 => by constructor; (intro h; cases h); (intro h; omega)
 | m + 1 => by
  show e ∈ eM n ms m ++ eR n ms m n ↔ _
  rw [List.mem_append, q1y, zfh]
  constructor
  ·rintro (⟨h1, h2, h3⟩ | ⟨h1, h2⟩)
   ·exact ⟨by omega, h2, h3⟩
   ·have h' := (qm2.1 h2).1
    exact ⟨by omega, h1, by rw [h']; exact h2⟩
  ·rintro ⟨h1, h2, h3⟩
   by_cases h : e.f < m
   ·exact .inl ⟨h, h2, h3⟩
   ·have : e.f = m := by omega
    rw [this] at h3; exact .inr ⟨h2, h3⟩
theorem qyr {n : Nat} {ms : List Nat} {e : Edge} : e ∈ qfs n ms ↔ e.f < n ∧ e.t < n ∧ bitE n ms e.f e.t e.s := by
 unfold qfs bitE
 rw [List.mem_map]
 constructor
 ·rintro ⟨t, ht, rfl⟩
  obtain ⟨h1, h2, h3⟩ := q1y.1 ht
  refine ⟨h1, h2, ?_⟩
  rcases (qm2.1 h3).2.2 with ⟨h4, h5⟩ | ⟨h4, h5⟩
  ·show (if decide (t.s = 1) = true then _ else _)
   rw [h4, if_neg (by decide)]; exact h5
  ·show (if decide (t.s = 1) = true then _ else _)
   rw [h4, if_pos (by decide)]; exact h5
 ·rintro ⟨h1, h2, h3⟩
  obtain ⟨f, t, s⟩ := e
  cases s
  ·exact ⟨⟨f, t, 0⟩, q1y.2 ⟨h1, h2, qm2.2 ⟨rfl, rfl, .inl ⟨rfl, by simpa using h3⟩⟩⟩, rfl⟩
  ·exact ⟨⟨f, t, 1⟩, q1y.2 ⟨h1, h2, qm2.2 ⟨rfl, rfl, .inr ⟨rfl, by simpa using h3⟩⟩⟩, rfl⟩
theorem q3n {n : Nat} {ts : List T3} (hT : ∀ e ∈ ts, e.f < n ∧ e.t < n) {e : Edge} : e ∈ qfs n (qdf n (List.replicate (n * n) 0) ts) ↔ e ∈ ts.map toE := by
 rw [qyr, List.mem_map]
 have h0 : ∀ x, (List.replicate (n * n) 0).getD x 0 = 0 := fun x => by
  rw [List.getD_eq_getElem?_getD, List.getElem?_replicate]
  split <;> rfl
 constructor
 ·rintro ⟨h1, h2, h3⟩
  obtain ⟨g1, g2⟩ := ql6 h1 h2 ts _ (List.length_replicate) hT (by rw [h0]; omega)
  rw [h0] at g1 g2
  unfold bitE at h3
  obtain ⟨f, t, s⟩ := e
  cases s
  ·simp only [Bool.false_eq_true, if_false] at h3
   rw [g1] at h3
   rcases h3 with h3 | ⟨x, hx, a, b, c⟩
   ·omega
   ·exact ⟨x, hx, by unfold toE; rw [a, b, c]⟩
  ·simp only [if_true] at h3
   rw [g2] at h3
   rcases h3 with h3 | ⟨x, hx, a, b, c⟩
   ·omega
   ·exact ⟨x, hx, by unfold toE; rw [a, b, c]⟩
 ·rintro ⟨x, hx, rfl⟩
  obtain ⟨h1, h2⟩ := hT x hx
  obtain ⟨g1, g2⟩ := ql6 (i := x.f) (k := x.t) h1 h2 ts _ (List.length_replicate) hT (by rw [h0]; omega)
  refine ⟨h1, h2, ?_⟩
  unfold bitE
  show if decide (x.s = 1) = true then _ else _
  cases hs : decide (x.s = 1)
  ·rw [if_neg (by simp)]
   exact g1.2 (.inr ⟨x, hx, rfl, rfl, hs⟩)
  ·rw [if_pos rfl]
   exact g2.2 (.inr ⟨x, hx, rfl, rfl, hs⟩)
end Go.Di
end
noncomputable section
namespace Go.Di
open Go.Ev
def qjn (S : List Edge) (i : Nat) : Bool := decide (i = 0) || !decide (S[i]? = S[i - 1]?)
def ddN (S : List Edge) (m : Nat) : List Edge := (List.range m).filterMap fun i => if qjn S i then S[i]? else none
def ddE (S : List Edge) : List Edge := ddN S S.length
theorem qru (S : List Edge) {m : Nat} (h : m < S.length) : ddN S (m + 1) = ddN S m ++ if qjn S m then [S[m]] else [] := by
 unfold ddN
 rw [List.range_succ, List.filterMap_append]
 congr 1
 rw [List.filterMap_cons, List.filterMap_nil, List.getElem?_eq_getElem h]
 cases qjn S m <;> rfl
theorem zjk {S : List Edge} {x : Edge} : x ∈ ddE S ↔ x ∈ S := by
 unfold ddE ddN
 rw [List.mem_filterMap]
 constructor
 ·rintro ⟨i, hi, h⟩
  split at h
  ·exact List.mem_of_getElem? h
  ·cases h
 ·intro hx
  have hlt : S.findIdx (fun y => decide (y = x)) < S.length := by rw [List.findIdx_lt_length]; exact ⟨x, hx, by simp⟩
  have hp := List.findIdx_getElem (w := hlt)
  refine ⟨S.findIdx fun y => decide (y = x), List.mem_range.2 hlt, ?_⟩
  have he : S[S.findIdx fun y => decide (y = x)] = x := by simpa using hp
  have hk : qjn S (S.findIdx fun y => decide (y = x)) = true := by
   unfold qjn
   rw [Bool.or_eq_true]
   by_cases h0 : (S.findIdx fun y => decide (y = x)) = 0
   ·left; simpa using h0
   ·right
    rw [Bool.not_eq_true', decide_eq_false_iff_not]
    intro h
    have hn := List.not_of_lt_findIdx (xs := S) (p := fun y => decide (y = x)) (i := (S.findIdx fun y => decide (y = x)) - 1) (by omega)
    rw [List.getElem?_eq_getElem hlt, List.getElem?_eq_getElem (by omega), he] at h
    injection h with h
    rw [← h] at hn
    simp at hn
  rw [if_pos hk, List.getElem?_eq_getElem hlt, he]
theorem zjl {S : List Edge} (hS : S.Pairwise fun x y => ¬ LtE y x) : Asc (ddE S) := by
 unfold ddE ddN
 show List.Pairwise LtE _
 rw [List.pairwise_filterMap]
 refine List.Pairwise.imp_of_mem ?_ List.pairwise_lt_range
 intro i j hi hj hij x hx y hy
 have hjl : j < S.length := List.mem_range.1 hj
 have hil : i < S.length := List.mem_range.1 hi
 split at hy
 ·rename_i hk
  split at hx
  ·rw [List.getElem?_eq_getElem hil] at hx
   rw [List.getElem?_eq_getElem hjl] at hy
   injection hx with hx
   injection hy with hy
   subst hx hy
   have hp := List.pairwise_iff_getElem.1 hS
   have h1 := hp i j hil hjl hij
   by_cases hlt : LtE S[i] S[j]
   ·exact hlt
   ·exfalso
    have e := LtE.tri hlt h1
    have h2 := hp (j - 1) j (by omega) hjl (by omega)
    have h3 : ¬ LtE S[j - 1] S[j] := by
     rw [← e]
     by_cases he : i = j - 1
     ·subst he; exact LtE.irr _
     ·exact hp i (j - 1) hil (by omega) (by omega)
    have e2 := LtE.tri h3 h2
    unfold qjn at hk
    rw [Bool.or_eq_true, Bool.not_eq_true', decide_eq_false_iff_not, List.getElem?_eq_getElem hjl, List.getElem?_eq_getElem (by omega), e2] at hk
    rcases hk with hk | hk
    ·simp at hk; omega
    ·exact hk rfl
  ·cases hx
 ·cases hy
theorem Asc.ext {l l' : List Edge} (h : Asc l) (h' : Asc l') (hm : ∀ x, x ∈ l ↔ x ∈ l') : l = l' :=
 Asc.uniq h h' ((List.perm_ext_iff_of_nodup h.nodup h'.nodup).2 hm)
def sortE (S : List Edge) : List Edge := S.mergeSort fun x y => !ltE y x
theorem zcr (S : List Edge) : (sortE S).Pairwise fun x y => ¬ LtE y x := by
 have h := List.pairwise_mergeSort (le := fun x y => !ltE y x) (fun a b c => by
  simp only [Bool.not_eq_true', qyj]
  unfold LtE
  omega) (fun a b => by
  simp only [Bool.or_eq_true, Bool.not_eq_true', qyj]
  unfold LtE
  omega) S
 refine List.Pairwise.imp ?_ h
 intro a b h
 rwa [Bool.not_eq_true', qyj] at h
theorem q63 {S : List Edge} {x : Edge} : x ∈ sortE S ↔ x ∈ S := (List.mergeSort_perm _ _).mem_iff
theorem qsg (S : List Edge) : (sortE S).length = S.length := List.length_mergeSort _
theorem qyd {n : Nat} {ts : List T3} (hT : ∀ e ∈ ts, e.f < n ∧ e.t < n) : qfs n (qdf n (List.replicate (n * n) 0) ts) = ddE (sortE (ts.map toE)) :=
 Asc.ext (q1v n _).asc (zjl (zcr _)) fun x => by rw [q3n hT, zjk, q63]
end Go.Di
end
noncomputable section
namespace Go.Di
open Go.Ev
variable {C : Nat → Ev.Call}
abbrev ceE (S : List Edge) : List AV := S.flatMap Edge.cells
theorem cells3 (e : Edge) : e.cells.length = 3 := rfl
theorem qfv (S : List Edge) : (ceE S).length = S.length * 3 := by
 induction S with
 | nil => rfl
 | cons a S ih => unfold ceE at *; rw [List.flatMap_cons, List.length_append, ih, cells3, List.length_cons]; omega
theorem qub (q : Nat) (A Z : List AV) (S : List Edge) {i : Nat} (h : i < S.length) : qba (qaa q (A ++ ceE S ++ Z)) (A.length + i * 3) 3 = some S[i].cells := by
 have hl := qfv S
 rw [qdb, if_pos (by simp only [List.length_append]; omega), List.append_assoc, ← List.drop_drop, List.drop_left' rfl, List.drop_append_of_le_length (by omega), List.take_append_of_le_length (by rw [List.length_drop]; omega), qmx cells3 S i h]
theorem zjr (A Z : List AV) (e : Edge) : ∀ (S : List Edge) (i : Nat), i < S.length → setL (A ++ ceE S ++ Z) (A.length + i * 3) e.cells = A ++ ceE (S.set i e) ++ Z := by
 have core : ∀ (S : List Edge) (i : Nat), i < S.length → setL (ceE S ++ Z) (i * 3) e.cells = ceE (S.set i e) ++ Z := by
  intro S
  induction S with
  | nil => intro i h; simp at h
  | cons a S ih =>
   intro i h
   cases i with
   | zero => simp [setL, ceE, Edge.cells]
   | succ i =>
    have := ih i (by simpa using h)
    unfold ceE at *
    rw [List.set_cons_succ, List.flatMap_cons, List.flatMap_cons, List.append_assoc, List.append_assoc, ← this]
    unfold setL
    rw [show (i + 1) * 3 = a.cells.length + i * 3 by rw [cells3]; omega, List.take_length_add_append, List.append_assoc, List.append_assoc, List.append_assoc, Nat.add_assoc, List.drop_length_add_append]
 intro S i h
 rw [List.append_assoc, List.append_assoc, ← core S i h]
 unfold setL
 rw [List.take_length_add_append, Nat.add_assoc, List.drop_length_add_append]
 simp
theorem qks (neg : Bool) (x y : Edge) : qdy neg (qcd (eqFields [(p1, ⟨qkf⟩, 0), (p1, ⟨qkf⟩, 1), (p1, ⟨qet⟩, 2)]) (.agg x.cells) (.agg y.cells)) = .val (.bool (bif neg then !decide (x = y) else decide (x = y))) := by
 have e : qcd (eqFields [(p1, ⟨qkf⟩, 0), (p1, ⟨qkf⟩, 1), (p1, ⟨qet⟩, 2)]) (.agg x.cells) (.agg y.cells) = some (decide (x = y)) := by
  show andThen (some (eqI (.ofNat x.f) (.ofNat y.f))) (andThen (some (eqI (.ofNat x.t) (.ofNat y.t))) (andThen (some (x.s == y.s)) (some true))) = _
  obtain ⟨a, b, c⟩ := x
  obtain ⟨d, e, f⟩ := y
  simp only [qes, q0g]
  by_cases h1 : a = d
  ·by_cases h2 : b = e
   ·cases c <;> cases f <;> simp [andThen, h1, h2]
   ·simp [andThen, h1, h2]
  ·simp [andThen, h1]
 rw [e]; rfl
theorem q9z (n m i : Nat) (h : i ≤ n) (h2 : n ≤ m) : bounds n m (some (.int .i64 (.ofNat i))) none none = some ⟨i, n, m⟩ := by
 show (match (bif Nat.ble i n then some i else none) with | none => none | some l => some (Bd.mk l n m)) = _
 rw [ble_eq, decide_eq_true h]; rfl
theorem qzq (b o n i : Nat) (e : Bool) (h : i < n) : qbq 3 (.sl b o n n e) (some (.int .i64 (.ofNat i))) none none = .val (.sl b (o + i * 3) (n - i) (n - i) e) := by
 show (match bounds n n (some (.int .i64 (.ofNat i))) none none with | some bd => mkSl b o 3 bd e | none => R0.bad) = _
 rw [q9z _ _ _ (by omega) (Nat.le_refl _)]
 unfold mkSl
 simp only [beq_eq]
 rw [decide_eq_false (by omega)]; rfl
theorem zcs (b o n i : Nat) (e : Bool) (h : i ≤ n) (h0 : 0 < n) : qbq 3 (.sl b o n n e) none (some (.int .i64 (.ofNat i))) none = .val (.sl b o i n e) := by
 show (match bounds n n none (some (.int .i64 (.ofNat i))) none with | some bd => mkSl b o 3 bd e | none => R0.bad) = _
 rw [quf _ _ _ h]
 unfold mkSl
 simp only [beq_eq]
 rw [decide_eq_false (by omega), cond_false]
 show R0.val (.sl b (o + 0 * 3) (i - 0) (n - 0) e) = _
 rw [Nat.zero_mul, Nat.add_zero, Nat.sub_zero, Nat.sub_zero]
structure CpO (H : Hp) (b q : Nat) (A : List AV) (l : List Edge) (w : AV) (e : Bool) (H' : Hp) : Prop where
 is : ∃ m Z, w = .sl b A.length l.length m e ∧ l.length ≤ m ∧ 0 < m ∧ H'.get b = qaa q (A ++ ceE l ++ Z)
 fm : Fm (· = b) H H'
 nx : H'.nx = H.nx
theorem qt8 {call : Ev.Call} {H0 : Hp} {b q k0 : Nat} {A : List AV} {S : List Edge} {e : Bool} (hb : b < H0.nx) (hk0 : 0 < k0 ∧ k0 < S.length) (hn : S.length < 900000) {Q : AV → Hp → Prop} {qe : AV → Hp → R1}
  (hq : ∀ H cur, cur.length = S.length → H.get b = qaa q (A ++ ceE cur ++ []) → cur.take (ddE S).length = ddE S → (ddE S).length < S.length → 0 < (ddE S).length → Fm (· = b) H0 H → H.nx = H0.nx → Ok (qe (.int .i64 (.ofNat (ddE S).length)) H) Q) :
  ∀ (k k2 : Nat) (H : Hp) (cur : List Edge), 1 ≤ k2 → k0 + k2 ≤ S.length → S.length - (k0 + k2) < k → cur.length = S.length → H.get b = qaa q (A ++ ceE cur ++ []) → (∀ p (h : p < S.length) (h' : p < cur.length), k0 + k2 - 1 ≤ p → cur[p] = S[p]) →
   cur.take (ddN S (k0 + k2)).length = ddN S (k0 + k2) → (ddN S (k0 + k2)).length < k0 + k2 → 0 < (ddN S (k0 + k2)).length → Fm (· = b) H0 H → H.nx = H0.nx →
   Ok (qhi call qe (.sl b A.length S.length S.length e) (.sl b (A.length + k0 * 3) (S.length - k0) (S.length - k0) e) k (.int .i64 (.ofNat (ddN S (k0 + k2)).length)) (.int .i64 (.ofNat k2)) H) Q
 | 0, k2, _, _, _, _, h, _, _, _, _, _, _, _, _ => by omega
 | k + 1, k2, H, cur, h1, h2, h3, hc, hg, hp, ht, hl, h0, hf, hx => by
  show Ok (qu2 call _ _ _ (qhi call _ _ _ k) _ _ H) Q
  unfold qu2
  obtain ⟨k01, k02⟩ := hk0
  by_cases hlt : k0 + k2 < S.length
  ·have hlt' : k2 < S.length - k0 := by omega
   have hlt2 : k2 - 1 < S.length - k0 := by omega
   simp (disch := first | omega | exact ti rfl | (simp only [np, nq]; first | done | omega)) only [go_sem, reduceAdd, reduceMul, reduceSub, reduceLeDiff, reduceEqDiff, reduceShiftRight, reduceAnd, hlt']
   unfold qu1
   have r1 := qub q A [] cur (i := k0 + k2) (by omega)
   have r2 := qub q A [] cur (i := k0 + k2 - 1) (by omega)
   rw [hp (k0 + k2) hlt (by omega) (by omega)] at r1
   rw [hp (k0 + k2 - 1) (by omega) (by omega) (by omega)] at r2
   rw [show A.length + (k0 + k2) * 3 = A.length + k0 * 3 + k2 * 3 by omega] at r1
   rw [show A.length + (k0 + k2 - 1) * 3 = A.length + k0 * 3 + (k2 - 1) * 3 by omega] at r2
   rw [List.append_nil] at r1 r2
   have hg' : H.get b = qaa q (A ++ ceE cur) := by rw [hg, List.append_nil]
   have hsucc := qru S hlt
   have next : ∀ (H' : Hp) (cur' : List Edge) (i' : Nat), i' = (ddN S (k0 + k2 + 1)).length → cur'.length = S.length → H'.get b = qaa q (A ++ ceE cur' ++ []) → (∀ p (h : p < S.length) (h' : p < cur'.length), k0 + (k2 + 1) - 1 ≤ p → cur'[p] = S[p]) →
     cur'.take (ddN S (k0 + (k2 + 1))).length = ddN S (k0 + (k2 + 1)) → (ddN S (k0 + (k2 + 1))).length < k0 + (k2 + 1) → 0 < (ddN S (k0 + (k2 + 1))).length → Fm (· = b) H0 H' → H'.nx = H0.nx →
     Ok (qk5 call (qhi call qe (.sl b A.length S.length S.length e) (.sl b (A.length + k0 * 3) (S.length - k0) (S.length - k0) e) k) (.int .i64 (.ofNat i')) (.int .i64 (.ofNat k2)) H') Q := fun H' cur' i' hi' a1 a2 a3 a4 a5 a6 a7 a8 => by
    subst hi'
    unfold qk5
    simp (disch := first | omega | exact ti rfl | (simp only [np, nq]; first | done | omega)) only [go_sem, reduceAdd, reduceMul, reduceSub, reduceLeDiff, reduceEqDiff, reduceShiftRight, reduceAnd]
    exact qt8 hb ⟨k01, k02⟩ hn hq k (k2 + 1) H' cur' (by omega) (by omega) (by omega) a1 a2 a3 a4 a5 a6 a7 a8
   have hke : qjn S (k0 + k2) = !decide (S[k0 + k2] = S[k0 + k2 - 1]) := by
    unfold qjn
    rw [decide_eq_false (show ¬ k0 + k2 = 0 by omega), Bool.false_or, List.getElem?_eq_getElem hlt, List.getElem?_eq_getElem (by omega)]
    congr 1
    exact decide_eq_decide.2 ⟨fun h => Option.some.inj h, fun h => by rw [h]⟩
   by_cases hd : S[k0 + k2] = S[k0 + k2 - 1]
   ·have hdt := eq_true hd
    rw [hke, decide_eq_true hd] at hsucc
    rw [show ddN S (k0 + k2) ++ (if (!true) = true then [S[k0 + k2]] else []) = ddN S (k0 + k2) by simp] at hsucc
    simp (disch := first | omega | exact ti rfl | (simp only [np, nq]; first | done | omega)) only [go_sem, reduceAdd, reduceMul, reduceSub, reduceLeDiff, reduceEqDiff, reduceShiftRight, reduceAnd, hlt', hlt2, hg', r1, r2, qks, hdt]
    exact next H cur _ (by rw [hsucc]) hc hg (fun p a b c => hp p a b (by omega)) (by rw [← Nat.add_assoc, hsucc]; exact ht) (by rw [← Nat.add_assoc, hsucc]; omega) (by rw [← Nat.add_assoc, hsucc]; exact h0) hf hx
   ·rw [hke, decide_eq_false hd] at hsucc
    rw [show ddN S (k0 + k2) ++ (if (!false) = true then [S[k0 + k2]] else []) = ddN S (k0 + k2) ++ [S[k0 + k2]] by simp] at hsucc
    have hil : (ddN S (k0 + k2)).length < S.length := by omega
    have hle := eq_true (show A.length + (ddN S (k0 + k2)).length * 3 + S[k0 + k2].cells.length ≤ (A ++ ceE cur).length by
     have := qfv cur
     rw [List.length_append, cells3]; omega)
    have hset := zjr A [] S[k0 + k2] cur (ddN S (k0 + k2)).length (by omega)
    rw [List.append_nil, List.append_nil] at hset
    have hc3 : S[k0 + k2].cells.length = 3 := rfl
    simp (disch := first | omega | exact ti rfl | (simp only [np, nq]; first | done | omega)) only [go_sem, reduceAdd, reduceMul, reduceSub, reduceLeDiff, reduceEqDiff, reduceShiftRight, reduceAnd, hlt', hlt2, hg', r1, r2, qks, hd, hil, qzm, hc3]
    rw [hc3] at hle
    simp (disch := first | omega | exact ti rfl | (simp only [np, nq]; first | done | omega)) only [go_sem, reduceAdd, reduceMul, reduceSub, reduceLeDiff, reduceEqDiff, reduceShiftRight, reduceAnd, hle, hset]
    have hcl : (cur.set (ddN S (k0 + k2)).length S[k0 + k2]).length = S.length := by rw [List.length_set, hc]
    have hl1 : (ddN S (k0 + k2 + 1)).length = (ddN S (k0 + k2)).length + 1 := by rw [hsucc]; simp
    refine next _ (cur.set (ddN S (k0 + k2)).length S[k0 + k2]) _ hl1.symm hcl ?_ (fun p a b c => ?_) ?_ ?_ ?_ (hf.put _ _ fun _ => rfl) hx
    ·rw [List.append_nil]; exact qam _ _ _
    ·rw [List.getElem_set_ne (by omega)]
     exact hp p a (by omega) (by omega)
    ·rw [← Nat.add_assoc, hl1, hsucc]
     have hlc : (ddN S (k0 + k2)).length < cur.length := by omega
     rw [List.take_succ_eq_append_getElem (by omega), List.take_set_of_le (Nat.le_refl _), ht, List.getElem_set_self]
    ·rw [← Nat.add_assoc, hl1]; omega
    ·rw [← Nat.add_assoc, hl1]; omega
  ·have he : k0 + k2 = S.length := by omega
   have hlt' : ¬ k2 < S.length - k0 := by omega
   simp (disch := first | omega | exact ti rfl | (simp only [np, nq]; first | done | omega)) only [go_sem, reduceAdd, reduceMul, reduceSub, reduceLeDiff, reduceEqDiff, reduceShiftRight, reduceAnd, hlt']
   rw [he] at ht hl h0 ⊢
   exact hq H cur hc hg ht hl h0 hf hx
end Go.Di
end
noncomputable section
namespace Go.Di
open Go.Ev
variable {C : Nat → Ev.Call}
theorem qrv {S : List Edge} : ∀ {m : Nat}, m ≤ S.length → (∀ i, i < m → qjn S i = true) → ddN S m = S.take m
 | 0, _, _ => rfl
 | m + 1, h, hk => by
  rw [qru S h, qrv (by omega) fun i hi => hk i (by omega), hk m (by omega), List.take_succ_eq_append_getElem h]; rfl
theorem q12 {call : Ev.Call} {H0 : Hp} {b q : Nat} {A : List AV} {S : List Edge} {e : Bool} (hb : b < H0.nx) (hn : S.length < 900000) (hg : H0.get b = qaa q (A ++ ceE S ++ [])) {Q : AV → Hp → Prop} {qe : Hp → R1} {qr : AV → Hp → R1}
  (hr : ∀ w H, CpO H0 b q A (ddE S) w e H → Ok (qr w H) Q) (hq : ddE S = S → Ok (qe H0) Q) :
  ∀ (k i : Nat), 0 < i → i ≤ S.length → S.length - i < k → (∀ p, p < i → qjn S p = true) → Ok (qnw call qr qe (.sl b A.length S.length S.length e) k (.int .i64 (.ofNat i)) H0) Q
 | 0, i, _, _, h, _ => by omega
 | k + 1, i, h0, hi, hk, hp => by
  show Ok (q5b call _ _ _ (qnw call _ _ _ k) _ H0) Q
  unfold q5b
  by_cases hlt : i < S.length
  ·have hlt2 : i - 1 < S.length := by omega
   simp (disch := first | omega | exact ti rfl | (simp only [np, nq]; first | done | omega)) only [go_sem, reduceAdd, reduceMul, reduceSub, reduceLeDiff, reduceEqDiff, reduceShiftRight, reduceAnd, hlt]
   unfold qu0
   have r1 := qub q A [] S hlt
   have r2 := qub q A [] S hlt2
   rw [List.append_nil] at r1 r2
   have hg' : H0.get b = qaa q (A ++ ceE S) := by rw [hg, List.append_nil]
   have hke : qjn S i = !decide (S[i] = S[i - 1]) := by
    unfold qjn
    rw [decide_eq_false (show ¬ i = 0 by omega), Bool.false_or, List.getElem?_eq_getElem hlt, List.getElem?_eq_getElem hlt2]
    congr 1
    exact decide_eq_decide.2 ⟨fun h => Option.some.inj h, fun h => by rw [h]⟩
   by_cases hd : S[i] = S[i - 1]
   ·have hdt := eq_true hd
    have hsl := qzq b A.length S.length i e hlt
    rw [decide_eq_true hd] at hke
    have hsucc := qru S hlt
    rw [hke] at hsucc
    have hall := qrv (Nat.le_of_lt hlt) hp
    have hdd : ddN S (i + 1) = S.take i := by rw [hsucc, hall]; simp
    have hl1 : (ddN S (i + 1)).length = i := by rw [hdd, List.length_take]; omega
    simp (disch := first | omega | exact ti rfl | (simp only [np, nq]; first | done | omega)) only [go_sem, reduceAdd, reduceMul, reduceSub, reduceLeDiff, reduceEqDiff, reduceShiftRight, reduceAnd, hlt, hlt2, hg', r1, r2, qks, hdt, hsl]
    unfold qu3
    rw [qan]
    have main := qt8 (call := call) (Q := Q) (e := e) (qe := fun x3 H => qf0 call qr (.sl b A.length S.length S.length e) x3 H) hb (k0 := i) (S := S) (A := A) (q := q) ⟨h0, hlt⟩ hn (fun H cur hc hgc ht hl hp0 f hx => by
     unfold qf0
     have s1 := qzq b A.length S.length (ddE S).length e hl
     have s2 := zcs b A.length S.length (ddE S).length e (by omega) (by omega)
     have hz : ¬ S.length - (ddE S).length = 0 := by omega
     have hcl : qm7 [.int .i64 (.ofNat 0), .int .i64 (.ofNat 0), .bool false] H (.sl b (A.length + (ddE S).length * 3) (S.length - (ddE S).length) (S.length - (ddE S).length) e) = .ok .undef (H.put b (qaa q (A ++ ceE (ddE S) ++ reps [.int .i64 (.ofNat 0), .int .i64 (.ofNat 0), .bool false] (S.length - (ddE S).length)))) := by
      show (bif Nat.beq (S.length - (ddE S).length) 0 then _ else storeAt H b (A.length + (ddE S).length * 3) (reps [.int .i64 (.ofNat 0), .int .i64 (.ofNat 0), .bool false] (S.length - (ddE S).length)) .undef) = _
      rw [beq_eq, decide_eq_false hz, cond_false]
      have hrl : ∀ n, (reps [AV.int .i64 (.ofNat 0), .int .i64 (.ofNat 0), .bool false] n).length = n * 3 := fun n => by
       induction n with
       | zero => rfl
       | succ n ih => show (_ ++ reps _ n).length = _; rw [List.length_append, ih]; simp; omega
      have hcn := qfv cur
      have hcn2 := qfv (ddE S)
      have hsplit : ceE cur = ceE (ddE S) ++ ceE (cur.drop (ddE S).length) := by
       unfold ceE
       rw [← List.flatMap_append]
       congr 1
       conv => lhs; rw [← List.take_append_drop (ddE S).length cur, ht]
      rw [qjd H b _ _ _ q _ hgc (by rw [List.length_append, List.length_append, hrl, List.length_nil]; omega)]
      congr 3
      unfold setL
      rw [hsplit, List.append_nil, ← List.append_assoc, List.take_left' (by rw [List.length_append]; omega), hrl]
      rw [List.drop_eq_nil_of_le (by rw [List.length_append, List.length_append, qfv, qfv, List.length_drop]; omega), List.append_nil]
     simp (disch := first | omega | exact ti rfl | (simp only [np, nq]; first | done | omega)) only [go_sem, reduceAdd, reduceMul, reduceSub, reduceLeDiff, reduceEqDiff, reduceShiftRight, reduceAnd, s1, hcl, s2]
     exact hr _ _ ⟨⟨S.length, _, rfl, by omega, by omega, qam _ _ _⟩, f.put _ _ fun _ => rfl, hx⟩) qak 1 H0 S (Nat.le_refl _) (by omega) (by rw [qaf]; omega) rfl hg (fun _ _ _ _ => rfl) (by rw [hl1, hdd]) (by omega) (by omega) (Fm.refl _ _) rfl
    rw [hl1] at main
    exact main
   ·rw [decide_eq_false hd] at hke
    simp (disch := first | omega | exact ti rfl | (simp only [np, nq]; first | done | omega)) only [go_sem, reduceAdd, reduceMul, reduceSub, reduceLeDiff, reduceEqDiff, reduceShiftRight, reduceAnd, hlt, hlt2, hg', r1, r2, qks, hd]
    unfold q49
    simp (disch := first | omega | exact ti rfl | (simp only [np, nq]; first | done | omega)) only [go_sem, reduceAdd, reduceMul, reduceSub, reduceLeDiff, reduceEqDiff, reduceShiftRight, reduceAnd]
    refine q12 hb hn hg hr hq k (i + 1) (by omega) (by omega) (by omega) fun p hpi => ?_
    by_cases he : p = i
    ·subst he; rw [hke]; rfl
    ·exact hp p (by omega)
  ·simp (disch := first | omega | exact ti rfl | (simp only [np, nq]; first | done | omega)) only [go_sem, reduceAdd, reduceMul, reduceSub, reduceLeDiff, reduceEqDiff, reduceShiftRight, reduceAnd, hlt]
   have he : i = S.length := by omega
   refine hq ?_
   have := qrv (Nat.le_refl S.length) fun p hpi => hp p (by omega)
   rw [List.take_length] at this
   exact this
theorem q4e (hC : qav C) {k : Nat} (hk : 1 ≤ k) {H : Hp} {b q : Nat} {A : List AV} {S : List Edge} {e : Bool} (hb : b < H.nx) (hn : S.length < 900000) (h0 : 0 < S.length) (hg : H.get b = qaa q (A ++ ceE S ++ [])) :
  Ok (C k (.f qpc) [.sl b A.length S.length S.length e] H) fun w H' => CpO H b q A (ddE S) w e H' := by
 obtain ⟨j, rfl⟩ : ∃ j, k = j + 1 := ⟨k - 1, by omega⟩
 rw [(hC j).zBo]
 unfold zBo q5a
 have same : ddE S = S → CpO H b q A (ddE S) (.sl b A.length S.length S.length e) e H := fun h => by
  rw [h]
  exact ⟨⟨S.length, [], rfl, Nat.le_refl _, h0, hg⟩, Fm.refl _ _, rfl⟩
 have k0 : qjn S 0 = true := rfl
 by_cases h : S.length < 2
 ·simp (disch := first | omega | exact ti rfl | (simp only [np, nq]; first | done | omega)) only [go_sem, reduceAdd, reduceMul, reduceSub, reduceLeDiff, reduceEqDiff, reduceShiftRight, reduceAnd, h]
  refine Ok.ret (same ?_)
  have := qrv (S := S) (Nat.le_refl S.length) fun p hp => by
   obtain rfl : p = 0 := by omega
   exact k0
  rw [List.take_length] at this
  exact this
 ·simp (disch := first | omega | exact ti rfl | (simp only [np, nq]; first | done | omega)) only [go_sem, reduceAdd, reduceMul, reduceSub, reduceLeDiff, reduceEqDiff, reduceShiftRight, reduceAnd, h]
  unfold quz q5c
  rw [qan]
  refine q12 hb hn hg (fun w H' h => Ok.ret h) (fun h => ?_) qak 1 (by omega) (by omega) (by rw [qaf]; omega) (fun p hp => by
   obtain rfl : p = 0 := by omega
   exact k0)
  unfold qk6
  exact Ok.ret (same h)
end Go.Di
end
noncomputable section
namespace Go.Di
open Go.Ev
variable {C : Nat → Ev.Call}
structure LnkS (c : Ev.Call) : Prop where
 srt : ∀ (H : Hp) (v : AV) (es : List Edge), Gl 3 H v es.length (ceE es) → es.length ≤ 1000000 → Ok (c (.f q8u) [v, .fn qmq [] []] H) fun r H' => r = .tup [] ∧ Gl 3 H' v es.length (ceE (sortE es)) ∧ Fm (In v) H H'
abbrev q19 (C : Nat → Ev.Call) : Prop := ∀ k, LnkS (C (k + 1))
theorem q2a (hC : qav C) {k : Nat} (hk : 1 ≤ k) {H : Hp} {b o n m : Nat} {e : Bool} (hnm : n ≤ m) :
  C k (.f qto) [.sl b o n m e] H = .ok (.sl b o n n true) H := by
 obtain ⟨j, rfl⟩ : ∃ j, k = j + 1 := ⟨k - 1, by omega⟩
 rw [(hC j).zBp]
 unfold zBp zbc
 have e1 : qbq 3 (.sl b o n m e) none (some (.int .i64 (.ofNat n))) (some (.int .i64 (.ofNat n))) = .val (.sl b o n n true) := by
  show (match bounds n m none (some (.int .i64 (.ofNat n))) (some (.int .i64 (.ofNat n))) with | some bd => mkSl b o 3 bd true | none => R0.bad) = _
  have : bounds n m none (some (.int .i64 (.ofNat n))) (some (.int .i64 (.ofNat n))) = some ⟨0, n, n⟩ := by
   show (match (bif Nat.ble n m then some n else none) with | none => none | some m' => match (bif Nat.ble n m' then some n else none) with | none => none | some h => match (some 0 : Option Nat) with | none => none | some l => some (Bd.mk l h m')) = _
   rw [ble_eq, decide_eq_true hnm]
   simp only [cond_true, ble_eq, decide_eq_true (Nat.le_refl n)]
  rw [this]
  unfold mkSl
  simp only [beq_eq]
  by_cases hn : n = 0
  ·subst hn; rfl
  ·rw [decide_eq_false hn, cond_false]
   show R0.val (.sl b (o + 0 * 3) (n - 0) (n - 0) true) = _
   rw [Nat.zero_mul, Nat.add_zero, Nat.sub_zero]
 simp (disch := first | omega | exact ti rfl | (simp only [np, nq]; first | done | omega)) only [go_sem, reduceAdd, reduceMul, reduceSub, reduceLeDiff, reduceEqDiff, reduceShiftRight, reduceAnd, e1]
theorem zaf (hC : qav C) {k : Nat} (hk : 1 ≤ k) {H : Hp} : C k (.f qto) [.nilsl] H = .ok .nilsl H := by
 obtain ⟨j, rfl⟩ : ∃ j, k = j + 1 := ⟨k - 1, by omega⟩
 rw [(hC j).zBp]
 unfold zBp zbc
 have e1 : qbq 3 .nilsl none (some (.int .i64 (.ofNat 0))) (some (.int .i64 (.ofNat 0))) = .val .nilsl := rfl
 simp (disch := first | omega | exact ti rfl | (simp only [np, nq]; first | done | omega)) only [go_sem, reduceAdd, reduceMul, reduceSub, reduceLeDiff, reduceEqDiff, reduceShiftRight, reduceAnd, e1]
theorem q27 (hC : qav C) (hS : q19 C) {k : Nat} (hk : 2 ≤ k) {H : Hp} {v : AV} {es : List Edge} (hv : Gl 3 H v es.length (ceE es)) (hn : es.length < 900000) :
  Ok (C k (.f q07) [v] H) fun w H' => IsE H' w (ddE (sortE es)) ∧ capV w = .val (.int .i64 (.ofNat (ddE (sortE es)).length)) ∧ Fm (In v) H H' ∧ (w = .nilsl ∨ ∃ b o n m e, w = .sl b o n m e) ∧ ∀ c, In w c → In v c := by
 obtain ⟨j, rfl⟩ : ∃ j, k = j + 1 + 1 := ⟨k - 2, by omega⟩
 rw [(hC (j + 1)).zAz]
 unfold zAz zgs
 refine Ok.ve ((hS j).srt H v es hv (by omega)) ?_
 rintro _ H1 ⟨rfl, g1, f1⟩
 rcases g1.is with ⟨rfl, h0⟩ | ⟨b, o, e, q, L, rfl, h1, h2, h3, h4, h5⟩
 ·have hes : es = [] := List.length_eq_zero_iff.1 h0
  subst hes
  have hcp : C (j + 1) (.f qpc) [.nilsl] H1 = .ok .nilsl H1 := by
   rw [(hC j).zBo]
   unfold zBo q5a
   have h02 := eq_true (show (0 : Nat) < 2 by decide)
   simp (disch := first | omega | exact ti rfl | (simp only [np, nq]; first | done | omega)) only [go_sem, reduceAdd, reduceMul, reduceSub, reduceLeDiff, reduceEqDiff, reduceShiftRight, reduceAnd, h02]
  have hcl := zaf hC (k := j + 1) (by omega) (H := H1)
  simp (disch := first | omega | exact ti rfl | (simp only [np, nq]; first | done | omega)) only [go_sem, reduceAdd, reduceMul, reduceSub, reduceLeDiff, reduceEqDiff, reduceShiftRight, reduceAnd, hcp, hcl]
  have hz : ddE (sortE []) = [] := by simp [ddE, ddN, sortE]
  rw [hz]
  exact Ok.ret ⟨⟨rfl, rfl, (fun b hb => by obtain ⟨_, _, _, _, h⟩ := hb; cases h), (fun i hi => by simp at hi)⟩, rfl, f1, .inl rfl, fun _ h => h⟩
 ·by_cases h0 : 0 < es.length
  ·have hA : L = L.take o ++ ceE (sortE es) ++ [] := by rw [← h3, List.take_append_drop, List.append_nil]
   have hAl : (L.take o).length = o := by rw [List.length_take]; omega
   have hsl := qsg es
   have hcp := q4e hC (k := j + 1) (by omega) (H := H1) (b := b) (q := q) (A := L.take o) (S := sortE es) (e := e) h5 (by omega) (by omega) (by rw [← hA]; exact h1)
   rw [hAl, hsl] at hcp
   refine Ok.ve hcp ?_
   rintro w H2 hw
   obtain ⟨m, Z, rfl, hm, hm0, hg2⟩ := hw.is
   have hcl := q2a hC (k := j + 1) (by omega) (H := H2) (b := b) (o := (L.take o).length) (e := e) hm
   simp (disch := first | omega | exact ti rfl | (simp only [np, nq]; first | done | omega)) only [go_sem, reduceAdd, reduceMul, reduceSub, reduceLeDiff, reduceEqDiff, reduceShiftRight, reduceAnd, hcl]
   have hx := hw.nx
   refine Ok.ret ⟨⟨rfl, rfl, fun c hc => ?_, fun i hi => ⟨b, (L.take o).length + i * 3, qg8 _ _ _ _ _ _ _ _ hi, by omega, ?_⟩⟩, rfl, ?_, .inr ⟨_, _, _, _, _, rfl⟩, fun c hc => by
    obtain ⟨_, _, _, _, hc⟩ := hc
    injection hc with hc
    subst hc
    exact ⟨_, _, _, _, rfl⟩⟩
   ·obtain ⟨_, _, _, _, hc⟩ := hc
    injection hc with hc
    omega
   ·rw [hg2]; exact qub q _ _ _ hi
   ·exact f1.then hw.fm fun c _ h => by subst h; exact ⟨_, _, _, _, rfl⟩
  ·have hes : es = [] := List.length_eq_zero_iff.1 (by omega)
   subst hes
   have hcp : C (j + 1) (.f qpc) [.sl b o 0 0 e] H1 = .ok (.sl b o 0 0 e) H1 := by
    rw [(hC j).zBo]
    unfold zBo q5a
    have h02 := eq_true (show (0 : Nat) < 2 by decide)
    simp (disch := first | omega | exact ti rfl | (simp only [np, nq]; first | done | omega)) only [go_sem, reduceAdd, reduceMul, reduceSub, reduceLeDiff, reduceEqDiff, reduceShiftRight, reduceAnd, h02]
   have hcl := q2a hC (k := j + 1) (by omega) (H := H1) (b := b) (o := o) (n := 0) (m := 0) (e := e) (Nat.le_refl _)
   simp (disch := first | omega | exact ti rfl | (simp only [np, nq]; first | done | omega)) only [go_sem, reduceAdd, reduceMul, reduceSub, reduceLeDiff, reduceEqDiff, reduceShiftRight, reduceAnd, hcp, hcl]
   have hz : ddE (sortE []) = [] := by simp [ddE, ddN, sortE]
   rw [hz]
   exact Ok.ret ⟨⟨rfl, rfl, (fun c hc => by obtain ⟨_, _, _, _, h⟩ := hc; injection h with h; omega), (fun i hi => by simp at hi)⟩, rfl, f1, .inr ⟨_, _, _, _, _, rfl⟩, fun c hc => by
    obtain ⟨_, _, _, _, hc⟩ := hc
    injection hc with hc
    subst hc
    exact ⟨_, _, _, _, rfl⟩⟩
structure NbI (H0 H : Hp) (nb mb : Nat) (ps : List (SS × SS)) : Prop where
 n : H.get nb = qaa 0 [.map mb]
 m : MapP H mb ps
 o : H0.nx ≤ mb ∧ mb < nb ∧ nb < H.nx
 fm : Fm No H0 H
theorem qo2 {call : Ev.Call} {H0 : Hp} {sv : AV} {nb mb pb : Nat} {X : List SpG} (hX : SchR H0 sv X) (hN : (allG X).Nodup) (hP : PrX X) {s : Nat} (hs : s < X.length) {Q : AV → Hp → Prop} {q : Hp → R1}
  (hq : ∀ H, NbI H0 H nb mb ((preR X s ++ X[s].gs.map fun x => (X[s].name, x)).map kq) → Ok (q H) Q) :
  ∀ (k i : Nat) (H : Hp), i ≤ X[s].gs.length → X[s].gs.length - i < k → NbI H0 H nb mb ((preR X s ++ (X[s].gs.take i).map fun x => (X[s].name, x)).map kq) → H.get pb = qaa 0 [.str X[s].name.n X[s].name.a, X[s].rv] → nb < pb → pb < H.nx →
   Ok (qgo call q (.ptr nb 0) (.ptr pb 0) X[s].rv (.int .i64 (.ofNat X[s].gs.length)) k (.int .i64 (.ofNat i)) H) Q
 | 0, i, _, _, h, _, _, _, _ => by omega
 | k + 1, i, H, hi, hk, hI, hp, hpn, hpl => by
  show Ok (qqc call _ _ _ _ _ (qgo call _ _ _ _ _ k) _ H) Q
  unfold qqc
  obtain ⟨o1, o2, o3⟩ := hI.o
  by_cases hlt : i < X[s].gs.length
  ·simp (disch := first | omega | exact ti rfl | (simp only [np, nq]; first | done | omega)) only [go_sem, reduceAdd, reduceMul, reduceSub, reduceLeDiff, reduceEqDiff, reduceShiftRight, reduceAnd, hlt]
   unfold qp6
   have h1 := hX.fm hI.fm
   have hsp := h1.sp _ (List.getElem_mem hs)
   obtain ⟨b1, o1', e1, e2, _, _, _, e6⟩ := hsp.at' i hlt
   obtain ⟨c0, c1, c2, c3, _, hrc⟩ := qq5 (hsp.rel _ (List.getElem_mem hlt))
   rw [hrc] at e6
   have hl16 := (hP.r _ (List.getElem_mem hs)).1
   obtain ⟨H1, hH1⟩ : ∃ H1, H1 = (qal H (qaa 0 [.str 0 0, .nilsl, .int .u8 (.ofNat 0), .str 0 0, .str 0 0, .nilsl])).put H.nx (qaa 0 [.str X[s].gs[i].r.name.n X[s].gs[i].r.name.a, X[s].gs[i].tv, c0, c1, c2, c3]) := ⟨_, rfl⟩
   have fp : Fm No H H1 := by rw [hH1]; (repeat (first | exact Fm.refl _ _ | assumption | refine Fm.push ?_ _ | refine Fm.up2 ?_ (by (first | omega | (simp only [np, nq]; omega))) | refine Fm.put_new ?_ _ _ (by (first | omega | (simp only [np, nq]; omega)))))
   have n1 : H1.nx = H.nx + 1 := by rw [hH1]; rfl
   have k0 : H1.get H.nx = qaa 0 [.str X[s].gs[i].r.name.n X[s].gs[i].r.name.a, X[s].gs[i].tv, c0, c1, c2, c3] := by rw [hH1]; exact qam _ _ _
   have k1 := (fp.keep o3).trans hI.n
   have k2 := (fp.keep hpl).trans hp
   have m1 : MapP H1 mb ((preR X s ++ (X[s].gs.take i).map fun x => (X[s].name, x)).map kq) := hI.m.eq (fp.keep (by omega))
   obtain ⟨kk, eu, mu⟩ := m1.putA X[s].name X[s].gs[i].r.name (q0a hN hs hlt)
   have hlm := m1.len
   have hn0 := hI.n
   rw [hH1, List.length_map] at hlm eu
   simp (disch := first | omega | exact ti rfl | (simp only [np, nq]; first | done | omega)) only [go_sem, reduceAdd, reduceMul, reduceSub, reduceLeDiff, reduceEqDiff, reduceShiftRight, reduceAnd, e1, e6, hn0, hp, hlm, eu]
   rw [← hH1]
   unfold qp7
   simp (disch := first | omega | exact ti rfl | (simp only [np, nq]; first | done | omega)) only [go_sem, reduceAdd, reduceMul, reduceSub, reduceLeDiff, reduceEqDiff, reduceShiftRight, reduceAnd]
   refine qo2 hX hN hP hs hq k (i + 1) (H1.put mb kk) (by omega) (by omega) ⟨?_, ?_, ⟨o1, o2, show nb < H1.nx by omega⟩, (hI.fm.trans fp).put_new _ _ o1⟩ ?_ hpn (show pb < H1.nx by omega)
   ·rw [qat _ _ _ _ (by omega)]; exact k1
   ·have hx : (preR X s ++ (X[s].gs.take (i + 1)).map fun x => (X[s].name, x)).map kq = (preR X s ++ (X[s].gs.take i).map fun x => (X[s].name, x)).map kq ++ [(X[s].name, X[s].gs[i].r.name)] := by
     have h1 : ((X[s].gs.take (i + 1)).map fun x => (X[s].name, x)) = ((X[s].gs.take i).map fun x => (X[s].name, x)) ++ [(X[s].name, X[s].gs[i])] := by
      rw [List.take_succ_eq_append_getElem hlt, List.map_append]; rfl
     rw [h1, ← List.append_assoc, List.map_append]; rfl
    rw [hx]
    exact mu
   ·rw [qat _ _ _ _ (by omega)]; exact k2
  ·simp (disch := first | omega | exact ti rfl | (simp only [np, nq]; first | done | omega)) only [go_sem, reduceAdd, reduceMul, reduceSub, reduceLeDiff, reduceEqDiff, reduceShiftRight, reduceAnd, hlt]
   have he : i = X[s].gs.length := by omega
   rw [he, List.take_length] at hI
   exact hq H hI
theorem qo3 {call : Ev.Call} {H0 : Hp} {sv : AV} {nb mb : Nat} {X : List SpG} (hX : SchR H0 sv X) (hN : (allG X).Nodup) (hP : PrX X) {Q : AV → Hp → Prop} {q : Hp → R1}
  (hq : ∀ H, NbI H0 H nb mb (allG X) → Ok (q H) Q) :
  ∀ (k s : Nat) (H : Hp), s ≤ X.length → X.length - s < k → NbI H0 H nb mb ((preR X s).map kq) →
   Ok (qcy call q (.ptr nb 0) sv (.int .i64 (.ofNat X.length)) k (.int .i64 (.ofNat s)) H) Q
 | 0, i, _, _, h, _ => by omega
 | k + 1, s, H, hi, hk, hI => by
  show Ok (qqd call _ _ _ _ (qcy call _ _ _ _ k) _ H) Q
  unfold qqd
  obtain ⟨o1, o2, o3⟩ := hI.o
  have hn := hP.n
  by_cases hlt : s < X.length
  ·simp (disch := first | omega | exact ti rfl | (simp only [np, nq]; first | done | omega)) only [go_sem, reduceAdd, reduceMul, reduceSub, reduceLeDiff, reduceEqDiff, reduceShiftRight, reduceAnd, hlt]
   unfold qp5
   have h1 := hX.fm hI.fm
   obtain ⟨b1, o1', e1, e2, _, e3, _⟩ := h1.rs.at' s hlt
   unfold spC SS.v at e3
   have hl := (h1.sp _ (List.getElem_mem hlt)).len
   have hl16 := (hP.r _ (List.getElem_mem hlt)).1
   have fp : Fm No H ((qal H (qaa 0 [.str 0 0, .nilsl])).put H.nx (qaa 0 [.str X[s].name.n X[s].name.a, X[s].rv])) := by (repeat (first | exact Fm.refl _ _ | assumption | refine Fm.push ?_ _ | refine Fm.up2 ?_ (by (first | omega | (simp only [np, nq]; omega))) | refine Fm.put_new ?_ _ _ (by (first | omega | (simp only [np, nq]; omega)))))
   simp (disch := first | omega | exact ti rfl | (simp only [np, nq]; first | done | omega)) only [go_sem, reduceAdd, reduceMul, reduceSub, reduceLeDiff, reduceEqDiff, reduceShiftRight, reduceAnd, e1, e3, hl]
   unfold qqe
   rw [qan]
   refine qo2 hX hN hP hlt (pb := H.nx) (fun H2 hI2 => ?_) qak 0 _ (Nat.zero_le _) (by rw [qaf]; omega) ⟨(fp.keep o3).trans hI.n, ?_, ⟨o1, o2, by (first | omega | (simp only [np, nq]; omega))⟩, hI.fm.trans fp⟩ (qam _ _ _) o3 (by (first | omega | (simp only [np, nq]; omega)))
   ·unfold qe2
    simp (disch := first | omega | exact ti rfl | (simp only [np, nq]; first | done | omega)) only [go_sem, reduceAdd, reduceMul, reduceSub, reduceLeDiff, reduceEqDiff, reduceShiftRight, reduceAnd]
    refine qo3 hX hN hP hq k (s + 1) H2 (by omega) (by omega) ?_
    have hx : preR X (s + 1) = preR X s ++ X[s].gs.map fun x => (X[s].name, x) := by
     unfold preR qa5
     rw [List.take_succ_eq_append_getElem hlt, List.flatMap_append, List.flatMap_singleton]
    rw [hx]; exact hI2
   ·rw [List.take_zero, List.map_nil, List.append_nil]
    exact hI.m.eq (fp.keep (by omega))
  ·simp (disch := first | omega | exact ti rfl | (simp only [np, nq]; first | done | omega)) only [go_sem, reduceAdd, reduceMul, reduceSub, reduceLeDiff, reduceEqDiff, reduceShiftRight, reduceAnd, hlt]
   have he : s = X.length := by omega
   refine hq H ?_
   have : preR X X.length = qa5 X := by unfold preR; rw [List.take_length]
   rw [he, this, qbl] at hI
   exact hI
end Go.Di
end
noncomputable section
namespace Go.Di
open Go.Ev
variable {C : Nat → Ev.Call}
theorem q2k (H : Hp) (b o m : Nat) : qbb H (.ptr b o) (.map m) = storeAt H b o [.map m] .undef := id rfl
theorem zkh (a b x : AV) : setL [a, b] 1 [x] = [a, x] := id rfl
attribute [go_sem] q2k zkh
theorem zmx (hC : qav C) (hN : qbs C) (hS : q19 C) {k : Nat} (hk : 23 ≤ k) {H : Hp} {sv : AV} {X : List SpG} (hX : SchR H sv X) (hV : ValX X) :
  Ok (C k (.f q1e) [.agg [sv]] H) fun r H' => ∃ w, r = .tup [.agg [.int .i64 (.ofNat (allG X).length), w], .int .i64 (.ofNat 0)] ∧ IsE H' w (ddE (sortE (goE X X))) ∧ capV w = .val (.int .i64 (.ofNat (ddE (sortE (goE X X))).length)) ∧ Fm No H H' ∧ (w = .nilsl ∨ ∃ b o n m e, w = .sl b o n m e) := by
 obtain ⟨j, rfl⟩ : ∃ j, k = j + 1 := ⟨k - 1, by omega⟩
 rw [(hC j).zAd]
 unfold zAd zhc
 simp (disch := first | omega | exact ti rfl | (simp only [np, nq]; first | done | omega)) only [go_sem, reduceAdd, reduceMul, reduceSub, reduceLeDiff, reduceEqDiff, reduceShiftRight, reduceAnd]
 have f : Fm No H (qal (qal H (qaa 0 [sv])) (qaa 0 [.int .i64 (.ofNat 0), .nilsl])) := by (repeat (first | exact Fm.refl _ _ | assumption | refine Fm.push ?_ _ | refine Fm.up2 ?_ (by (first | omega | (simp only [np, nq]; omega))) | refine Fm.put_new ?_ _ _ (by (first | omega | (simp only [np, nq]; omega)))))
 refine Ok.ve (qul hC hN (k := j) (by omega) (hX.fm f) hV) ?_
 rintro _ H1 ⟨rfl, f1⟩
 have n1 := f1.nx
 simp only [np] at n1
 have fA := f.trans f1
 have x1 : H1.get H.nx = qaa 0 [sv] := (f1.keep (by (first | omega | (simp only [np, nq]; omega)))).trans (by simp (disch := first | omega | exact ti rfl | (simp only [np, nq]; first | done | omega)) only [go_sem, reduceAdd, reduceMul, reduceSub, reduceLeDiff, reduceEqDiff, reduceShiftRight, reduceAnd])
 have rb1 : H1.get (H.nx + 1) = qaa 0 [.int .i64 (.ofNat 0), .nilsl] := (f1.keep (by (first | omega | (simp only [np, nq]; omega)))).trans (by simp (disch := first | omega | exact ti rfl | (simp only [np, nq]; first | done | omega)) only [go_sem, reduceAdd, reduceMul, reduceSub, reduceLeDiff, reduceEqDiff, reduceShiftRight, reduceAnd])
 have hX1 := hX.fm fA
 have hls := hX1.rs.len
 have hn16 := hV.pr.n
 have h256 : (allG X).length ≤ 256 := by have := hV.pr.len; rw [← qbl, List.length_map]; exact this
 simp (disch := first | omega | exact ti rfl | (simp only [np, nq]; first | done | omega)) only [go_sem, reduceAdd, reduceMul, reduceSub, reduceLeDiff, reduceEqDiff, reduceShiftRight, reduceAnd]
 unfold qp4
 simp (disch := first | omega | exact ti rfl | (simp only [np, nq]; first | done | omega)) only [go_sem, reduceAdd, reduceMul, reduceSub, reduceLeDiff, reduceEqDiff, reduceShiftRight, reduceAnd, x1, hls]
 unfold qqf
 rw [qan]
 generalize hHn : (qal (qal H1 (.map [] 0)) (qaa 0 [.nilmap])).put (H1.nx + 1) (qaa 0 [.map H1.nx]) = Hn
 have fn : Fm No H1 Hn := by rw [← hHn]; (repeat (first | exact Fm.refl _ _ | assumption | refine Fm.push ?_ _ | refine Fm.up2 ?_ (by (first | omega | (simp only [np, nq]; omega))) | refine Fm.put_new ?_ _ _ (by (first | omega | (simp only [np, nq]; omega)))))
 have nn : Hn.nx = H1.nx + 2 := by rw [← hHn]; rfl
 have kn : Hn.get (H1.nx + 1) = qaa 0 [.map H1.nx] := by rw [← hHn]; exact qam _ _ _
 have km : Hn.get H1.nx = .map [] 0 := by rw [← hHn]; simp (disch := first | omega | exact ti rfl | (simp only [np, nq]; first | done | omega)) only [go_sem, reduceAdd, reduceMul, reduceSub, reduceLeDiff, reduceEqDiff, reduceShiftRight, reduceAnd]
 have hm0 : MapP Hn H1.nx ((preR X 0).map kq) := by
  have : (preR X 0).map kq = [] := by unfold preR qa5; simp
  rw [this]
  exact MapI.nil _ _ km
 refine qo3 (sv := sv) hX1 hV.al hV.pr (H0 := H1) (nb := H1.nx + 1) (mb := H1.nx) (fun H2 hI => ?_) qak 0 Hn (Nat.zero_le _) (by rw [qaf]; omega) ⟨kn, hm0, ⟨Nat.le_refl _, by omega, by omega⟩, fn⟩
 unfold qcr
 have kn2 := hI.n
 have hlm := hI.m.len
 have f2 := hI.fm
 obtain ⟨_, _, o3⟩ := hI.o
 have x2 := (f2.keep (show H.nx < H1.nx by omega)).trans x1
 have hls2 := (hX1.fm f2).rs.len
 simp (disch := first | omega | exact ti rfl | (simp only [np, nq]; first | done | omega)) only [go_sem, reduceAdd, reduceMul, reduceSub, reduceLeDiff, reduceEqDiff, reduceShiftRight, reduceAnd, kn2, hlm, x2, hls2]
 unfold qw1
 rw [qan]
 generalize hHg : (qal H2 (qaa 0 [.int .i64 (.ofNat 0), .nilsl])).put H2.nx (qaa 0 [.int .i64 (.ofNat (allG X).length), .nilsl]) = Hg
 have fg : Fm No H2 Hg := by rw [← hHg]; (repeat (first | exact Fm.refl _ _ | assumption | refine Fm.push ?_ _ | refine Fm.up2 ?_ (by (first | omega | (simp only [np, nq]; omega))) | refine Fm.put_new ?_ _ _ (by (first | omega | (simp only [np, nq]; omega)))))
 have ng : Hg.nx = H2.nx + 1 := by rw [← hHg]; rfl
 have kg : Hg.get H2.nx = qaa 0 [.int .i64 (.ofNat (allG X).length), .nilsl] := by rw [← hHg]; exact qam _ _ _
 have nn0 : ∀ c, ¬ In AV.nilsl c := fun c h => by obtain ⟨_, _, _, _, h⟩ := h; cases h
 have n12 := f2.nx
 have fAll : ∀ H', Fm (fun c => c = H2.nx ∨ In AV.nilsl c) Hg H' → Fm No H H' := fun H' f' => (((fA.trans f2).trans fg)).then f' fun c hc h => by
  rcases h with h | h
  ·omega
  ·exact absurd h (nn0 c)
 refine q1i hC hN (j := j) (by omega) (sv := sv) (mb := H1.nx) (Hb := Hg) (ev0 := .nilsl) (N := (allG X).length) hV (fun H' f' => ?_) ⟨by omega, by omega, by omega⟩ (fun H3 ev hG => ?_) qak 0 Hg .nilsl (Nat.zero_le _) (by rw [qaf]; omega) ⟨kg, by omega, ?_, Fm.refl _ _, fun c h => .inl h, fun c h => absurd h (nn0 c)⟩
 ·have ne : ∀ c, c < H2.nx → ¬ (c = H2.nx ∨ In AV.nilsl c) := fun c hc h => by
   rcases h with h | h
   ·omega
   ·exact nn0 c h
  refine ⟨hX.fm (fAll H' f'), ?_, ?_, ?_⟩
  ·exact (f'.get _ (by omega) (ne _ (by omega))).trans ((fg.keep (by omega)).trans x2)
  ·exact (f'.get _ (by omega) (ne _ (by omega))).trans ((fg.keep (by omega)).trans kn2)
  ·exact (hI.m.eq (fg.keep (by omega))).eq (f'.get _ (by omega) (ne _ (by omega)))
 ·unfold qbk
  have kg3 := hG.blk
  have f3 := hG.fm
  have n3 := f3.nx
  have hlen : (goE X X).length < 900000 := by
   have := q1k hV.pr X.length
   rw [List.take_length] at this
   omega
  simp (disch := first | omega | exact ti rfl | (simp only [np, nq]; first | done | omega)) only [go_sem, reduceAdd, reduceMul, reduceSub, reduceLeDiff, reduceEqDiff, reduceShiftRight, reduceAnd, kg3]
  refine Ok.ve (q27 hC hS (k := j) (by omega) hG.gl hlen) ?_
  rintro w H4 ⟨hw, hc, f4, hns, hin⟩
  have n4 := f4.nx
  have kg4 := (f4.get H2.nx (by omega) (fun h => by have := hG.nin _ h; omega)).trans kg3
  have rb4 : H4.get (H.nx + 1) = qaa 0 [.int .i64 (.ofNat 0), .nilsl] := by
   refine (f4.get _ (by omega) (fun h => by have := hG.nin _ h; omega)).trans ((f3.get _ (by omega) (fun h => ?_)).trans ((fg.keep (by omega)).trans ((f2.keep (by omega)).trans rb1)))
   rcases h with h | h
   ·omega
   ·exact nn0 _ h
  have fin : ∀ x y z : Blk, IsE (((H4.put H2.nx x).put (H.nx + 1) y)) w (ddE (sortE (goE X X))) ∧ Fm No H ((H4.put H2.nx x).put (H.nx + 1) y) := fun x y z => by
   refine ⟨hw.keep (Nat.le_refl _) fun c hc' _ => ?_, ?_⟩
   ·have := hG.nin c (hin c hc')
    rw [qat _ _ _ _ (by omega), qat _ _ _ _ (by omega)]
   ·refine ((((fAll H3 f3).then f4 fun c hc h => ?_).put_new _ _ (by omega)).put_new _ _ (by omega))
    have := hG.nin c h
    omega
  rcases hns with rfl | ⟨wb, wo, wn, wm, we, rfl⟩
  ·simp (disch := first | omega | exact ti rfl | (simp only [np, nq]; first | done | omega)) only [go_sem, reduceAdd, reduceMul, reduceSub, reduceLeDiff, reduceEqDiff, reduceShiftRight, reduceAnd, kg4, rb4]
   obtain ⟨g1, g2⟩ := fin (qaa 0 [.int .i64 (.ofNat (allG X).length), .nilsl]) (qaa 0 [.int .i64 (.ofNat (allG X).length), .nilsl]) .dead
   exact Ok.ret ⟨_, rfl, g1, hc, g2, .inl rfl⟩
  ·simp (disch := first | omega | exact ti rfl | (simp only [np, nq]; first | done | omega)) only [go_sem, reduceAdd, reduceMul, reduceSub, reduceLeDiff, reduceEqDiff, reduceShiftRight, reduceAnd, kg4, rb4]
   obtain ⟨g1, g2⟩ := fin (qaa 0 [.int .i64 (.ofNat (allG X).length), .sl wb wo wn wm we]) (qaa 0 [.int .i64 (.ofNat (allG X).length), .sl wb wo wn wm we]) .dead
   exact Ok.ret ⟨_, rfl, g1, hc, g2, .inr ⟨_, _, _, _, _, rfl⟩⟩
 ·rw [List.take_zero]
  exact Gl.nil 3 _
end Go.Di
end
noncomputable section
namespace Go.Di
open Go.Ev
theorem qss {a b : Nat} (h : qa8 a = qa8 b) : a % 4 = b % 4 := by
 unfold qa8 at h
 injection h with _ h
 omega
theorem qqw {a b : Nat} (h : spOf a = spOf b) : a % 3 = b % 3 := by
 unfold spOf at h
 injection h with _ h
 omega
theorem qsr (a : Nat) : qa8 (a % 4) = qa8 a := by unfold qa8; rw [Nat.mod_mod]
theorem zcq (a : Nat) : spOf (a % 3) = spOf a := by unfold spOf; rw [Nat.mod_mod]
theorem qgx (a : Nat) : Nm (qa8 a) := by
 rw [← qsr]
 have : ∀ i, i < 4 → qa8 i ∈ nmL := by decide
 exact this _ (Nat.mod_lt _ (by omega))
theorem qx3 (a : Nat) : Nm (spOf a) := by
 rw [← zcq]
 have : ∀ i, i < 3 → spOf i ∈ nmL := by decide
 exact this _ (Nat.mod_lt _ (by omega))
theorem zkj : Nm sU := by show sU ∈ nmL; decide
theorem zc0 (a : Nat) : ¬ qa8 a = sE := fun h => (qgx a).ne (by rw [h]; exact ⟨rfl, rfl⟩)
def Blo (m n k : Nat) : Prop := n / 4 * 4 ≤ k ∧ k < n / 4 * 4 + 4 ∧ k < m
def RuP (L : List (List Nat)) (n : Nat) : Ru → Prop
 | .leaf k rl to => (k = 1 ∧ rl = sE ∧ to = sE) ∨ (k = 2 ∧ to = sE ∧ ∃ i, rl = qa8 i ∧ Blo (qaq L) n i) ∨ (k = 3 ∧ ∃ i j, rl = qa8 i ∧ Blo (qaq L) n i ∧ to = qa8 j ∧ j < qaq L ∧ (⟨spOf (j / 4), sE⟩ : TyS) ∈ qbh L i)
 | .node k a b => (k = 4 ∨ k = 5 ∨ k = 6) ∧ RuP L n a ∧ RuP L n b
theorem RuP.fit {L : List (List Nat)} {n : Nat} : ∀ {r : Ru}, RuP L n r → r.Fit
 | .leaf _ _ _, h => by
  rcases h with h | ⟨h, h2, i, rfl, _⟩ | ⟨h, i, j, rfl, _, rfl, _⟩
  ·exact .inl h
  ·exact .inr (.inl ⟨h, qgx i, h2⟩)
  ·exact .inr (.inr ⟨h, qgx i, qgx j⟩)
 | .node _ _ _, ⟨h, ha, hb⟩ => ⟨h, ha.fit, hb.fit⟩
def NdP (L : List (List Nat)) (n : Nat) (y : Nd) : Prop :=
 (y.k = 1 ∧ y.rl = sE) ∨ (y.k = 2 ∧ ∃ i, y.rl = qa8 i ∧ Blo (qaq L) n i) ∨ (y.k = 3 ∧ ∃ i j, y.rl = qa8 i ∧ Blo (qaq L) n i ∧ y.to = qa8 j ∧ j < qaq L ∧ (⟨spOf (j / 4), sE⟩ : TyS) ∈ qbh L i) ∨ 4 ≤ y.k
theorem RuP.nd {L : List (List Nat)} {n : Nat} : ∀ {r : Ru} {neg : Bool}, RuP L n r → ∀ y ∈ r.nodes neg, NdP L n y
 | .leaf _ _ _, neg, h, y, hy => by
  rw [Ru.nodes, List.mem_singleton] at hy
  subst hy
  rcases h with ⟨h, h2, _⟩ | ⟨h, _, h2⟩ | ⟨h, h2⟩
  ·exact .inl ⟨h, h2⟩
  ·exact .inr (.inl ⟨h, h2⟩)
  ·exact .inr (.inr (.inl ⟨h, h2⟩))
 | .node k a b, neg, ⟨h, ha, hb⟩, y, hy => by
  rw [Ru.nodes, List.mem_cons, List.mem_append] at hy
  rcases hy with rfl | hy | hy
  ·exact .inr (.inr (.inr (by show 4 ≤ k; omega)))
  ·exact ha.nd y hy
  ·exact hb.nd y hy
theorem qkq {α : Type} {l : List α} {i : Nat} {d : α} (h : i < l.length) : l.getD i d ∈ l := by
 rw [List.getD_eq_getElem?_getD, List.getElem?_eq_getElem h]
 exact List.getElem_mem h
theorem qrf {L : List (List Nat)} {n : Nat} (hn : n < qaq L) (neg : Bool) : RuP L n (qjm neg) := by
 unfold qjm
 cases neg
 ·exact .inl ⟨rfl, rfl, rfl⟩
 ·refine .inr (.inl ⟨rfl, rfl, n / 4 * 4, ?_, by omega, by omega, by omega⟩)
  rw [← qsr (n / 4 * 4), Nat.mul_mod_left]
theorem zes {L : List (List Nat)} {n : Nat} {neg : Bool} {x : ArS} (h : x ∈ arrA L n neg) : ∃ i j, x.rl = qa8 i ∧ Blo (qaq L) n i ∧ x.to = qa8 j ∧ j < qaq L ∧ (⟨spOf (j / 4), sE⟩ : TyS) ∈ qbh L i := by
 unfold arrA arrL at h
 rw [List.mem_flatMap] at h
 obtain ⟨i, hi, h⟩ := h
 rw [qgg] at hi
 unfold arK at h
 rw [List.mem_flatMap] at h
 obtain ⟨t, ht, h⟩ := h
 unfold arJ at h
 rw [List.mem_map] at h
 obtain ⟨j, hj, rfl⟩ := h
 rw [List.mem_filter, qgg] at hj
 obtain ⟨hj, hp⟩ := hj
 unfold arP at hp
 rw [Bool.and_eq_true, Bool.and_eq_true, decide_eq_true_iff, decide_eq_true_iff] at hp
 refine ⟨i, j, rfl, ⟨hi.1, by omega, by omega⟩, rfl, hj.2, ?_⟩
 have : t = ⟨spOf (j / 4), sE⟩ := by
  cases t
  simp only at hp
  rw [hp.1.1, hp.1.2]
 rw [← this]; exact ht
theorem qx9 {L : List (List Nat)} {n : Nat} (hn : n < qaq L) : ∀ (d i : Nat) (neg : Bool), (neg = true → 0 < lvl n) → RuP L n (qa3 L n d i neg).1
 | 0, i, neg, _ => by unfold qa3; exact qrf hn neg
 | d + 1, i, neg, hneg => by
  have hA : At (qaq L) n neg := ⟨hn, Nat.min_le_right _ _, hneg⟩
  unfold qa3
  split
  ·exact qrf hn neg
  split
  ·exact qrf hn neg
  split
  ·have hp := q13 hA
   have hm := qkq (d := sE) (Nat.mod_lt (qa4 L n i / 8) hp)
   unfold cmpL at hm
   rw [List.mem_map] at hm
   obtain ⟨k, hk, he⟩ := hm
   rw [List.mem_filter, qgg] at hk
   refine .inr (.inl ⟨rfl, rfl, k, ?_, by omega, by omega, by omega⟩)
   rw [he]; rfl
  split
  ·unfold arrR
   split
   ·exact qrf hn neg
   ·rename_i h
    have hm := qkq (d := (⟨sE, sE⟩ : ArS)) (Nat.mod_lt (qa4 L n i / 8) (show 0 < (arrA L n neg).length by omega))
    exact .inr (.inr ⟨rfl, zes hm⟩)
  refine ⟨?_, qx9 hn d _ _ hneg, qx9 hn d _ _ fun h => ?_⟩
  ·unfold qij
   split
   ·omega
   split <;> omega
  ·rw [Bool.or_eq_true, decide_eq_true_iff] at h
   rcases h with h | h
   ·exact hneg h
   ·unfold qij at h
    split at h
    ·omega
    split at h
    ·rename_i h2; exact h2.2
    ·omega
theorem qml {α β : Type} {f : α → β} : ∀ {l : List α}, l.Nodup → (∀ x ∈ l, ∀ y ∈ l, f x = f y → x = y) → (l.map f).Nodup
 | [], _, _ => List.nodup_nil
 | a :: l, h, hf => by
  rw [List.nodup_cons] at h
  rw [List.map_cons, List.nodup_cons]
  refine ⟨fun hm => ?_, qml h.2 fun x hx y hy => hf x (List.mem_cons_of_mem _ hx) y (List.mem_cons_of_mem _ hy)⟩
  obtain ⟨b, hb, e⟩ := List.mem_map.1 hm
  have := hf b (List.mem_cons_of_mem _ hb) a List.mem_cons_self e
  subst this
  exact h.1 hb
theorem qom {L : List (List Nat)} {n : Nat} (hn : n < qaq L) {t : TyS} (h : t ∈ qbh L n) : (t.rl = sE ∧ (t.sp = sU ∨ ∃ i, i < (qaq L + 3) / 4 ∧ t.sp = spOf i)) ∨ ∃ k, k < qaq L ∧ t = ⟨spOf (k / 4), qa8 k⟩ := by
 unfold qbh at h
 rw [List.mem_append] at h
 rcases h with h | h
 ·left
  unfold tyA at h
  rw [List.mem_cons] at h
  rcases h with rfl | h
  ·exact ⟨rfl, .inl rfl⟩
  ·rw [List.mem_map] at h
   obtain ⟨i, hi, rfl⟩ := h
   rw [List.mem_filter, qgg] at hi
   have := hi.1.2
   unfold nS at this
   exact ⟨rfl, .inr ⟨i, by omega, rfl⟩⟩
 ·right
  split at h
  ·rw [List.mem_singleton] at h
   have hm := qkq (d := (⟨sE, sE⟩ : TyS)) (Nat.mod_lt (qa4 L n 1 / 2) (qqu hn))
   rw [← h] at hm
   unfold tyB at hm
   rw [List.mem_map] at hm
   obtain ⟨k, hk, rfl⟩ := hm
   rw [List.mem_filter, qgg] at hk
   exact ⟨k, hk.1.2, rfl⟩
  ·cases h
theorem qsa {L : List (List Nat)} {n : Nat} (hn : n < qaq L) : (qbh L n).Nodup := by
 have hA : (tyA (qa4 L n 0) (nS (qaq L))).Nodup := by
  unfold tyA
  rw [List.nodup_cons]
  constructor
  ·intro h
   rw [List.mem_map] at h
   obtain ⟨i, _, e⟩ := h
   injection e with e
   unfold spOf sU at e
   injection e with e
   omega
  ·have hr : (rg 0 (nS (qaq L))).Nodup := by
    unfold rg
    rw [List.drop_zero]; exact List.nodup_range
   refine qml (List.Pairwise.filter _ hr) fun x hx y hy e => ?_
   ·rw [List.mem_filter, qgg] at hx hy
    injection e with e
    have := qqw e
    have h3 : nS (qaq L) ≤ 3 := Nat.min_le_left _ _
    omega
 unfold qbh
 split
 ·rw [List.nodup_append]
  refine ⟨hA, List.pairwise_singleton _ _, fun a ha b hb => ?_⟩
  rw [List.mem_singleton] at hb
  intro e
  subst e
  have hm := qkq (d := (⟨sE, sE⟩ : TyS)) (Nat.mod_lt (qa4 L n 1 / 2) (qqu hn))
  rw [← hb] at hm
  unfold tyB at hm
  rw [List.mem_map] at hm
  obtain ⟨k, _, e⟩ := hm
  have hr : a.rl = sE := by
   unfold tyA at ha
   rw [List.mem_cons, List.mem_map] at ha
   rcases ha with rfl | ⟨i, _, rfl⟩ <;> rfl
  rw [← e] at hr
  exact zc0 k hr
 ·rw [List.append_nil]; exact hA
end Go.Di
end
noncomputable section
namespace Go.Di
open Go.Ev
def prN (n : Nat) : SS × SS := (spOf (n / 4), qa8 n)
def rls (L : List (List Nat)) (i : Nat) : List RelS := (rg (4 * i) (min (qaq L) (4 * i + 4))).map (rel0 L)
theorem zid {a b : Nat} (ha : a < 12) (hb : b < 12) (h : prN a = prN b) : a = b := by
 unfold prN at h
 injection h with h1 h2
 have := qqw h1
 have := qss h2
 omega
theorem allN (m : Nat) (h : m < 13) : ((List.range ((m + 3) / 4)).flatMap fun i => (rg (4 * i) (min m (4 * i + 4))).map fun n => (spOf i, qa8 n)) = (List.range m).map prN := by
 have : ∀ m, m < 13 → ((List.range ((m + 3) / 4)).flatMap fun i => (rg (4 * i) (min m (4 * i + 4))).map fun n => (spOf i, qa8 n)) = (List.range m).map prN := by decide
 exact this m h
theorem q61 (k : Nat) (h : k < 4) : (sU :: (List.range k).map spOf).Nodup := by
 have : ∀ k, k < 4 → (sU :: (List.range k).map spOf).Nodup := by decide
 exact this k h
theorem q2w (L : List (List Nat)) : qaq L < 13 := by have : qaq L ≤ 12 := Nat.min_le_right _ _; omega
structure IsC (L : List (List Nat)) (X : List SpG) : Prop where
 map : X.map SpG.sp = schC L
theorem qfu (rels : List RelS) (r : RelS) : (qcc rels r).name = r.name := by unfold qcc; split <;> rfl
variable {L : List (List Nat)} {X : List SpG}
theorem IsC.names (h : IsC L X) : X.map SpG.name = sU :: (List.range ((qaq L + 3) / 4)).map spOf := by
 have e : X.map SpG.name = (X.map SpG.sp).map SpS.name := by rw [List.map_map]; rfl
 rw [e, h.map]
 unfold schC rawC
 rw [List.map_map, List.map_cons, List.map_map]
 rfl
theorem IsC.all (h : IsC L X) : allG X = (List.range (qaq L)).map prN := by
 have e : allG X = (X.map SpG.sp).flatMap fun s => s.rels.map fun r => (s.name, r.name) := by
  unfold allG
  rw [List.flatMap_map]
  congr 1
  funext g
  unfold SpG.sp
  rw [List.map_map]; rfl
 rw [e, h.map, ← allN _ (q2w L)]
 unfold schC rawC
 rw [List.flatMap_map, List.flatMap_cons, List.flatMap_map]
 show [] ++ _ = _
 rw [List.nil_append]
 congr 1
 funext i
 show ((spN L i (min (qaq L) (4 * i + 4))).rels.map (qcc _)).map _ = _
 unfold spN
 rw [List.map_map, List.map_map]
 refine List.map_congr_left fun n _ => ?_
 simp only [Function.comp, qfu]
 rfl
theorem IsC.mem_all (h : IsC L X) {k : Nat} (hk : k < qaq L) : (spOf (k / 4), qa8 k) ∈ allG X := by
 rw [h.all]
 exact List.mem_map.2 ⟨k, List.mem_range.2 hk, rfl⟩
theorem IsC.gs (h : IsC L X) {g : SpG} (hg : g ∈ X) : (g.name = sU ∧ g.gs = []) ∨ ∃ i, i < (qaq L + 3) / 4 ∧ g.name = spOf i ∧ g.gs.map RelG.r = (rls L i).map (qcc (rls L i)) := by
 have hm : g.sp ∈ schC L := by rw [← h.map]; exact List.mem_map_of_mem hg
 unfold schC rawC at hm
 rw [List.map_cons, List.mem_cons, List.map_map, List.mem_map] at hm
 rcases hm with hm | ⟨i, hi, hm⟩
 ·left
  have h1 := congrArg SpS.name hm
  have h2 := congrArg SpS.rels hm
  refine ⟨h1, ?_⟩
  have : g.gs.map RelG.r = [] := h2
  exact List.map_eq_nil_iff.1 this
 ·right
  refine ⟨i, List.mem_range.1 hi, (congrArg SpS.name hm).symm, (congrArg SpS.rels hm).symm⟩
theorem IsC.x (h : IsC L X) {g : SpG} (hg : g ∈ X) {x : RelG} (hx : x ∈ g.gs) : ∃ i n, i < (qaq L + 3) / 4 ∧ g.name = spOf i ∧ g.gs.map RelG.r = (rls L i).map (qcc (rls L i)) ∧ n / 4 = i ∧ n < qaq L ∧ x.r = qcc (rls L i) (rel0 L n) := by
 rcases h.gs hg with ⟨_, h2⟩ | ⟨i, hi, h1, h2⟩
 ·rw [h2] at hx; cases hx
 ·have hm : x.r ∈ g.gs.map RelG.r := List.mem_map_of_mem hx
  rw [h2, List.mem_map] at hm
  obtain ⟨r, hr, he⟩ := hm
  unfold rls at hr
  rw [List.mem_map] at hr
  obtain ⟨n, hn, rfl⟩ := hr
  rw [qgg] at hn
  exact ⟨i, n, hi, h1, h2, by omega, by omega, he.symm⟩
theorem qkd (rels : List RelS) (r : RelS) : ∀ t ∈ (qcc rels r).types, t ∈ r.types := by
 unfold qcc
 split
 ·exact fun _ h => h
 ·intro t h; cases h
theorem zdx {L : List (List Nat)} {n : Nat} {r : Ru} (h : RuP L n r) : ((r.nodes false).any fun y => decide (y.k = 1)) = hasR r 1 sE := by
 unfold hasR
 have hn := h.nd (neg := false)
 generalize r.nodes false = l at hn
 induction l with
 | nil => rfl
 | cons y l ih =>
  rw [List.any_cons, List.any_cons, ih fun z hz => hn z (List.mem_cons_of_mem _ hz)]
  congr 1
  unfold hasN
  rcases hn y List.mem_cons_self with ⟨h1, h2⟩ | ⟨h1, _⟩ | ⟨h1, _⟩ | h1
  ·rw [h1, h2]; rfl
  ·rw [h1]; rfl
  ·rw [h1]; rfl
  ·rw [decide_eq_false (by omega)]; rfl
theorem IsC.val (h : IsC L X) : ValX X := by
 have hm12 : qaq L ≤ 12 := Nat.min_le_right _ _
 have hsp : (X.map SpG.name).Nodup := by rw [h.names]; exact q61 _ (by omega)
 have hal : (allG X).Nodup := by
  rw [h.all]
  exact qml List.nodup_range fun a ha b hb e => zid (by have := List.mem_range.1 ha; omega) (by have := List.mem_range.1 hb; omega) e
 have hrp : ∀ n, n < qaq L → RuP L n (rel0 L n).rule := fun n hn => qx9 hn 6 2 false fun h => by cases h
 have hlenX : X.length ≤ 4 := by
  have := congrArg List.length h.names
  simp at this
  omega
 refine ⟨⟨by omega, fun g hg => ⟨?_, ?_⟩, fun g hg x hx => ?_⟩, hal, hsp, fun g hg x hx => ?_, fun g hg x hx y hy => ?_, fun g hg x hx => ?_⟩
 ·rcases h.gs hg with ⟨_, h2⟩ | ⟨i, hi, _, h2⟩
  ·rw [h2]; simp
  ·have := congrArg List.length h2
   unfold rls at this
   simp only [List.length_map, qj7] at this
   omega
 ·rcases h.gs hg with ⟨h1, _⟩ | ⟨i, hi, h1, _⟩
  ·rw [h1]; exact zkj
  ·rw [h1]; exact qx3 i
 ·obtain ⟨i, n, hi, h1, h2, hni, hn, hr⟩ := h.x hg hx
  have hsm := ql3 L n
  refine ⟨?_, ?_, ⟨?_, ?_, ?_⟩, fun t ht => ?_⟩
  ·have : x.r.types.length ≤ (qbh L n).length := by
    rw [hr]; unfold qcc; split
    ·exact Nat.le_refl _
    ·exact Nat.zero_le _
   have := qgr L n
   omega
  ·rw [hr, qfu]; exact qgx n
  ·rw [hr, qb7]; exact (hrp n hn).fit
  ·rw [hr, qb7]; omega
  ·rw [hr, qb7]; omega
  ·rw [hr] at ht
   have ht' := qkd _ _ t ht
   rcases qom hn ht' with ⟨e1, e2⟩ | ⟨k, hk, rfl⟩
   ·refine ⟨?_, .inl e1⟩
    rcases e2 with e2 | ⟨i, _, e2⟩
    ·rw [e2]; exact zkj
    ·rw [e2]; exact qx3 i
   ·exact ⟨qx3 _, .inr (qgx _)⟩
 ·obtain ⟨i, n, hi, h1, h2, hni, hn, hr⟩ := h.x hg hx
  constructor
  ·rw [hr]; unfold qcc; split
   ·exact qsa hn
   ·exact List.nodup_nil
  ·intro t ht
   rw [hr] at ht
   have ht' := qkd _ _ t ht
   rw [h.names]
   rcases qom hn ht' with ⟨e1, e2⟩ | ⟨k, hk, rfl⟩
   ·refine ⟨?_, .inl e1⟩
    rcases e2 with e2 | ⟨i, hi, e2⟩
    ·rw [e2]; exact List.mem_cons_self
    ·rw [e2]; exact List.mem_cons_of_mem _ (List.mem_map.2 ⟨i, List.mem_range.2 hi, rfl⟩)
   ·exact ⟨List.mem_cons_of_mem _ (List.mem_map.2 ⟨k / 4, List.mem_range.2 (by omega), rfl⟩), .inr (h.mem_all hk)⟩
 ·obtain ⟨i, n, hi, h1, h2, hni, hn, hr⟩ := h.x hg hx
  rw [hr, qb7] at hy
  have hblo : ∀ k, Blo (qaq L) n k → (g.name, qa8 k) ∈ allG X := fun k hk => by
   have := h.mem_all hk.2.2
   unfold Blo at hk
   rw [h1, ← hni]
   rwa [show k / 4 = n / 4 by omega] at this
  rcases (hrp n hn).nd y hy with ⟨e, _⟩ | ⟨e, k, e1, hk⟩ | ⟨e, k, j, e1, hk, e2, hj, ht⟩ | e
  ·exact ⟨fun h => by omega, fun h => by omega⟩
  ·exact ⟨fun _ => by rw [e1]; exact hblo k hk, fun h => by omega⟩
  ·refine ⟨fun _ => by rw [e1]; exact hblo k hk, fun _ => ?_⟩
   rw [e1, e2]
   obtain ⟨x', hf, _⟩ := qgl hal hsp (hblo k hk)
   obtain ⟨g', hg', hx', en1, en2⟩ := qin hf
   have hgg : g' = g := qmm hsp hg' hg (by rw [en1])
   subst hgg
   obtain ⟨i', n', hi', h1', h2', hni', hn', hr'⟩ := h.x hg' hx'
   have hii : i' = i := by
    have := qqw (h1'.symm.trans h1)
    omega
   subst hii
   have hkn : n' = k := by
    rw [hr', qfu] at en2
    have := qss en2
    unfold Blo at hk
    omega
   subst hkn
   have hus : qqt (rls L i') (rel0 L n') = true := by
    unfold qqt
    rw [Bool.or_eq_true]
    right
    rw [List.any_eq_true]
    refine ⟨rel0 L n, ?_, ?_⟩
    ·unfold rls
     exact List.mem_map.2 ⟨n, qgg.2 ⟨by omega, by omega⟩, rfl⟩
    ·unfold hasR
     rw [List.any_eq_true]
     refine ⟨y, hy, ?_⟩
     unfold hasN
     rw [decide_eq_true e, decide_eq_true (show y.rl = (rel0 L n').name from e1)]; rfl
   have hty : x'.r.types = qbh L n' := by
    rw [hr']; unfold qcc; rw [if_pos hus]; rfl
   have hmem : spOf (j / 4) ∈ qel X g'.name (qa8 n') (qa8 j) := by
    unfold qel
    rw [hf]
    unfold tgL
    rw [List.mem_map]
    refine ⟨⟨spOf (j / 4), sE⟩, ?_, rfl⟩
    rw [List.mem_filter, hty]
    refine ⟨ht, ?_⟩
    unfold tgP
    rw [qjq hal hsp, decide_eq_true (h.mem_all hj)]; rfl
   intro h0
   rw [h0] at hmem
   cases hmem
  ·exact ⟨fun h => by omega, fun h => by omega⟩
 ·obtain ⟨i, n, hi, h1, h2, hni, hn, hr⟩ := h.x hg hx
  rw [hr, qb7, zdx (hrp n hn), qfu]
  constructor
  ·intro hh
   unfold qcc
   rw [if_pos (by unfold qqt; rw [hh]; rfl)]
   show qbh L n ≠ []
   unfold qbh tyA
   simp
  ·intro hh hne
   have hus : qqt (rls L i) (rel0 L n) = true := by
    unfold qcc at hne
    split at hne
    ·assumption
    ·exact absurd rfl hne
   unfold qqt at hus
   rw [hh, Bool.false_or] at hus
   have e : (g.gs.any fun z => hasR z.r.rule 3 (rel0 L n).name) = (g.gs.map RelG.r).any fun z => hasR z.rule 3 (rel0 L n).name := by rw [List.any_map]; rfl
   rw [e, h2, List.any_map]
   refine Eq.trans ?_ hus
   congr 1
   funext z
   simp only [Function.comp, qb7]
end Go.Di
end
noncomputable section
namespace Go.Di
open Go.Ev
theorem qeo (X : List SpG) : (qa5 X).length = (allG X).length := by rw [← qbl, List.length_map]
theorem qgw {X : List SpG} {i : Nat} (h : i < (qa5 X).length) (h' : i < (allG X).length) : (allG X)[i] = ((qa5 X)[i].1, (qa5 X)[i].2.r.name) := by
 have e : (allG X)[i]? = some (kq (qa5 X)[i]) := by rw [← qbl, List.getElem?_map, List.getElem?_eq_getElem h]; rfl
 rw [List.getElem?_eq_getElem h'] at e
 exact Option.some.inj e
theorem ValX.at {X : List SpG} (hV : ValX X) {i : Nat} (h : i < (qa5 X).length) : qdt X (qa5 X)[i].1 (qa5 X)[i].2.r.name = some (qa5 X)[i].2 ∧ numG X (qa5 X)[i].1 (qa5 X)[i].2.r.name = i ∧ ∃ g ∈ X, (qa5 X)[i].2 ∈ g.gs ∧ g.name = (qa5 X)[i].1 := by
 have h' : i < (allG X).length := by rw [← qeo]; exact h
 have hi := qmp hV.al h'
 have hn : numG X (qa5 X)[i].1 (qa5 X)[i].2.r.name = i := by
  rw [qgw h h'] at hi
  exact hi
 have hmem : ((qa5 X)[i].1, (qa5 X)[i].2.r.name) ∈ allG X := by rw [← qgw h h']; exact List.getElem_mem h'
 obtain ⟨x, hf, hx⟩ := qgl hV.al hV.sp hmem
 rw [hn, List.getElem?_eq_getElem h] at hx
 injection hx with hx
 refine ⟨by rw [hf, hx], hn, ?_⟩
 obtain ⟨g, hg, hx2, e⟩ := qid.1 (show ((qa5 X)[i].1, (qa5 X)[i].2) ∈ qa5 X from List.getElem_mem h)
 exact ⟨g, hg, hx2, e⟩
theorem ValX.ofW {X : List SpG} (hV : ValX X) : OfW X := by
 refine ⟨hV.pr.sml, by rw [← qeo]; exact hV.pr.len, fun i h => ?_⟩
 have h' : i < (qa5 X).length := by rw [qeo]; exact h
 obtain ⟨hf, hn, g, hg, hx, e⟩ := hV.at h'
 have hrt := (hV.pr.x g hg _ hx).2.2.1
 refine ⟨(qa5 X)[i].2, by rw [qgw h' h]; exact hf, by have := hrt.dp; omega, by have := hrt.sz; omega, fun y hy p hp => ?_⟩
 rw [qgw h' h, ← e] at hp
 exact hV.ndt ⟨hg, hx⟩ hy p hp
theorem zj9 (X : List SpG) (n : Nat) (neg : Bool) (p : SS × SS) : toE (tE X n neg p) = eE X n neg p := by
 unfold toE tE eE
 cases neg <;> rfl
def rlE (X : List SpG) (q : SS × RelG) : List Edge := (q.2.r.rule.nodes false).flatMap fun y => (ndT X q.1 q.2 y).map (eE X (numG X q.1 q.2.r.name) y.neg)
theorem zdy (X : List SpG) (l : List SpG) : goE X l = (qa5 l).flatMap (rlE X) := by
 unfold goE qa5
 rw [List.flatMap_assoc]
 congr 1
 funext g
 rw [List.flatMap_map]
 rfl
theorem q3g {α : Type} (l : List α) (f : Nat → List Edge) (g : α → List Edge) (h : ∀ i (hi : i < l.length), f i = g l[i]) : (List.range l.length).flatMap f = l.flatMap g := by
 have : (List.range l.length).map f = l.map g := by
  refine List.ext_getElem (by simp) fun i h1 h2 => ?_
  simp only [List.getElem_map, List.getElem_range]
  exact h i (by simpa using h2)
 rw [List.flatMap_def, this, ← List.flatMap_def]
theorem ValX.ts {X : List SpG} (hV : ValX X) : (tsG X (allG X).length).map toE = goE X X := by
 rw [zdy]
 unfold tsG
 rw [List.map_flatMap, ← qeo]
 refine q3g (qa5 X) _ (rlE X) fun i h => ?_
 have h' : i < (allG X).length := by rw [← qeo]; exact h
 obtain ⟨hf, hn, _⟩ := hV.at h
 unfold tsN
 rw [List.getElem?_eq_getElem h']
 simp only
 rw [qgw h h']
 simp only
 rw [hf]
 simp only
 unfold rlE
 rw [List.map_flatMap, hn]
 congr 1
 funext y
 unfold ndE
 rw [List.map_map]
 refine List.map_congr_left fun p _ => ?_
 exact zj9 X i y.neg p
theorem ValX.rng {X : List SpG} (hV : ValX X) : ∀ e ∈ tsG X (allG X).length, e.f < (allG X).length ∧ e.t < (allG X).length := by
 intro e he
 unfold tsG at he
 rw [List.mem_flatMap] at he
 obtain ⟨i, hi, he⟩ := he
 have h' : i < (allG X).length := List.mem_range.1 hi
 have h : i < (qa5 X).length := by rw [qeo]; exact h'
 obtain ⟨hf, hn, g, hg, hx, eg⟩ := hV.at h
 unfold tsN at he
 rw [List.getElem?_eq_getElem h'] at he
 simp only at he
 rw [qgw h h'] at he
 simp only at he
 rw [hf] at he
 simp only at he
 rw [List.mem_flatMap] at he
 obtain ⟨y, hy, he⟩ := he
 unfold ndE at he
 rw [List.mem_map] at he
 obtain ⟨p, hp, rfl⟩ := he
 rw [← eg] at hp
 exact ⟨h', qmk (hV.ndt ⟨hg, hx⟩ hy p hp)⟩
theorem ValX.same {X : List SpG} (hV : ValX X) : qfs (allG X).length (qdf (allG X).length (List.replicate ((allG X).length * (allG X).length) 0) (tsG X (allG X).length)) = ddE (sortE (goE X X)) := by
 rw [qyd hV.rng, hV.ts]
end Go.Di
end
noncomputable section
namespace Go.Di
open Go.Ev
variable {C : Nat → Ev.Call}
theorem zh1 {b : Blk} {o n : Nat} {l : List AV} (h : qba b o n = some l) {j : Nat} (hj : j < l.length) : qap b (o + j) = .val l[j] := by
 obtain ⟨dd, nn, c, ro, zz, rfl, hle, hll, hget⟩ := qou h
 have h1 := hget j (by omega)
 rw [List.getElem?_eq_getElem hj] at h1
 show (bif Nat.blt (o + j) nn then R0.val ((qar dd (o + j)).f c) else .bad) = _
 have : Nat.blt (o + j) nn = true := by rw [Nat.blt_eq]; omega
 rw [this, cond_true, ← Option.some.inj h1]
theorem IsE.at1 {H : Hp} {v : AV} {es : List Edge} (h : IsE H v es) {i : Nat} (hi : i < es.length) :
  ∃ b o, idxS 3 v (.int .i64 (.ofNat i)) = .val (.ptr b o) ∧ qap (H.get b) o = .val (.int .i64 (.ofNat es[i].f)) ∧ qap (H.get b) (o + 1) = .val (.int .i64 (.ofNat es[i].t)) ∧ qap (H.get b) (o + 2) = .val (.bool es[i].s) := by
 obtain ⟨b, o, e1, _, e3⟩ := h.at hi
 exact ⟨b, o, e1, zh1 e3 (j := 0) (Nat.zero_lt_succ 2), zh1 e3 (j := 1) (Nat.lt_of_sub_eq_succ rfl : 1 < 3), zh1 e3 (j := 2) (Nat.lt_of_sub_eq_succ rfl : 2 < 3)⟩
theorem zi5 (a b : Bool) : qdy true (qet (.bool a) (.bool b)) = .val (.bool (!(a == b))) := id rfl
theorem qpl {call : Ev.Call} {H : Hp} {v w : AV} {ts : List T3} (hv : IsE H v (ts.map toE)) (hw : Gl 3 H w ts.length (qdr ts)) (hn : ts.length < 900000) :
  ∀ (k i : Nat), i ≤ ts.length → ts.length - i < k → qn1 call (fun x4 H => .ok x4 H) (fun H => qj2 call H) v w k (.int .i64 (.ofNat i)) H = .ok (.bool true) H
 | 0, i, _, h => by omega
 | k + 1, i, hi, hk => by
  show q59 call _ _ _ _ (qn1 call _ _ _ _ k) _ H = _
  unfold q59
  by_cases hlt : i < ts.length
  ·simp (disch := first | omega | exact ti rfl | (simp only [np, nq]; first | done | omega)) only [go_sem, reduceAdd, reduceMul, reduceSub, reduceLeDiff, reduceEqDiff, reduceShiftRight, reduceAnd, hlt, hw.lenV]
   unfold qwn
   obtain ⟨b, o, e1, e2, e3, e4⟩ := hv.at1 (i := i) (by simpa using hlt)
   obtain ⟨b', o', g1, _, _, g2, g3, g4⟩ := T3_at hw hlt
   simp only [List.getElem_map, toE] at e2 e3 e4
   simp (disch := first | omega | exact ti rfl | (simp only [np, nq]; first | done | omega)) only [go_sem, reduceAdd, reduceMul, reduceSub, reduceLeDiff, reduceEqDiff, reduceShiftRight, reduceAnd, e1, e2, e3, e4, g1, g2, g3, g4, zi5]
   unfold q58
   simp (disch := first | omega | exact ti rfl | (simp only [np, nq]; first | done | omega)) only [go_sem, reduceAdd, reduceMul, reduceSub, reduceLeDiff, reduceEqDiff, reduceShiftRight, reduceAnd]
   exact qpl hv hw hn k (i + 1) (by omega) (by omega)
  ·simp (disch := first | omega | exact ti rfl | (simp only [np, nq]; first | done | omega)) only [go_sem, reduceAdd, reduceMul, reduceSub, reduceLeDiff, reduceEqDiff, reduceShiftRight, reduceAnd, hlt, hw.lenV]
   unfold qj2
   rfl
theorem q9h (hC : qav C) {k : Nat} (hk : 1 ≤ k) {H : Hp} {v w : AV} {ts : List T3} (hv : IsE H v (ts.map toE)) (hc : capV v = .val (.int .i64 (.ofNat ts.length))) (hw : Gl 3 H w ts.length (qdr ts)) (hn : ts.length < 900000) :
  C k (.f q1c) [v, w] H = .ok (.bool true) H := by
 obtain ⟨j, rfl⟩ : ∃ j, k = j + 1 := ⟨k - 1, by omega⟩
 rw [(hC j).zAf]
 unfold zAf zha
 have hl : lenSl v = .val (.int .i64 (.ofNat ts.length)) := by rw [hv.len, List.length_map]
 simp (disch := first | omega | exact ti rfl | (simp only [np, nq]; first | done | omega)) only [go_sem, reduceAdd, reduceMul, reduceSub, reduceLeDiff, reduceEqDiff, reduceShiftRight, reduceAnd, hl, hw.lenV, hc]
 unfold qwm q6a
 rw [qan]
 exact qpl hv hw hn qak 0 (Nat.zero_le _) (by rw [qaf]; omega)
end Go.Di
end
noncomputable section
namespace Go.Di
open Go.Ev
variable {C : Nat → Ev.Call}
theorem qy1 (hC : qav C) (hN : qbs C) (hS : q19 C) {k : Nat} (hk : 23 ≤ k) (hlive : ∀ k H, 1 ≤ k → C k (.f q8v) [] H = .ok (.bool true) H) {v : AV} {L : List (List Nat)} {H : Hp} (hv : ArgC H v L) :
  Ok (zAa (C k) (.agg [v]) H) fun r _ => r = .bool true := by
 unfold zAa zhf
 have f0 : Fm No H (qal H (qaa 0 [v])) := by (repeat (first | exact Fm.refl _ _ | assumption | refine Fm.push ?_ _ | refine Fm.up2 ?_ (by (first | omega | (simp only [np, nq]; omega))) | refine Fm.put_new ?_ _ _ (by (first | omega | (simp only [np, nq]; omega)))))
 simp (disch := first | omega | exact ti rfl | (simp only [np, nq]; first | done | omega)) only [go_sem, reduceAdd, reduceMul, reduceSub, reduceLeDiff, reduceEqDiff, reduceShiftRight, reduceAnd]
 refine Ok.ve (zmz hC (k := k) (by omega) (hv.fm f0)) ?_
 rintro _ H1 ⟨sv, X, rfl, hX, hsc, f1⟩
 have hI : IsC L X := ⟨hsc⟩
 have hV := hI.val
 simp (disch := first | omega | exact ti rfl | (simp only [np, nq]; first | done | omega)) only [go_sem, reduceAdd, reduceMul, reduceSub, reduceLeDiff, reduceEqDiff, reduceShiftRight, reduceAnd, qoh]
 unfold qfi
 have n1 := f1.nx
 have fa : Fm No H1 ((qal H1 (qaa 0 [.nilsl])).put H1.nx (qaa 0 [sv])) := by (repeat (first | exact Fm.refl _ _ | assumption | refine Fm.push ?_ _ | refine Fm.up2 ?_ (by (first | omega | (simp only [np, nq]; omega))) | refine Fm.put_new ?_ _ _ (by (first | omega | (simp only [np, nq]; omega)))))
 obtain ⟨Ha, hHa⟩ : ∃ Ha, Ha = ((qal H1 (qaa 0 [.nilsl])).put H1.nx (qaa 0 [sv])) := ⟨_, rfl⟩
 rw [← hHa] at fa ⊢
 have ga : Ha.get H1.nx = qaa 0 [sv] := by rw [hHa]; exact qam _ _ _
 have na : H1.nx < Ha.nx := by rw [hHa]; (first | omega | (simp only [np, nq]; omega))
 simp (disch := first | omega | exact ti rfl | (simp only [np, nq]; first | done | omega)) only [go_sem, reduceAdd, reduceMul, reduceSub, reduceLeDiff, reduceEqDiff, reduceShiftRight, reduceAnd, ga]
 refine Ok.ve (zc1 hC (k := k) (by omega) (hX.fm fa) hV.ofW) ?_
 rintro mv H2 ⟨mb, hM, hmb, f2⟩
 generalize hms : qdf (allG X).length (List.replicate ((allG X).length * (allG X).length) 0) (tsG X (allG X).length) = ms at *
 have hr := hM.hv
 subst hr
 simp (disch := first | omega | exact ti rfl | (simp only [np, nq]; first | done | omega)) only [go_sem, reduceAdd, reduceMul, reduceSub, reduceLeDiff, reduceEqDiff, reduceShiftRight, reduceAnd, qoi]
 unfold qfj
 have n2 := f2.nx
 generalize hNN : (allG X).length = N at *
 have fb : Fm No H2 ((qal H2 (qaa 0 [.int .i64 (.ofNat 0), .nilsl])).put H2.nx (qaa 0 [.int .i64 (.ofNat N), .sl mb 0 (N * N) (N * N) true])) := by (repeat (first | exact Fm.refl _ _ | assumption | refine Fm.push ?_ _ | refine Fm.up2 ?_ (by (first | omega | (simp only [np, nq]; omega))) | refine Fm.put_new ?_ _ _ (by (first | omega | (simp only [np, nq]; omega)))))
 obtain ⟨Hb, hHb⟩ : ∃ Hb, Hb = ((qal H2 (qaa 0 [.int .i64 (.ofNat 0), .nilsl])).put H2.nx (qaa 0 [.int .i64 (.ofNat N), .sl mb 0 (N * N) (N * N) true])) := ⟨_, rfl⟩
 rw [← hHb] at fb ⊢
 have gb : Hb.get H2.nx = qaa 0 [.int .i64 (.ofNat N), .sl mb 0 (N * N) (N * N) true] := by rw [hHb]; exact qam _ _ _
 have nb : H2.nx < Hb.nx := by rw [hHb]; (first | omega | (simp only [np, nq]; omega))
 have gab : Hb.get H1.nx = qaa 0 [sv] := ((f2.trans fb).keep na).trans ga
 simp (disch := first | omega | exact ti rfl | (simp only [np, nq]; first | done | omega)) only [go_sem, reduceAdd, reduceMul, reduceSub, reduceLeDiff, reduceEqDiff, reduceShiftRight, reduceAnd, gab]
 refine Ok.ve (zmx hC hN hS (k := k) hk (((hX.fm fa).fm f2).fm fb) hV) ?_
 rintro _ H3 ⟨w, rfl, hE, hcap, f3, hw⟩
 rw [hNN]
 have hsame := hV.same
 rw [hNN, hms] at hsame
 rw [← hsame] at hE hcap
 have n3 := f3.nx
 simp (disch := first | omega | exact ti rfl | (simp only [np, nq]; first | done | omega)) only [go_sem, reduceAdd, reduceMul, reduceSub, reduceLeDiff, reduceEqDiff, reduceShiftRight, reduceAnd, qoj]
 unfold qfk
 have fc : Fm No H3 ((qal H3 (qaa 0 [.int .i64 (.ofNat 0), .nilsl])).put H3.nx (qaa 0 [.int .i64 (.ofNat N), w])) := by (repeat (first | exact Fm.refl _ _ | assumption | refine Fm.push ?_ _ | refine Fm.up2 ?_ (by (first | omega | (simp only [np, nq]; omega))) | refine Fm.put_new ?_ _ _ (by (first | omega | (simp only [np, nq]; omega)))))
 obtain ⟨Hc, hHc⟩ : ∃ Hc, Hc = ((qal H3 (qaa 0 [.int .i64 (.ofNat 0), .nilsl])).put H3.nx (qaa 0 [.int .i64 (.ofNat N), w])) := ⟨_, rfl⟩
 rw [← hHc] at fc ⊢
 have gc : Hc.get H3.nx = qaa 0 [.int .i64 (.ofNat N), w] := by rw [hHc]; exact qam _ _ _
 have nc : H3.nx < Hc.nx := by rw [hHc]; (first | omega | (simp only [np, nq]; omega))
 have gbc : Hc.get H2.nx = qaa 0 [.int .i64 (.ofNat N), .sl mb 0 (N * N) (N * N) true] := ((f3.trans fc).keep nb).trans gb
 have hl : (eM N ms N).length < 900000 := by
  have := q9m N ms N
  have h2 := hM.ok.hn
  have h3 := Nat.mul_le_mul h2 h2
  omega
 simp (disch := first | omega | exact ti rfl | (simp only [np, nq]; first | done | omega)) only [go_sem, reduceAdd, reduceMul, reduceSub, reduceLeDiff, reduceEqDiff, reduceShiftRight, reduceAnd, gc, gbc]
 refine Ok.deO (zez hC (k := k) (by omega) (H := Hc) (((hM.fm fb).fm f3).fm fc)) ?_
 rintro av H4 ⟨hA, f4, _⟩
 have n4 := f4.nx
 have g4 : H4.get H3.nx = qaa 0 [.int .i64 (.ofNat N), w] := (f4.keep nc).trans gc
 have gb4 : H4.get H2.nx = qaa 0 [.int .i64 (.ofNat N), .sl mb 0 (N * N) (N * N) true] := (f4.keep (by omega)).trans gbc
 have hE4 : IsE H4 w ((eM N ms N).map toE) := (hE.fm fc).fm f4
 have hcp : capV w = .val (.int .i64 (.ofNat (eM N ms N).length)) := by rw [hcap]; unfold qfs; rw [List.length_map]
 have hed := q9h hC (k := k) (by omega) hE4 hcp hA hl
 have ew : eqF 64 w w = true := by
  rcases hw with rfl | ⟨b, o, n, m, e, rfl⟩
  ·exact qt3
  ·rw [zff]
 simp (disch := first | omega | exact ti rfl | (simp only [np, nq]; first | done | omega)) only [go_sem, reduceAdd, reduceMul, reduceSub, reduceLeDiff, reduceEqDiff, reduceShiftRight, reduceAnd, g4, gb4, ew]
 refine Ok.deE hed ?_
 simp (disch := first | omega | exact ti rfl | (simp only [np, nq]; first | done | omega)) only [go_sem, reduceAdd, reduceMul, reduceSub, reduceLeDiff, reduceEqDiff, reduceShiftRight, reduceAnd, g4, gb4, ew]
 refine Ok.deO (ze2 hC (k := k) (by omega) (q1v N ms) hM.ok.hn (by unfold qfs; rw [List.length_map]; omega) hE4) ?_
 rintro _ H5 ⟨rfl, f5⟩
 simp (disch := first | omega | exact ti rfl | (simp only [np, nq]; first | done | omega)) only [go_sem, reduceAdd, reduceMul, reduceSub, reduceLeDiff, reduceEqDiff, reduceShiftRight, reduceAnd, hlive _ _ (show 1 ≤ k by omega)]
 exact Ok.ret rfl
end Go.Di
end
noncomputable section
namespace Go.Di
open Go.Ev
def egO (e : Edge) : Eg := ⟨.ofNat e.f, .ofNat e.t, e.s⟩
theorem zjs (es : List Edge) : (es.map egO).flatMap egV = ceE es := by
 induction es with
 | nil => rfl
 | cons a l ih => rw [List.map_cons, List.flatMap_cons, ih]; rfl
theorem q9d : ∀ es : List Edge, qm3 (ceE es) = some (es.map egO)
 | [] => rfl
 | a :: l => by
  show qm3 (.int .i64 (.ofNat a.f) :: .int .i64 (.ofNat a.t) :: .bool a.s :: ceE l) = _
  rw [qm3, q9d l]; rfl
theorem zmf (x y : Edge) : cmpEg (egO x) (egO y) = cmpE x y := by
 unfold cmpEg cmpE or3 egO sgB sgn cI
 simp only [orI, cmpI]
 by_cases h : cmpI (.ofNat x.f) (.ofNat y.f) = 0 <;> by_cases h2 : cmpI (.ofNat x.t) (.ofNat y.t) = 0 <;> unfold cmpI at h h2 <;> simp only [h, h2, if_true, if_false] <;> (try split) <;> simp_all
theorem q62 (es : List Edge) : qj5 (es.map egO) = (sortE es).map egO :=
 (List.map_mergeSort fun a _ b _ => by show (!decide (cmpE b a < 0)) = _; rw [zmf]).symm
theorem qx4 (f fc : FuncId) (e : Ext) {H : Hp} {v : AV} {es : List Edge} (h : Gl 3 H v es.length (ceE es)) (hl : es.length ≤ 1000000) :
  ∃ r, qgu f fc e f [v, .fn fc [] []] H = some r ∧ Ok r fun r H' => r = .tup [] ∧ Gl 3 H' v es.length (ceE (sortE es)) ∧ Fm (In v) H H' := by
 have hb : ∀ n : Nat, Nat.beq n n = true := fun n => Nat.beq_refl n
 rcases h.is with ⟨rfl, h0⟩ | ⟨b, o, x, q, L, rfl, h1, h2, h3, h4, h5⟩
 ·have : es = [] := List.length_eq_zero_iff.1 h0
  subst this
  refine ⟨.ok (.tup []) H, ?_, ?_⟩
  ·unfold qgu; simp only [hb, cond_true]
  ·have hz : sortE [] = [] := by simp [sortE]
   rw [hz]
   exact Ok.ret ⟨rfl, h, Fm.refl _ _⟩
 ·have hLl : o + es.length * 3 = L.length := by
   have := congrArg List.length h3
   rw [List.length_drop, qfv] at this
   omega
  have hsl : (ceE (sortE es)).length = es.length * 3 := by rw [qfv, qsg]
  have hs : qsh H b o es.length = some (.ok (.tup []) (H.put b (qaa q (setL L o (ceE (sortE es)))))) := by
   unfold qsh
   rw [h1, qdb, if_pos (by omega), h3, List.take_of_length_le (by rw [qfv]; omega)]
   simp only [q9d, q62, zjs]
   rw [qjd H b o _ _ q L h1 (by omega)]
   have : Nat.blt es.length 4611686018427387904 = true := by rw [Nat.blt_eq]; omega
   simp only [this, cond_true]
  refine ⟨_, by unfold qgu; simp only [hb, cond_true]; exact hs, Ok.ret ⟨rfl, ⟨by rw [hsl], .inr ⟨b, o, x, q, setL L o (ceE (sortE es)), rfl, qam _ _ _, ?_, ?_, h4, h5⟩⟩, (Fm.refl _ _).put b _ fun _ => ⟨_, _, _, _, rfl⟩⟩⟩
  ·rw [qfm _ _ _ (by omega)]; exact h2
  ·unfold setL
   rw [List.drop_of_length_le (l := L) (by omega), List.append_nil, List.drop_append_of_le_length (by rw [List.length_take]; omega), List.drop_of_length_le (by rw [List.length_take]; omega), List.nil_append]
end Go.Di
end
noncomputable section
namespace Go.Di
open Go.Ev
def qnf (l : List AV) : Blk := .cells (qaw l.length) l.length (cellsOf l) true 0
theorem qst (l : List AV) (o : Nat) : qap (qnf l) o = match l[o]? with | some v => .val v | none => .bad := by
 show (bif Nat.blt o l.length then R0.val ((qar _ o).f (cellsOf l)) else .bad) = _
 rw [blt_eq]
 by_cases h : o < l.length
 ·rw [decide_eq_true h, qcx _ _ (Nat.lt_of_lt_of_le h (qbz _))]
  simp [h]
 ·rw [decide_eq_false h]
  simp [Nat.le_of_not_lt h]
theorem qip (b : Nat) : Hp.empty.get b = .dead := by
 show (bif Nat.blt b 2097152 then (qar HD b).f (same Blk.dead HD) else Blk.dead) = Blk.dead
 rw [qg0]; cases Nat.blt b 2097152 <;> rfl
theorem add_add (a : Addr) (x y : Nat) : (a.add x).add y = a.add (x + y) := by
 unfold Addr.add
 by_cases hx : x = 0
 ·subst hx; simp
 ·by_cases hy : y = 0
  ·subst hy; simp
  ·simp [hx, hy, Nat.add_assoc]
theorem q18 {a : Addr} (h : a.spot = none) (x : Nat) : a.add x = ⟨a.block, a.off + x, none⟩ := by
 obtain ⟨ab, ao, az⟩ := a
 cases h
 unfold Addr.add
 by_cases hx : x = 0
 ·subst hx; simp
 ·simp [hx]
theorem qpo {w : World} {a : Addr} {v : Value} (h : w.cell? (a.add 0) = some v) : a.spot = none ∧ a.block < w.heap.size := by
 have h : w.cell? a = some v := h
 unfold World.cell? at h
 rcases hx : w.heap[a.block]? with _ | o
 ·rw [hx] at h; cases h
 ·refine ⟨?_, (Array.getElem?_eq_some_iff.1 hx).1⟩
  rw [hx] at h
  cases o with
  | cells c e z =>
   rcases hs : a.spot with _ | s
   ·rfl
   ·rw [hs] at h; cases h
  | _ => cases h
structure Ro where
 l : List AV
 (b o : Nat)
def qya (ks : List Ro) : Hp := ks.foldl (fun H k => qal H (qnf k.l)) Hp.empty
def roIm (ks : List Ro) : Im := fun b => (ks[b]?).map fun k => ⟨k.b, k.o, 0, 0⟩
theorem qsp : ∀ (ks : List Ro) (H : Hp), (∀ b, H.nx ≤ b → H.get b = .dead) →
  (ks.foldl (fun H k => qal H (qnf k.l)) H).nx = H.nx + ks.length ∧ ∀ b, (ks.foldl (fun H k => qal H (qnf k.l)) H).get b = if b < H.nx then H.get b else match ks[b - H.nx]? with | some k => qnf k.l | none => .dead
 | [], H, h => ⟨rfl, fun b => by
  by_cases hb : b < H.nx
  ·rw [if_pos hb]; rfl
  ·rw [if_neg hb]; exact h b (by omega)⟩
 | k :: ks, H, h => by
  obtain ⟨h1, h2⟩ := qsp ks (qal H (qnf k.l)) (fun b hb => by
   have : H.nx + 1 ≤ b := hb
   rw [qil, if_neg (by omega)]; exact h b (by omega))
  have hx : (qal H (qnf k.l)).nx = H.nx + 1 := rfl
  rw [List.foldl_cons]
  refine ⟨by rw [h1, hx, List.length_cons]; omega, fun b => ?_⟩
  rw [h2, hx, qil]
  by_cases hb : b < H.nx
  ·rw [if_pos (by omega), if_neg (by omega), if_pos hb]
  ·by_cases hb2 : b = H.nx
   ·subst hb2
    rw [if_pos (Nat.lt_succ_self _), if_pos rfl, if_neg (Nat.lt_irrefl _), Nat.sub_self]; rfl
   ·rw [if_neg (by omega), if_neg hb, show b - H.nx = (b - (H.nx + 1)) + 1 by omega, List.getElem?_cons_succ]
theorem qda (ks : List Ro) : (qya ks).nx = ks.length ∧ ∀ b, (qya ks).get b = match ks[b]? with | some k => qnf k.l | none => .dead := by
 obtain ⟨h1, h2⟩ := qsp ks Hp.empty fun b _ => qip b
 refine ⟨by show (ks.foldl _ Hp.empty).nx = _; rw [h1]; exact Nat.zero_add _, fun b => ?_⟩
 show (ks.foldl _ Hp.empty).get b = _
 rw [h2, if_neg (show ¬ b < Hp.empty.nx from Nat.not_lt_zero b)]; rfl
theorem zmv {w : World} {ks : List Ro} (h : ∀ i (hi : i < ks.length), ks[i].b < w.heap.size ∧ ∀ j (hj : j < ks[i].l.length), ∃ V, w.cell? ⟨ks[i].b, ks[i].o + j, none⟩ = some V ∧ Rep (roIm ks) ks[i].l[j] V ∧ V.oneCell = true) :
  HR (roIm ks) (qya ks) w ∧ ∀ b, ((qya ks).get b).wr = false := by
 have hw : ∀ b, ((qya ks).get b).wr = false := fun b => by
  rw [(qda ks).2]
  split <;> rfl
 refine ⟨⟨inH, fun b _ => ?_, fun b m _ hd hm => ?_, fun b c m m' _ _ h => ?_, fun b h => ?_, fun b h _ => ?_⟩, hw⟩
 ·rw [(qda ks).2]
  by_cases hb : b < ks.length
  ·rw [List.getElem?_eq_getElem hb]
   refine ⟨⟨ks[b].b, ks[b].o, 0, 0⟩, by unfold roIm; rw [List.getElem?_eq_getElem hb]; rfl, ⟨qbz _, rfl⟩, fun i hi => ?_, fun h => by cases h⟩
   obtain ⟨V, h1, h2, h3⟩ := (h b hb).2 i hi
   refine ⟨V, h1, ?_, h3, fun h => by cases h⟩
   rw [qcx _ _ (Nat.lt_of_lt_of_le hi (qbz _))]
   simpa [hi] using h2
  ·rw [List.getElem?_eq_none (by omega)]; trivial
 ·unfold roIm at hm
  by_cases hb : b < ks.length
  ·rw [List.getElem?_eq_getElem hb] at hm
   cases hm
   exact (h b hb).1
  ·rw [List.getElem?_eq_none (by omega)] at hm; cases hm
 ·rw [hw b] at h; cases h
 ·rw [(qda ks).1] at h
  unfold roIm; rw [List.getElem?_eq_none h]; rfl
 ·rw [(qda ks).1] at h
  rw [(qda ks).2, List.getElem?_eq_none h]
structure Inr (w : World) (v : Value) (k : Nat) (x : AV) (l : List Nat) (r : Ro) : Prop where
 one : v.oneCell = true
 rep : ∀ ι : Im, ι k = some ⟨r.b, r.o, 0, 0⟩ → Rep ι x v
 lt : ∀ y ∈ l, y < 256
 eq : r.l = u8s l
 len : lenSl x = .val (.int .i64 (.ofNat l.length))
 at' : ∀ j, j < l.length → idxS 1 x (.int .i64 (.ofNat j)) = .val (.ptr k j)
 cell : ∀ j (h : j < l.length), w.cell? ⟨r.b, r.o + j, none⟩ = some (.int .u8 (.ofNat l[j]))
 low : r.b < w.heap.size
theorem inner {Hd : Type} {enc : TypeId × Value → Hd} {P : Program} {w : World} {fuel : Nat} {e u : TypeId} {cs : List Value} {x : DataW Hd × List MemPlace} (he : P.underlying e = some (.slice u)) (hu : P.underlying u = some (.int .u8)) (hcu : P.cellsOf u = 1) {b0 : Nat} (hb0 : b0 < w.heap.size)
  (h : DataW.trod enc P w 0 (fun _ => true) true fuel e cs = some x) (k : Nat) : ∃ v y l r, cs = [v] ∧ Inr w v k y l r := by
 rcases DataW.trod_slice he h with ⟨h0, _⟩ | ⟨a, len, cap, elems, rest, n, _, hcs, _, _, hl, _, hlen, hel, _⟩
 ·exact ⟨_, .nilsl, [], ⟨[], b0, 0⟩, h0, rfl, fun _ _ => by simp only [Rep], by simp, rfl, rfl, fun j hj => by simp at hj, fun j hj => by simp at hj, hb0⟩
 ·have cell : ∀ i, i < len → ∃ y : Nat, y < 256 ∧ w.cell? (a.add i) = some (.int .u8 (.ofNat y)) := by
   intro i hi
   have h1 := hel i hi
   rw [List.getElem?_eq_getElem (by omega), hcu, Option.bind_eq_some_iff] at h1
   obtain ⟨cs', h2, h3⟩ := h1
   obtain ⟨y, h5, _, h6⟩ := DataW.trod_int hu h3
   have h7 := (World.cells?_some h2).2.2 0 (by omega)
   rw [h5] at h7
   simp only [Lit.wf, Bool.and_eq_true, decide_eq_true_eq] at h6
   have h9 : 0 ≤ y ∧ y ≤ 255 := ⟨h6.1, h6.2⟩
   refine ⟨y.toNat, by omega, ?_⟩
   have h10 : (a.add (i * 1)).add 0 = a.add i := by rw [add_add, Nat.mul_one]; rfl
   rw [← h10, h7]
   show some (Value.int .u8 y) = _
   congr 2
   show y = ((y.toNat : Nat) : Int)
   omega
  rcases Nat.eq_zero_or_pos len with hz | hz
  ·subst hz
   exact ⟨_, .sle, [], ⟨[], b0, 0⟩, hcs, rfl, fun _ _ => by simp only [Rep]; exact ⟨_, _, rfl⟩, by simp, rfl, rfl, fun j hj => by simp at hj, fun j hj => by simp at hj, hb0⟩
  ·obtain ⟨y0, _, hc0⟩ := cell 0 hz
   obtain ⟨hspot, hblk⟩ := qpo hc0
   obtain ⟨g, hg⟩ : ∃ g : Nat → Nat, ∀ i, i < len → g i < 256 ∧ w.cell? ⟨a.block, a.off + i, none⟩ = some (.int .u8 (.ofNat (g i))) := by
    refine ⟨fun i => if h : i < len then Classical.choose (cell i h) else 0, fun i hi => ?_⟩
    simp only [hi, dif_pos]
    rw [← q18 hspot]
    exact Classical.choose_spec (cell i hi)
   refine ⟨_, .sl k 0 len cap true, (List.range len).map g, ⟨u8s ((List.range len).map g), a.block, a.off⟩, hcs, rfl, fun ι hι => ?_, fun y hy => ?_, rfl, by rw [List.length_map, List.length_range]; rfl, fun j hj => ?_, fun j hj => ?_, hblk⟩
   ·simp only [Rep]
    refine ⟨hl, _, hι, ?_⟩
    obtain ⟨ab, ao, az⟩ := a
    cases hspot
    rfl
   ·obtain ⟨i, hi, rfl⟩ := List.mem_map.1 hy
    exact (hg i (List.mem_range.1 hi)).1
   ·have hj' : j < len := by simpa using hj
    rw [qg8 _ _ _ _ _ _ _ _ hj', Nat.zero_add, Nat.mul_one]
   ·have hj' : j < len := by simpa using hj
    rw [(hg j hj').2]; simp
theorem zl4 {Hd : Type} {enc : TypeId × Value → Hd} {P : Program} {w : World} {fuel : Nat} {t e u : TypeId} {v : Value} {x : DataW Hd × List MemPlace} (ht : P.underlying t = some (.slice e)) (he : P.underlying e = some (.slice u)) (hu : P.underlying u = some (.int .u8))
  (hce : P.cellsOf e = 1) (hcu : P.cellsOf u = 1) (h : DataW.trod enc P w 0 (fun _ => true) true fuel t [v] = some x) :
  ∃ ι H a L, HR ι H w ∧ Rep ι a v ∧ ArgC H a L ∧ ∀ b, (H.get b).wr = false := by
 have hempty : ∀ b, (Hp.empty.get b).wr = false := fun b => by rw [qip]; rfl
 rcases DataW.trod_slice ht h with ⟨h0, _⟩ | ⟨a, len, cap, elems, rest, n, _, hcs, _, _, hl, _, hlen, hel, _⟩
 ·cases h0
  exact ⟨_, _, .nilsl, [], HR.empty, by simp only [Rep], ⟨rfl, ⟨[], ⟨rfl, fun i hi => by simp at hi⟩, rfl, fun i hi => by simp at hi⟩, by simp⟩, hempty⟩
 ·cases hcs
  rcases Nat.eq_zero_or_pos len with hz | hz
  ·subst hz
   exact ⟨_, _, .sle, [], HR.empty, by simp only [Rep]; exact ⟨_, _, rfl⟩, ⟨rfl, ⟨[], ⟨rfl, fun i hi => by simp at hi⟩, rfl, fun i hi => by simp at hi⟩, by simp⟩, hempty⟩
  ·have cell0 : ∀ i, i < len → ∃ cs' x', w.cells? 0 (a.add i) 1 = some cs' ∧ DataW.trod enc P w 0 (fun _ => true) true n e cs' = some x' := by
    intro i hi
    have h1 := hel i hi
    rw [List.getElem?_eq_getElem (by omega), hce, Option.bind_eq_some_iff, Nat.mul_one] at h1
    obtain ⟨cs', h2, h3⟩ := h1
    exact ⟨cs', _, h2, h3⟩
   have c0 : ∃ v0, w.cell? (a.add 0) = some v0 := by
    obtain ⟨cs', x', h2, _⟩ := cell0 0 hz
    have h7 := (World.cells?_some h2).2.2 0 (by omega)
    have hl1 := (World.cells?_some h2).2.1
    rw [add_add] at h7
    rw [h7, List.getElem?_eq_getElem (by omega)]
    exact ⟨_, rfl⟩
   obtain ⟨v0, hv0⟩ := c0
   obtain ⟨hspot, hblk⟩ := qpo hv0
   have cell : ∀ i, i < len → ∃ q : Value × AV × List Nat × Ro, w.cell? ⟨a.block, a.off + i, none⟩ = some q.1 ∧ Inr w q.1 (i + 1) q.2.1 q.2.2.1 q.2.2.2 := by
    intro i hi
    obtain ⟨cs', x', h2, h3⟩ := cell0 i hi
    obtain ⟨vv, y, l, r, rfl, hI⟩ := inner he hu hcu hblk h3 (i + 1)
    have h7 := (World.cells?_some h2).2.2 0 (by omega)
    rw [add_add, q18 hspot] at h7
    exact ⟨⟨vv, y, l, r⟩, h7, hI⟩
   obtain ⟨g, hg⟩ : ∃ g : Nat → Value × AV × List Nat × Ro, ∀ i, i < len → w.cell? ⟨a.block, a.off + i, none⟩ = some (g i).1 ∧ Inr w (g i).1 (i + 1) (g i).2.1 (g i).2.2.1 (g i).2.2.2 := by
    refine ⟨fun i => if h : i < len then Classical.choose (cell i h) else ⟨v0, .undef, [], ⟨[], 0, 0⟩⟩, fun i hi => ?_⟩
    simp only [hi, dif_pos]
    exact Classical.choose_spec (cell i hi)
   let ws : List AV := (List.range len).map fun i => (g i).2.1
   let L : List (List Nat) := (List.range len).map fun i => (g i).2.2.1
   let ks : List Ro := ⟨ws, a.block, a.off⟩ :: (List.range len).map fun i => (g i).2.2.2
   have hks : ks.length = len + 1 := by simp [ks]
   have hk1 : ∀ i, i < len → ks[i + 1]? = some (g i).2.2.2 := fun i hi => by simp [ks, hi]
   have him : ∀ i, i < len → roIm ks (i + 1) = some ⟨(g i).2.2.2.b, (g i).2.2.2.o, 0, 0⟩ := fun i hi => by unfold roIm; rw [hk1 i hi]; rfl
   have hwl : ws.length = len := by simp [ws]
   have hLl : L.length = len := by simp [L]
   obtain ⟨hHR, hwr⟩ := zmv (w := w) (ks := ks) (fun i hi => by
    cases i with
    | zero =>
     refine ⟨hblk, fun j hj => ?_⟩
     have hj' : j < len := by rw [← hwl]; exact hj
     obtain ⟨h1, h2⟩ := hg j hj'
     refine ⟨_, h1, ?_, h2.one⟩
     show Rep (roIm ks) ws[j] _
     have : ws[j] = (g j).2.1 := by simp [ws]
     rw [this]
     exact h2.rep _ (him j hj')
    | succ i =>
     have hi' : i < len := by omega
     obtain ⟨h1, h2⟩ := hg i hi'
     have hke : ks[i + 1] = (g i).2.2.2 := by
      have := hk1 i hi'
      rw [List.getElem?_eq_getElem hi] at this
      exact Option.some.inj this
     rw [hke]
     refine ⟨h2.low, fun j hj => ?_⟩
     have hj' : j < (g i).2.2.1.length := by have := hj; rw [h2.eq] at this; simpa [u8s] using this
     refine ⟨_, h2.cell j hj', ?_, rfl⟩
     have he : (g i).2.2.2.l[j] = .int .u8 (.ofNat ((g i).2.2.1[j])) := by
      have : ∀ (z : List AV) (hz : z = u8s (g i).2.2.1) (hzj : j < z.length), z[j] = .int .u8 (.ofNat ((g i).2.2.1[j])) := fun z hz hzj => by subst hz; simp [u8s]
      exact this _ h2.eq hj
     rw [he]
     simp only [Rep])
   have hnx : (qya ks).nx = len + 1 := by rw [(qda ks).1, hks]
   refine ⟨roIm ks, qya ks, .sl 0 0 len cap true, L, hHR, ?_, ⟨rfl, ⟨ws, ⟨by rw [hwl]; rfl, fun i hi => ?_⟩, by rw [hwl, hLl], fun i hi hi' => ?_⟩, fun l hl y hy => ?_⟩, hwr⟩
   ·simp only [Rep]
    refine ⟨hl, ⟨a.block, a.off, 0, 0⟩, rfl, ?_⟩
    obtain ⟨ab, ao, az⟩ := a
    cases hspot
    rfl
   ·refine ⟨0, 0 + i * 1, qg8 _ _ _ _ _ _ _ _ (by omega), by omega, ?_⟩
    rw [(qda ks).2]
    show qap (qnf ws) _ = _
    rw [qst, Nat.zero_add, Nat.mul_one, List.getElem?_eq_getElem hi]
   ·have hil : i < len := by omega
    obtain ⟨h1, h2⟩ := hg i hil
    have e1 : ws[i] = (g i).2.1 := by simp [ws]
    have e2 : L[i] = (g i).2.2.1 := by simp [L]
    rw [e1, e2]
    refine ⟨by rw [h2.len]; simp [u8s], fun j hj => ?_⟩
    have hj' : j < (g i).2.2.1.length := by simpa [u8s] using hj
    refine ⟨i + 1, j, h2.at' j hj', by omega, ?_⟩
    rw [(qda ks).2, hk1 i hil]
    show qap (qnf (g i).2.2.2.l) j = _
    rw [qst, h2.eq, List.getElem?_eq_getElem hj]
   ·obtain ⟨i, hi, rfl⟩ := List.mem_map.1 hl
    exact (hg i (List.mem_range.1 hi)).2.lt y hy
end Go.Di
end
