/-
 For countersignlaw18.StrataErrors: the law, the second part. No conditions beyond those that each theorem states.
-/
import Derived.Test.YtiickhlaamgljaaGreatLaw
import Derived.Test.YtiickhlaamgljaaGreatGraC
import Derived.Test.YtiickhlaamgljaaGreatCompE
set_option linter.unusedSimpArgs false
set_option linter.unusedVariables false
open Nat (reduceAdd reduceMul reduceSub reduceLeDiff reduceEqDiff reduceShiftRight reduceAnd)
noncomputable section
/-
 Strata of a graph, without any program: the least numbers that fit.
-/
namespace Go.Di
open Go.Ev Go.Di.T Go.Sort
def stN (e : Edge) : Nat := if e.s then 1 else 0
def Fit (n : Nat) (es : List Edge) (o : List Nat) : Prop := o.length = n ∧ ∀ e ∈ es, o.getD e.t 0 + stN e ≤ o.getD e.f 0
def Lst (n : Nat) (es : List Edge) (o : List Nat) : Prop := ∀ S, Fit n es S → ∀ x, x < n → o.getD x 0 ≤ S.getD x 0
theorem q8r {n : Nat} {es : List Edge} {S : List Nat} (h : Fit n es S) {a b : Nat} (hr : Rc (qa8 es) a b) : S.getD b 0 ≤ S.getD a 0 := by
 induction hr with
 | refl => exact Nat.le_refl _
 | step _ hst ih =>
  obtain ⟨x, hx, rfl, rfl⟩ := qce.1 hst
  have := h.2 x hx
  omega
theorem q3v {n : Nat} {es : List Edge} {S : List Nat} (h : Fit n es S) {e : Edge} (he : e ∈ es) (hs : e.s = true) (hr : Rc (qa8 es) e.t e.f) : False := by
 have h1 := h.2 e he
 have h2 := q8r h hr
 unfold stN at h1
 rw [if_pos hs] at h1
 omega
structure OutI (n : Nat) (es : List Edge) (ins : List Nat) (i : Nat) (o : List Nat) : Prop where
 len : o.length = n
 zero : ∀ x, x < n → i ≤ ins.getD x 0 → o.getD x 0 = 0
 up : ∀ e ∈ es, ins.getD e.f 0 < i → ins.getD e.t 0 ≠ ins.getD e.f 0 → o.getD e.t 0 + stN e ≤ o.getD e.f 0
 why : ∀ x, x < n → ins.getD x 0 < i → o.getD x 0 = 0 ∨ ∃ e ∈ es, ins.getD e.f 0 = ins.getD x 0 ∧ ins.getD e.t 0 ≠ ins.getD x 0 ∧ o.getD x 0 = o.getD e.t 0 + stN e
 same : ∀ x y, x < n → y < n → ins.getD x 0 = ins.getD y 0 → o.getD x 0 = o.getD y 0
 bd : ∀ x, x < n → o.getD x 0 ≤ ins.getD x 0
theorem rep0 (n x : Nat) : (List.replicate n 0).getD x 0 = 0 := by
 rw [List.getD_eq_getElem?_getD, List.getElem?_replicate]
 split <;> rfl
theorem OutI.start (n : Nat) (es : List Edge) (ins : List Nat) : OutI n es ins 0 (List.replicate n 0) :=
 ⟨by simp, fun x _ _ => rep0 n x, fun e _ h => absurd h (Nat.not_lt_zero _), fun x _ h => absurd h (Nat.not_lt_zero _), fun x y _ _ _ => by rw [rep0, rep0], fun x _ => by rw [rep0]; omega⟩
def asks (es : List Edge) (ins o : List Nat) (i : Nat) : List Nat := (es.filter fun e => decide (ins.getD e.f 0 = i) && !decide (ins.getD e.t 0 = i)).map fun e => o.getD e.t 0 + stN e
def maxL (l : List Nat) : Nat := l.foldl max 0
theorem q3t (l : List Nat) : ∀ a, a ≤ l.foldl max a ∧ (∀ x ∈ l, x ≤ l.foldl max a) ∧ (l.foldl max a = a ∨ l.foldl max a ∈ l) := by
 induction l with
 | nil => intro a; exact ⟨Nat.le_refl _, fun x h => (by cases h), Or.inl rfl⟩
 | cons y l ih =>
  intro a
  obtain ⟨h1, h2, h3⟩ := ih (max a y)
  show a ≤ l.foldl max (max a y) ∧ (∀ x ∈ y :: l, x ≤ l.foldl max (max a y)) ∧ (l.foldl max (max a y) = a ∨ l.foldl max (max a y) ∈ y :: l)
  refine ⟨by omega, fun x hx => ?_, ?_⟩
  ·rcases List.mem_cons.1 hx with rfl | hx
   ·omega
   ·exact h2 x hx
  ·rcases h3 with h3 | h3
   ·by_cases hay : y ≤ a
    ·left; omega
    ·right; rw [h3, show max a y = y by omega]; exact List.mem_cons_self
   ·right; exact List.mem_cons_of_mem _ h3
theorem qrl {es : List Edge} {ins o : List Nat} {i x : Nat} : x ∈ asks es ins o i ↔ ∃ e ∈ es, ins.getD e.f 0 = i ∧ ins.getD e.t 0 ≠ i ∧ x = o.getD e.t 0 + stN e := by
 unfold asks
 rw [List.mem_map]
 constructor
 ·rintro ⟨e, he, rfl⟩
  obtain ⟨he, hp⟩ := List.mem_filter.1 he
  rw [Bool.and_eq_true, decide_eq_true_eq, Bool.not_eq_true', decide_eq_false_iff_not] at hp
  exact ⟨e, he, hp.1, hp.2, rfl⟩
 ·rintro ⟨e, he, h1, h2, rfl⟩
  exact ⟨e, List.mem_filter.2 ⟨he, by rw [decide_eq_true h1, decide_eq_false h2]; rfl⟩, rfl⟩
def qg0 (o : List Nat) (v : Nat) : List Nat → List Nat
 | [] => o
 | x :: l => qg0 (o.set x v) v l
theorem zde (cs : List Nat) (a c v : Nat) (hc : c < cs.length) : (cs.set a v).getD c 0 = if a = c then v else cs.getD c 0 := by
 rw [List.getD_eq_getElem?_getD, List.getD_eq_getElem?_getD, List.getElem?_set]
 by_cases h : a = c
 ·subst h; rw [if_pos rfl, if_pos rfl, if_pos hc]; rfl
 ·rw [if_neg h, if_neg h]
theorem qmg (v : Nat) : ∀ (l o : List Nat), (qg0 o v l).length = o.length
 | [], _ => rfl
 | x :: l, o => (qmg v l _).trans List.length_set
theorem qs6 (v : Nat) {y : Nat} : ∀ (l o : List Nat), y < o.length → (qg0 o v l).getD y 0 = if y ∈ l then v else o.getD y 0
 | [], o, _ => by simp [qg0]
 | x :: l, o, h => by
  rw [qg0, qs6 v l _ (by rw [List.length_set]; exact h), zde _ _ _ _ h]
  by_cases h1 : y ∈ l
  ·rw [if_pos h1, if_pos (List.mem_cons_of_mem _ h1)]
  ·rw [if_neg h1]
   by_cases h2 : x = y
   ·subst h2; rw [if_pos rfl, if_pos List.mem_cons_self]
   ·rw [if_neg h2, if_neg fun h => (List.mem_cons.1 h).elim (fun e => h2 e.symm) h1]
theorem qod (v x : Nat) : ∀ (l o : List Nat), qg0 o v (l ++ [x]) = (qg0 o v l).set x v
 | [], _ => rfl
 | _ :: l, _ => qod v x l _
theorem OutI.step {n : Nat} {es : List Edge} {ins : List Nat} {i : Nat} {o c : List Nat} (h : OutI n es ins i o) (hE : ∀ e ∈ es, e.f < n ∧ e.t < n) (hc : ∀ x, x < n → (x ∈ c ↔ ins.getD x 0 = i)) (hd : ∀ e ∈ es, ins.getD e.t 0 ≤ ins.getD e.f 0) : OutI n es ins (i + 1) (qg0 o (maxL (asks es ins o i)) c) := by
 have g : ∀ x, x < n → (qg0 o (maxL (asks es ins o i)) c).getD x 0 = if ins.getD x 0 = i then maxL (asks es ins o i) else o.getD x 0 := fun x hx => by
  rw [qs6 _ _ _ (by rw [h.len]; exact hx)]
  by_cases hi : ins.getD x 0 = i
  ·rw [if_pos hi, if_pos ((hc x hx).2 hi)]
  ·rw [if_neg hi, if_neg fun m => hi ((hc x hx).1 m)]
 obtain ⟨_, m2, m3⟩ := q3t (asks es ins o i) 0
 refine ⟨by rw [qmg, h.len], fun x hx hi => ?_, fun e he hi hne => ?_, fun x hx hi => ?_, fun x y hx hy e => ?_, fun x hx => ?_⟩
 ·rw [g x hx, if_neg (by omega)]
  exact h.zero x hx (by omega)
 ·obtain ⟨l1, l2⟩ := hE e he
  have := hd e he
  rw [g _ l1, g _ l2, if_neg (by omega)]
  by_cases hf : ins.getD e.f 0 = i
  ·rw [if_pos hf]
   exact m2 _ (qrl.2 ⟨e, he, hf, by omega, rfl⟩)
  ·rw [if_neg hf]
   exact h.up e he (by omega) hne
 ·rw [g x hx]
  by_cases hf : ins.getD x 0 = i
  ·rw [if_pos hf]
   rcases m3 with m3 | m3
   ·exact Or.inl m3
   ·obtain ⟨e, he, h1, h2, h3⟩ := qrl.1 m3
    refine Or.inr ⟨e, he, h1.trans hf.symm, by rw [hf]; exact h2, ?_⟩
    rw [g _ (hE e he).2, if_neg h2]
    exact h3
  ·rw [if_neg hf]
   rcases h.why x hx (by omega) with h0 | ⟨e, he, h1, h2, h3⟩
   ·exact Or.inl h0
   ·refine Or.inr ⟨e, he, h1, h2, ?_⟩
    have := hd e he
    rw [g _ (hE e he).2, if_neg (by omega)]
    exact h3
 ·rw [g x hx, g y hy, e]
  split
  ·rfl
  ·exact h.same x y hx hy e
 ·rw [g x hx]
  by_cases hf : ins.getD x 0 = i
  ·rw [if_pos hf, hf]
   rcases m3 with m3 | m3
   ·have m3 : maxL (asks es ins o i) = 0 := m3
    omega
   ·obtain ⟨e, he, h1, h2, h3⟩ := qrl.1 m3
    have h3 : maxL (asks es ins o i) = o.getD e.t 0 + stN e := h3
    have h4 := hd e he
    have h5 := h.bd e.t (hE e he).2
    have : stN e ≤ 1 := by unfold stN; split <;> omega
    omega
  ·rw [if_neg hf]; exact h.bd x hx
theorem OutI.done {n : Nat} {es : List Edge} {ins : List Nat} {res : List (List Nat)} {o : List Nat} (h : OutI n es ins res.length o) (hE : ∀ e ∈ es, e.f < n ∧ e.t < n) (hN : Nm n res ins) (hF : OrdF n (qa8 es) [] res) (hd : ∀ e ∈ es, ins.getD e.t 0 ≤ ins.getD e.f 0) (hm : ∀ e ∈ es, e.s = true → ins.getD e.f 0 ≠ ins.getD e.t 0) :
  Fit n es o ∧ Lst n es o ∧ ∀ x, x < n → o.getD x 0 ≤ ins.getD x 0 := by
 refine ⟨⟨h.len, fun e he => ?_⟩, fun S hS => ?_, ?_⟩
 ·obtain ⟨l1, l2⟩ := hE e he
  by_cases hs : ins.getD e.t 0 = ins.getD e.f 0
  ·have hns : ¬ e.s = true := fun t => hm e he t hs.symm
   unfold stN
   rw [if_neg hns, h.same _ _ l2 l1 hs]
   exact Nat.le_refl _
  ·exact h.up e he (hN.lt l1) hs
 ·have key : ∀ m x, ins.getD x 0 = m → x < n → o.getD x 0 ≤ S.getD x 0 := fun m => by
   induction m using Nat.strongRecOn with
   | _ m ih =>
    intro x hx hxn
    rcases h.why x hxn (hN.lt hxn) with h0 | ⟨e, he, h1, h2, h3⟩
    ·omega
    ·obtain ⟨l1, l2⟩ := hE e he
     have h4 := hd e he
     have h5 := ih (ins.getD e.t 0) (by omega) e.t rfl l2
     have h6 := hS.2 e he
     have h7 := q8r hS ((hN.eq hF hxn l1).1 h1.symm).1
     omega
  exact fun x hx => key _ x rfl hx
 ·exact h.bd
def FitM (n : Nat) (ms o : List Nat) : Prop := ∀ i k, i < n → k < n → 0 < ms.getD (i * n + k) 0 → o.getD k 0 + (if 1 < ms.getD (i * n + k) 0 then 1 else 0) ≤ o.getD i 0
theorem q7k {n : Nat} {ms : List Nat} {i k : Nat} (h : ms.getD (i * n + k) 0 % 2 = 1) : (⟨i, k, 0⟩ : T3) ∈ ent n ms i k := by
 unfold ent
 rw [if_pos h]; exact List.mem_append_left _ (List.mem_singleton.2 rfl)
end Go.Di
end
noncomputable section
/-
 Contracts: whether any graph is right.
-/
namespace Go.Di
open Go.Ev
variable {C : Nat → Ev.Call}
structure AE where
 (f t : Int) (s : Bool)
def AE.cells (e : AE) : List AV := [.int .i64 e.f, .int .i64 e.t, .bool e.s]
def AE.toE (e : AE) : Edge := ⟨e.f.toNat, e.t.toNat, e.s⟩
structure IsA (H : Hp) (v : AV) (al : List AE) : Prop where
 flat : qs3 v = true
 len : lenSl v = .val (.int .i64 (.ofNat al.length))
 lt' : ∀ b, In v b → b < H.nx
 at' : ∀ (i : Nat) (hi : i < al.length), ∃ b o, idxS 3 v (.int .i64 (.ofNat i)) = .val (.ptr b o) ∧ b < H.nx ∧ qbc (H.get b) o 3 = some al[i].cells
theorem IsA.fm {H H' : Hp} {v : AV} {al : List AE} (h : IsA H v al) (a : Fm No H H') : IsA H' v al := ⟨h.flat, h.len, fun b hb => Nat.lt_of_lt_of_le (h.lt' b hb) a.nx, fun i hi => by
 obtain ⟨b, o, e1, e2, e3⟩ := h.at' i hi
 exact ⟨b, o, e1, Nat.lt_of_lt_of_le e2 a.nx, by rw [a.keep e2]; exact e3⟩⟩
def rngA (N : Int) (x : AE) : Prop := ¬ (min x.f x.t < Int.ofNat 0) ∧ ¬ (N ≤ max x.f x.t)
instance (N : Int) (x : AE) : Decidable (rngA N x) := inferInstanceAs (Decidable (_ ∧ _))
theorem rngA.cells {N : Int} {x : AE} (h : rngA N x) : x.cells = x.toE.cells := by
 obtain ⟨h1, _⟩ := h
 have h2 : 0 ≤ x.f ∧ 0 ≤ x.t := by simp only [Int.ofNat_eq_natCast] at h1; omega
 show [AV.int .i64 x.f, .int .i64 x.t, .bool x.s] = [.int .i64 (Int.ofNat x.f.toNat), .int .i64 (Int.ofNat x.t.toNat), .bool x.s]
 have e1 : Int.ofNat x.f.toNat = x.f := by simp only [Int.ofNat_eq_natCast]; omega
 have e2 : Int.ofNat x.t.toNat = x.t := by simp only [Int.ofNat_eq_natCast]; omega
 rw [e1, e2]
def chkL (N : Int) : Option AE → List AE → Nat
 | _, [] => 0
 | none, x :: l => if rngA N x then chkL N (some x) l else 4
 | some y, x :: l => if rngA N x then if Int.ofNat 0 ≤ cmpE y.toE x.toE then 18 else chkL N (some x) l else 4
def chk (N : Int) (al : List AE) : Nat := if N < Int.ofNat 0 ∨ Int.ofNat 256 < N then 3 else chkL N none al
theorem qhp (hC : qa9 C) {j : Nat} (hj : 3 ≤ j) {N : Int} {al : List AE} {v : AV} {g : Nat} {H0 : Hp} (hlen : al.length < 1000000) {q5e0 : Hp → R1} {c : Nat} (hq : c = 0 → ∀ H, Fm No H0 H → Ok (q5e0 H) fun r H => r = .int .i64 (.ofNat c) ∧ Fm No H0 H) :
  ∀ (k i : Nat) (H : Hp), i ≤ al.length → al.length - i < k → (∀ p (h : p < al.length), i = p + 1 → rngA N al[p] ∧ chkL N (some al[p]) (al.drop i) = c) → (i = 0 → chkL N none al = c) → IsA H v al → g < H.nx → H.get g = qaa 0 [.int .i64 N, v] → Fm No H0 H →
   Ok (qfd (C j) (fun x2 H => .ok x2 H) q5e0 (.ptr g 0) v (.int .i64 (.ofNat al.length)) k (.int .i64 (.ofNat i)) H) fun r H => r = .int .i64 (.ofNat c) ∧ Fm No H0 H
 | 0, i, _, _, h, _, _, _, _, _, _ => by omega
 | k + 1, i, H, hi, hk, hp, h0, hv, hg1, hg2, hf => by
  show Ok (qmf (C j) _ _ _ _ _ (qfd (C j) _ _ _ _ _ k) _ H) _
  unfold qmf
  by_cases hlt : i < al.length
  ·obtain ⟨b, o1, e1, e2, e3⟩ := hv.at' i hlt
   have hd : al.drop i = al[i] :: al.drop (i + 1) := List.drop_eq_getElem_cons hlt
   simp (disch := first | omega | exact ti rfl | (simp only [np, nq]; first | done | omega)) only [go_sem, reduceAdd, reduceMul, reduceSub, reduceLeDiff, reduceEqDiff, reduceShiftRight, reduceAnd, hlt]
   unfold qkk qxa
   by_cases hr : rngA N al[i]
   ·rw [hr.cells] at e3
    have hr' := hr
    obtain ⟨r1, r2⟩ := hr
    have n1 : 0 ≤ al[i].f ∧ 0 ≤ al[i].t := by simp only [Int.ofNat_eq_natCast] at r1; omega
    have hmin : (min (Int.ofNat al[i].toE.f) (Int.ofNat al[i].toE.t) < Int.ofNat 0) = False := by simp only [Int.ofNat_eq_natCast, eq_iff_iff, iff_false]; omega
    have hmax : (N ≤ max (Int.ofNat al[i].toE.f) (Int.ofNat al[i].toE.t)) = False := by
     have e1 : Int.ofNat al[i].toE.f = al[i].f := by show Int.ofNat al[i].f.toNat = _; simp only [Int.ofNat_eq_natCast]; omega
     have e2 : Int.ofNat al[i].toE.t = al[i].t := by show Int.ofNat al[i].t.toNat = _; simp only [Int.ofNat_eq_natCast]; omega
     rw [e1, e2, eq_iff_iff, iff_false]; exact r2
    by_cases h00 : 0 < i
    ·obtain ⟨p, rfl⟩ : ∃ p, i = p + 1 := ⟨i - 1, by omega⟩
     obtain ⟨b', o2, e1', e2', e3'⟩ := hv.at' p (by omega)
     obtain ⟨rp, hc⟩ := hp p (by omega) rfl
     rw [rp.cells] at e3'
     rw [hd, chkL, if_pos hr'] at hc
     have hv64 := qcd hv.flat 63
     simp (disch := first | omega | exact ti rfl | (simp only [np, nq]; first | done | omega)) only [go_sem, reduceAdd, reduceMul, reduceSub, reduceLeDiff, reduceEqDiff, reduceShiftRight, reduceAnd, e1, e3, Edge.cells, qhl, qhm, hmin, hmax, hg2, h00, e1', e3', Nat.add_sub_cancel]
     refine Ok.deO (qoi hC hj al[p].toE al[p + 1].toE _) ?_
     rintro v' H' ⟨rfl, f'⟩
     have k1 : H'.get g = qaa 0 [.int .i64 N, v] := (f'.keep (by (first | omega | (simp only [np, nq]; omega)))).trans (by simp (disch := first | omega | exact ti rfl | (simp only [np, nq]; first | done | omega)) only [go_sem, reduceAdd, reduceMul, reduceSub, reduceLeDiff, reduceEqDiff, reduceShiftRight, reduceAnd, hg2])
     have k2 : qbc (H'.get b') o2 3 = some al[p].toE.cells := by rw [f'.keep (by (first | omega | (simp only [np, nq]; omega)))]; simp (disch := first | omega | exact ti rfl | (simp only [np, nq]; first | done | omega)) only [go_sem, reduceAdd, reduceMul, reduceSub, reduceLeDiff, reduceEqDiff, reduceShiftRight, reduceAnd, e3']
     have k3 : H'.get H.nx = qaa 0 al[p + 1].toE.cells := (f'.keep (by (first | omega | (simp only [np, nq]; omega)))).trans (by simp (disch := first | omega | exact ti rfl | (simp only [np, nq]; first | done | omega)) only [go_sem, reduceAdd, reduceMul, reduceSub, reduceLeDiff, reduceEqDiff, reduceShiftRight, reduceAnd, Edge.cells])
     have fH : Fm No H H' := by refine Fm.trans ?_ f'; (repeat (first | exact Fm.refl _ _ | assumption | refine Fm.push ?_ _ | refine Fm.up2 ?_ (by (first | omega | (simp only [np, nq]; omega))) | refine Fm.put_new ?_ _ _ (by (first | omega | (simp only [np, nq]; omega)))))
     by_cases ho : Int.ofNat 0 ≤ cmpE al[p].toE al[p + 1].toE
     ·rw [if_pos ho] at hc
      subst hc
      simp (disch := first | omega | exact ti rfl | (simp only [np, nq]; first | done | omega)) only [go_sem, reduceAdd, reduceMul, reduceSub, reduceLeDiff, reduceEqDiff, reduceShiftRight, reduceAnd, k1, k2, k3, hv64, Edge.cells, ho]
      exact Ok.ret ⟨rfl, hf.trans fH⟩
     ·rw [if_neg ho] at hc
      simp (disch := first | omega | exact ti rfl | (simp only [np, nq]; first | done | omega)) only [go_sem, reduceAdd, reduceMul, reduceSub, reduceLeDiff, reduceEqDiff, reduceShiftRight, reduceAnd, k1, k2, k3, hv64, Edge.cells, ho]
      unfold qi6
      simp (disch := first | omega | exact ti rfl | (simp only [np, nq]; first | done | omega)) only [go_sem, reduceAdd, reduceMul, reduceSub, reduceLeDiff, reduceEqDiff, reduceShiftRight, reduceAnd]
      have hnext : ∀ p' (h : p' < al.length), p + 1 + 1 = p' + 1 → rngA N al[p'] ∧ chkL N (some al[p']) (al.drop (p + 1 + 1)) = c := by
       intro p' h e
       obtain rfl : p' = p + 1 := by omega
       exact ⟨hr', hc⟩
      exact qhp hC hj hlen hq k (p + 1 + 1) H' (by omega) (by omega) hnext (fun h => by omega) (hv.fm fH) (Nat.lt_of_lt_of_le hg1 fH.nx) k1 (hf.trans fH)
    ·simp (disch := first | omega | exact ti rfl | (simp only [np, nq]; first | done | omega)) only [go_sem, reduceAdd, reduceMul, reduceSub, reduceLeDiff, reduceEqDiff, reduceShiftRight, reduceAnd, e1, e3, Edge.cells, qhl, qhm, hmin, hmax, hg2, h00]
     unfold qi6
     simp (disch := first | omega | exact ti rfl | (simp only [np, nq]; first | done | omega)) only [go_sem, reduceAdd, reduceMul, reduceSub, reduceLeDiff, reduceEqDiff, reduceShiftRight, reduceAnd]
     have hi0 : i = 0 := by omega
     have hc := h0 hi0
     subst hi0
     have hd' : al = al[0] :: al.drop 1 := by have := hd; rwa [List.drop_zero] at this
     rw [hd', chkL] at hc
     rw [if_pos hr'] at hc
     have fH : Fm No H ((qan H (qaa 0 [.int .i64 (.ofNat 0), .int .i64 (.ofNat 0), .bool false])).put H.nx (qaa 0 [.int .i64 (.ofNat al[0].toE.f), .int .i64 (.ofNat al[0].toE.t), .bool al[0].toE.s])) := by (repeat (first | exact Fm.refl _ _ | assumption | refine Fm.push ?_ _ | refine Fm.up2 ?_ (by (first | omega | (simp only [np, nq]; omega))) | refine Fm.put_new ?_ _ _ (by (first | omega | (simp only [np, nq]; omega)))))
     have hnext : ∀ p' (h : p' < al.length), 0 + 1 = p' + 1 → rngA N al[p'] ∧ chkL N (some al[p']) (al.drop (0 + 1)) = c := by
      intro p' h e
      obtain rfl : p' = 0 := by omega
      exact ⟨hr', hc⟩
     exact qhp hC hj hlen hq k (0 + 1) _ (by omega) (by omega) hnext (fun h => by omega) (hv.fm fH) (Nat.lt_of_lt_of_le hg1 fH.nx) ((fH.keep hg1).trans hg2) (hf.trans fH)
   ·have hc : c = 4 := by
     rcases Nat.eq_zero_or_pos i with h | h
     ·have hc := h0 h
      subst h
      have hd' : al = al[0] :: al.drop 1 := by have := hd; rwa [List.drop_zero] at this
      rw [hd', chkL, if_neg hr] at hc
      exact hc.symm
     ·obtain ⟨p, rfl⟩ : ∃ p, i = p + 1 := ⟨i - 1, by omega⟩
      obtain ⟨_, hc⟩ := hp p (by omega) rfl
      rw [hd, chkL, if_neg hr] at hc
      exact hc.symm
    subst hc
    have fH : Fm No H ((qan H (qaa 0 [.int .i64 (.ofNat 0), .int .i64 (.ofNat 0), .bool false])).put H.nx (qaa 0 [.int .i64 al[i].f, .int .i64 al[i].t, .bool al[i].s])) := by (repeat (first | exact Fm.refl _ _ | assumption | refine Fm.push ?_ _ | refine Fm.up2 ?_ (by (first | omega | (simp only [np, nq]; omega))) | refine Fm.put_new ?_ _ _ (by (first | omega | (simp only [np, nq]; omega)))))
    by_cases h1 : min al[i].f al[i].t < Int.ofNat 0
    ·simp (disch := first | omega | exact ti rfl | (simp only [np, nq]; first | done | omega)) only [go_sem, reduceAdd, reduceMul, reduceSub, reduceLeDiff, reduceEqDiff, reduceShiftRight, reduceAnd, e1, e3, AE.cells, qhl, qhm, h1]
     exact Ok.ret ⟨rfl, hf.trans fH⟩
    ·have h2 : N ≤ max al[i].f al[i].t := Classical.byContradiction fun h => hr ⟨h1, h⟩
     simp (disch := first | omega | exact ti rfl | (simp only [np, nq]; first | done | omega)) only [go_sem, reduceAdd, reduceMul, reduceSub, reduceLeDiff, reduceEqDiff, reduceShiftRight, reduceAnd, e1, e3, AE.cells, qhl, qhm, h1, h2, hg2]
     exact Ok.ret ⟨rfl, hf.trans fH⟩
  ·simp (disch := first | omega | exact ti rfl | (simp only [np, nq]; first | done | omega)) only [go_sem, reduceAdd, reduceMul, reduceSub, reduceLeDiff, reduceEqDiff, reduceShiftRight, reduceAnd, hlt]
   have : i = al.length := by omega
   refine hq ?_ H hf
   rcases Nat.eq_zero_or_pos i with h | h
   ·have hc := h0 h
    have : al = [] := List.length_eq_zero_iff.1 (by omega)
    subst this
    exact hc.symm
   ·obtain ⟨_, hc⟩ := hp (i - 1) (by omega) (by omega)
    rw [List.drop_of_length_le (by omega)] at hc
    exact hc.symm
theorem qtq (hC : qa9 C) {k : Nat} (hk : 4 ≤ k) {N : Int} {al : List AE} (hlen : al.length < 1000000) {v : AV} {H : Hp} (hv : IsA H v al) :
  Ok (C k (.f qhk) [.agg [.int .i64 N, v]] H) fun r H' => r = .int .i64 (.ofNat (chk N al)) ∧ Fm No H H' := by
 obtain ⟨j, rfl⟩ : ∃ j, k = j + 1 := ⟨k - 1, by omega⟩
 rw [(hC j).gChk]
 unfold gChk qxb
 have fH : Fm No H (qan H (qaa 0 [.int .i64 N, v])) := by (repeat (first | exact Fm.refl _ _ | assumption | refine Fm.push ?_ _ | refine Fm.up2 ?_ (by (first | omega | (simp only [np, nq]; omega))) | refine Fm.put_new ?_ _ _ (by (first | omega | (simp only [np, nq]; omega)))))
 by_cases h1 : N < Int.ofNat 0
 ·have hck : chk N al = 3 := by unfold chk; rw [if_pos (Or.inl h1)]
  rw [hck]
  simp (disch := first | omega | exact ti rfl | (simp only [np, nq]; first | done | omega)) only [go_sem, reduceAdd, reduceMul, reduceSub, reduceLeDiff, reduceEqDiff, reduceShiftRight, reduceAnd, h1]
  exact Ok.ret ⟨rfl, fH⟩
 ·by_cases h2 : Int.ofNat 256 < N
  ·have hck : chk N al = 3 := by unfold chk; rw [if_pos (Or.inr h2)]
   rw [hck]
   simp (disch := first | omega | exact ti rfl | (simp only [np, nq]; first | done | omega)) only [go_sem, reduceAdd, reduceMul, reduceSub, reduceLeDiff, reduceEqDiff, reduceShiftRight, reduceAnd, h1, h2]
   exact Ok.ret ⟨rfl, fH⟩
  ·have hck : chk N al = chkL N none al := by unfold chk; rw [if_neg (by rintro (h | h); exact h1 h; exact h2 h)]
   rw [hck]
   simp (disch := first | omega | exact ti rfl | (simp only [np, nq]; first | done | omega)) only [go_sem, reduceAdd, reduceMul, reduceSub, reduceLeDiff, reduceEqDiff, reduceShiftRight, reduceAnd, h1, h2]
   unfold qkj
   have e0 := (hv.fm fH).len
   simp (disch := first | omega | exact ti rfl | (simp only [np, nq]; first | done | omega)) only [go_sem, reduceAdd, reduceMul, reduceSub, reduceLeDiff, reduceEqDiff, reduceShiftRight, reduceAnd, e0]
   unfold qqy
   rw [qat]
   refine (qhp hC (by omega) hlen (H0 := qan H (qaa 0 [.int .i64 N, v])) (c := chkL N none al) (fun h H' f' => ?_) qaq 0 _ (Nat.zero_le _) (by rw [qaj]; omega) (fun p h e => by omega) (fun _ => rfl) (hv.fm fH) (by (first | omega | (simp only [np, nq]; omega))) (qah _ _) (Fm.refl _ _)).mono fun r H' h => ⟨h.1, fH.trans h.2⟩
   unfold qf3
   rw [h]
   exact Ok.ret ⟨rfl, f'⟩
theorem q4q {N : Int} : ∀ {l : List AE} {y : Option AE}, chkL N y l = 0 → (∀ x ∈ l, rngA N x) ∧ (∀ i (h : i + 1 < l.length), cmpE l[i].toE l[i + 1].toE < 0) ∧ ∀ y' x l', y = some y' → l = x :: l' → cmpE y'.toE x.toE < 0
 | [], _, _ => ⟨fun x h => (by cases h), fun i h => (by simp at h), fun _ _ _ _ h => (by cases h)⟩
 | x :: l, y, h => by
  have key : rngA N x ∧ (∀ y', y = some y' → cmpE y'.toE x.toE < 0) ∧ chkL N (some x) l = 0 := by
   cases y with
   | none =>
    rw [chkL] at h
    by_cases hr : rngA N x
    ·rw [if_pos hr] at h; exact ⟨hr, fun y' e => (by cases e), h⟩
    ·rw [if_neg hr] at h; cases h
   | some y =>
    rw [chkL] at h
    by_cases hr : rngA N x
    ·rw [if_pos hr] at h
     by_cases ho : Int.ofNat 0 ≤ cmpE y.toE x.toE
     ·rw [if_pos ho] at h; cases h
     ·rw [if_neg ho] at h
      exact ⟨hr, fun y' e => (by cases e; simp only [Int.ofNat_eq_natCast] at ho; omega), h⟩
    ·rw [if_neg hr] at h; cases h
  obtain ⟨k1, k2, k3⟩ := key
  obtain ⟨a1, a2, a3⟩ := q4q k3
  refine ⟨fun z hz => ?_, fun i hi => ?_, fun y' x' l' e1 e2 => ?_⟩
  ·rcases List.mem_cons.1 hz with rfl | hz
   ·exact k1
   ·exact a1 z hz
  ·cases i with
   | zero =>
    cases l with
    | nil => simp at hi
    | cons z l => exact a3 x z l rfl rfl
   | succ i => exact a2 i (by simpa using hi)
  ·cases e2; exact k2 y' e1
theorem zd4 {N : Int} {al : List AE} (h : chk N al = 0) : ∃ n, N = Int.ofNat n ∧ n ≤ 256 ∧ qcf n (al.map AE.toE) ∧ ∀ x ∈ al, x.cells = x.toE.cells := by
 unfold chk at h
 by_cases h1 : N < Int.ofNat 0 ∨ Int.ofNat 256 < N
 ·rw [if_pos h1] at h; cases h
 ·rw [if_neg h1] at h
  obtain ⟨a1, a2, _⟩ := q4q h
  simp only [Int.ofNat_eq_natCast] at h1
  refine ⟨N.toNat, by simp only [Int.ofNat_eq_natCast]; omega, by omega, ⟨fun e he => ?_, fun i hi => ?_⟩, fun x hx => (a1 x hx).cells⟩
  ·obtain ⟨x, hx, rfl⟩ := List.mem_map.1 he
   obtain ⟨r1, r2⟩ := a1 x hx
   show x.f.toNat < _ ∧ x.t.toNat < _
   simp only [Int.ofNat_eq_natCast] at r1
   omega
  ·rw [List.getElem_map, List.getElem_map]
   exact a2 i (by simpa using hi)
theorem IsA.toE {H : Hp} {v : AV} {al : List AE} (h : IsA H v al) (hc : ∀ x ∈ al, x.cells = x.toE.cells) : IsE H v (al.map AE.toE) :=
 ⟨h.flat, by rw [List.length_map]; exact h.len, h.lt', fun i hi => by
  rw [List.length_map] at hi
  obtain ⟨b, o, e1, e2, e3⟩ := h.at' i hi
  refine ⟨b, o, e1, e2, ?_⟩
  rw [List.getElem_map, ← hc _ (List.getElem_mem hi)]
  exact e3⟩
end Go.Di
end
noncomputable section
/-
 Contracts: the nodes, component by component.
-/
namespace Go.Di
open Go.Ev Go.Di.T Go.Sort
variable {C : Nat → Ev.Call} {LA LO : LP}
end Go.Di
end
noncomputable section
/-
 Contracts: the functions of comps refuse a graph that is not right.
-/
namespace Go.Di
open Go.Ev Go.Di.T Go.Sort
variable {C : Nat → Ev.Call} {LA LO : LP}
theorem zel (hC : qa9 C) (hR : qbz LA LO C) {k : Nat} (hk : 10 ≤ k) {N : Int} {al : List AE} (hlen : al.length < 1000000) {v : AV} {H : Hp} (hv : IsA H v al) (hc : ¬ chk N al = 0) :
  Ok (C k (.f ql9) [.agg [.int .i64 N, v]] H) fun r H' => r = .tup [.agg [.nilsl, .nilsl], .int .i64 (.ofNat (chk N al))] ∧ Fm No H H' := by
 obtain ⟨j, rfl⟩ : ∃ j, k = j + 1 := ⟨k - 1, by omega⟩
 rw [(hR j).cOf]
 unfold cOf q71
 simp (disch := first | omega | exact ti rfl | (simp only [np, nq]; first | done | omega)) only [go_sem, reduceAdd, reduceMul, reduceSub, reduceLeDiff, reduceEqDiff, reduceShiftRight, reduceAnd]
 generalize hH1 : qan (qan H (qaa 0 [.int .i64 N, v])) (qaa 0 [.nilsl, .nilsl]) = H1
 have n1 : H1.nx = H.nx + 2 := by rw [← hH1]; rfl
 have f1 : Fm No H H1 := by rw [← hH1]; exact ((Fm.refl _ _).push _).push _
 have x1 : H1.get (H.nx + 1) = qaa 0 [.nilsl, .nilsl] := by rw [← hH1]; exact qah _ _
 refine Ok.ve (qtq hC (k := j) (by omega) hlen (hv.fm f1)) ?_
 rintro r H2 ⟨rfl, f2⟩
 have n2 := f2.nx
 have x2 : H2.get (H.nx + 1) = qaa 0 [.nilsl, .nilsl] := (f2.keep (by omega)).trans x1
 have es3 : ∀ x y a b : AV, setL [a, b] 0 [x, y] = [x, y] := fun _ _ _ _ => rfl
 simp (disch := first | omega | exact ti rfl | (simp only [np, nq]; first | done | omega)) only [go_sem, reduceAdd, reduceMul, reduceSub, reduceLeDiff, reduceEqDiff, reduceShiftRight, reduceAnd, hc, x2, es3, List.length_cons, List.length_nil]
 refine Ok.ret ⟨rfl, ?_⟩
 exact (f1.trans f2).then ((Fm.refl (fun b => b = H.nx + 1) H2).put _ _ fun _ => rfl) fun b hb h => by omega
end Go.Di
end
noncomputable section
/-
 Contracts: the reference's numbers.
-/
namespace Go.Di
open Go.Ev Go.Di.T Go.Sort
variable {C : Nat → Ev.Call} {LA LO : LP}
theorem q8j : ∀ (o : List Nat) (m : Nat), (∀ x ∈ o, x ≤ m) → o.sum ≤ o.length * m
 | [], _, _ => by simp
 | x :: l, m, h => by
  have h1 := q8j l m fun y hy => h y (List.mem_cons_of_mem _ hy)
  have h2 := h x List.mem_cons_self
  rw [List.sum_cons, List.length_cons, Nat.add_mul, Nat.one_mul]
  omega
structure RE (H1 : Hp) (n a0 mb ob : Nat) (ms : List Nat) : Prop where
 g0 : H1.get a0 = qaa 0 [.int .i64 (.ofNat n), .sl mb 0 (n * n) (n * n) true]
 gm : H1.get mb = qaa 0 (nats ms)
 lt : a0 < H1.nx ∧ mb < H1.nx
 ne : a0 ≠ ob ∧ mb ≠ ob
 len : ms.length = n * n
 n : n ≤ 256
structure NS (n : Nat) (ms o : List Nat) : Prop where
 len : o.length = n
 lst : ∀ S, S.length = n → FitM n ms S → ∀ x, x < n → o.getD x 0 ≤ S.getD x 0
 sm : ∀ x, x < n → o.getD x 0 ≤ n
theorem NS.sum {n : Nat} {ms o : List Nat} (h : NS n ms o) : o.sum ≤ n * n := by
 have := q8j o n fun x hx => by
  obtain ⟨i, hi, rfl⟩ := List.mem_iff_getElem.1 hx
  have := h.sm i (by have := h.len; omega)
  rwa [List.getD_eq_getElem?_getD, List.getElem?_eq_getElem hi] at this
 rwa [h.len] at this
structure PI (n : Nat) (ms o0 o : List Nat) (ch : Bool) (i k : Nat) : Prop where
 ns : NS n ms o
 up : ch = true → o0.sum < o.sum
 no : ch = false → o = o0 ∧ ∀ i' k', i' < n → k' < n → (i' < i ∨ (i' = i ∧ k' < k)) → 0 < ms.getD (i' * n + k') 0 → o.getD k' 0 + (if 1 < ms.getD (i' * n + k') 0 then 1 else 0) ≤ o.getD i' 0
 le : o0.sum ≤ o.sum
def ask (n : Nat) (ms o : List Nat) (i k : Nat) : Nat := o.getD k 0 + (if 1 < ms.getD (i * n + k) 0 then 1 else 0)
theorem PI.keep {n : Nat} {ms o0 o : List Nat} {ch : Bool} {i k : Nat} (h : PI n ms o0 o ch i k) (hp : 0 < ms.getD (i * n + k) 0 → ask n ms o i k ≤ o.getD i 0) : PI n ms o0 o ch i (k + 1) :=
 ⟨h.ns, h.up, fun hc => ⟨(h.no hc).1, fun i' k' hi hk hv hb => by
  rcases hv with hv | ⟨rfl, hv⟩
  ·exact (h.no hc).2 i' k' hi hk (Or.inl hv) hb
  ·by_cases e : k' = k
   ·subst e; exact hp hb
   ·exact (h.no hc).2 i' k' hi hk (Or.inr ⟨rfl, by omega⟩) hb⟩, h.le⟩
theorem q2i (o : List Nat) (i : Nat) (h : i < o.length) : (nats o)[i]? = some (.int .i64 (.ofNat (o.getD i 0))) := by
 unfold nats
 rw [List.getElem?_map, List.getD_eq_getElem?_getD, List.getElem?_eq_getElem h]; rfl
theorem PI.row {n : Nat} {ms o0 o : List Nat} {ch : Bool} {i : Nat} (h : PI n ms o0 o ch i n) : PI n ms o0 o ch (i + 1) 0 :=
 ⟨h.ns, h.up, fun hc => ⟨(h.no hc).1, fun i' k' hi hk hv hb => (h.no hc).2 i' k' hi hk (by omega) hb⟩, h.le⟩
theorem NS.start (n : Nat) (ms : List Nat) : NS n ms (List.replicate n 0) :=
 ⟨by simp, fun S _ _ x _ => by rw [rep0]; omega, fun x _ => by rw [rep0]; omega⟩
end Go.Di
end
noncomputable section
/-
 Contracts: the numbers of a graph, as the program reckons them.
-/
namespace Go.Di
open Go.Ev Go.Di.T Go.Sort
variable {C : Nat → Ev.Call} {LA LO : LP}
theorem maxN (a b : Nat) : max (Int.ofNat a) (Int.ofNat b) = Int.ofNat (max a b) := by simp only [Int.ofNat_eq_natCast]; omega
theorem qoa {call : Ev.Call} {H : Hp} {v : AV} {l : List Nat} (hv : Rl H v (nats l)) (hl : l.length < 900000) {q : AV → Hp → R1} {Q : AV → Hp → Prop} (hq : Ok (q (.int .i64 (.ofNat (maxL l))) H) Q) :
  ∀ (f i : Nat), l.length - i < f → i ≤ l.length → Ok (qgd call q v (.int .i64 (.ofNat l.length)) f (.int .i64 (.ofNat (maxL (l.take i)))) (.int .i64 (.ofNat i)) H) Q
 | 0, i, h, _ => by omega
 | f + 1, i, h, hi => by
  show Ok (qo6 call _ _ _ (qgd call _ _ _ f) _ _ H) Q
  unfold qo6
  by_cases hlt : i < l.length
  ·obtain ⟨b, o, e1, _, e2⟩ := hv.at' i (by rw [qax]; exact hlt)
   rw [qhi] at e2
   have hm := maxN (maxL (l.take i)) l[i]
   have hs : maxL (l.take (i + 1)) = max (maxL (l.take i)) l[i] := by
    unfold maxL
    rw [List.take_succ_eq_append_getElem hlt, List.foldl_append]; rfl
   simp (disch := first | omega | exact ti rfl | (simp only [np, nq]; first | done | omega)) only [go_sem, reduceAdd, reduceMul, reduceSub, reduceLeDiff, reduceEqDiff, reduceShiftRight, reduceAnd, hlt]
   unfold qo4
   simp (disch := first | omega | exact ti rfl | (simp only [np, nq]; first | done | omega)) only [go_sem, reduceAdd, reduceMul, reduceSub, reduceLeDiff, reduceEqDiff, reduceShiftRight, reduceAnd, e1, e2, qhm, hm]
   unfold qo5
   simp (disch := first | omega | exact ti rfl | (simp only [np, nq]; first | done | omega)) only [go_sem, reduceAdd, reduceMul, reduceSub, reduceLeDiff, reduceEqDiff, reduceShiftRight, reduceAnd]
   rw [← hs]
   exact qoa hv hl hq f (i + 1) (by omega) (by omega)
  ·simp (disch := first | omega | exact ti rfl | (simp only [np, nq]; first | done | omega)) only [go_sem, reduceAdd, reduceMul, reduceSub, reduceLeDiff, reduceEqDiff, reduceShiftRight, reduceAnd, hlt]
   have : i = l.length := by omega
   subst this
   rw [List.take_length]
   exact hq
theorem q7a (hY : qf8 C) {k : Nat} (hk : 1 ≤ k) {H : Hp} {v : AV} {l : List Nat} (hv : Rl H v (nats l)) (hl : l.length < 900000) :
  C k (.f qgk) [v] H = .ok (.int .i64 (.ofNat (maxL l))) H := by
 obtain ⟨j, rfl⟩ : ∃ j, k = j + 1 := ⟨k - 1, by omega⟩
 have key : Ok (C (j + 1) (.f qgk) [v] H) fun r H' => r = .int .i64 (.ofNat (maxL l)) ∧ H' = H := by
  rw [(hY j).stGre]
  unfold stGre qtz
  have e0 := hv.len
  rw [qax] at e0
  simp (disch := first | omega | exact ti rfl | (simp only [np, nq]; first | done | omega)) only [go_sem, reduceAdd, reduceMul, reduceSub, reduceLeDiff, reduceEqDiff, reduceShiftRight, reduceAnd, e0]
  unfold qo7
  rw [qat]
  refine qoa hv hl ?_ qaq 0 (by rw [qaj]; omega) (Nat.zero_le _)
  unfold qex
  exact Ok.ret ⟨rfl, rfl⟩
 obtain ⟨r, H', h, rfl, rfl⟩ := key
 exact h
theorem step_ok (hY : qf8 C) {k : Nat} (hk : 1 ≤ k) (e : Edge) (H : Hp) :
  Ok (C k (.f qkg) [.agg e.cells] H) fun r H' => r = .int .i64 (.ofNat (stN e)) ∧ Fm No H H' := by
 obtain ⟨j, rfl⟩ : ∃ j, k = j + 1 := ⟨k - 1, by omega⟩
 rw [(hY j).stStp]
 unfold stStp qtw Edge.cells stN
 cases hs : e.s with
 | true =>
  simp (disch := first | omega | exact ti rfl | (simp only [np, nq]; first | done | omega)) only [go_sem, reduceAdd, reduceMul, reduceSub, reduceLeDiff, reduceEqDiff, reduceShiftRight, reduceAnd, hs]
  exact Ok.ret ⟨rfl, by (repeat (first | exact Fm.refl _ _ | assumption | refine Fm.push ?_ _ | refine Fm.up2 ?_ (by (first | omega | (simp only [np, nq]; omega))) | refine Fm.put_new ?_ _ _ (by (first | omega | (simp only [np, nq]; omega)))))⟩
 | false =>
  simp (disch := first | omega | exact ti rfl | (simp only [np, nq]; first | done | omega)) only [go_sem, reduceAdd, reduceMul, reduceSub, reduceLeDiff, reduceEqDiff, reduceShiftRight, reduceAnd, hs]
  unfold qoz
  exact Ok.ret ⟨rfl, by (repeat (first | exact Fm.refl _ _ | assumption | refine Fm.push ?_ _ | refine Fm.up2 ?_ (by (first | omega | (simp only [np, nq]; omega))) | refine Fm.put_new ?_ _ _ (by (first | omega | (simp only [np, nq]; omega)))))⟩
theorem q75 {es : List Edge} {ins o : List Nat} {i c : Nat} (hc : c < es.length) (h1 : ins.getD es[c].f 0 = i) (h2 : ¬ ins.getD es[c].t 0 = i) : asks (es.take (c + 1)) ins o i = asks (es.take c) ins o i ++ [o.getD es[c].t 0 + stN es[c]] := by
 unfold asks
 rw [List.take_succ_eq_append_getElem hc, List.filter_append, List.map_append]
 have : List.filter (fun e => decide (ins.getD e.f 0 = i) && !decide (ins.getD e.t 0 = i)) [es[c]] = [es[c]] := by
  rw [List.filter_cons, decide_eq_true h1, decide_eq_false h2]; rfl
 rw [this]; rfl
theorem zbj {es : List Edge} {ins o : List Nat} {i c : Nat} (hc : c < es.length) (h : ¬ (ins.getD es[c].f 0 = i ∧ ¬ ins.getD es[c].t 0 = i)) : asks (es.take (c + 1)) ins o i = asks (es.take c) ins o i := by
 unfold asks
 rw [List.take_succ_eq_append_getElem hc, List.filter_append, List.map_append]
 have : List.filter (fun e => decide (ins.getD e.f 0 = i) && !decide (ins.getD e.t 0 = i)) [es[c]] = [] := by
  rw [List.filter_cons]
  by_cases h1 : ins.getD es[c].f 0 = i
  ·have h2 : ins.getD es[c].t 0 = i := Classical.byContradiction fun g => h ⟨h1, g⟩
   rw [decide_eq_true h1, decide_eq_true h2]; rfl
  ·rw [decide_eq_false h1]; rfl
 rw [this]; simp
theorem q5h (es : List Edge) (ins o : List Nat) (i : Nat) : (asks es ins o i).length ≤ es.length := by
 unfold asks
 rw [List.length_map]
 exact List.length_filter_le _ _
theorem qlr (hY : qf8 C) {j : Nat} {H1 : Hp} {n c ob i : Nat} {gv lv iv : AV} {es : List Edge} {ins o : List Nat} (hj : 1 ≤ j) (hg : IsE H1 gv es) (hlen : es.length < 200000) (hE : ∀ e ∈ es, e.f < n ∧ e.t < n) (hc : H1.get c = qaa 0 [lv, iv]) (hcl : c < H1.nx) (hiv : Gl 1 H1 iv n (nats ins)) (hob : H1.get ob = qaa 0 (nats o)) (hobl : ob < H1.nx) (hol : o.length = n) (hos : ∀ x, x < n → o.getD x 0 ≤ 1000)
  {q : AV → Hp → R1} {Q : AV → Hp → Prop} (hq : ∀ w H, Gl 1 H w (asks es ins o i).length (nats (asks es ins o i)) → Fm No H1 H → (∀ b, In w b → H1.nx ≤ b) → Ok (q w H) Q) :
  ∀ (f k : Nat) (w : AV) (H : Hp), es.length - k < f → k ≤ es.length → Gl 1 H w (asks (es.take k) ins o i).length (nats (asks (es.take k) ins o i)) → (∀ b, In w b → H1.nx ≤ b) → Fm No H1 H →
   Ok (qcv (C j) q (.ptr c 0) (.sl ob 0 n n true) (.int .i64 (.ofNat i)) gv (.int .i64 (.ofNat es.length)) f w (.int .i64 (.ofNat k)) H) Q
 | 0, k, w, H, h, _, _, _, _ => by omega
 | f + 1, k, w, H, h, hk, hw, hnew, hF => by
  show Ok (qk0 (C j) _ _ _ _ _ _ (qcv (C j) _ _ _ _ _ _ f) _ _ H) Q
  unfold qk0
  by_cases hlt : k < es.length
  ·obtain ⟨b, p, e1, e2, e3⟩ := (hg.fm hF).at hlt
   obtain ⟨r1, r2⟩ := hE es[k] (List.getElem_mem _)
   have hil : ins.length = n := by have := hiv.len; rw [qax] at this; omega
   obtain ⟨b1, o1, c1, c2, _, c3⟩ := (hiv.no hF).at (q2i ins es[k].f (by omega))
   obtain ⟨b2, o2, c4, c5, _, c6⟩ := (hiv.no hF).at (q2i ins es[k].t (by omega))
   have k1 : H.get c = qaa 0 [lv, iv] := (hF.keep hcl).trans hc
   have hcH : c < H.nx := Nat.lt_of_lt_of_le hcl hF.nx
   have k2 : H.get ob = qaa 0 (nats o) := (hF.keep hobl).trans hob
   have hobH : ob < H.nx := Nat.lt_of_lt_of_le hobl hF.nx
   have wfl := qcd hw.flat 63
   simp (disch := first | omega | exact ti rfl | (simp only [np, nq]; first | done | omega)) only [go_sem, reduceAdd, reduceMul, reduceSub, reduceLeDiff, reduceEqDiff, reduceShiftRight, reduceAnd, hlt]
   rw [qjx]
   unfold qcl
   have fx : Fm No H ((qan H (qaa 0 [.int .i64 (.ofNat 0), .int .i64 (.ofNat 0), .bool false])).put H.nx (qaa 0 es[k].cells)) := by (repeat (first | exact Fm.refl _ _ | assumption | refine Fm.push ?_ _ | refine Fm.up2 ?_ (by (first | omega | (simp only [np, nq]; omega))) | refine Fm.put_new ?_ _ _ (by (first | omega | (simp only [np, nq]; omega)))))
   have hle := q5h (es.take k) ins o i
   rw [List.length_take] at hle
   have nopath : ¬ (ins.getD es[k].f 0 = i ∧ ¬ ins.getD es[k].t 0 = i) → Ok (qek (C j) (qcv (C j) q (.ptr c 0) (.sl ob 0 n n true) (.int .i64 (.ofNat i)) gv (.int .i64 (.ofNat es.length)) f) w (.int .i64 (.ofNat k)) ((qan H (qaa 0 [.int .i64 (.ofNat 0), .int .i64 (.ofNat 0), .bool false])).put H.nx (qaa 0 es[k].cells))) Q := fun hn => by
    unfold qek
    simp (disch := first | omega | exact ti rfl | (simp only [np, nq]; first | done | omega)) only [go_sem, reduceAdd, reduceMul, reduceSub, reduceLeDiff, reduceEqDiff, reduceShiftRight, reduceAnd]
    exact qlr hY hj hg hlen hE hc hcl hiv hob hobl hol hos hq f (k + 1) w _ (by omega) (by omega) (by rw [zbj hlt hn]; exact hw.no fx) hnew (hF.trans fx)
   by_cases h1 : ins.getD es[k].f 0 = i
   ·by_cases h2 : ins.getD es[k].t 0 = i
    ·simp (disch := first | omega | exact ti rfl | (simp only [np, nq]; first | done | omega)) only [go_sem, reduceAdd, reduceMul, reduceSub, reduceLeDiff, reduceEqDiff, reduceShiftRight, reduceAnd, e1, e3, Edge.cells, k1, c1, c3, c4, c6, h1, h2]
     have := nopath fun h => h.2 h2
     unfold Edge.cells at this
     exact this
    ·have v4 := q2i o es[k].t (by omega)
     have ho4 := hos es[k].t r2
     simp (disch := first | omega | exact ti rfl | (simp only [np, nq]; first | done | omega)) only [go_sem, reduceAdd, reduceMul, reduceSub, reduceLeDiff, reduceEqDiff, reduceShiftRight, reduceAnd, e1, e3, Edge.cells, k1, k2, c1, c3, c4, c6, h1, h2, v4]
     generalize hHx : (Hp.mk ((qan H (qaa 0 [.int .i64 (.ofNat 0), .int .i64 (.ofNat 0), .bool false])).put H.nx (qaa 0 [.int .i64 (.ofNat es[k].f), .int .i64 (.ofNat es[k].t), .bool es[k].s])).t (H.nx + 1 + 12)) = Hx at *
     have fx : Fm No H Hx := by rw [← hHx]; exact Fm.up2 fx (by omega)
     have nx : Hx.nx = H.nx + 1 + 12 := by rw [← hHx]
     have kx : Hx.get H.nx = qaa 0 [.int .i64 (.ofNat es[k].f), .int .i64 (.ofNat es[k].t), .bool es[k].s] := by rw [← hHx]; exact qad _ _ _
     refine Ok.deO (step_ok hY (k := j) hj es[k] Hx) ?_
     rintro r H2 ⟨rfl, f2⟩
     have kx2 : H2.get H.nx = qaa 0 [.int .i64 (.ofNat es[k].f), .int .i64 (.ofNat es[k].t), .bool es[k].s] := (f2.keep (by omega)).trans kx
     have k22 : H2.get ob = qaa 0 (nats o) := ((fx.trans f2).keep hobH).trans k2
     have hst : stN es[k] ≤ 1 := by unfold stN; split <;> omega
     simp (disch := first | omega | exact ti rfl | (simp only [np, nq]; first | done | omega)) only [go_sem, reduceAdd, reduceMul, reduceSub, reduceLeDiff, reduceEqDiff, reduceShiftRight, reduceAnd, kx2, k22, v4]
     generalize hz : o.getD es[k].t 0 + stN es[k] = z at *
     have fP : Fm No H (H2.put (H.nx + 1 + 9) (qaa 0 [AV.int .i64 (.ofNat z)])) := (fx.trans f2).put_new _ _ (by omega)
     have hgP : Gl 1 (H2.put (H.nx + 1 + 9) (qaa 0 [AV.int .i64 (.ofNat z)])) w _ _ := hw.no fP
     obtain ⟨H3, a1, a2, _, a4, a5⟩ := hgP.append (w := 8) (k := 1) (x := [AV.int .i64 (.ofNat z)]) (by omega) rfl (by omega) (by omega)
     refine Ok.deE a1 ?_
     simp (disch := first | omega | exact ti rfl | (simp only [np, nq]; first | done | omega)) only [go_sem, reduceAdd, reduceMul, reduceSub, reduceLeDiff, reduceEqDiff, reduceShiftRight, reduceAnd]
     unfold qek
     simp (disch := first | omega | exact ti rfl | (simp only [np, nq]; first | done | omega)) only [go_sem, reduceAdd, reduceMul, reduceSub, reduceLeDiff, reduceEqDiff, reduceShiftRight, reduceAnd]
     have hs := q75 (o := o) hlt h1 h2
     rw [hz] at hs
     have e10 : nats (asks (es.take k) ins o i) ++ [AV.int .i64 (.ofNat z)] = nats (asks (es.take (k + 1)) ins o i) := by rw [hs]; simp [nats]
     have hml : (asks (es.take (k + 1)) ins o i).length = (asks (es.take k) ins o i).length + 1 := by rw [hs, List.length_append]; rfl
     rw [e10, ← hml] at a2
     rw [← hml]
     have hn1 := hF.nx
     have hn2 := f2.nx
     have hpn : (H2.put (H.nx + 1 + 9) (qaa 0 [AV.int .i64 (.ofNat z)])).nx = H2.nx := rfl
     refine qlr hY hj hg hlen hE hc hcl hiv hob hobl hol hos hq f (k + 1) _ H3 (by omega) (by omega) a2 (fun b hb => ?_) ((hF.trans fP).then a4 fun c hc h => by have := hnew c h; omega)
     obtain ⟨_, _, _, _, h⟩ := hb
     cases h
     omega
   ·simp (disch := first | omega | exact ti rfl | (simp only [np, nq]; first | done | omega)) only [go_sem, reduceAdd, reduceMul, reduceSub, reduceLeDiff, reduceEqDiff, reduceShiftRight, reduceAnd, e1, e3, Edge.cells, k1, c1, c3, h1]
    have := nopath fun h => h1 h.1
    unfold Edge.cells at this
    exact this
  ·simp (disch := first | omega | exact ti rfl | (simp only [np, nq]; first | done | omega)) only [go_sem, reduceAdd, reduceMul, reduceSub, reduceLeDiff, reduceEqDiff, reduceShiftRight, reduceAnd, hlt]
   have : k = es.length := by omega
   subst this
   rw [List.take_length] at hw
   exact hq w H hw hF hnew
end Go.Di
end
noncomputable section
/-
 Contracts: the numbers of a graph, whole.
-/
namespace Go.Di
open Go.Ev Go.Di.T Go.Sort
variable {C : Nat → Ev.Call} {LA LO : LP}
theorem qsq (hY : qf8 C) {j : Nat} (hj : 1 ≤ j) {H1 : Hp} {n ob : Nat} {w cw : AV} {l c o : List Nat} (hw : Gl 1 H1 w l.length (nats l)) (hl : l.length < 900000) (hwo : ∀ b, In w b → b ≠ ob) (hc : Gl 1 H1 cw c.length (nats c)) (hcl : c.length < 900000) (hco : ∀ b, In cw b → b ≠ ob) (hcn : ∀ x ∈ c, x < n) (hol : o.length = n)
  {q : Hp → R1} {Q : AV → Hp → Prop} (hq : ∀ H, H.get ob = qaa 0 (nats (qg0 o (maxL l) c)) → Fm (fun b => b = ob) H1 H → Ok (q H) Q) :
  ∀ (f k : Nat) (H : Hp), c.length - k < f → k ≤ c.length → H.get ob = qaa 0 (nats (qg0 o (maxL l) (c.take k))) → Fm (fun b => b = ob) H1 H →
   Ok (qej (C j) q (.sl ob 0 n n true) w cw (.int .i64 (.ofNat c.length)) f (.int .i64 (.ofNat k)) H) Q
 | 0, k, H, h, _, _, _ => by omega
 | f + 1, k, H, h, hk, hg, hF => by
  show Ok (qk1 (C j) _ _ _ _ _ (qej (C j) _ _ _ _ _ f) _ H) Q
  unfold qk1
  by_cases hlt : k < c.length
  ·have hcH : Gl 1 H cw c.length (nats c) := hc.fm hF hco
   have hwH : Rl H w (nats l) := (hw.fm hF hwo).rl
   obtain ⟨b, p, e1, _, _, e3⟩ := hcH.at (show (nats c)[k]? = some (.int .i64 (.ofNat c[k])) from qp0 c k hlt)
   have hx := hcn c[k] (List.getElem_mem _)
   have hgr := q7a hY (k := j) hj hwH hl
   have hfl : (qg0 o (maxL l) (c.take k)).length = n := by rw [qmg, hol]
   have hst := qpy (qg0 o (maxL l) (c.take k)) c[k] (maxL l) (by omega)
   have hle : c[k] + 1 ≤ (nats (qg0 o (maxL l) (c.take k))).length := by rw [qax]; omega
   have hsn : (qg0 o (maxL l) (c.take k)).set c[k] (maxL l) = qg0 o (maxL l) (c.take (k + 1)) := by rw [List.take_succ_eq_append_getElem hlt, qod]
   simp (disch := first | omega | exact ti rfl | (simp only [np, nq]; first | done | omega)) only [go_sem, reduceAdd, reduceMul, reduceSub, reduceLeDiff, reduceEqDiff, reduceShiftRight, reduceAnd, hlt]
   unfold qky
   simp (disch := first | omega | exact ti rfl | (simp only [np, nq]; first | done | omega)) only [go_sem, reduceAdd, reduceMul, reduceSub, reduceLeDiff, reduceEqDiff, reduceShiftRight, reduceAnd, e1, e3, hgr, hg, hst, hle, Nat.mul_one, Nat.zero_add, List.length_cons, List.length_nil]
   unfold qkz
   simp (disch := first | omega | exact ti rfl | (simp only [np, nq]; first | done | omega)) only [go_sem, reduceAdd, reduceMul, reduceSub, reduceLeDiff, reduceEqDiff, reduceShiftRight, reduceAnd]
   rw [hsn]
   exact qsq hY hj hw hl hwo hc hcl hco hcn hol hq f (k + 1) _ (by omega) (by omega) (qad _ _ _) (hF.put _ _ fun _ => rfl)
  ·simp (disch := first | omega | exact ti rfl | (simp only [np, nq]; first | done | omega)) only [go_sem, reduceAdd, reduceMul, reduceSub, reduceLeDiff, reduceEqDiff, reduceShiftRight, reduceAnd, hlt]
   have : k = c.length := by omega
   subst this
   rw [List.take_length] at hg
   exact hq H hg hF
theorem qsr (hY : qf8 C) {j : Nat} (hj : 1 ≤ j) {HB H0 H1 : Hp} {n a0 c : Nat} {gv lv iv : AV} {os : List AV} {es : List Edge} {ins : List Nat} {res : List (List Nat)} (hn : n ≤ 256) (hg : IsE H0 gv es) (hlen : es.length < 200000) (hE : ∀ e ∈ es, e.f < n ∧ e.t < n) (ha : H0.get a0 = qaa 0 [.int .i64 (.ofNat n), gv]) (hal0 : a0 < H0.nx) (hc : H0.get c = qaa 0 [lv, iv]) (hcl : c < H0.nx) (hCR : CR HB H0 n lv iv os res ins) (hN : Nm n res ins) (hlt : ∀ o ∈ res, ∀ x ∈ o, x < n) (hd : ∀ e ∈ es, ins.getD e.t 0 ≤ ins.getD e.f 0) (hLn : res.length ≤ n) (hol : ∀ o ∈ res, o.length ≤ n) (h01 : Fm No H0 H1) (hx1 : H0.nx < H1.nx)
  {q : Hp → R1} {Q : AV → Hp → Prop} (hq : ∀ o H, OutI n es ins res.length o → H.get H0.nx = qaa 0 (nats o) → Fm (fun b => b = H0.nx) H1 H → Ok (q H) Q) :
  ∀ (f i : Nat) (o : List Nat) (H : Hp), res.length - i < f → i ≤ res.length → OutI n es ins i o → H.get H0.nx = qaa 0 (nats o) → Fm (fun b => b = H0.nx) H1 H →
   Ok (qa6 (C j) q (.ptr a0 0) (.ptr c 0) (.sl H0.nx 0 n n true) lv (.int .i64 (.ofNat res.length)) f (.int .i64 (.ofNat i)) H) Q
 | 0, i, o, H, h, _, _, _, _ => by omega
 | f + 1, i, o, H, h, hi, hO, hgo, hF => by
  show Ok (qfo (C j) _ _ _ _ _ _ (qa6 (C j) _ _ _ _ _ _ f) _ H) Q
  unfold qfo
  by_cases hil : i < res.length
  ·have kp : ∀ b, b < H0.nx → H.get b = H0.get b := fun b hb => (hF.get b (by omega) (by omega)).trans (h01.keep hb)
   have hnx : H0.nx ≤ H.nx := by have := hF.nx; omega
   have hosl := hCR.len
   have gE : IsE H gv es := hg.keep hnx fun b hb hlt => kp b hlt
   have gI : Gl 1 H iv n (nats ins) := hCR.gi.keep hnx fun b hb hlt => kp b hlt
   have gL : Gl 1 H lv os.length os := hCR.gl.keep hnx fun b hb hlt => kp b hlt
   obtain ⟨c1, _, _⟩ := hCR.at' i (os[i]'(by omega)) (res[i]'hil) (by simp) (by simp)
   have gC : Gl 1 H (os[i]'(by omega)) (res[i]'hil).length (nats (res[i]'hil)) := c1.keep hnx fun b hb hlt => kp b hlt
   have hci : ∀ b, In (os[i]'(by omega)) b → b < H0.nx := fun b hb => c1.lt hb
   obtain ⟨b1, o1, e1, _, _, e2⟩ := gL.at (i := i) (x := os[i]'(by omega)) (by simp)
   have hcm : ∀ x, x < n → (x ∈ res[i]'hil ↔ ins.getD x 0 = i) := fun x hx => by
    constructor
    ·intro h; exact hN.is i _ x (List.getElem?_eq_getElem hil) h
    ·intro h
     obtain ⟨j', o', h1, h2⟩ := hN.all x hx
     have := hN.is j' o' x h1 h2
     rw [h] at this
     subst this
     rw [List.getElem?_eq_getElem hil] at h1
     cases h1; exact h2
   have hcn := hlt _ (List.getElem_mem hil)
   have hcle := hol _ (List.getElem_mem hil)
   have k1 : H.get a0 = qaa 0 [.int .i64 (.ofNat n), gv] := (kp a0 hal0).trans ha
   have k2 : H.get c = qaa 0 [lv, iv] := (kp c hcl).trans hc
   have e0 := gE.len
   generalize os[i]'(by omega) = cw at *
   generalize res[i]'hil = co at *
   simp (disch := first | omega | exact ti rfl | (simp only [np, nq]; first | done | omega)) only [go_sem, reduceAdd, reduceMul, reduceSub, reduceLeDiff, reduceEqDiff, reduceShiftRight, reduceAnd, hil]
   unfold qkw
   simp (disch := first | omega | exact ti rfl | (simp only [np, nq]; first | done | omega)) only [go_sem, reduceAdd, reduceMul, reduceSub, reduceLeDiff, reduceEqDiff, reduceShiftRight, reduceAnd, e1, e2, k1, e0]
   unfold qk2
   rw [qat]
   have hbd : ∀ x, x < n → o.getD x 0 ≤ 1000 := fun x hx => by
    have h1 := hO.bd x hx
    have h2 := hN.lt hx
    omega
   refine qlr hY hj gE hlen hE k2 (Nat.lt_of_lt_of_le hcl hnx) gI hgo (by have := hF.nx; omega) hO.len hbd (fun w H2 hw f2 hnew => ?_) qaq 0 .nilsl H (by rw [qaj]; omega) (Nat.zero_le _) (by simpa [asks, nats] using Gl.nil 1 H) (fun b hb => by obtain ⟨_, _, _, _, h⟩ := hb; cases h) (Fm.refl _ _)
   unfold qcw
   have gC2 := gC.no f2
   have e3 := gC2.lenV
   simp (disch := first | omega | exact ti rfl | (simp only [np, nq]; first | done | omega)) only [go_sem, reduceAdd, reduceMul, reduceSub, reduceLeDiff, reduceEqDiff, reduceShiftRight, reduceAnd, e3]
   unfold qk3
   rw [qat]
   have hal := q5h es ins o i
   have hobH : H0.nx < H.nx := by have := hF.nx; omega
   refine qsq hY hj (H1 := H2) (o := o) hw (by omega) (fun b hb => by have := hnew b hb; omega) gC2 (by omega) (fun b hb => by have := hci b hb; omega) hcn hO.len (fun H3 g3 f3 => ?_) qaq 0 H2 (by rw [qaj]; omega) (Nat.zero_le _) ((f2.keep hobH).trans hgo) (Fm.refl _ _)
   unfold qdl
   simp (disch := first | omega | exact ti rfl | (simp only [np, nq]; first | done | omega)) only [go_sem, reduceAdd, reduceMul, reduceSub, reduceLeDiff, reduceEqDiff, reduceShiftRight, reduceAnd]
   exact qsr hY hj hn hg hlen hE ha hal0 hc hcl hCR hN hlt hd hLn hol h01 hx1 hq f (i + 1) _ H3 (by omega) (by omega) (hO.step hE hcm hd) g3 ((hF.then f2 fun _ _ h => h.elim).then f3 fun _ _ h => h)
  ·simp (disch := first | omega | exact ti rfl | (simp only [np, nq]; first | done | omega)) only [go_sem, reduceAdd, reduceMul, reduceSub, reduceLeDiff, reduceEqDiff, reduceShiftRight, reduceAnd, hil]
   have : i = res.length := by omega
   subst this
   exact hq o H hO hgo hF
theorem q6r {n : Nat} {es : List Edge} (hE : ∀ e ∈ es, e.f < n ∧ e.t < n) {res : List (List Nat)} {ins : List Nat} (hF : OrdF n (qa8 es) [] res) (h : Nm n res ins) : ∀ e ∈ es, ins.getD e.t 0 ≤ ins.getD e.f 0 := fun e he => by
 obtain ⟨l1, l2⟩ := hE e he
 obtain ⟨j, o, h1, h2⟩ := h.all e.f l1
 rcases qsk hF h1 h2 l2 (qce.2 ⟨e, he, rfl, rfl⟩) with g | ⟨j', c', g1, g2, g3⟩
 ·simp at g
 ·rw [h.is j o e.f h1 h2, h.is j' c' e.t g2 g3]; exact g1
theorem zaa {n : Nat} {adj : Nat → List Nat} {res : List (List Nat)} {ins : List Nat} (hF : OrdF n adj [] res) (hi : ∀ (j : Nat) (o : List Nat) (x : Nat), res[j]? = some o → x ∈ o → ins[x]? = some j) : Nm n res ins := ⟨fun j o y h1 h2 => by
  rw [List.getD_eq_getElem?_getD, hi j o y h1 h2]; rfl, fun y hy => by
  obtain ⟨z1, z2, z3, z4, z5⟩ := hF.all
  obtain ⟨o, ho, hyo⟩ := List.mem_flatten.1 (z3 y hy)
  obtain ⟨j, hj⟩ := List.mem_iff_getElem?.1 ho
  exact ⟨j, o, hj, hyo⟩⟩
theorem qzy (hC : qa9 C) (hY : qf8 C) (hO : qcg C) (hS : qb6 C) (hR : qbz LA LO C) {k : Nat} (hk : 1002 ≤ k) {n : Nat} {es : List Edge} (hE : qcf n es) (hn : n ≤ 256) (hlen : es.length < 900) {gv : AV} {H : Hp} (hg : IsE H gv es) :
  Ok (C k (.f qib) [.agg [.int .i64 (.ofNat n), gv]] H) fun r H' => Fm No H H' ∧
   ((∃ w o, r = .tup [w, .int .i64 (.ofNat 0)] ∧ Gl 1 H' w n (nats o) ∧ capV w = .val (.int .i64 (.ofNat n)) ∧ Fit n es o ∧ Lst n es o ∧ ∀ x, x < n → o.getD x 0 < n) ∨
    (r = .tup [.nilsl, .int .i64 (.ofNat 12)] ∧ ∃ e ∈ es, e.s = true ∧ Rc (qa8 es) e.t e.f)) := by
 obtain ⟨j, rfl⟩ : ∃ j, k = j + 1 := ⟨k - 1, by omega⟩
 rw [(hY j).stNum]
 unfold stNum qo0
 simp (disch := first | omega | exact ti rfl | (simp only [np, nq]; first | done | omega)) only [go_sem, reduceAdd, reduceMul, reduceSub, reduceLeDiff, reduceEqDiff, reduceShiftRight, reduceAnd]
 have f0 : Fm No H (qan H (qaa 0 [.int .i64 (.ofNat n), gv])) := by (repeat (first | exact Fm.refl _ _ | assumption | refine Fm.push ?_ _ | refine Fm.up2 ?_ (by (first | omega | (simp only [np, nq]; omega))) | refine Fm.put_new ?_ _ _ (by (first | omega | (simp only [np, nq]; omega)))))
 refine Ok.ve (zbo hC hO hS hR (k := j) (by omega) hE hn (by omega) (hg.fm f0)) ?_
 rintro r H1 ⟨lv, iv, os, ins2, out, ins, res, rfl, hOrd, hCR, f1⟩
 have hF := hOrd.ord hE.rng
 have n1 : H.nx + 1 ≤ H1.nx := f1.nx
 have g1 : H1.get H.nx = qaa 0 [.int .i64 (.ofNat n), gv] := (f1.keep (by (first | omega | (simp only [np, nq]; omega)))).trans (qah _ _)
 have es3 : ∀ x y a b : AV, setL [a, b] 0 [x, y] = [x, y] := fun _ _ _ _ => rfl
 have fa : Fm No H1 ((qan H1 (qaa 0 [.nilsl, .nilsl])).put H1.nx (qaa 0 [lv, iv])) := by (repeat (first | exact Fm.refl _ _ | assumption | refine Fm.push ?_ _ | refine Fm.up2 ?_ (by (first | omega | (simp only [np, nq]; omega))) | refine Fm.put_new ?_ _ _ (by (first | omega | (simp only [np, nq]; omega)))))
 simp (disch := first | omega | exact ti rfl | (simp only [np, nq]; first | done | omega)) only [go_sem, reduceAdd, reduceMul, reduceSub, reduceLeDiff, reduceEqDiff, reduceShiftRight, reduceAnd, es3, List.length_cons, List.length_nil]
 generalize hH2 : (qan H1 (qaa 0 [AV.nilsl, AV.nilsl])).put H1.nx (qaa 0 [lv, iv]) = H2 at *
 have c2 : H2.get H1.nx = qaa 0 [lv, iv] := by rw [← hH2, qad]
 have n2 : H2.nx = H1.nx + 1 := by rw [← hH2]; rfl
 have g2 : H2.get H.nx = qaa 0 [.int .i64 (.ofNat n), gv] := (fa.keep (by omega)).trans g1
 rw [qjv]
 unfold qcj
 simp (disch := first | omega | exact ti rfl | (simp only [np, nq]; first | done | omega)) only [go_sem, reduceAdd, reduceMul, reduceSub, reduceLeDiff, reduceEqDiff, reduceShiftRight, reduceAnd, g2]
 refine Ok.ve (q8c hC hO hS hR (k := j) (by omega) hE hn hlen (((hg.fm f0).fm f1).fm fa)) ?_
 rintro r H3 ⟨wx, res3, ins3, R3, rfl, hF3, hin3, hasc3, hmem3, hx3, hcx3, hRl, f3⟩
 have hrr := hF3.uniq hF
 subst hrr
 have n3 := f3.nx
 have f03 := ((f0.trans f1).trans fa).trans f3
 have e0 := hx3.len
 rw [qax] at e0
 have hN := zaa hF hCR.ins
 have hN3 := zaa hF hin3
 by_cases hm : R3 = []
 ·subst hm
  have e0' : lenSl wx = .val (.int .i64 (.ofNat 0)) := e0
  simp (disch := first | omega | exact ti rfl | (simp only [np, nq]; first | done | omega)) only [go_sem, reduceAdd, reduceMul, reduceSub, reduceLeDiff, reduceEqDiff, reduceShiftRight, reduceAnd, e0', Nat.lt_irrefl]
  rw [qjw]
  unfold qck
  have g3 : H3.get H.nx = qaa 0 [.int .i64 (.ofNat n), gv] := (f3.keep (by omega)).trans g2
  have c3 : H3.get H1.nx = qaa 0 [lv, iv] := (f3.keep (by omega)).trans c2
  have hd := q6r hE.rng hF hN
  have nomix : ∀ e ∈ es, e.s = true → ins2.getD e.f 0 ≠ ins2.getD e.t 0 := fun e he hs h => by
   obtain ⟨l1, l2⟩ := hE.rng e he
   rw [hN.same hN3 l1, hN.same hN3 l2] at h
   have := (hmem3 _).2 (qw5.2 ⟨e, he, hs, h, rfl⟩)
   cases this
  have hL := q6s hF
  have hCR3 := hCR.no (fa.trans f3)
  obtain ⟨z1, z2, z3, z4, z5⟩ := hF.all
  have elv := hCR3.gl.lenV
  rw [hCR3.len] at elv
  by_cases h0 : 0 < n
  ·have mk := qfx [.int .i64 (.ofNat 0)] 8 H3.nx n (by omega) (by omega)
   rw [qdx, qpz] at mk
   simp (disch := first | omega | exact ti rfl | (simp only [np, nq]; first | done | omega)) only [go_sem, reduceAdd, reduceMul, reduceSub, reduceLeDiff, reduceEqDiff, reduceShiftRight, reduceAnd, g3, h0, mk]
   rw [qfn]
   unfold qb4
   have c4 : (qan H3 (qaa 0 (nats (List.replicate n 0)))).get H1.nx = qaa 0 [lv, iv] := by rw [qbg _ _ _ (by omega)]; exact c3
   simp (disch := first | omega | exact ti rfl | (simp only [np, nq]; first | done | omega)) only [go_sem, reduceAdd, reduceMul, reduceSub, reduceLeDiff, reduceEqDiff, reduceShiftRight, reduceAnd, c4, elv]
   unfold qhw
   rw [qat]
   refine qsr hY (j := j) (by omega) (HB := qan H (qaa 0 [.int .i64 (.ofNat n), gv])) (H0 := H3) (H1 := qan H3 (qaa 0 (nats (List.replicate n 0)))) hn (hg.fm f03) (by omega) hE.rng g3 (by omega) c3 (by omega) hCR3 hN (fun o ho x hx => z2 x (List.mem_flatten.2 ⟨o, ho, hx⟩)) hd hL (fun o ho => ?_) ((Fm.refl _ _).push _) (Nat.lt_succ_self _) (fun o H4 hO4 g4 f4 => ?_) qaq 0 (List.replicate n 0) _ (by rw [qaj]; omega) (Nat.zero_le _) (OutI.start n es ins2) (qah _ _) (Fm.refl _ _)
   ·have : o.length ≤ res3.flatten.length := (List.sublist_flatten_of_mem ho).length_le
    omega
   ·unfold qbf
    obtain ⟨d1, d2, d3⟩ := hO4.done hE.rng hN hF hd nomix
    have n4 := f4.nx
    have n4' : H3.nx + 1 ≤ H4.nx := n4
    refine Ok.ret ⟨(f03.push _).then f4 fun c hc h => by have := f03.nx; omega, Or.inl ⟨_, o, rfl, ⟨by rw [qax, hO4.len, Nat.mul_one], .inr ⟨H3.nx, 0, true, 0, _, rfl, g4, Nat.zero_le _, List.drop_zero, Or.inl rfl, by omega⟩⟩, rfl, d1, d2, fun x hx => ?_⟩⟩
    have h1 := d3 x hx
    have h2 := hN.lt hx
    omega
  ·have hn0 : n = 0 := by omega
   subst hn0
   simp (disch := first | omega | exact ti rfl | (simp only [np, nq]; first | done | omega)) only [go_sem, reduceAdd, reduceMul, reduceSub, reduceLeDiff, reduceEqDiff, reduceShiftRight, reduceAnd, g3, Nat.lt_irrefl]
   rw [qfn]
   unfold qb4
   have hr0 : res3 = [] := List.length_eq_zero_iff.1 (by omega)
   subst hr0
   have elv' : lenSl lv = .val (.int .i64 (.ofNat 0)) := elv
   simp (disch := first | omega | exact ti rfl | (simp only [np, nq]; first | done | omega)) only [go_sem, reduceAdd, reduceMul, reduceSub, reduceLeDiff, reduceEqDiff, reduceShiftRight, reduceAnd, c3, elv', Nat.lt_irrefl]
   unfold qhw
   rw [qat]
   show Ok (qfo (C j) _ _ _ _ _ _ (qa6 (C j) _ _ _ _ _ _ 999999) _ H3) _
   unfold qfo
   simp (disch := first | omega | exact ti rfl | (simp only [np, nq]; first | done | omega)) only [go_sem, reduceAdd, reduceMul, reduceSub, reduceLeDiff, reduceEqDiff, reduceShiftRight, reduceAnd, Nat.lt_irrefl]
   unfold qbf
   have hes : es = [] := by
    rcases List.eq_nil_or_concat es with h | ⟨l, e, h⟩
    ·exact h
    ·have := hE.rng e (by rw [h]; simp)
     omega
   exact Ok.ret ⟨f03, Or.inl ⟨_, [], rfl, Gl.nil _ _, rfl, ⟨rfl, fun e he => by rw [hes] at he; cases he⟩, fun S _ x hx => absurd hx (Nat.not_lt_zero _), fun x hx => absurd hx (Nat.not_lt_zero _)⟩⟩
 ·have hp : 0 < R3.length := List.length_pos_iff.2 hm
  simp (disch := first | omega | exact ti rfl | (simp only [np, nq]; first | done | omega)) only [go_sem, reduceAdd, reduceMul, reduceSub, reduceLeDiff, reduceEqDiff, reduceShiftRight, reduceAnd, e0, hp]
  obtain ⟨x, hx⟩ := List.exists_mem_of_ne_nil R3 hm
  obtain ⟨e, he, hs, h1, _⟩ := qw5.1 ((hmem3 x).1 hx)
  obtain ⟨l1, l2⟩ := hE.rng e he
  exact Ok.ret ⟨f03, Or.inr ⟨rfl, e, he, hs, ((hN3.eq hF l1 l2).1 h1).2⟩⟩
end Go.Di
end
noncomputable section
/-
 Contracts: a way round with a negative edge, in the code.
-/
namespace Go.Di
open Go.Ev Go.Di.T Go.Sort
variable {C : Nat → Ev.Call} {LA LO : LP}
theorem app1 {H : Hp} {b : Nat} {x : AV} {l : List AV} (hg : H.get b = qaa 0 [x]) (hb : b < H.nx) {k : Nat} (hk : l.length = k) (hl : k ≤ 1000000) :
  ∃ w H', qaz 1 8 H (.sl b 0 1 1 true) (some ⟨k, l⟩) = .ok w H' ∧ Gl 1 H' w (k + 1) (x :: l) ∧ Fm (fun c => c = b) H H' ∧ (∀ c, In w c → b ≤ c) ∧ H.nx ≤ H'.nx := by
 have g : Gl 1 H (.sl b 0 1 1 true) 1 [x] := ⟨rfl, .inr ⟨b, 0, true, 0, _, rfl, hg, Nat.zero_le _, rfl, .inl rfl, hb⟩⟩
 by_cases h0 : k = 0
 ·subst h0
  have := List.length_eq_zero_iff.1 hk
  subst this
  refine ⟨_, H.put b (qaa 0 [x]), ?_, ⟨rfl, .inr ⟨b, 0, true, 0, _, rfl, qad _ _ _, Nat.zero_le _, rfl, .inl rfl, hb⟩⟩, (Fm.refl _ _).put b _ fun _ => rfl, fun c hc => ?_, Nat.le_refl _⟩
  ·show storeAt H b (0 + 1 * 1) [] (.sl b 0 1 1 true) = _
   exact qch _ _ _ _ _ _ _ hg (by simp)
  ·obtain ⟨_, _, _, _, e⟩ := hc; cases e; exact Nat.le_refl _
 ·obtain ⟨H', a1, a2, _, a4, a5⟩ := g.append (w := 8) (k := k) (x := l) (by omega) (by omega) (by omega) (by omega)
  rw [show 1 + k = k + 1 by omega] at a1 a2
  refine ⟨_, H', a1, a2, a4.mono fun c _ hc => ?_, fun c hc => ?_, by omega⟩
  ·obtain ⟨_, _, _, _, e⟩ := hc; cases e; rfl
  ·obtain ⟨_, _, _, _, e⟩ := hc; cases e; omega
def q88 (es : List Edge) (p : Edge → Bool) (i : Nat) : Prop := ∃ h : i < es.length, p es[i] = true ∧ (es.take i).any p = false
theorem qor {call : Ev.Call} {f : FuncId} {caps : List AV} {es : List Edge} {p : Edge → Bool} {H0 : Hp} {w : AV} (hw : IsE H0 w es) (hlen : es.length < 900000) (hf : CloE call H0 f caps es p) {q1 : AV → Hp → R1} {q2 : Hp → R1} {Q : AV → Hp → Prop}
  (hq1 : ∀ i H, q88 es p i → Fm No H0 H → Ok (q1 (.int .i64 (.ofNat i)) H) Q) (hq2 : ∀ H, es.any p = false → Fm No H0 H → Ok (q2 H) Q) :
  ∀ (k i : Nat) (H : Hp), es.length - i < k → i ≤ es.length → (es.take i).any p = false → Fm No H0 H →
   Ok (qis call q1 q2 w (.fn f [] caps) (.int .i64 (.ofNat es.length)) k (.int .i64 (.ofNat i)) H) Q
 | 0, i, H, h, _, _, _ => by omega
 | k + 1, i, H, h, hi, ha, hF => by
  show Ok (qud call _ _ _ _ _ (qis call _ _ _ _ _ k) _ H) Q
  unfold qud
  by_cases hlt : i < es.length
  ·obtain ⟨b, o, e1, e2, e3⟩ := (hw.fm hF).at hlt
   simp (disch := first | omega | exact ti rfl | (simp only [np, nq]; first | done | omega)) only [go_sem, reduceAdd, reduceMul, reduceSub, reduceLeDiff, reduceEqDiff, reduceShiftRight, reduceAnd, hlt]
   unfold qub
   simp (disch := first | omega | exact ti rfl | (simp only [np, nq]; first | done | omega)) only [go_sem, reduceAdd, reduceMul, reduceSub, reduceLeDiff, reduceEqDiff, reduceShiftRight, reduceAnd, e1, e3]
   have hs : (es.take (i + 1)).any p = p es[i] := by
    rw [List.take_succ_eq_append_getElem hlt, List.any_append, ha]; simp
   have hcl := hf es[i] (List.getElem_mem _) H hF
   refine Ok.ve hcl ?_
   rintro v H' ⟨rfl, f'⟩
   cases hp : p es[i] with
   | true =>
    simp (disch := first | omega | exact ti rfl | (simp only [np, nq]; first | done | omega)) only [go_sem, reduceAdd, reduceMul, reduceSub, reduceLeDiff, reduceEqDiff, reduceShiftRight, reduceAnd]
    exact hq1 i H' ⟨hlt, hp, ha⟩ (hF.trans f')
   | false =>
    simp (disch := first | omega | exact ti rfl | (simp only [np, nq]; first | done | omega)) only [go_sem, reduceAdd, reduceMul, reduceSub, reduceLeDiff, reduceEqDiff, reduceShiftRight, reduceAnd]
    unfold quc
    simp (disch := first | omega | exact ti rfl | (simp only [np, nq]; first | done | omega)) only [go_sem, reduceAdd, reduceMul, reduceSub, reduceLeDiff, reduceEqDiff, reduceShiftRight, reduceAnd]
    exact qor hw hlen hf hq1 hq2 k (i + 1) H' (by omega) (by omega) (hs.trans hp) (hF.trans f')
  ·simp (disch := first | omega | exact ti rfl | (simp only [np, nq]; first | done | omega)) only [go_sem, reduceAdd, reduceMul, reduceSub, reduceLeDiff, reduceEqDiff, reduceShiftRight, reduceAnd, hlt]
   have : i = es.length := by omega
   subst this
   rw [List.take_length] at ha
   exact hq2 H ha hF
theorem q8e (hC : qa9 C) {j : Nat} {f : FuncId} {caps : List AV} {es : List Edge} {p : Edge → Bool} {H0 : Hp} {w : AV} (hw : IsE H0 w es) (hlen : es.length < 900000) (hf : CloE (C j) H0 f caps es p) :
  Ok (C (j + 1) (.f qqd) [w, .fn f [] caps] H0) fun v H' => ((∃ i, v = .int .i64 (.ofNat i) ∧ q88 es p i) ∨ (v = .int .i64 (.negSucc 0) ∧ es.any p = false)) ∧ Fm No H0 H' := by
 rw [(hC j).sIxF]
 unfold sIxF q1d
 have e0 := hw.len
 simp (disch := first | omega | exact ti rfl | (simp only [np, nq]; first | done | omega)) only [go_sem, reduceAdd, reduceMul, reduceSub, reduceLeDiff, reduceEqDiff, reduceShiftRight, reduceAnd, e0]
 unfold que
 rw [qat]
 refine qor hw hlen hf (fun i H hp hF => Ok.ret ⟨Or.inl ⟨i, rfl, hp⟩, hF⟩) (fun H ha hF => ?_) qaq 0 H0 (by rw [qaj]; omega) (Nat.zero_le _) (by simp) (Fm.refl _ _)
 unfold qhc
 exact Ok.ret ⟨Or.inr ⟨rfl, ha⟩, hF⟩
theorem q9b (hY : qf8 C) {j : Nat} {H0 : Hp} {c n : Nat} {lv iv : AV} {ins : List Nat} {es : List Edge} (hE : ∀ e ∈ es, e.f < n ∧ e.t < n) (hi : Gl 1 H0 iv n (nats ins)) (hg : H0.get c = qaa 0 [lv, iv]) (hc : c < H0.nx) :
  CloE (C (j + 1)) H0 qia [.ptr c 0] es (mixP ins) := by
 intro e he H hF
 show Ok (C (j + 1) (.f qia) [.agg e.cells, .ptr c 0] H) _
 rw [(hY j).stWiA]
 unfold stWiA qtv Edge.cells
 obtain ⟨r1, r2⟩ := hE e he
 have hil : ins.length = n := by have := hi.len; rw [qax] at this; omega
 obtain ⟨b1, o1, e1, e2, _, e3⟩ := (hi.no hF).at (q2i ins e.f (by omega))
 obtain ⟨b2, o2, e4, e5, _, e6⟩ := (hi.no hF).at (q2i ins e.t (by omega))
 have g1 : H.get c = qaa 0 [lv, iv] := (hF.keep hc).trans hg
 have hcH : c < H.nx := Nat.lt_of_lt_of_le hc hF.nx
 cases hs : e.s with
 | true =>
  simp (disch := first | omega | exact ti rfl | (simp only [np, nq]; first | done | omega)) only [go_sem, reduceAdd, reduceMul, reduceSub, reduceLeDiff, reduceEqDiff, reduceShiftRight, reduceAnd, g1, e1, e3, e4, e6, hs]
  refine Ok.ret ⟨?_, by (repeat (first | exact Fm.refl _ _ | assumption | refine Fm.push ?_ _ | refine Fm.up2 ?_ (by (first | omega | (simp only [np, nq]; omega))) | refine Fm.put_new ?_ _ _ (by (first | omega | (simp only [np, nq]; omega)))))⟩
  unfold mixP
  rw [hs, Bool.true_and]
 | false =>
  simp (disch := first | omega | exact ti rfl | (simp only [np, nq]; first | done | omega)) only [go_sem, reduceAdd, reduceMul, reduceSub, reduceLeDiff, reduceEqDiff, reduceShiftRight, reduceAnd, g1, hs]
  refine Ok.ret ⟨?_, by (repeat (first | exact Fm.refl _ _ | assumption | refine Fm.push ?_ _ | refine Fm.up2 ?_ (by (first | omega | (simp only [np, nq]; omega))) | refine Fm.put_new ?_ _ _ (by (first | omega | (simp only [np, nq]; omega)))))⟩
  unfold mixP
  rw [hs, Bool.false_and]
end Go.Di
end
noncomputable section
/-
 Contracts: a way round with a negative edge, in the code, whole.
-/
namespace Go.Di
open Go.Ev Go.Di.T Go.Sort
variable {C : Nat → Ev.Call} {LA LO : LP}
def RM (n : Nat) (ms : List Nat) (e : Edge) : Prop := e.s = true ∧ ¬ (dist n ms).getD (e.t * n + e.f) 0 < 0
def zeo (n : Nat) (ms : List Nat) : Option (List Nat) → Prop
 | none => ∀ e ∈ qal n ms, ¬ RM n ms e
 | some s => ∃ (i : Nat) (e : Edge) (l : List Nat), (qal n ms)[i]? = some e ∧ RM n ms e ∧ (∀ e' ∈ (qal n ms).take i, ¬ RM n ms e') ∧ Gp n ms (dist n ms) e.f e.t l ∧ l.length < 1000 ∧ s = e.f :: (e.t :: l).dropLast
theorem Gp.uniq {n : Nat} {ms : List Nat} {d : List Int} {b : Nat} : ∀ {a : Nat} {l l' : List Nat}, Gp n ms d b a l → Gp n ms d b a l' → l = l'
 | _, _, _, .nil, .nil => rfl
 | _, _, _, .nil, .cons h _ _ => absurd rfl h
 | _, _, _, .cons h _ _, .nil => absurd rfl h
 | _, _, _, .cons (x := x) _ h1 g1, .cons (x := y) _ h2 g2 => by
  have : x = y := by
   rcases Nat.lt_trichotomy x y with h | h | h
   ·exact absurd h1.is (h2.least x h)
   ·exact h
   ·exact absurd h2.is (h1.least y h)
  subst this
  rw [Gp.uniq g1 g2]
theorem q1l {n : Nat} {ms : List Nat} (hl : ms.length = n * n) {res : List (List Nat)} {ins : List Nat} (hN : Nm n res ins) (hF : OrdF n (qa8 (qal n ms)) [] res) {e : Edge} (he : e ∈ qal n ms) : mixP ins e = true ↔ RM n ms e := by
 obtain ⟨l1, l2⟩ := (qd3 n ms).rng e he
 have h0 : Rc (qa8 (qal n ms)) e.f e.t := .step (.refl _) (qce.2 ⟨e, he, rfl, rfl⟩)
 have h1 := (qvd hl).2 e.t e.f l2 l1
 have h2 := hN.eq hF l1 l2
 unfold mixP RM
 rw [Bool.and_eq_true, decide_eq_true_eq, h2]
 constructor
 ·rintro ⟨a, _, b⟩
  exact ⟨a, Int.not_lt.2 (h1.2 b)⟩
 ·rintro ⟨a, b⟩
  exact ⟨a, h0, h1.1 (Int.not_lt.1 b)⟩
theorem Gs.rd {H : Hp} {b o n m : Nat} {e : Bool} {l : List AV} (h : Gs 1 H (.sl b o n m e) n l) : qbc (H.get b) o (n * 1) = some l := by
 rcases h.is with ⟨h, _⟩ | ⟨b', o', m', e', q, L, hv, h0, h1, h2, h3, h4, h5⟩
 ·cases h
 ·cases hv
  rw [h1, qcy, if_pos (by omega), h3]
theorem qzv (hC : qa9 C) (hY : qf8 C) (hO : qcg C) (hS : qb6 C) (hR : qbz LA LO C) {k : Nat} (hk : 1002 ≤ k) {n : Nat} {ms : List Nat} (hM : MOk n ms) (hP : qrn n ms) (hn : n ≤ 256) (hlen : (qal n ms).length < 900) {gv : AV} {H : Hp} (hg : IsE H gv (qal n ms)) :
  Ok (C k (.f qh9) [.agg [.int .i64 (.ofNat n), gv]] H) fun r H' => Fm No H H' ∧
   ((r = .tup [.nilsl, .int .i64 (.ofNat 8)] ∧ zeo n ms none) ∨
    ∃ w s, r = .tup [w, .int .i64 (.ofNat 0)] ∧ Gl 1 H' w s.length (nats s) ∧ capV w = .val (.int .i64 (.ofNat s.length)) ∧ s.length ≤ 1001 ∧ zeo n ms (some s)) := by
 obtain ⟨j, rfl⟩ : ∃ j, k = j + 3 := ⟨k - 3, by omega⟩
 rw [(hY (j + 2)).stWit]
 have hE := qd3 n ms
 have hl := hM.len
 unfold stWit qoy
 simp (disch := first | omega | exact ti rfl | (simp only [np, nq]; first | done | omega)) only [go_sem, reduceAdd, reduceMul, reduceSub, reduceLeDiff, reduceEqDiff, reduceShiftRight, reduceAnd]
 have f0 : Fm No H (qan H (qaa 0 [.int .i64 (.ofNat n), gv])) := by (repeat (first | exact Fm.refl _ _ | assumption | refine Fm.push ?_ _ | refine Fm.up2 ?_ (by (first | omega | (simp only [np, nq]; omega))) | refine Fm.put_new ?_ _ _ (by (first | omega | (simp only [np, nq]; omega)))))
 refine Ok.ve (zbo hC hO hS hR (k := j + 2) (by omega) hE hn (by omega) (hg.fm f0)) ?_
 rintro r H1 ⟨lv, iv, os, ins2, out, ins, res, rfl, hOrd, hCR, f1⟩
 have hF := hOrd.ord hE.rng
 have hN := zaa hF hCR.ins
 have n1 : H.nx + 1 ≤ H1.nx := f1.nx
 have g1 : H1.get H.nx = qaa 0 [.int .i64 (.ofNat n), gv] := (f1.keep (by (first | omega | (simp only [np, nq]; omega)))).trans (qah _ _)
 have es3 : ∀ x y a b : AV, setL [a, b] 0 [x, y] = [x, y] := fun _ _ _ _ => rfl
 have fa : Fm No H1 ((qan H1 (qaa 0 [.nilsl, .nilsl])).put H1.nx (qaa 0 [lv, iv])) := by (repeat (first | exact Fm.refl _ _ | assumption | refine Fm.push ?_ _ | refine Fm.up2 ?_ (by (first | omega | (simp only [np, nq]; omega))) | refine Fm.put_new ?_ _ _ (by (first | omega | (simp only [np, nq]; omega)))))
 simp (disch := first | omega | exact ti rfl | (simp only [np, nq]; first | done | omega)) only [go_sem, reduceAdd, reduceMul, reduceSub, reduceLeDiff, reduceEqDiff, reduceShiftRight, reduceAnd, es3, List.length_cons, List.length_nil]
 generalize hH2 : (qan H1 (qaa 0 [AV.nilsl, AV.nilsl])).put H1.nx (qaa 0 [lv, iv]) = H2 at *
 have c2 : H2.get H1.nx = qaa 0 [lv, iv] := by rw [← hH2, qad]
 have n2 : H2.nx = H1.nx + 1 := by rw [← hH2]; rfl
 have g2 : H2.get H.nx = qaa 0 [.int .i64 (.ofNat n), gv] := (fa.keep (by omega)).trans g1
 have hg2 : IsE H2 gv (qal n ms) := ((hg.fm f0).fm f1).fm fa
 unfold qks
 simp (disch := first | omega | exact ti rfl | (simp only [np, nq]; first | done | omega)) only [go_sem, reduceAdd, reduceMul, reduceSub, reduceLeDiff, reduceEqDiff, reduceShiftRight, reduceAnd, g2]
 refine Ok.ve (q8e hC (j := j + 1) hg2 (by omega) (q9b (j := j) hY hE.rng (hCR.gi.no fa) c2 (by omega))) ?_
 rintro v H3 ⟨hcase, f3⟩
 have f03 := ((f0.trans f1).trans fa).trans f3
 rcases hcase with ⟨i, rfl, hi, hp, ha⟩ | ⟨rfl, ha⟩
 ·simp (disch := first | omega | exact ti rfl | (simp only [np, nq]; first | done | omega)) only [go_sem, reduceAdd, reduceMul, reduceSub, reduceLeDiff, reduceEqDiff, reduceShiftRight, reduceAnd, Nat.not_lt_zero]
  unfold qkt
  have hg3 := hg2.fm f3
  obtain ⟨b, o, e1, _, e3⟩ := hg3.at hi
  have g3 : H3.get H.nx = qaa 0 [.int .i64 (.ofNat n), gv] := (f3.keep (by omega)).trans g2
  have h3 : H.nx < H3.nx := by have := f3.nx; omega
  have hmem : (qal n ms)[i] ∈ qal n ms := List.getElem_mem _
  have hrm := (q1l hl hN hF hmem).1 hp
  have hno : ∀ e' ∈ (qal n ms).take i, ¬ RM n ms e' := fun e' he' h => by
   have := List.any_eq_false.1 ha e' he'
   exact this ((q1l hl hN hF (List.mem_of_mem_take he')).2 h)
  have hat : (qal n ms)[i]? = some (qal n ms)[i] := List.getElem?_eq_getElem hi
  obtain ⟨l1, l2⟩ := hE.rng _ hmem
  generalize (qal n ms)[i] = e at *
  have fb : Fm No H3 ((qan H3 (qaa 0 [.int .i64 (.ofNat 0), .int .i64 (.ofNat 0), .bool false])).put H3.nx (qaa 0 e.cells)) := by (repeat (first | exact Fm.refl _ _ | assumption | refine Fm.push ?_ _ | refine Fm.up2 ?_ (by (first | omega | (simp only [np, nq]; omega))) | refine Fm.put_new ?_ _ _ (by (first | omega | (simp only [np, nq]; omega)))))
  simp (disch := first | omega | exact ti rfl | (simp only [np, nq]; first | done | omega)) only [go_sem, reduceAdd, reduceMul, reduceSub, reduceLeDiff, reduceEqDiff, reduceShiftRight, reduceAnd, g3, e1, e3, Edge.cells]
  unfold Edge.cells at fb
  obtain ⟨m, hW, _, hWb⟩ := hP e.t l2
  obtain ⟨w1, w2⟩ := hWb e.f l1
  have hnn := fun h => hrm.2 (w1.1 h)
  obtain ⟨l, l', z1, z2, z3, z4⟩ := w2 hrm.2
  refine Ok.ve (zbm hC (k := j + 2) (by omega) (hg3.fm fb) hW l2 l1 (Q := fun r H' => ∃ w, r = .tup [w, .int .i64 (.ofNat 0)] ∧ Fm No _ H' ∧ Gl 1 H' w (l.length + 1) (nats (e.t :: l')) ∧ ∀ b, In w b → H3.nx + 1 ≤ b) (fun h => absurd h hnn) (fun _ => ⟨l, z1, z2, fun H' w a1 a2 a3 a4 => ⟨w, rfl, a1, by rw [← z4]; exact a2, a4⟩⟩)) ?_
  rintro r H4 ⟨w, rfl, f4, gw, hwn⟩
  have hll : l'.length = l.length := by have := congrArg List.length z4; simpa using this.symm
  have n4 := f4.nx
  have n4' : H3.nx + 1 ≤ H4.nx := n4
  have g4 : H4.get H3.nx = qaa 0 [.int .i64 (.ofNat e.f), .int .i64 (.ofNat e.t), .bool e.s] := (f4.keep (by (first | omega | (simp only [np, nq]; omega)))).trans (qad _ _ _)
  have elw := gw.lenV
  obtain ⟨wb, wo, wm, we, u1, u2, u3⟩ := gw.gs.upto (k := l.length) (by omega) (by omega)
  have u1' : qa7 1 w none (some (.int .i64 (.ofNat (l.length + 1 - 1)))) none = .val (.sl wb wo l.length wm we) := by rw [Nat.add_sub_cancel]; exact u1
  have hwb : wb < H4.nx := u2.lt ⟨_, _, _, _, rfl⟩
  have hdl : (nats (e.t :: l')).take (l.length * 1) = nats (e.t :: l').dropLast := by
   unfold nats
   rw [← List.map_take, List.dropLast_eq_take, List.length_cons, hll]
   simp
  rw [hdl] at u2
  have hdn : (nats (e.t :: l').dropLast).length = l.length := by rw [qax, List.length_dropLast, List.length_cons, hll]; rfl
  have rd1 := u2.rd
  have rd2 := rd1
  rw [Nat.mul_one] at rd2
  simp (disch := first | omega | exact ti rfl | (simp only [np, nq]; first | done | omega)) only [go_sem, reduceAdd, reduceMul, reduceSub, reduceLeDiff, reduceEqDiff, reduceShiftRight, reduceAnd, g4, elw, u1', rd1, rd2, hwb]
  have hdl2 : l.length < 1000 := z2
  obtain ⟨w5, H5, a1, a2, a3, a4, a5⟩ := app1 (H := (Hp.mk H4.t (H4.nx + 12)).put (H4.nx + 2) (qaa 0 [AV.int .i64 (.ofNat e.f)])) (qad _ _ _) (by (first | omega | (simp only [np, nq]; omega))) (l := nats (e.t :: l').dropLast) hdn (by omega)
  refine Ok.deE a1 ?_
  have fP : Fm No H4 ((Hp.mk H4.t (H4.nx + 12)).put (H4.nx + 2) (qaa 0 [AV.int .i64 (.ofNat e.f)])) := by (repeat (first | exact Fm.refl _ _ | assumption | refine Fm.push ?_ _ | refine Fm.up2 ?_ (by (first | omega | (simp only [np, nq]; omega))) | refine Fm.put_new ?_ _ _ (by (first | omega | (simp only [np, nq]; omega)))))
  have f5 : Fm No H4 H5 := fP.then a3 fun c hc h => by omega
  have g5 : H5.get H3.nx = qaa 0 [.int .i64 (.ofNat e.f), .int .i64 (.ofNat e.t), .bool e.s] := (f5.keep (by omega)).trans g4
  simp (disch := first | omega | exact ti rfl | (simp only [np, nq]; first | done | omega)) only [go_sem, reduceAdd, reduceMul, reduceSub, reduceLeDiff, reduceEqDiff, reduceShiftRight, reduceAnd, g5]
  obtain ⟨w6, b1, b2, b3, b4⟩ := qv3 hC (k := j + 2) (by omega) a2
  refine Ok.deE b1 ?_
  simp (disch := first | omega | exact ti rfl | (simp only [np, nq]; first | done | omega)) only [go_sem, reduceAdd, reduceMul, reduceSub, reduceLeDiff, reduceEqDiff, reduceShiftRight, reduceAnd, g5]
  have hsl : (e.f :: (e.t :: l').dropLast).length = l.length + 1 := by rw [List.length_cons, List.length_dropLast, List.length_cons, hll]; rfl
  refine Ok.ret ⟨((f03.trans fb).trans f4).trans f5, Or.inr ⟨w6, e.f :: (e.t :: l').dropLast, rfl, by rw [hsl]; exact b2, by rw [hsl]; exact b3, by omega, i, e, l', hat, hrm, hno, z3, by omega, rfl⟩⟩
 ·simp (disch := first | omega | exact ti rfl | (simp only [np, nq]; first | done | omega)) only [go_sem, reduceAdd, reduceMul, reduceSub, reduceLeDiff, reduceEqDiff, reduceShiftRight, reduceAnd]
  exact Ok.ret ⟨f03, Or.inl ⟨rfl, fun e he h => by
   have := List.any_eq_false.1 ha e he
   exact this ((q1l hl hN hF he).2 h)⟩⟩
end Go.Di
end
noncomputable section
/-
 Contracts: a way round with a negative edge, in the reference.
-/
namespace Go.Di
open Go.Ev Go.Di.T Go.Sort
variable {C : Nat → Ev.Call} {LA LO : LP}
theorem Gl.before {H : Hp} {v : AV} {a k : Nat} {l : List Nat} (h : Gl 1 H v (k + 1) (nats (a :: l))) (hl : l.length = k) :
  ∃ b o m e, qa7 1 v none (some (.int .i64 (.ofNat (k + 1 - 1)))) none = .val (.sl b o k m e) ∧ qbc (H.get b) o (k * 1) = some (nats (a :: l).dropLast) ∧ b < H.nx := by
 obtain ⟨wb, wo, wm, we, u1, u2, u3⟩ := h.gs.upto (k := k) (by omega) (by omega)
 refine ⟨wb, wo, wm, we, by rw [Nat.add_sub_cancel]; exact u1, ?_, u2.lt ⟨_, _, _, _, rfl⟩⟩
 have hdl : (nats (a :: l)).take (k * 1) = nats (a :: l).dropLast := by
  unfold nats
  rw [← List.map_take, List.dropLast_eq_take, List.length_cons, hl]
  simp
 rw [hdl] at u2
 exact u2.rd
end Go.Di
end
noncomputable section
/-
 The law StrataNumbers.
-/
namespace Go.Di
open Go.Ev Go.Di.T Go.Sort
variable {C : Nat → Ev.Call} {LA LO : LP}
theorem qlz {call : Ev.Call} {H : Hp} {v w : AV} {l : List AV} (hv : Rl H v l) (hw : Rl H w l) (hint : ∀ x ∈ l, ∃ z : Int, x = .int .i64 z) (hl : l.length < 900000) {q1 : AV → Hp → R1} {q2 : Hp → R1} {Q : AV → Hp → Prop} (hq : Ok (q2 H) Q) :
  ∀ (k i : Nat), l.length - i < k → i ≤ l.length → Ok (qnu call q1 q2 v w k (.int .i64 (.ofNat i)) H) Q
 | 0, i, h, _ => by omega
 | k + 1, i, h, hi => by
  show Ok (q2n call _ _ _ _ (qnu call _ _ _ _ k) _ H) Q
  unfold q2n
  have e0 := hw.len
  by_cases hil : i < l.length
  ·obtain ⟨b1, o1, e1, _, e2⟩ := hv.at' i hil
   obtain ⟨b2, o2, e3, _, e4⟩ := hw.at' i hil
   obtain ⟨z, hz⟩ := hint l[i] (List.getElem_mem _)
   rw [hz] at e2 e4
   simp (disch := first | omega | exact ti rfl | (simp only [np, nq]; first | done | omega)) only [go_sem, reduceAdd, reduceMul, reduceSub, reduceLeDiff, reduceEqDiff, reduceShiftRight, reduceAnd, e0, hil]
   unfold q2l
   simp (disch := first | omega | exact ti rfl | (simp only [np, nq]; first | done | omega)) only [go_sem, reduceAdd, reduceMul, reduceSub, reduceLeDiff, reduceEqDiff, reduceShiftRight, reduceAnd, e1, e2, e3, e4]
   unfold q2m
   simp (disch := first | omega | exact ti rfl | (simp only [np, nq]; first | done | omega)) only [go_sem, reduceAdd, reduceMul, reduceSub, reduceLeDiff, reduceEqDiff, reduceShiftRight, reduceAnd]
   exact qlz hv hw hint hl hq k (i + 1) (by omega) (by omega)
  ·simp (disch := first | omega | exact ti rfl | (simp only [np, nq]; first | done | omega)) only [go_sem, reduceAdd, reduceMul, reduceSub, reduceLeDiff, reduceEqDiff, reduceShiftRight, reduceAnd, e0, hil]
   exact hq
theorem qsv (hY : qf8 C) {k : Nat} (hk : 1 ≤ k) {H : Hp} {v w : AV} {l : List AV} (hv : Rl H v l) (hw : Rl H w l) (hint : ∀ x ∈ l, ∃ z : Int, x = .int .i64 z) (hl : l.length < 900000) (hc : capV v = .val (.int .i64 (.ofNat l.length))) (z : Int) :
  Ok (C k (.f qj1) [v, .int .i64 z, w, .int .i64 z] H) fun r H' => r = .bool true ∧ H' = H := by
 obtain ⟨j, rfl⟩ : ∃ j, k = j + 1 := ⟨k - 1, by omega⟩
 rw [(hY j).lwT]
 unfold lwT zad
 have e1 := hv.len
 have e2 := hw.len
 simp (disch := first | omega | exact ti rfl | (simp only [np, nq]; first | done | omega)) only [go_sem, reduceAdd, reduceMul, reduceSub, reduceLeDiff, reduceEqDiff, reduceShiftRight, reduceAnd, e1, e2, hc]
 unfold quu q2o
 rw [qat]
 refine qlz hv hw hint hl ?_ qaq 0 (by rw [qaj]; omega) (Nat.zero_le _)
 unfold qlv
 exact Ok.ret ⟨rfl, rfl⟩
theorem Gp.last {n : Nat} {ms : List Nat} {d : List Int} {b : Nat} : ∀ {a : Nat} {l : List Nat}, Gp n ms d b a l → (a :: l).dropLast ++ [b] = a :: l
 | _, _, .nil => rfl
 | a, _, .cons (x := x) (l := l) _ _ h => by
  show a :: (x :: l).dropLast ++ [b] = _
  rw [List.cons_append, h.last]
theorem Gp.adj {n : Nat} {ms : List Nat} {d : List Int} {b : Nat} : ∀ {a : Nat} {l : List Nat}, a < n → Gp n ms d b a l → ∀ (i x y : Nat), (a :: l)[i]? = some x → (a :: l)[i + 1]? = some y → x < n ∧ y < n ∧ 0 < ms.getD (x * n + y) 0
 | _, _, _, .nil, i, x, y, _, h => by simp at h
 | a, _, ha, .cons (x := z) _ h1 h2, 0, x, y, g1, g2 => by
  cases g1; cases g2
  exact ⟨ha, h1.lt, h1.is.1⟩
 | a, _, ha, .cons (x := z) _ h1 h2, i + 1, x, y, g1, g2 => Gp.adj h1.lt h2 i x y g1 g2
theorem q6c (H : Hp) : Rl H .nilsl [] := (Gl.nil 1 H).rl
theorem qrs {n : Nat} {ms : List Nat} (hl : ms.length = n * n) {e : Edge} (he : e ∈ qal n ms) (hs : e.s = true) (hr : Rc (qa8 (qal n ms)) e.t e.f) : RM n ms e := by
 obtain ⟨l1, l2⟩ := (qd3 n ms).rng e he
 exact ⟨hs, Int.not_lt.2 (((qvd hl).2 e.t e.f l2 l1).2 hr)⟩
theorem rm_rc {n : Nat} {ms : List Nat} (hl : ms.length = n * n) {e : Edge} (he : e ∈ qal n ms) (h : RM n ms e) : Rc (qa8 (qal n ms)) e.t e.f := by
 obtain ⟨l1, l2⟩ := (qd3 n ms).rng e he
 exact ((qvd hl).2 e.t e.f l2 l1).1 (Int.not_lt.1 h.2)
end Go.Di
end
noncomputable section
/-
 Edges in order are those of a matrix.
-/
namespace Go.Di
open Go.Ev Go.Di.T Go.Sort
def kE (n : Nat) (e : Edge) : Nat := (e.f * n + e.t) * 2 + (if e.s then 1 else 0)
theorem q4o {a b : Int} (h : b < a) : cmpI a b = 1 := by unfold cmpI; rw [if_neg (by omega), if_pos h]
theorem q27 {n : Nat} {a b : Edge} (ha : a.t < n) (hb : b.t < n) (h : cmpE a b < 0) : kE n a < kE n b := by
 unfold kE
 unfold cmpE at h
 rcases Nat.lt_trichotomy a.f b.f with hf | hf | hf
 ·have h1 : (a.f + 1) * n ≤ b.f * n := Nat.mul_le_mul_right n hf
  rw [Nat.add_mul, Nat.one_mul] at h1
  split <;> split <;> omega
 ·have hft : a.f * n = b.f * n := by rw [hf]
  rcases Nat.lt_trichotomy a.t b.t with ht | ht | ht
  ·split <;> split <;> omega
  ·rw [hf, ht, qi9, qi9] at h
   cases ha : a.s <;> cases hb : b.s <;> rw [ha, hb] at h
   ·exact absurd h (by decide)
   ·rw [hf, ht]; simp
   ·exact absurd h (by decide)
   ·exact absurd h (by decide)
  ·rw [hf, qi9, q4o (a := .ofNat a.t) (b := .ofNat b.t) (by simp only [Int.ofNat_eq_natCast]; omega)] at h
   exact absurd h (by show ¬ ((1 : Int) < 0); decide)
 ·rw [q4o (a := .ofNat a.f) (b := .ofNat b.f) (by simp only [Int.ofNat_eq_natCast]; omega)] at h
  exact absurd h (by show ¬ ((1 : Int) < 0); decide)
theorem qse {α : Type} {k : α → Nat} : ∀ {l : List α}, (∀ i (h : i + 1 < l.length), k l[i] < k l[i + 1]) → l.Pairwise fun a b => k a < k b
 | [], _ => List.Pairwise.nil
 | [x], _ => List.pairwise_singleton _ _
 | x :: y :: l, h => by
  have ih : (y :: l).Pairwise fun a b => k a < k b := qse fun i hi => h (i + 1) (by simpa using hi)
  refine List.pairwise_cons.2 ⟨fun z hz => ?_, ih⟩
  have h0 : k x < k y := h 0 (by simp)
  rcases List.mem_cons.1 hz with rfl | hz
  ·exact h0
  ·exact Nat.lt_trans h0 ((List.pairwise_cons.1 ih).1 z hz)
theorem q14 {α : Type} {k : α → Nat} : ∀ {l l' : List α}, l.Pairwise (fun a b => k a < k b) → l'.Pairwise (fun a b => k a < k b) → (∀ x, x ∈ l ↔ x ∈ l') → l = l'
 | [], [], _, _, _ => rfl
 | [], y :: l', _, _, h => by have := (h y).2 List.mem_cons_self; cases this
 | x :: l, [], _, _, h => by have := (h x).1 List.mem_cons_self; cases this
 | x :: l, y :: l', h1, h2, h => by
  obtain ⟨a1, a2⟩ := List.pairwise_cons.1 h1
  obtain ⟨b1, b2⟩ := List.pairwise_cons.1 h2
  have e : x = y := by
   rcases List.mem_cons.1 ((h x).1 List.mem_cons_self) with e | e
   ·exact e
   ·rcases List.mem_cons.1 ((h y).2 List.mem_cons_self) with e' | e'
    ·exact e'.symm
    ·have := a1 y e'
     have := b1 x e
     omega
  subst e
  rw [q14 a2 b2 fun z => ⟨fun hz => ?_, fun hz => ?_⟩]
  ·rcases List.mem_cons.1 ((h z).1 (List.mem_cons_of_mem _ hz)) with e | e
   ·subst e; exact absurd (a1 z hz) (Nat.lt_irrefl _)
   ·exact e
  ·rcases List.mem_cons.1 ((h z).2 (List.mem_cons_of_mem _ hz)) with e | e
   ·subst e; exact absurd (b1 z hz) (Nat.lt_irrefl _)
   ·exact e
theorem qcf.pw {n : Nat} {es : List Edge} (h : qcf n es) : es.Pairwise fun a b => kE n a < kE n b :=
 qse fun i hi => q27 (h.rng _ (List.getElem_mem _)).2 (h.rng _ (List.getElem_mem _)).2 (h.ord i hi)
theorem q4c {n : Nat} {ms : List Nat} {i j : Nat} (h : ms.getD (i * n + j) 0 % 2 = 1) : ∀ {k : Nat}, j < k → (⟨i, j, 0⟩ : T3) ∈ eR n ms i k
 | 0, hj => by omega
 | k + 1, hj => by
  by_cases e : j = k
  ·subst e
   exact List.mem_append_right _ (q7k h)
  ·exact List.mem_append_left _ (q4c h (show j < k by omega))
theorem q4d {n : Nat} {ms : List Nat} {i j : Nat} (h : ms.getD (i * n + j) 0 % 2 = 1) (hj : j < n) : ∀ {m : Nat}, i < m → (⟨i, j, 0⟩ : T3) ∈ eM n ms m
 | 0, hi => by omega
 | m + 1, hi => by
  by_cases e : i = m
  ·subst e
   exact List.mem_append_right _ (q4c h hj)
  ·exact List.mem_append_left _ (q4d h hj (show i < m by omega))
theorem zdm {n : Nat} {ms : List Nat} {i k : Nat} {e : T3} (h : e ∈ ent n ms i k) (hs : e.s = 0) : ms.getD (i * n + k) 0 % 2 = 1 := by
 unfold ent at h
 rcases List.mem_append.1 h with h | h
 ·split at h
  ·assumption
  ·cases h
 ·split at h
  ·rw [List.mem_singleton] at h; subst h; cases hs
  ·cases h
theorem zds {n : Nat} {ms : List Nat} {i : Nat} {e : T3} : ∀ {k : Nat}, e ∈ eR n ms i k → e.s = 0 → ms.getD (i * n + e.t) 0 % 2 = 1
 | 0, h, _ => by cases h
 | k + 1, h, hs => by
  rcases List.mem_append.1 h with h | h
  ·exact zds h hs
  ·rw [(qvc h).2.1]; exact zdm h hs
theorem zdv {n : Nat} {ms : List Nat} {e : T3} : ∀ {i : Nat}, e ∈ eM n ms i → e.s = 0 → ms.getD (e.f * n + e.t) 0 % 2 = 1
 | 0, h, _ => by cases h
 | i + 1, h, hs => by
  rcases List.mem_append.1 h with h | h
  ·exact zdv h hs
  ·rw [(qog h).1]; exact zds h hs
open Classical in
def msOf (n : Nat) (es : List Edge) : List Nat := (List.range (n * n)).map fun p => (if (⟨p / n, p % n, false⟩ : Edge) ∈ es then 1 else 0) + (if (⟨p / n, p % n, true⟩ : Edge) ∈ es then 2 else 0)
open Classical in
theorem qw4 {n : Nat} {es : List Edge} {i k : Nat} (hi : i < n) (hk : k < n) : (msOf n es).getD (i * n + k) 0 = (if (⟨i, k, false⟩ : Edge) ∈ es then 1 else 0) + (if (⟨i, k, true⟩ : Edge) ∈ es then 2 else 0) := by
 have h1 : (i + 1) * n ≤ n * n := Nat.mul_le_mul_right n hi
 rw [Nat.add_mul, Nat.one_mul] at h1
 have h2 : i * n + k < n * n := by omega
 have h3 : (i * n + k) / n = i := by rw [Nat.mul_comm, Nat.mul_add_div (by omega), Nat.div_eq_of_lt hk, Nat.add_zero]
 have h4 : (i * n + k) % n = k := by rw [Nat.mul_comm, Nat.mul_add_mod, Nat.mod_eq_of_lt hk]
 unfold msOf
 rw [List.getD_eq_getElem?_getD, List.getElem?_map, List.getElem?_eq_getElem (by simpa using h2)]
 simp [h3, h4]
theorem ex_ms {n : Nat} {es : List Edge} (hE : qcf n es) (hn : n ≤ 256) : ∃ ms, MOk n ms ∧ qal n ms = es := by
 have hok : MOk n (msOf n es) := ⟨hn, by simp [msOf], fun x hx => by
  unfold msOf at hx
  obtain ⟨p, _, rfl⟩ := List.mem_map.1 hx
  split <;> split <;> omega⟩
 refine ⟨msOf n es, hok, q14 (qd3 n _).pw hE.pw fun e => ⟨fun h => ?_, fun h => ?_⟩⟩
 ·obtain ⟨t, ht, rfl⟩ := List.mem_map.1 h
  obtain ⟨l1, l2, l3, _⟩ := qif ht
  have hg := qw4 (es := es) l1 l2
  by_cases hs : t.s = 1
  ·have h1 := eM_s ht hs
   rw [hg] at h1
   show (⟨t.f, t.t, decide (t.s = 1)⟩ : Edge) ∈ es
   rw [decide_eq_true hs]
   by_cases hm : (⟨t.f, t.t, true⟩ : Edge) ∈ es
   ·exact hm
   ·rw [if_neg hm] at h1
    split at h1 <;> omega
  ·have h1 := zdv ht (by omega)
   rw [hg] at h1
   show (⟨t.f, t.t, decide (t.s = 1)⟩ : Edge) ∈ es
   rw [decide_eq_false hs]
   by_cases hm : (⟨t.f, t.t, false⟩ : Edge) ∈ es
   ·exact hm
   ·rw [if_neg hm] at h1
    split at h1 <;> omega
 ·obtain ⟨l1, l2⟩ := hE.rng e h
  have hg := qw4 (es := es) l1 l2
  obtain ⟨f, t, s⟩ := e
  cases s with
  | true =>
   have h1 : 1 < (msOf n es).getD (f * n + t) 0 := by
    rw [hg, if_pos h]
    split <;> omega
   exact List.mem_map.2 ⟨_, q8x h1 l2 l1, rfl⟩
  | false =>
   have h1 : (msOf n es).getD (f * n + t) 0 % 2 = 1 := by
    rw [hg, if_pos h]
    split <;> rfl
   exact List.mem_map.2 ⟨_, q4d h1 l2 l1, rfl⟩
end Go.Di
end
noncomputable section
/-
 Contracts: the functions of strata refuse a graph that is not right; the zero Strata.
-/
namespace Go.Di
open Go.Ev Go.Di.T Go.Sort
variable {C : Nat → Ev.Call} {LA LO : LP}
theorem qzz (hC : qa9 C) (hR : qbz LA LO C) {k : Nat} (hk : 11 ≤ k) {N : Int} {al : List AE} (hlen : al.length < 1000000) {v : AV} {H : Hp} (hv : IsA H v al) (hc : ¬ chk N al = 0) :
  Ok (C k (.f qib) [.agg [.int .i64 N, v]] H) fun r H' => r = .tup [.nilsl, .int .i64 (.ofNat (chk N al))] ∧ Fm No H H' := by
 obtain ⟨j, rfl⟩ : ∃ j, k = j + 1 := ⟨k - 1, by omega⟩
 rw [(hC j).stNum]
 unfold stNum qo0
 simp (disch := first | omega | exact ti rfl | (simp only [np, nq]; first | done | omega)) only [go_sem, reduceAdd, reduceMul, reduceSub, reduceLeDiff, reduceEqDiff, reduceShiftRight, reduceAnd]
 have f0 : Fm No H (qan H (qaa 0 [.int .i64 N, v])) := by (repeat (first | exact Fm.refl _ _ | assumption | refine Fm.push ?_ _ | refine Fm.up2 ?_ (by (first | omega | (simp only [np, nq]; omega))) | refine Fm.put_new ?_ _ _ (by (first | omega | (simp only [np, nq]; omega)))))
 refine Ok.ve (zel hC hR (k := j) (by omega) hlen (hv.fm f0) hc) ?_
 rintro r H1 ⟨rfl, f1⟩
 have es3 : ∀ x y a b : AV, setL [a, b] 0 [x, y] = [x, y] := fun _ _ _ _ => rfl
 simp (disch := first | omega | exact ti rfl | (simp only [np, nq]; first | done | omega)) only [go_sem, reduceAdd, reduceMul, reduceSub, reduceLeDiff, reduceEqDiff, reduceShiftRight, reduceAnd, hc, es3, List.length_cons, List.length_nil]
 exact Ok.ret ⟨rfl, (f0.trans f1).trans (((Fm.refl _ _).push _).put_new _ _ (Nat.le_refl _))⟩
theorem qzw (hC : qa9 C) (hR : qbz LA LO C) {k : Nat} (hk : 11 ≤ k) {N : Int} {al : List AE} (hlen : al.length < 1000000) {v : AV} {H : Hp} (hv : IsA H v al) (hc : ¬ chk N al = 0) :
  Ok (C k (.f qh9) [.agg [.int .i64 N, v]] H) fun r H' => r = .tup [.nilsl, .int .i64 (.ofNat (chk N al))] ∧ Fm No H H' := by
 obtain ⟨j, rfl⟩ : ∃ j, k = j + 1 := ⟨k - 1, by omega⟩
 rw [(hC j).stWit]
 unfold stWit qoy
 simp (disch := first | omega | exact ti rfl | (simp only [np, nq]; first | done | omega)) only [go_sem, reduceAdd, reduceMul, reduceSub, reduceLeDiff, reduceEqDiff, reduceShiftRight, reduceAnd]
 have f0 : Fm No H (qan H (qaa 0 [.int .i64 N, v])) := by (repeat (first | exact Fm.refl _ _ | assumption | refine Fm.push ?_ _ | refine Fm.up2 ?_ (by (first | omega | (simp only [np, nq]; omega))) | refine Fm.put_new ?_ _ _ (by (first | omega | (simp only [np, nq]; omega)))))
 refine Ok.ve (zel hC hR (k := j) (by omega) hlen (hv.fm f0) hc) ?_
 rintro r H1 ⟨rfl, f1⟩
 have es3 : ∀ x y a b : AV, setL [a, b] 0 [x, y] = [x, y] := fun _ _ _ _ => rfl
 simp (disch := first | omega | exact ti rfl | (simp only [np, nq]; first | done | omega)) only [go_sem, reduceAdd, reduceMul, reduceSub, reduceLeDiff, reduceEqDiff, reduceShiftRight, reduceAnd, hc, es3, List.length_cons, List.length_nil]
 exact Ok.ret ⟨rfl, (f0.trans f1).trans (((Fm.refl _ _).push _).put_new _ _ (Nat.le_refl _))⟩
theorem zew (hC : qa9 C) {k : Nat} (hk : 1 ≤ k) (a b : AV) (H : Hp) :
  Ok (C k (.f qqa) [.agg [.nilsl], a, b] H) fun r H' => r = .tup [.int .i64 (.ofNat 0), .int .i64 (.ofNat 6)] ∧ Fm No H H' := by
 obtain ⟨j, rfl⟩ : ∃ j, k = j + 1 := ⟨k - 1, by omega⟩
 rw [(hC j).stAt]
 unfold stAt q0x
 have hl : lenSl .nilsl = .val (.int .i64 (.ofNat 0)) := rfl
 simp (disch := first | omega | exact ti rfl | (simp only [np, nq]; first | done | omega)) only [go_sem, reduceAdd, reduceMul, reduceSub, reduceLeDiff, reduceEqDiff, reduceShiftRight, reduceAnd, hl]
 unfold qt1
 rw [qat, qaj]
 show Ok (qt0 (C j) _ _ _ _ _ _ (qk4 (C j) _ _ _ _ _ _ 999999) _ _) _
 unfold qt0
 simp (disch := first | omega | exact ti rfl | (simp only [np, nq]; first | done | omega)) only [go_sem, reduceAdd, reduceMul, reduceSub, reduceLeDiff, reduceEqDiff, reduceShiftRight, reduceAnd, Nat.lt_irrefl]
 unfold qhb
 exact Ok.ret ⟨rfl, by (repeat (first | exact Fm.refl _ _ | assumption | refine Fm.push ?_ _ | refine Fm.up2 ?_ (by (first | omega | (simp only [np, nq]; omega))) | refine Fm.put_new ?_ _ _ (by (first | omega | (simp only [np, nq]; omega)))))⟩
theorem qxz (hC : qa9 C) {k : Nat} (hk : 1 ≤ k) (H : Hp) :
  Ok (C k (.f qic) [.agg [.nilsl]] H) fun r H' => r = .int .i64 (.ofNat 0) ∧ Fm No H H' := by
 obtain ⟨j, rfl⟩ : ∃ j, k = j + 1 := ⟨k - 1, by omega⟩
 rw [(hC j).stMny]
 unfold stMny qtx
 have hl : lenSl .nilsl = .val (.int .i64 (.ofNat 0)) := rfl
 simp (disch := first | omega | exact ti rfl | (simp only [np, nq]; first | done | omega)) only [go_sem, reduceAdd, reduceMul, reduceSub, reduceLeDiff, reduceEqDiff, reduceShiftRight, reduceAnd, hl]
 unfold qo2
 rw [qat, qaj]
 show Ok (qo1 (C j) _ _ _ (qhx (C j) _ _ _ 999999) _ _ _) _
 unfold qo1
 simp (disch := first | omega | exact ti rfl | (simp only [np, nq]; first | done | omega)) only [go_sem, reduceAdd, reduceMul, reduceSub, reduceLeDiff, reduceEqDiff, reduceShiftRight, reduceAnd, Nat.lt_irrefl]
 unfold qew
 exact Ok.ret ⟨rfl, by (repeat (first | exact Fm.refl _ _ | assumption | refine Fm.push ?_ _ | refine Fm.up2 ?_ (by (first | omega | (simp only [np, nq]; omega))) | refine Fm.put_new ?_ _ _ (by (first | omega | (simp only [np, nq]; omega)))))⟩
theorem zeq (hC : qa9 C) {k : Nat} (hk : 2 ≤ k) (H : Hp) :
  Ok (C k (.f qp9) [.agg [.nilsl], .int .i64 (.ofNat 0)] H) fun r H' => r = .tup [.nilsl, .int .i64 (.ofNat 4)] ∧ Fm No H H' := by
 obtain ⟨j, rfl⟩ : ∃ j, k = j + 1 := ⟨k - 1, by omega⟩
 rw [(hC j).stIn]
 unfold stIn q0t
 simp (disch := first | omega | exact ti rfl | (simp only [np, nq]; first | done | omega)) only [go_sem, reduceAdd, reduceMul, reduceSub, reduceLeDiff, reduceEqDiff, reduceShiftRight, reduceAnd, Nat.lt_irrefl]
 refine Ok.ve (qxz hC (k := j) (by omega) _) ?_
 rintro r H1 ⟨rfl, f1⟩
 simp (disch := first | omega | exact ti rfl | (simp only [np, nq]; first | done | omega)) only [go_sem, reduceAdd, reduceMul, reduceSub, reduceLeDiff, reduceEqDiff, reduceShiftRight, reduceAnd, Nat.le_refl, Nat.lt_irrefl]
 exact Ok.ret ⟨rfl, Fm.trans (by (repeat (first | exact Fm.refl _ _ | assumption | refine Fm.push ?_ _ | refine Fm.up2 ?_ (by (first | omega | (simp only [np, nq]; omega))) | refine Fm.put_new ?_ _ _ (by (first | omega | (simp only [np, nq]; omega)))))) f1⟩
end Go.Di
end
noncomputable section
/-
 The law StrataErrors.
-/
namespace Go.Di
open Go.Ev Go.Di.T Go.Sort
variable {C : Nat → Ev.Call} {LA LO : LP}
theorem qz2 (hC : qa9 C) (hY : qf8 C) {k : Nat} (hk : 3 ≤ k) (hlive : ∀ k H, 1 ≤ k → C k (.f qb1) [] H = .ok (.bool true) H) (H : Hp) : Ok (qly (C k) H) fun r _ => r = .bool true := by
 refine qy1 ?_
 unfold qdz
 simp (disch := first | omega | exact ti rfl | (simp only [np, nq]; first | done | omega)) only [go_sem, reduceAdd, reduceMul, reduceSub, reduceLeDiff, reduceEqDiff, reduceShiftRight, reduceAnd]
 refine Ok.ve (zew hC (k := k) (by omega) _ _ _) ?_
 rintro r H1 ⟨rfl, f1⟩
 have g1 : H1.get H.nx = qaa 0 [.nilsl] := (f1.keep (by (first | omega | (simp only [np, nq]; omega)))).trans (qah _ _)
 have n1 : H.nx + 1 ≤ H1.nx := f1.nx
 simp (disch := first | omega | exact ti rfl | (simp only [np, nq]; first | done | omega)) only [go_sem, reduceAdd, reduceMul, reduceSub, reduceLeDiff, reduceEqDiff, reduceShiftRight, reduceAnd]
 refine qy2 ?_
 unfold qd0
 simp (disch := first | omega | exact ti rfl | (simp only [np, nq]; first | done | omega)) only [go_sem, reduceAdd, reduceMul, reduceSub, reduceLeDiff, reduceEqDiff, reduceShiftRight, reduceAnd, g1]
 refine Ok.ve (zeq hC (k := k) (by omega) _) ?_
 rintro r H2 ⟨rfl, f2⟩
 have g2 : H2.get H.nx = qaa 0 [.nilsl] := (f2.keep (by omega)).trans g1
 simp (disch := first | omega | exact ti rfl | (simp only [np, nq]; first | done | omega)) only [go_sem, reduceAdd, reduceMul, reduceSub, reduceLeDiff, reduceEqDiff, reduceShiftRight, reduceAnd]
 refine qy3 ?_
 unfold qd1
 simp (disch := first | omega | exact ti rfl | (simp only [np, nq]; first | done | omega)) only [go_sem, reduceAdd, reduceMul, reduceSub, reduceLeDiff, reduceEqDiff, reduceShiftRight, reduceAnd, g2]
 refine Ok.ve (qxz hC (k := k) (by omega) _) ?_
 rintro r H3 ⟨rfl, f3⟩
 have e2 : C k (.f qj1) [.nilsl, .int .i64 (.ofNat 4), .nilsl, .int .i64 (.ofNat 4)] H3 = .ok (.bool true) H3 := by
  obtain ⟨r, H', h1, rfl, rfl⟩ := qsv hY (k := k) (by omega) (q6c H3) (q6c H3) (fun x hx => by cases hx) (by simp) rfl (Int.ofNat 4)
  exact h1
 have hlv := hlive k H3 (by omega)
 simp (disch := first | omega | exact ti rfl | (simp only [np, nq]; first | done | omega)) only [go_sem, reduceAdd, reduceMul, reduceSub, reduceLeDiff, reduceEqDiff, reduceShiftRight, reduceAnd, e2, hlv]
 exact Ok.ret rfl
theorem qm4 (hC : qa9 C) (hY : qf8 C) (hO : qcg C) (hS : qb6 C) (hR : qbz LA LO C) {k : Nat} (hk : 1500 ≤ k) (hlive : ∀ k H, 1 ≤ k → C k (.f qb1) [] H = .ok (.bool true) H) {call : Ev.Call} (hcall : call = C k) {N : Int} {v : AV} {al : List AE} {H : Hp} (hv : IsA H v al) :
  Ok (lwR call (.agg [.int .i64 N, v]) H) fun r _ => r = .bool true := by
 subst hcall
 unfold lwR zae
 have e0 := hv.len
 have f0 : Fm No H (qan H (qaa 0 [.int .i64 N, v])) := by (repeat (first | exact Fm.refl _ _ | assumption | refine Fm.push ?_ _ | refine Fm.up2 ?_ (by (first | omega | (simp only [np, nq]; omega))) | refine Fm.put_new ?_ _ _ (by (first | omega | (simp only [np, nq]; omega)))))
 have hlv := hlive k (qan H (qaa 0 [.int .i64 N, v])) (by omega)
 by_cases h60 : 60 < al.length
 ·simp (disch := first | omega | exact ti rfl | (simp only [np, nq]; first | done | omega)) only [go_sem, reduceAdd, reduceMul, reduceSub, reduceLeDiff, reduceEqDiff, reduceShiftRight, reduceAnd, e0, h60]
  refine qi2 ?_
  unfold qcs
  simp (disch := first | omega | exact ti rfl | (simp only [np, nq]; first | done | omega)) only [go_sem, reduceAdd, reduceMul, reduceSub, reduceLeDiff, reduceEqDiff, reduceShiftRight, reduceAnd, hlv]
  exact Ok.ret rfl
 ·by_cases h40 : Int.ofNat 40 < N ∧ N ≤ Int.ofNat 256
  ·have h1 := h40.1
   have h2 := h40.2
   simp (disch := first | omega | exact ti rfl | (simp only [np, nq]; first | done | omega)) only [go_sem, reduceAdd, reduceMul, reduceSub, reduceLeDiff, reduceEqDiff, reduceShiftRight, reduceAnd, e0, h60, h1, h2]
   refine qi2 ?_
   unfold qcs
   simp (disch := first | omega | exact ti rfl | (simp only [np, nq]; first | done | omega)) only [go_sem, reduceAdd, reduceMul, reduceSub, reduceLeDiff, reduceEqDiff, reduceShiftRight, reduceAnd, hlv]
   exact Ok.ret rfl
  ·have main : Ok (qlw (C k) (.ptr H.nx 0) (.bool false) (qan H (qaa 0 [.int .i64 N, v]))) fun r _ => r = .bool true := by
    refine qi2 ?_
    unfold qcs
    simp (disch := first | omega | exact ti rfl | (simp only [np, nq]; first | done | omega)) only [go_sem, reduceAdd, reduceMul, reduceSub, reduceLeDiff, reduceEqDiff, reduceShiftRight, reduceAnd]
    refine qy0 ?_
    unfold qdy
    simp (disch := first | omega | exact ti rfl | (simp only [np, nq]; first | done | omega)) only [go_sem, reduceAdd, reduceMul, reduceSub, reduceLeDiff, reduceEqDiff, reduceShiftRight, reduceAnd]
    refine Ok.ve (qtq hC (k := k) (by omega) (by omega) (hv.fm f0)) ?_
    rintro r H1 ⟨rfl, f1⟩
    have g1 : H1.get H.nx = qaa 0 [.int .i64 N, v] := (f1.keep (by (first | omega | (simp only [np, nq]; omega)))).trans (qah _ _)
    have n1 : H.nx + 1 ≤ H1.nx := f1.nx
    have f01 := f0.trans f1
    by_cases hc : chk N al = 0
    ·obtain ⟨n, rfl, hn, hE, hcell⟩ := zd4 hc
     have hlen : (al.map AE.toE).length ≤ 60 := by rw [List.length_map]; omega
     have hI := hv.toE hcell
     generalize al.map AE.toE = es at *
     obtain ⟨ms, hM, hms⟩ := ex_ms hE hn
     subst hms
     have hl := hM.len
     simp (disch := first | omega | exact ti rfl | (simp only [np, nq]; first | done | omega)) only [go_sem, reduceAdd, reduceMul, reduceSub, reduceLeDiff, reduceEqDiff, reduceShiftRight, reduceAnd, g1]
     refine Ok.ve (qzy hC hY hO hS hR (k := k) (by omega) hE hn (by omega) (hI.fm f01)) ?_
     rintro r H2 ⟨f2, hcase⟩
     have n2 := f2.nx
     have g2 : H2.get H.nx = qaa 0 [.int .i64 (.ofNat n), v] := (f2.keep (by omega)).trans g1
     obtain ⟨w1, c1, rfl, hNu⟩ : ∃ w1 c1, r = .tup [w1, .int .i64 (.ofNat c1)] ∧ ((c1 = 0 ∧ ∃ o, Fit n (qal n ms) o) ∨ (c1 = 12 ∧ ∃ e ∈ qal n ms, e.s = true ∧ Rc (qa8 (qal n ms)) e.t e.f)) := by
      rcases hcase with ⟨w1, o, rfl, _, _, h, _⟩ | ⟨rfl, h⟩
      ·exact ⟨_, _, rfl, Or.inl ⟨rfl, o, h⟩⟩
      ·exact ⟨_, _, rfl, Or.inr ⟨rfl, h⟩⟩
     simp (disch := first | omega | exact ti rfl | (simp only [np, nq]; first | done | omega)) only [go_sem, reduceAdd, reduceMul, reduceSub, reduceLeDiff, reduceEqDiff, reduceShiftRight, reduceAnd]
     refine qnx ?_
     unfold qda
     simp (disch := first | omega | exact ti rfl | (simp only [np, nq]; first | done | omega)) only [go_sem, reduceAdd, reduceMul, reduceSub, reduceLeDiff, reduceEqDiff, reduceShiftRight, reduceAnd, g2]
     refine Ok.ve (qzv hC hY hO hS hR (k := k) (by omega) hM (q0a hM (by omega)) hn (by omega) ((hI.fm f01).fm f2)) ?_
     rintro r H3 ⟨f3, hcase3⟩
     obtain ⟨w2, c2, rfl, hWi⟩ : ∃ w2 c2, r = .tup [w2, .int .i64 (.ofNat c2)] ∧ ((c2 = 8 ∧ ∀ e ∈ qal n ms, ¬ RM n ms e) ∨ (c2 = 0 ∧ ∃ e ∈ qal n ms, RM n ms e)) := by
      rcases hcase3 with ⟨rfl, h⟩ | ⟨w2, s, rfl, _, _, _, h⟩
      ·exact ⟨_, _, rfl, Or.inl ⟨rfl, h⟩⟩
      ·obtain ⟨i, e, l, h1, h2, _⟩ := h
       exact ⟨_, _, rfl, Or.inr ⟨rfl, e, List.mem_of_getElem? h1, h2⟩⟩
     simp (disch := first | omega | exact ti rfl | (simp only [np, nq]; first | done | omega)) only [go_sem, reduceAdd, reduceMul, reduceSub, reduceLeDiff, reduceEqDiff, reduceShiftRight, reduceAnd]
     refine qnz ?_
     unfold qdb
     have qb : ∀ b : Bool, qnc true (qmm (.bool b) (.bool b)) = .val (.bool false) := fun b => by cases b <;> rfl
     have fin : Ok (qlx (C k) (.bool false) H3) fun r _ => r = .bool true := by
      refine qn1 ?_
      unfold qdc
      simp (disch := first | omega | exact ti rfl | (simp only [np, nq]; first | done | omega)) only [go_sem, reduceAdd, reduceMul, reduceSub, reduceLeDiff, reduceEqDiff, reduceShiftRight, reduceAnd]
      exact qz2 hC hY (by omega) hlive H3
     rcases hNu with ⟨rfl, o, hfit⟩ | ⟨rfl, e, he, hs, hr⟩
     ·rcases hWi with ⟨rfl, _⟩ | ⟨rfl, e, he, hrm⟩
      ·simp (disch := first | omega | exact ti rfl | (simp only [np, nq]; first | done | omega)) only [go_sem, reduceAdd, reduceMul, reduceSub, reduceLeDiff, reduceEqDiff, reduceShiftRight, reduceAnd, hc, qb]
       exact fin
      ·exact absurd (q3v hfit he hrm.1 (rm_rc hl he hrm)) id
     ·rcases hWi with ⟨rfl, hno⟩ | ⟨rfl, _⟩
      ·exact absurd (qrs hl he hs hr) (hno e he)
      ·simp (disch := first | omega | exact ti rfl | (simp only [np, nq]; first | done | omega)) only [go_sem, reduceAdd, reduceMul, reduceSub, reduceLeDiff, reduceEqDiff, reduceShiftRight, reduceAnd, hc, qb]
       exact fin
    ·simp (disch := first | omega | exact ti rfl | (simp only [np, nq]; first | done | omega)) only [go_sem, reduceAdd, reduceMul, reduceSub, reduceLeDiff, reduceEqDiff, reduceShiftRight, reduceAnd, g1]
     refine Ok.ve (qzz hC hR (k := k) (by omega) (by omega) (hv.fm f01) hc) ?_
     rintro r H2 ⟨rfl, f2⟩
     have n2 := f2.nx
     have g2 : H2.get H.nx = qaa 0 [.int .i64 N, v] := (f2.keep (by omega)).trans g1
     simp (disch := first | omega | exact ti rfl | (simp only [np, nq]; first | done | omega)) only [go_sem, reduceAdd, reduceMul, reduceSub, reduceLeDiff, reduceEqDiff, reduceShiftRight, reduceAnd]
     refine qnx ?_
     unfold qda
     simp (disch := first | omega | exact ti rfl | (simp only [np, nq]; first | done | omega)) only [go_sem, reduceAdd, reduceMul, reduceSub, reduceLeDiff, reduceEqDiff, reduceShiftRight, reduceAnd, g2]
     refine Ok.ve (qzw hC hR (k := k) (by omega) (by omega) (hv.fm (f01.trans f2)) hc) ?_
     rintro r H3 ⟨rfl, f3⟩
     simp (disch := first | omega | exact ti rfl | (simp only [np, nq]; first | done | omega)) only [go_sem, reduceAdd, reduceMul, reduceSub, reduceLeDiff, reduceEqDiff, reduceShiftRight, reduceAnd]
     refine qnz ?_
     unfold qdb
     have e2 : C k (.f qj1) [.nilsl, .int .i64 (.ofNat (chk N al)), .nilsl, .int .i64 (.ofNat (chk N al))] H3 = .ok (.bool true) H3 := by
      obtain ⟨r, H', h1, rfl, rfl⟩ := qsv hY (k := k) (by omega) (q6c H3) (q6c H3) (fun x hx => by cases hx) (by simp) rfl (Int.ofNat (chk N al))
      exact h1
     simp (disch := first | omega | exact ti rfl | (simp only [np, nq]; first | done | omega)) only [go_sem, reduceAdd, reduceMul, reduceSub, reduceLeDiff, reduceEqDiff, reduceShiftRight, reduceAnd, hc, e2]
     refine qn1 ?_
     unfold qdc
     simp (disch := first | omega | exact ti rfl | (simp only [np, nq]; first | done | omega)) only [go_sem, reduceAdd, reduceMul, reduceSub, reduceLeDiff, reduceEqDiff, reduceShiftRight, reduceAnd]
     exact qz2 hC hY (by omega) hlive H3
   by_cases h1 : Int.ofNat 40 < N
   ·have h2 : ¬ N ≤ Int.ofNat 256 := fun h => h40 ⟨h1, h⟩
    simp (disch := first | omega | exact ti rfl | (simp only [np, nq]; first | done | omega)) only [go_sem, reduceAdd, reduceMul, reduceSub, reduceLeDiff, reduceEqDiff, reduceShiftRight, reduceAnd, e0, h60, h1, h2]
    exact main
   ·simp (disch := first | omega | exact ti rfl | (simp only [np, nq]; first | done | omega)) only [go_sem, reduceAdd, reduceMul, reduceSub, reduceLeDiff, reduceEqDiff, reduceShiftRight, reduceAnd, e0, h60, h1]
    exact main
end Go.Di
end
