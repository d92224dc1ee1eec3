/-
  For countersignlaw17.CompsCondense: the law. No conditions beyond those that each theorem states.
-/
import Derived.Test.YtmdpdlnabcmlmaaCompE
set_option linter.unusedSimpArgs false
set_option linter.unusedVariables false
section
/-
  Numbers of nodes are those of their components.
-/
namespace Go.Di
open Go.Ev Go.Di.T Go.Sort
theorem qu9 {n : Nat} {adj : Nat → List Nat} : ∀ {R pre : List (List Nat)} {c : List Nat}, OrdF n adj pre R → c ∈ R → ∃ i, q9c n adj i c
  | [], _, _, _, h => by cases h
  | d :: R, pre, c, ⟨⟨i, _, hc⟩, h2⟩, h => by
    rcases List.mem_cons.1 h with rfl | h
    · exact ⟨i, hc⟩
    · exact qu9 h2 h
theorem q52 {n : Nat} {adj : Nat → List Nat} {res : List (List Nat)} (h : OrdF n adj [] res) {o : List Nat} (ho : o ∈ res) {x y : Nat} (hx : x ∈ o) (hy : y < n) : y ∈ o ↔ Rc adj x y ∧ Rc adj y x := by
  obtain ⟨i, _, hc⟩ := qu9 h ho
  obtain ⟨_, h1, h2⟩ := (hc x).1 hx
  rw [hc y]
  exact ⟨fun g => ⟨h2.trans g.2.1, g.2.2.trans h1⟩, fun g => ⟨hy, h1.trans g.1, g.2.trans h2⟩⟩
structure Nm (n : Nat) (res : List (List Nat)) (ins : List Nat) : Prop where
  is : ∀ (j : Nat) (o : List Nat) (x : Nat), res[j]? = some o → x ∈ o → ins.getD x 0 = j
  all : ∀ x, x < n → ∃ (j : Nat) (o : List Nat), res[j]? = some o ∧ x ∈ o
theorem Nm.lt {n : Nat} {res : List (List Nat)} {ins : List Nat} (h : Nm n res ins) {x : Nat} (hx : x < n) : ins.getD x 0 < res.length := by
  obtain ⟨j, o, h1, h2⟩ := h.all x hx
  rw [h.is j o x h1 h2]
  exact (List.getElem?_eq_some_iff.1 h1).1
theorem Nm.eq {n : Nat} {adj : Nat → List Nat} {res : List (List Nat)} {ins : List Nat} (h : Nm n res ins) (hF : OrdF n adj [] res) {x y : Nat} (hx : x < n) (hy : y < n) : ins.getD x 0 = ins.getD y 0 ↔ Rc adj x y ∧ Rc adj y x := by
  obtain ⟨j, o, h1, h2⟩ := h.all x hx
  obtain ⟨j', o', h3, h4⟩ := h.all y hy
  rw [h.is j o x h1 h2, h.is j' o' y h3 h4, ← q52 hF (List.mem_of_getElem? h1) h2 hy]
  constructor
  · rintro rfl
    rw [h1] at h3
    cases h3
    exact h4
  · intro hyo
    rw [← h.is j o y h1 hyo, h.is j' o' y h3 h4]
end Go.Di
end
section
/-
  Contracts: whether a list of edges has one that a closure takes.
-/
namespace Go.Di
open Go.Ev Go.Di.T Go.Sort
open Nat (reduceAdd reduceMul reduceSub reduceLeDiff reduceEqDiff reduceShiftRight reduceAnd)
variable {C : Nat → Ev.Call} {LA LO : LP}
theorem q0w (neg : Bool) (x y : Edge) : qj1 neg (qoq (eqFields [(p1, ⟨qju⟩, 0), (p1, ⟨qju⟩, 1), (p1, ⟨qgz⟩, 2)]) (.agg x.cells) (.agg y.cells)) = .val (.bool (bif neg then !decide (x = y) else decide (x = y))) := by
  have e : qoq (eqFields [(p1, ⟨qju⟩, 0), (p1, ⟨qju⟩, 1), (p1, ⟨qgz⟩, 2)]) (.agg x.cells) (.agg y.cells) = some (decide (x = y)) := by
    show andThen (some (eqI (.ofNat x.f) (.ofNat y.f))) (andThen (some (eqI (.ofNat x.t) (.ofNat y.t))) (andThen (some (x.s == y.s)) (some true))) = _
    obtain ⟨a, b, c⟩ := x
    obtain ⟨d, e, f⟩ := y
    simp only [qgy, q0d]
    by_cases h1 : a = d
    · by_cases h2 : b = e
      · cases c <;> cases f <;> simp [andThen, h1, h2]
      · simp [andThen, h1, h2]
    · simp [andThen, h1]
  rw [e]; rfl
def CloE (call : Ev.Call) (H0 : Hp) (f : FuncId) (caps : List AV) (es : List Edge) (p : Edge → Bool) : Prop :=
  ∀ e ∈ es, ∀ H, Fm No H0 H → Ok (qln call (.fn f [] caps) [.agg e.cells] H) fun v H' => v = .bool (p e) ∧ Fm No H H'
theorem qo9 {call : Ev.Call} {f : FuncId} {caps : List AV} {es : List Edge} {p : Edge → Bool} {H0 : Hp} {w : AV} (hw : IsE H0 w es) (hlen : es.length < 900000) (hf : CloE call H0 f caps es p) {q1 : AV → Hp → R1} {q2 : Hp → R1} {Q : AV → Hp → Prop}
    (hq1 : ∀ i H, es.any p = true → Fm No H0 H → Ok (q1 (.int .i64 (.ofNat i)) H) Q) (hq2 : ∀ H, es.any p = false → Fm No H0 H → Ok (q2 H) Q) :
    ∀ (k i : Nat) (H : Hp), es.length - i < k → i ≤ es.length → (es.take i).any p = false → Fm No H0 H →
      Ok (qj7 call q1 q2 w (.fn f [] caps) (.int .i64 (.ofNat es.length)) k (.int .i64 (.ofNat i)) H) Q
  | 0, i, H, h, _, _, _ => by omega
  | k + 1, i, H, h, hi, ha, hF => by
    show Ok (qwx call _ _ _ _ _ (qj7 call _ _ _ _ _ k) _ H) Q
    unfold qwx
    by_cases hlt : i < es.length
    · obtain ⟨b, o, e1, e2, e3⟩ := (hw.fm hF).at hlt
      simp (disch := first | omega | exact ti rfl | (simp only [np, nq]; first | done | omega)) only [go_sem, reduceAdd, reduceMul, reduceSub, reduceLeDiff, reduceEqDiff, reduceShiftRight, reduceAnd, hlt]
      unfold qwv
      simp (disch := first | omega | exact ti rfl | (simp only [np, nq]; first | done | omega)) only [go_sem, reduceAdd, reduceMul, reduceSub, reduceLeDiff, reduceEqDiff, reduceShiftRight, reduceAnd, e1, e3]
      have hs : (es.take (i + 1)).any p = p es[i] := by
        rw [List.take_succ_eq_append_getElem hlt, List.any_append, ha]; simp
      refine Ok.ve (hf es[i] (List.getElem_mem _) H hF) ?_
      rintro v H' ⟨rfl, f'⟩
      cases hp : p es[i] with
      | true =>
        simp (disch := first | omega | exact ti rfl | (simp only [np, nq]; first | done | omega)) only [go_sem, reduceAdd, reduceMul, reduceSub, reduceLeDiff, reduceEqDiff, reduceShiftRight, reduceAnd]
        refine hq1 i H' ?_ (hF.trans f')
        rw [List.any_eq_true]
        exact ⟨_, List.getElem_mem _, hp⟩
      | false =>
        simp (disch := first | omega | exact ti rfl | (simp only [np, nq]; first | done | omega)) only [go_sem, reduceAdd, reduceMul, reduceSub, reduceLeDiff, reduceEqDiff, reduceShiftRight, reduceAnd]
        unfold qww
        simp (disch := first | omega | exact ti rfl | (simp only [np, nq]; first | done | omega)) only [go_sem, reduceAdd, reduceMul, reduceSub, reduceLeDiff, reduceEqDiff, reduceShiftRight, reduceAnd]
        exact qo9 hw hlen hf hq1 hq2 k (i + 1) H' (by omega) (by omega) (hs.trans hp) (hF.trans f')
    · simp (disch := first | omega | exact ti rfl | (simp only [np, nq]; first | done | omega)) only [go_sem, reduceAdd, reduceMul, reduceSub, reduceLeDiff, reduceEqDiff, reduceShiftRight, reduceAnd, hlt]
      have : i = es.length := by omega
      subst this
      rw [List.take_length] at ha
      exact hq2 H ha hF
theorem qpa (hC : qcd C) {j : Nat} {f : FuncId} {caps : List AV} {es : List Edge} {p : Edge → Bool} {H0 : Hp} {w : AV} (hw : IsE H0 w es) (hlen : es.length < 900000) (hf : CloE (C j) H0 f caps es p) :
    Ok (C (j + 2) (.f qn9) [w, .fn f [] caps] H0) fun v H' => v = .bool (es.any p) ∧ Fm No H0 H' := by
  rw [(hC (j + 1)).sCon]
  unfold sCon q4n
  have key : Ok (C (j + 1) (.f qst) [w, .fn f [] caps] H0) fun v H' => (∃ z : Int, v = .int .i64 z ∧ decide (Int.ofNat 0 ≤ z) = es.any p) ∧ Fm No H0 H' := by
    rw [(hC j).sIxF]
    unfold sIxF q4j
    have e0 := hw.len
    simp (disch := first | omega | exact ti rfl | (simp only [np, nq]; first | done | omega)) only [go_sem, reduceAdd, reduceMul, reduceSub, reduceLeDiff, reduceEqDiff, reduceShiftRight, reduceAnd, e0]
    unfold qwy
    rw [qaq]
    refine qo9 hw hlen hf (fun i H ha hF => Ok.ret ⟨⟨_, rfl, ?_⟩, hF⟩) (fun H ha hF => ?_) qam 0 H0 (by rw [qai]; omega) (Nat.zero_le _) (by simp) (Fm.refl _ _)
    · unfold qig
      refine Ok.ret ⟨⟨_, rfl, ?_⟩, hF⟩
      rw [ha]; rfl
    · rw [ha]; exact decide_eq_true (by simp only [Int.ofNat_eq_natCast]; omega)
  refine Ok.ve key ?_
  rintro v H' ⟨⟨z, rfl, hz⟩, hF⟩
  simp (disch := first | omega | exact ti rfl | (simp only [np, nq]; first | done | omega)) only [go_sem, reduceAdd, reduceMul, reduceSub, reduceLeDiff, reduceEqDiff, reduceShiftRight, reduceAnd]
  refine Ok.ret ⟨?_, hF⟩
  rw [← hz]
def qmj (x : Nat) (e : Edge) : Bool := decide (e.f = x) && decide (e.t = x)
theorem q1l (hC : qcd C) {j : Nat} {H0 : Hp} {lb x : Nat} {l : AV} {o : List Nat} (hl : Rl H0 l (nats (x :: o))) (hg : H0.get lb = qab 0 [l]) (hlb : lb < H0.nx) (es : List Edge) :
    CloE (C (j + 1)) H0 qn8 [.ptr lb 0] es (qmj x) := by
  intro e _ H hF
  show Ok (C (j + 1) (.f qn8) [.agg e.cells, .ptr lb 0] H) _
  rw [(hC j).simA]
  unfold simA q39 Edge.cells
  obtain ⟨b, o1, e1, e2, e3⟩ := (hl.fm hF).at' 0 (by simp [nats])
  have e3 : qcf (H.get b) o1 = .val (.int .i64 (.ofNat x)) := e3
  have e1 : idxS 1 l (.int .i64 (.ofNat 0)) = .val (.ptr b o1) := e1
  have g1 : H.get lb = qab 0 [l] := (hF.keep hlb).trans hg
  have hlbH : lb < H.nx := Nat.lt_of_lt_of_le hlb hF.nx
  by_cases h1 : e.f = x
  · by_cases h2 : e.t = x
    · simp (disch := first | omega | exact ti rfl | (simp only [np, nq]; first | done | omega)) only [go_sem, reduceAdd, reduceMul, reduceSub, reduceLeDiff, reduceEqDiff, reduceShiftRight, reduceAnd, g1, e1, e3, h1, h2]
      exact Ok.ret ⟨by unfold qmj; rw [decide_eq_true h1, decide_eq_true h2]; rfl, by (repeat (first | exact Fm.refl _ _ | assumption | refine Fm.push ?_ _ | refine Fm.up2 ?_ (by (first | omega | (simp only [np, nq]; omega))) | refine Fm.put_new ?_ _ _ (by (first | omega | (simp only [np, nq]; omega)))))⟩
    · simp (disch := first | omega | exact ti rfl | (simp only [np, nq]; first | done | omega)) only [go_sem, reduceAdd, reduceMul, reduceSub, reduceLeDiff, reduceEqDiff, reduceShiftRight, reduceAnd, g1, e1, e3, h1, h2]
      exact Ok.ret ⟨by unfold qmj; rw [decide_eq_true h1, decide_eq_false h2]; rfl, by (repeat (first | exact Fm.refl _ _ | assumption | refine Fm.push ?_ _ | refine Fm.up2 ?_ (by (first | omega | (simp only [np, nq]; omega))) | refine Fm.put_new ?_ _ _ (by (first | omega | (simp only [np, nq]; omega)))))⟩
  · simp (disch := first | omega | exact ti rfl | (simp only [np, nq]; first | done | omega)) only [go_sem, reduceAdd, reduceMul, reduceSub, reduceLeDiff, reduceEqDiff, reduceShiftRight, reduceAnd, g1, e1, e3, h1]
    exact Ok.ret ⟨by unfold qmj; rw [decide_eq_false h1]; rfl, by (repeat (first | exact Fm.refl _ _ | assumption | refine Fm.push ?_ _ | refine Fm.up2 ?_ (by (first | omega | (simp only [np, nq]; omega))) | refine Fm.put_new ?_ _ _ (by (first | omega | (simp only [np, nq]; omega)))))⟩
def conP (ins : List Nat) (x : Edge) (e : Edge) : Bool := decide ((⟨ins.getD e.f 0, ins.getD e.t 0, e.s⟩ : Edge) = x)
theorem qv4 (hC : qcd C) {j : Nat} {H0 : Hp} {c xb n : Nat} {lv iv : AV} {ins : List Nat} {x : Edge} {es : List Edge} (hE : ∀ e ∈ es, e.f < n ∧ e.t < n) (hi : Gl 1 H0 iv n (nats ins)) (hg : H0.get c = qab 0 [lv, iv]) (hc : c < H0.nx) (hx : H0.get xb = qab 0 x.cells) (hxb : xb < H0.nx) :
    CloE (C (j + 1)) H0 qod [.ptr c 0, .ptr xb 0] es (conP ins x) := by
  intro e he H hF
  show Ok (C (j + 1) (.f qod) [.agg e.cells, .ptr c 0, .ptr xb 0] H) _
  rw [(hC j).cndA]
  unfold cndA q8d Edge.cells
  obtain ⟨r1, r2⟩ := hE e he
  have hil : ins.length = n := by have := hi.len; rw [qdp] at this; omega
  have gi : ∀ x, x < n → (nats ins)[x]? = some (.int .i64 (.ofNat (ins.getD x 0))) := fun x hx => by
    unfold nats
    rw [List.getElem?_map, List.getD_eq_getElem?_getD, List.getElem?_eq_getElem (by omega)]; rfl
  obtain ⟨b1, o1, e1, e2, _, e3⟩ := (hi.no hF).at (gi _ r1)
  obtain ⟨b2, o2, e4, e5, _, e6⟩ := (hi.no hF).at (gi _ r2)
  have g1 : H.get c = qab 0 [lv, iv] := (hF.keep hc).trans hg
  have g2 : H.get xb = qab 0 x.cells := (hF.keep hxb).trans hx
  have hcH : c < H.nx := Nat.lt_of_lt_of_le hc hF.nx
  have hxH : xb < H.nx := Nat.lt_of_lt_of_le hxb hF.nx
  have hq := q0w false ⟨ins.getD e.f 0, ins.getD e.t 0, e.s⟩ x
  unfold Edge.cells at hq g2
  simp (disch := first | omega | exact ti rfl | (simp only [np, nq]; first | done | omega)) only [go_sem, reduceAdd, reduceMul, reduceSub, reduceLeDiff, reduceEqDiff, reduceShiftRight, reduceAnd, g1, g2, e1, e3, e4, e6, hq]
  exact Ok.ret ⟨rfl, by (repeat (first | exact Fm.refl _ _ | assumption | refine Fm.push ?_ _ | refine Fm.up2 ?_ (by (first | omega | (simp only [np, nq]; omega))) | refine Fm.put_new ?_ _ _ (by (first | omega | (simp only [np, nq]; omega)))))⟩
theorem zcc (hC : qcd C) {k : Nat} (hk : 1 ≤ k) {n : Nat} {H : Hp} {v : AV} {l : List AV} (h : Gl 3 H v n l) :
    ∃ w, C k (.f ql5) [v] H = .ok w H ∧ Gl 3 H w n l ∧ capV w = .val (.int .i64 (.ofNat n)) ∧ (∀ b, In w b → In v b) := by
  obtain ⟨j, rfl⟩ : ∃ j, k = j + 1 := ⟨k - 1, by omega⟩
  obtain ⟨w, e, h1, h2, h3⟩ := h.clip
  refine ⟨w, ?_, h1, h2, h3⟩
  rw [(hC j).sClpE]
  unfold sClpE qw4
  simp (disch := first | omega | exact ti rfl | (simp only [np, nq]; first | done | omega)) only [go_sem, reduceAdd, reduceMul, reduceSub, reduceLeDiff, reduceEqDiff, reduceShiftRight, reduceAnd, h.lenV, e]
end Go.Di
end
section
/-
  Contracts: the edges between components.
-/
namespace Go.Di
open Go.Ev Go.Di.T Go.Sort
open Nat (reduceAdd reduceMul reduceSub reduceLeDiff reduceEqDiff reduceShiftRight reduceAnd)
variable {C : Nat → Ev.Call} {LA LO : LP}
def qft (P : Edge → Bool) (x : Edge) : List Edge := if P x then [x] else []
def conT (P : Edge → Bool) (i k : Nat) : Nat → List Edge
  | 0 => []
  | s + 1 => conT P i k s ++ qft P ⟨i, k, decide (s = 1)⟩
def conR (P : Edge → Bool) (i : Nat) : Nat → List Edge
  | 0 => []
  | k + 1 => conR P i k ++ conT P i k 2
def conM (P : Edge → Bool) (m : Nat) : Nat → List Edge
  | 0 => []
  | i + 1 => conM P m i ++ conR P i m
theorem q9n (P : Edge → Bool) (x : Edge) : (qft P x).length ≤ 1 := by unfold qft; split <;> simp
theorem qyt (P : Edge → Bool) (i k : Nat) : ∀ s, (conT P i k s).length ≤ s
  | 0 => Nat.le_refl _
  | s + 1 => by
    have h1 := qyt P i k s
    have h2 := q9n P ⟨i, k, decide (s = 1)⟩
    rw [conT, List.length_append]; omega
theorem qyu (P : Edge → Bool) (i : Nat) : ∀ k, (conR P i k).length ≤ 2 * k
  | 0 => Nat.le_refl _
  | k + 1 => by
    have h1 := qyu P i k
    have h2 := qyt P i k 2
    rw [conR, List.length_append]; omega
theorem q76 (P : Edge → Bool) (m : Nat) : ∀ i, (conM P m i).length ≤ 2 * (i * m)
  | 0 => by simp [conM]
  | i + 1 => by
    have h1 := q76 P m i
    have h2 := qyu P i m
    rw [conM, List.length_append, Nat.add_mul, Nat.one_mul]; omega
def cndP (ins : List Nat) (es : List Edge) (x : Edge) : Bool := !decide (x.f = x.t) && es.any (conP ins x)
structure CB (H0 : Hp) (n gb c : Nat) (gv lv iv : AV) (es : List Edge) (ins : List Nat) : Prop where
  fe : IsE H0 gv es
  fg : H0.get gb = qab 0 [.int .i64 (.ofNat n), gv]
  gl : gb < H0.nx
  fc : H0.get c = qab 0 [lv, iv]
  cl : c < H0.nx
  fi : Gl 1 H0 iv n (nats ins)
  fr : ∀ e ∈ es, e.f < n ∧ e.t < n
  len : es.length < 200000
structure CI (H0 : Hp) (m : Nat) (L : List Edge) (H : Hp) : Prop where
  ex : ∃ v, H.get H0.nx = qab 0 [.int .i64 (.ofNat m), v] ∧ Gl 3 H v L.length (qf4 L) ∧ ∀ b, In v b → H0.nx < b
  fm : Fm (fun b => b = H0.nx) H0 H
  lt : H0.nx < H.nx
theorem CI.no {H0 : Hp} {m : Nat} {L : List Edge} {H H' : Hp} (h : CI H0 m L H) (f : Fm No H H') : CI H0 m L H' := by
  obtain ⟨v, h1, h2, h3⟩ := h.ex
  exact ⟨⟨v, (f.keep h.lt).trans h1, h2.no f, h3⟩, h.fm.then f fun _ _ h => h.elim, Nat.lt_of_lt_of_le h.lt f.nx⟩
theorem CB.at {H0 : Hp} {n gb c : Nat} {gv lv iv : AV} {es : List Edge} {ins : List Nat} (h : CB H0 n gb c gv lv iv es ins) {H : Hp} (f : Fm (fun b => b = H0.nx) H0 H) :
    IsE H gv es ∧ H.get gb = qab 0 [.int .i64 (.ofNat n), gv] ∧ gb < H.nx ∧ H.get c = qab 0 [lv, iv] ∧ c < H.nx ∧ Gl 1 H iv n (nats ins) := by
  have g1 := h.gl
  have g2 := h.cl
  have g3 := f.nx
  exact ⟨h.fe.keep f.nx fun b hb hlt => f.get b hlt (fun e => by have := h.fe.lt hb; omega), (f.get _ g1 (by omega)).trans h.fg, by omega, (f.get _ g2 (by omega)).trans h.fc, by omega, h.fi.fm f fun b hb e => by have := h.fi.lt hb; omega⟩
theorem zbs (hC : qcd C) {j : Nat} {H0 : Hp} {n gb c m : Nat} {gv lv iv : AV} {es : List Edge} {ins : List Nat} (hB : CB H0 n gb c gv lv iv es ins) (hm : m ≤ 12) {i k s : Nat} (hi : i < m) (hk : k < m) {L : List Edge} (hL : L.length ≤ 200000) {H : Hp} (hI : CI H0 m L H) {g : AV → Hp → R1} {Q : AV → Hp → Prop}
    (hq : ∀ H', CI H0 m (L ++ qft (cndP ins es) ⟨i, k, decide (s = 1)⟩) H' → Ok (qjx (C (j + 3)) g (.int .i64 (.ofNat s)) H') Q) :
    Ok (qmb (C (j + 3)) g (.ptr gb 0) (.ptr c 0) (.ptr H0.nx 0) (.int .i64 (.ofNat i)) (.int .i64 (.ofNat k)) (.int .i64 (.ofNat s)) H) Q := by
  unfold qmb
  generalize hx : (⟨i, k, decide (s = 1)⟩ : Edge) = x at *
  have hxf : x.f = i := by rw [← hx]
  have hxt : x.t = k := by rw [← hx]
  have hxc : x.cells = [.int .i64 (.ofNat i), .int .i64 (.ofNat k), .bool (decide (s = 1))] := by rw [← hx]; rfl
  have fx : Fm No H ((qan H (qab 0 [.int .i64 (.ofNat 0), .int .i64 (.ofNat 0), .bool false])).put H.nx (qab 0 [.int .i64 (.ofNat i), .int .i64 (.ofNat k), .bool (decide (s = 1))])) := by (repeat (first | exact Fm.refl _ _ | assumption | refine Fm.push ?_ _ | refine Fm.up2 ?_ (by (first | omega | (simp only [np, nq]; omega))) | refine Fm.put_new ?_ _ _ (by (first | omega | (simp only [np, nq]; omega)))))
  by_cases hik : i = k
  · have hp : cndP ins es x = false := by unfold cndP; rw [hxf, hxt, decide_eq_true hik]; rfl
    simp (disch := first | omega | exact ti rfl | (simp only [np, nq]; first | done | omega)) only [go_sem, reduceAdd, reduceMul, reduceSub, reduceLeDiff, reduceEqDiff, reduceShiftRight, reduceAnd, hik]
    rw [hik] at fx
    refine hq _ ?_
    have : qft (cndP ins es) x = [] := by unfold qft; rw [hp]; rfl
    rw [this, List.append_nil]
    exact hI.no fx
  · simp (disch := first | omega | exact ti rfl | (simp only [np, nq]; first | done | omega)) only [go_sem, reduceAdd, reduceMul, reduceSub, reduceLeDiff, reduceEqDiff, reduceShiftRight, reduceAnd, hik]
    generalize hHx : (qan H (qab 0 [.int .i64 (.ofNat 0), .int .i64 (.ofNat 0), .bool false])).put H.nx (qab 0 [.int .i64 (.ofNat i), .int .i64 (.ofNat k), .bool (decide (s = 1))]) = Hx at *
    have gx : Hx.get H.nx = qab 0 x.cells := by rw [← hHx, qad, hxc]
    have lx : H.nx < Hx.nx := by rw [← hHx]; show H.nx < H.nx + 1; omega
    have hIx := hI.no fx
    obtain ⟨b1, b2, b3, b4, b5, b6⟩ := hB.at hIx.fm
    simp (disch := first | omega | exact ti rfl | (simp only [np, nq]; first | done | omega)) only [go_sem, reduceAdd, reduceMul, reduceSub, reduceLeDiff, reduceEqDiff, reduceShiftRight, reduceAnd, hHx, b2]
    refine Ok.ve (qpa hC (j := j + 1) b1 (by have := hB.len; omega) (qv4 hC hB.fr b6 b4 b5 gx lx)) ?_
    rintro r H' ⟨rfl, f'⟩
    have hI' := hIx.no f'
    cases ha : es.any (conP ins x) with
    | false =>
      have hp : cndP ins es x = false := by unfold cndP; rw [ha, Bool.and_false]
      simp (disch := first | omega | exact ti rfl | (simp only [np, nq]; first | done | omega)) only [go_sem, reduceAdd, reduceMul, reduceSub, reduceLeDiff, reduceEqDiff, reduceShiftRight, reduceAnd]
      refine hq _ ?_
      have : qft (cndP ins es) x = [] := by unfold qft; rw [hp]; rfl
      rw [this, List.append_nil]
      exact hI'
    | true =>
      have hp : cndP ins es x = true := by unfold cndP; rw [ha, hxf, hxt, decide_eq_false hik]; rfl
      have hst : qft (cndP ins es) x = [x] := by unfold qft; rw [hp]; rfl
      obtain ⟨v, v1, v2, v3⟩ := hI'.ex
      have gx' : H'.get H.nx = qab 0 [.int .i64 (.ofNat i), .int .i64 (.ofNat k), .bool (decide (s = 1))] := by rw [(f'.keep lx), gx, hxc]
      have hgP : Gl 3 (qan H' (qab 0 [.int .i64 (.ofNat i), .int .i64 (.ofNat k), .bool (decide (s = 1))])) v L.length (qf4 L) := v2.no ((Fm.refl _ _).push _)
      obtain ⟨H2, a1, a2, _, a4, a5⟩ := hgP.append (w := 24) (k := 1) (x := [.int .i64 (.ofNat i), .int .i64 (.ofNat k), .bool (decide (s = 1))]) (by omega) rfl (by omega) (by omega)
      have hlt' := hI'.lt
      have hpn : (qan H' (qab 0 [.int .i64 (.ofNat i), .int .i64 (.ofNat k), .bool (decide (s = 1))])).nx = H'.nx + 1 := rfl
      have n2 := a4.nx
      have g2 : H2.get H0.nx = qab 0 [.int .i64 (.ofNat m), v] := (a4.get _ (by omega) (fun h => by have := v3 _ h; omega)).trans ((qb6 _ _ _ hlt').trans v1)
      have vfl : qhh v = true := v2.flat
      simp (disch := first | omega | exact ti rfl | (simp only [np, nq]; first | done | omega)) only [go_sem, reduceAdd, reduceMul, reduceSub, reduceLeDiff, reduceEqDiff, reduceShiftRight, reduceAnd, v1, gx', a1, g2]
      refine hq _ ?_
      rw [hst]
      have hll : (L ++ [x]).length = L.length + 1 := by rw [List.length_append]; rfl
      have hcc : qf4 L ++ [.int .i64 (.ofNat i), .int .i64 (.ofNat k), .bool (decide (s = 1))] = qf4 (L ++ [x]) := by rw [← hxc, qqj]
      rw [hcc, ← hll] at a2
      refine ⟨⟨_, qad _ _ _, ?_, fun b hb => ?_⟩, ?_, by show H0.nx < H2.nx; omega⟩
      · rw [← hll]
        exact a2.fm ((Fm.refl (fun b => b = H0.nx) H2).put _ _ fun _ => rfl) fun b hb h => by
          obtain ⟨_, _, _, _, h'⟩ := hb
          cases h'
          omega
      · obtain ⟨_, _, _, _, h'⟩ := hb
        cases h'
        omega
      · refine Fm.put (Fm.then (hI'.fm.then ((Fm.refl No H').push _) fun _ _ h => h.elim) a4 fun b hb h => ?_) _ _ fun _ => rfl
        have := v3 b h
        omega
theorem zc1 (hC : qcd C) {j : Nat} {H0 : Hp} {n gb c m : Nat} {gv lv iv : AV} {es : List Edge} {ins : List Nat} (hB : CB H0 n gb c gv lv iv es ins) (hm : m ≤ 12) {i k : Nat} (hi : i < m) (hk : k < m) {L : List Edge} (hL : L.length ≤ 199990) {q : Hp → R1} {Q : AV → Hp → Prop}
    (hq : ∀ H', CI H0 m (L ++ conT (cndP ins es) i k 2) H' → Ok (q H') Q) :
    ∀ (f s : Nat) (H : Hp), 2 - s < f → s ≤ 2 → CI H0 m (L ++ conT (cndP ins es) i k s) H →
      Ok (qh4 (C (j + 3)) q (.ptr gb 0) (.ptr c 0) (.ptr H0.nx 0) (.int .i64 (.ofNat i)) (.int .i64 (.ofNat k)) f (.int .i64 (.ofNat s)) H) Q
  | 0, s, H, h, _, _ => by omega
  | f + 1, s, H, h, hs, hI => by
    show Ok (qt0 (C (j + 3)) _ _ _ _ _ _ (qh4 (C (j + 3)) _ _ _ _ _ _ f) _ H) Q
    unfold qt0
    by_cases hlt : s < 2
    · simp (disch := first | omega | exact ti rfl | (simp only [np, nq]; first | done | omega)) only [go_sem, reduceAdd, reduceMul, reduceSub, reduceLeDiff, reduceEqDiff, reduceShiftRight, reduceAnd, hlt]
      have hle := qyt (cndP ins es) i k s
      refine zbs hC hB hm hi hk (by rw [List.length_append]; omega) hI fun H' hI' => ?_
      unfold qjx
      simp (disch := first | omega | exact ti rfl | (simp only [np, nq]; first | done | omega)) only [go_sem, reduceAdd, reduceMul, reduceSub, reduceLeDiff, reduceEqDiff, reduceShiftRight, reduceAnd]
      rw [List.append_assoc] at hI'
      exact zc1 hC hB hm hi hk hL hq f (s + 1) H' (by omega) (by omega) hI'
    · simp (disch := first | omega | exact ti rfl | (simp only [np, nq]; first | done | omega)) only [go_sem, reduceAdd, reduceMul, reduceSub, reduceLeDiff, reduceEqDiff, reduceShiftRight, reduceAnd, hlt]
      have : s = 2 := by omega
      subst this
      exact hq H hI
theorem q74 (hC : qcd C) {j : Nat} {H0 : Hp} {n gb c m : Nat} {gv lv iv : AV} {es : List Edge} {ins : List Nat} (hB : CB H0 n gb c gv lv iv es ins) (hm : m ≤ 12) {i : Nat} (hi : i < m) {L : List Edge} (hL : L.length ≤ 199000) {q : Hp → R1} {Q : AV → Hp → Prop}
    (hq : ∀ H', CI H0 m (L ++ conR (cndP ins es) i m) H' → Ok (q H') Q) :
    ∀ (f k : Nat) (H : Hp), m - k < f → k ≤ m → CI H0 m (L ++ conR (cndP ins es) i k) H →
      Ok (qed (C (j + 3)) q (.ptr gb 0) (.ptr c 0) (.ptr H0.nx 0) (.int .i64 (.ofNat i)) (.int .i64 (.ofNat m)) f (.int .i64 (.ofNat k)) H) Q
  | 0, k, H, h, _, _ => by omega
  | f + 1, k, H, h, hk, hI => by
    show Ok (qt1 (C (j + 3)) _ _ _ _ _ _ (qed (C (j + 3)) _ _ _ _ _ _ f) _ H) Q
    unfold qt1
    by_cases hlt : k < m
    · simp (disch := first | omega | exact ti rfl | (simp only [np, nq]; first | done | omega)) only [go_sem, reduceAdd, reduceMul, reduceSub, reduceLeDiff, reduceEqDiff, reduceShiftRight, reduceAnd, hlt]
      unfold qtz qt3
      rw [qaq]
      have hle := qyu (cndP ins es) i k
      refine zc1 hC hB hm hi hlt (L := L ++ conR (cndP ins es) i k) (by rw [List.length_append]; omega) (fun H' hI' => ?_) qam 0 H (by rw [qai]; omega) (Nat.zero_le _) (by rw [conT, List.append_nil]; exact hI)
      unfold qgu
      simp (disch := first | omega | exact ti rfl | (simp only [np, nq]; first | done | omega)) only [go_sem, reduceAdd, reduceMul, reduceSub, reduceLeDiff, reduceEqDiff, reduceShiftRight, reduceAnd]
      rw [List.append_assoc] at hI'
      exact q74 hC hB hm hi hL hq f (k + 1) H' (by omega) (by omega) hI'
    · simp (disch := first | omega | exact ti rfl | (simp only [np, nq]; first | done | omega)) only [go_sem, reduceAdd, reduceMul, reduceSub, reduceLeDiff, reduceEqDiff, reduceShiftRight, reduceAnd, hlt]
      have : k = m := by omega
      subst this
      exact hq H hI
theorem q73 (hC : qcd C) {j : Nat} {H0 : Hp} {n gb c m : Nat} {gv lv iv : AV} {es : List Edge} {ins : List Nat} (hB : CB H0 n gb c gv lv iv es ins) (hm : m ≤ 12) (hlv : qb5 lv = .val (.int .i64 (.ofNat m))) {q : Hp → R1} {Q : AV → Hp → Prop}
    (hq : ∀ H', CI H0 m (conM (cndP ins es) m m) H' → Ok (q H') Q) :
    ∀ (f i : Nat) (H : Hp), m - i < f → i ≤ m → CI H0 m (conM (cndP ins es) m i) H →
      Ok (qdd (C (j + 3)) q (.ptr gb 0) (.ptr c 0) (.ptr H0.nx 0) (.int .i64 (.ofNat m)) f (.int .i64 (.ofNat i)) H) Q
  | 0, i, H, h, _, _ => by omega
  | f + 1, i, H, h, hi, hI => by
    show Ok (qt2 (C (j + 3)) _ _ _ _ _ (qdd (C (j + 3)) _ _ _ _ _ f) _ H) Q
    unfold qt2
    by_cases hlt : i < m
    · obtain ⟨b1, b2, b3, b4, b5, b6⟩ := hB.at hI.fm
      simp (disch := first | omega | exact ti rfl | (simp only [np, nq]; first | done | omega)) only [go_sem, reduceAdd, reduceMul, reduceSub, reduceLeDiff, reduceEqDiff, reduceShiftRight, reduceAnd, hlt]
      unfold qty
      simp (disch := first | omega | exact ti rfl | (simp only [np, nq]; first | done | omega)) only [go_sem, reduceAdd, reduceMul, reduceSub, reduceLeDiff, reduceEqDiff, reduceShiftRight, reduceAnd, b4, hlv]
      unfold qt4
      rw [qaq]
      have hle := q76 (cndP ins es) m i
      have m1 : i * m ≤ 12 * 12 := Nat.mul_le_mul (Nat.le_of_lt (Nat.lt_of_lt_of_le hlt hm)) hm
      refine q74 hC hB hm hlt (L := conM (cndP ins es) m i) (by omega) (fun H' hI' => ?_) qam 0 H (by rw [qai]; omega) (Nat.zero_le _) (by rw [conR, List.append_nil]; exact hI)
      unfold qd0
      simp (disch := first | omega | exact ti rfl | (simp only [np, nq]; first | done | omega)) only [go_sem, reduceAdd, reduceMul, reduceSub, reduceLeDiff, reduceEqDiff, reduceShiftRight, reduceAnd]
      exact q73 hC hB hm hlv hq f (i + 1) H' (by omega) (by omega) hI'
    · simp (disch := first | omega | exact ti rfl | (simp only [np, nq]; first | done | omega)) only [go_sem, reduceAdd, reduceMul, reduceSub, reduceLeDiff, reduceEqDiff, reduceShiftRight, reduceAnd, hlt]
      have : i = m := by omega
      subst this
      exact hq H hI
end Go.Di
end
section
/-
  Contracts: the graph of the components; simple components.
-/
namespace Go.Di
open Go.Ev Go.Di.T Go.Sort
open Nat (reduceAdd reduceMul reduceSub reduceLeDiff reduceEqDiff reduceShiftRight reduceAnd)
variable {C : Nat → Ev.Call} {LA LO : LP}
theorem qry {n : Nat} {adj : Nat → List Nat} {res : List (List Nat)} (h : OrdF n adj [] res) : res.length ≤ n := by
  obtain ⟨z1, z2, z3, z4, z5⟩ := h.all
  have hle : ∀ (o : List (List Nat)), (∀ c ∈ o, c ≠ []) → o.length ≤ o.flatten.length := fun o => by
    induction o with
    | nil => intro _; exact Nat.le_refl _
    | cons c o ih =>
      intro h
      have h1 := ih fun c hc => h c (List.mem_cons_of_mem _ hc)
      have h2 : 0 < c.length := List.length_pos_iff.2 (h c List.mem_cons_self)
      rw [List.flatten_cons, List.length_append, List.length_cons]; omega
  have := hle res z4
  omega
theorem Gl.st {z n : Nat} {H : Hp} {v : AV} {l : List AV} (h : Gl z H v n l) (H' : Hp) (b o : Nat) : qb4 H' (.ptr b o) v = storeAt H' b o [v] .undef := by
  rcases h.is with ⟨rfl, _⟩ | ⟨b, o, e, q, L, rfl, _⟩ <;> rfl
theorem qpb (hC : qcd C) (hO : qd2 C) (hS : qde C) (hR : qd1 LA LO C) {k : Nat} (hk : 930 ≤ k) {n : Nat} {es : List Edge} (hE : qgv n es) (hn : n ≤ 12) (hlen : es.length < 200000) {gv : AV} {H : Hp} (hg : IsE H gv es) :
    Ok (C k (.f qof) [.agg [.int .i64 (.ofNat n), gv]] H) fun r H' => ∃ (w : AV) (res : List (List Nat)) (ins : List Nat), r = .tup [.agg [.int .i64 (.ofNat res.length), w], .int .i64 (.ofNat 0)] ∧ OrdF n (qci es) [] res ∧ (∀ (j : Nat) (o : List Nat) (x : Nat), res[j]? = some o → x ∈ o → ins[x]? = some j) ∧
      IsE H' w (conM (cndP ins es) res.length res.length) ∧ capV w = .val (.int .i64 (.ofNat (conM (cndP ins es) res.length res.length).length)) ∧ Fm No H H' := by
  obtain ⟨j, rfl⟩ : ∃ j, k = j + 4 := ⟨k - 4, by omega⟩
  rw [(hC (j + 3)).cCnd]
  unfold cCnd q8u
  simp (disch := first | omega | exact ti rfl | (simp only [np, nq]; first | done | omega)) only [go_sem, reduceAdd, reduceMul, reduceSub, reduceLeDiff, reduceEqDiff, reduceShiftRight, reduceAnd]
  have f0 : Fm No H (qan (qan H (qab 0 [.int .i64 (.ofNat n), gv])) (qab 0 [.int .i64 (.ofNat 0), .nilsl])) := by (repeat (first | exact Fm.refl _ _ | assumption | refine Fm.push ?_ _ | refine Fm.up2 ?_ (by (first | omega | (simp only [np, nq]; omega))) | refine Fm.put_new ?_ _ _ (by (first | omega | (simp only [np, nq]; omega)))))
  refine Ok.ve (zfo hC hO hS hR (k := j + 3) (by omega) hE hn hlen (hg.fm f0)) ?_
  rintro r H1 ⟨lv, iv, os, ins2, out, ins, res, rfl, hOrd, hCR, f1⟩
  have ford := hOrd.ord hE.rng
  have hml := qry ford
  have n1 : H.nx + 1 + 1 ≤ H1.nx := f1.nx
  have hg1 : H1.get H.nx = qab 0 [.int .i64 (.ofNat n), gv] := (f1.keep (by (first | omega | (simp only [np, nq]; omega)))).trans ((qb6 _ _ _ (by (first | omega | (simp only [np, nq]; omega)))).trans (qaj _ _))
  have hg2 : H1.get (H.nx + 1) = qab 0 [.int .i64 (.ofNat 0), .nilsl] := (f1.keep (by (first | omega | (simp only [np, nq]; omega)))).trans (qaj _ _)
  have es3 : ∀ x y : AV, setL [AV.nilsl, AV.nilsl] 0 [x, y] = [x, y] := fun _ _ => rfl
  simp (disch := first | omega | exact ti rfl | (simp only [np, nq]; first | done | omega)) only [go_sem, reduceAdd, reduceMul, reduceSub, reduceLeDiff, reduceEqDiff, reduceShiftRight, reduceAnd, es3, List.length_cons, List.length_nil]
  generalize hH2 : (qan H1 (qab 0 [AV.nilsl, AV.nilsl])).put H1.nx (qab 0 [lv, iv]) = H2
  have f2 : Fm No H1 H2 := by rw [← hH2]; exact ((Fm.refl _ _).push _).put_new _ _ (Nat.le_refl _)
  have g2 : H2.get H1.nx = qab 0 [lv, iv] := by rw [← hH2, qad]
  have l2 : H1.nx < H2.nx := by rw [← hH2]; show H1.nx < H1.nx + 1; omega
  have f02 : Fm No H H2 := (f0.trans f1).trans f2
  rw [qo4]
  unfold qe7
  have elv := hCR.gl.lenV
  rw [hCR.len] at elv
  simp (disch := first | omega | exact ti rfl | (simp only [np, nq]; first | done | omega)) only [go_sem, reduceAdd, reduceMul, reduceSub, reduceLeDiff, reduceEqDiff, reduceShiftRight, reduceAnd, g2, elv]
  have hB : CB H2 n H.nx H1.nx gv lv iv es ins2 := ⟨hg.fm f02, (f2.keep (by omega)).trans hg1, by have := f2.nx; omega, g2, l2, hCR.gi.no f2, hE.rng, hlen⟩
  have g2' : ((qan H2 (qab 0 [.int .i64 (.ofNat 0), .nilsl])).put H2.nx (qab 0 [.int .i64 (.ofNat res.length), .nilsl])).get H1.nx = qab 0 [lv, iv] := by
    rw [qak _ _ _ _ (by omega), qb6 _ _ _ l2, g2]
  try simp (disch := first | omega | exact ti rfl | (simp only [np, nq]; first | done | omega)) only [go_sem, reduceAdd, reduceMul, reduceSub, reduceLeDiff, reduceEqDiff, reduceShiftRight, reduceAnd, g2', elv]
  unfold qt5
  rw [qaq]
  refine q73 hC hB (m := res.length) (by omega) elv (fun H3 hI => ?_) qam 0 _ (by rw [qai]; omega) (Nat.zero_le _) ⟨⟨.nilsl, qad _ _ _, Gl.nil _ _, fun b hb => by obtain ⟨_, _, _, _, h⟩ := hb; cases h⟩, ((Fm.refl (fun b => b = H2.nx) H2).push _).put _ _ fun _ => rfl, by show H2.nx < H2.nx + 1; omega⟩
  unfold qcy
  obtain ⟨v, v1, v2, v3⟩ := hI.ex
  have hlt3 := hI.lt
  have n2 := f2.nx
  simp (disch := first | omega | exact ti rfl | (simp only [np, nq]; first | done | omega)) only [go_sem, reduceAdd, reduceMul, reduceSub, reduceLeDiff, reduceEqDiff, reduceShiftRight, reduceAnd, v1]
  obtain ⟨w, w1, w2, w3, w4⟩ := zcc hC (k := j + 3) (by omega) v2
  have wfl : qhh w = true := w2.flat
  have q2 : H3.get (H.nx + 1) = qab 0 [.int .i64 (.ofNat 0), .nilsl] := (hI.fm.get _ (by omega) (by omega)).trans ((f2.keep (by omega)).trans hg2)
  have es4 : ∀ x y a b : AV, setL [a, b] 0 [x, y] = [x, y] := fun _ _ _ _ => rfl
  have st := w2.st
  have es6 : ∀ x a b : AV, setL [a, b] 1 [x] = [a, x] := fun _ _ _ => rfl
  simp (disch := first | omega | exact ti rfl | (simp only [np, nq]; first | done | omega)) only [go_sem, reduceAdd, reduceMul, reduceSub, reduceLeDiff, reduceEqDiff, reduceShiftRight, reduceAnd, w1, v1, q2, es4, es6, st, List.length_cons, List.length_nil]
  have f3 : Fm No H2 H3 := ⟨hI.fm.nx, fun b hb _ => hI.fm.get b hb (by omega)⟩
  refine Ok.ret ⟨w, res, ins2, rfl, ford, hCR.ins, ?_, w3, ?_⟩
  · refine GlE.isE (Gl.fm w2 (S := fun b => b = H2.nx ∨ b = H.nx + 1) (((Fm.refl _ H3).put _ _ fun _ => Or.inl rfl).put _ _ fun _ => Or.inr rfl) fun b hb h => (by
    have := v3 b (w4 b hb)
    rcases h with h | h <;> omega))
  · refine (((f02.trans f3).then ((Fm.refl (fun b => b = H2.nx) H3).put _ _ fun _ => rfl) fun b hb h => by have := f02.nx; omega).then ((Fm.refl (fun b => b = H.nx + 1) _).put _ _ fun _ => rfl) fun b hb h => by omega)
def simP (es : List Edge) (o : List Nat) : Bool := decide (o.length = 1) && !es.any (qmj (o.headD 0))
def simQ (es : List Edge) (res : List (List Nat)) (z : Int) (r : AV) : Prop :=
  (z < Int.ofNat 0 ∨ Int.ofNat res.length ≤ z) ∧ r = .tup [.bool false, .int .i64 (.ofNat 4)] ∨ ∃ (i : Nat) (o : List Nat), z = Int.ofNat i ∧ res[i]? = some o ∧ r = .tup [.bool (simP es o), .int .i64 (.ofNat 0)]
theorem qwj (hC : qcd C) (hO : qd2 C) (hS : qde C) (hR : qd1 LA LO C) {k : Nat} (hk : 930 ≤ k) {n : Nat} {es : List Edge} (hE : qgv n es) (hn : n ≤ 12) (hlen : es.length < 200000) {gv : AV} {H : Hp} (hg : IsE H gv es) (z : Int) :
    Ok (C k (.f qoe) [.agg [.int .i64 (.ofNat n), gv], .int .i64 z] H) fun r H' => ∃ res : List (List Nat), OrdF n (qci es) [] res ∧ Fm No H H' ∧ simQ es res z r := by
  obtain ⟨j, rfl⟩ : ∃ j, k = j + 4 := ⟨k - 4, by omega⟩
  rw [(hC (j + 3)).cSim]
  unfold cSim q8j
  simp (disch := first | omega | exact ti rfl | (simp only [np, nq]; first | done | omega)) only [go_sem, reduceAdd, reduceMul, reduceSub, reduceLeDiff, reduceEqDiff, reduceShiftRight, reduceAnd]
  have f0 : Fm No H (qan H (qab 0 [.int .i64 (.ofNat n), gv])) := by (repeat (first | exact Fm.refl _ _ | assumption | refine Fm.push ?_ _ | refine Fm.up2 ?_ (by (first | omega | (simp only [np, nq]; omega))) | refine Fm.put_new ?_ _ _ (by (first | omega | (simp only [np, nq]; omega)))))
  refine Ok.ve (zfo hC hO hS hR (k := j + 3) (by omega) hE hn hlen (hg.fm f0)) ?_
  rintro r H1 ⟨lv, iv, os, ins2, out, ins, res, rfl, hOrd, hCR, f1⟩
  have ford := hOrd.ord hE.rng
  have hml := qry ford
  have n1 : H.nx + 1 ≤ H1.nx := f1.nx
  have hg1 : H1.get H.nx = qab 0 [.int .i64 (.ofNat n), gv] := (f1.keep (by (first | omega | (simp only [np, nq]; omega)))).trans (qaj _ _)
  have es3 : ∀ x y : AV, setL [AV.nilsl, AV.nilsl] 0 [x, y] = [x, y] := fun _ _ => rfl
  have elv := hCR.gl.lenV
  rw [hCR.len] at elv
  have fc : Fm No H1 ((qan H1 (qab 0 [AV.nilsl, AV.nilsl])).put H1.nx (qab 0 [lv, iv])) := by (repeat (first | exact Fm.refl _ _ | assumption | refine Fm.push ?_ _ | refine Fm.up2 ?_ (by (first | omega | (simp only [np, nq]; omega))) | refine Fm.put_new ?_ _ _ (by (first | omega | (simp only [np, nq]; omega)))))
  by_cases hz : z < Int.ofNat 0
  · simp (disch := first | omega | exact ti rfl | (simp only [np, nq]; first | done | omega)) only [go_sem, reduceAdd, reduceMul, reduceSub, reduceLeDiff, reduceEqDiff, reduceShiftRight, reduceAnd, es3, List.length_cons, List.length_nil, hz]
    exact Ok.ret ⟨res, ford, (f0.trans f1).trans fc, Or.inl ⟨Or.inl hz, rfl⟩⟩
  · obtain ⟨i, rfl⟩ : ∃ i : Nat, z = Int.ofNat i := ⟨z.toNat, by simp only [Int.ofNat_eq_natCast] at hz ⊢; omega⟩
    by_cases hi : res.length ≤ i
    · simp (disch := first | omega | exact ti rfl | (simp only [np, nq]; first | done | omega)) only [go_sem, reduceAdd, reduceMul, reduceSub, reduceLeDiff, reduceEqDiff, reduceShiftRight, reduceAnd, es3, List.length_cons, List.length_nil, hz, elv, hi, Nat.not_lt_zero]
      exact Ok.ret ⟨res, ford, (f0.trans f1).trans fc, Or.inl ⟨Or.inr (by simp only [Int.ofNat_eq_natCast]; omega), rfl⟩⟩
    · have hi' : i < res.length := by omega
      have hosl := hCR.len
      obtain ⟨b1, o1, e1, e2, _, e3⟩ := hCR.gl.at (i := i) (x := os[i]'(by omega)) (by simp)
      obtain ⟨c1, c2, c3⟩ := hCR.at' i (os[i]'(by omega)) (res[i]'hi') (by simp) (by simp)
      obtain ⟨z1, z2, z3, z4, z5⟩ := ford.all
      have hne := z4 _ (List.getElem_mem hi')
      generalize hl : os[i]'(by omega) = l at *
      generalize ho : res[i]'hi' = o at *
      have hro : res[i]? = some o := by rw [List.getElem?_eq_getElem hi', ho]
      simp (disch := first | omega | exact ti rfl | (simp only [np, nq]; first | done | omega)) only [go_sem, reduceAdd, reduceMul, reduceSub, reduceLeDiff, reduceEqDiff, reduceShiftRight, reduceAnd, es3, List.length_cons, List.length_nil, hz, elv, hi, Nat.not_lt_zero]
      rw [qoz]
      unfold qe4
      generalize hH2 : (qan H1 (qab 0 [AV.nilsl, AV.nilsl])).put H1.nx (qab 0 [lv, iv]) = H2 at *
      have g2 : H2.get H1.nx = qab 0 [lv, iv] := by rw [← hH2, qad]
      have l2 : H1.nx < H2.nx := by rw [← hH2]; show H1.nx < H1.nx + 1; omega
      have hg2 : H2.get H.nx = qab 0 [.int .i64 (.ofNat n), gv] := (fc.keep (by omega)).trans hg1
      have e3' : qcf (H2.get b1) o1 = .val l := by rw [fc.keep e2]; exact e3
      have lfl : qhh l = true := c1.flat
      have el := c1.lenV
      have st := c1.st
      have fl : Fm No H2 ((qan H2 (qab 0 [.nilsl])).put H2.nx (qab 0 [l])) := by (repeat (first | exact Fm.refl _ _ | assumption | refine Fm.push ?_ _ | refine Fm.up2 ?_ (by (first | omega | (simp only [np, nq]; omega))) | refine Fm.put_new ?_ _ _ (by (first | omega | (simp only [np, nq]; omega)))))
      have es5 : ∀ x a : AV, setL [a] 0 [x] = [x] := fun _ _ => rfl
      by_cases h1 : o.length = 1
      · obtain ⟨x, rfl⟩ : ∃ x, o = [x] := by
          match o, h1 with
          | [x], _ => exact ⟨x, rfl⟩
        simp (disch := first | omega | exact ti rfl | (simp only [np, nq]; first | done | omega)) only [go_sem, reduceAdd, reduceMul, reduceSub, reduceLeDiff, reduceEqDiff, reduceShiftRight, reduceAnd, g2, e1, e3', el, es5, h1, st]
        generalize hH3 : (qan H2 (qab 0 [.nilsl])).put H2.nx (qab 0 [l]) = H3 at *
        have g3 : H3.get H2.nx = qab 0 [l] := by rw [← hH3, qad]
        have l3 : H2.nx < H3.nx := by rw [← hH3]; show H2.nx < H2.nx + 1; omega
        have hg3 : H3.get H.nx = qab 0 [.int .i64 (.ofNat n), gv] := (fl.keep (by omega)).trans hg2
        have hc3 : Rl H3 l (nats [x]) := ((c1.rl.fm fc).fm fl)
        have hE3 : IsE H3 gv es := (((hg.fm f0).fm f1).fm fc).fm fl
        try simp (disch := first | omega | exact ti rfl | (simp only [np, nq]; first | done | omega)) only [go_sem, reduceAdd, reduceMul, reduceSub, reduceLeDiff, reduceEqDiff, reduceShiftRight, reduceAnd, g3, el, hg2, List.length_cons, List.length_nil]
        refine Ok.ve (qpa hC (j := j + 1) hE3 (by omega) (q1l hC hc3 g3 l3 es)) ?_
        rintro r H4 ⟨rfl, f4⟩
        simp (disch := first | omega | exact ti rfl | (simp only [np, nq]; first | done | omega)) only [go_sem, reduceAdd, reduceMul, reduceSub, reduceLeDiff, reduceEqDiff, reduceShiftRight, reduceAnd]
        refine Ok.ret ⟨res, ford, (((f0.trans f1).trans fc).trans fl).trans f4, Or.inr ⟨i, [x], rfl, hro, ?_⟩⟩
        show _ = AV.tup [.bool (!es.any (qmj x)), _]
        rfl
      · simp (disch := first | omega | exact ti rfl | (simp only [np, nq]; first | done | omega)) only [go_sem, reduceAdd, reduceMul, reduceSub, reduceLeDiff, reduceEqDiff, reduceShiftRight, reduceAnd, g2, e1, e3', el, es5, h1, st]
        refine Ok.ret ⟨res, ford, ((f0.trans f1).trans fc).trans fl, Or.inr ⟨i, o, rfl, hro, ?_⟩⟩
        unfold simP
        rw [decide_eq_false h1]; rfl
end Go.Di
end
section
/-
  Contracts: the reference's graph of the components.
-/
namespace Go.Di
open Go.Ev Go.Di.T Go.Sort
open Nat (reduceAdd reduceMul reduceSub reduceLeDiff reduceEqDiff reduceShiftRight reduceAnd)
variable {C : Nat → Ev.Call} {LA LO : LP}
def conE (ins : List Nat) (e : T3) : T3 := ⟨ins.getD e.f 0, ins.getD e.t 0, e.s⟩
def conL (ins : List Nat) (ts : List T3) : List T3 := (ts.filter fun e => !decide (ins.getD e.f 0 = ins.getD e.t 0)).map (conE ins)
theorem ze8 {ins : List Nat} {ts : List T3} {i : Nat} (h : i < ts.length) (e : ins.getD ts[i].f 0 = ins.getD ts[i].t 0) : conL ins (ts.take (i + 1)) = conL ins (ts.take i) := by
  unfold conL
  rw [List.take_succ_eq_append_getElem h, List.filter_append, List.map_append]
  have : List.filter (fun e => !decide (ins.getD e.f 0 = ins.getD e.t 0)) [ts[i]] = [] := by
    rw [List.filter_cons, decide_eq_true e]; rfl
  rw [this]; simp
theorem zbv {ins : List Nat} {ts : List T3} {i : Nat} (h : i < ts.length) (e : ¬ ins.getD ts[i].f 0 = ins.getD ts[i].t 0) : conL ins (ts.take (i + 1)) = conL ins (ts.take i) ++ [conE ins ts[i]] := by
  unfold conL
  rw [List.take_succ_eq_append_getElem h, List.filter_append, List.map_append]
  have : List.filter (fun e => !decide (ins.getD e.f 0 = ins.getD e.t 0)) [ts[i]] = [ts[i]] := by
    rw [List.filter_cons, decide_eq_false e]; rfl
  rw [this]; simp
theorem q77 (ins : List Nat) (ts : List T3) : (conL ins ts).length ≤ ts.length := by
  unfold conL
  rw [List.length_map]
  exact List.length_filter_le _ _
theorem qmw {call : Ev.Call} {H1 : Hp} {n nb : Nat} {w : AV} {ts : List T3} {insR : List Int} {ins : List Nat} (hw : Gl 3 H1 w ts.length (qcz ts)) (hlen : ts.length < 900000) (hnb : H1.get nb = qab 0 (ints insR)) (hnl : nb < H1.nx) (hin : insR.length = n) (hnum : ∀ y, y < n → insR.getD y 0 = Int.ofNat (ins.getD y 0)) (hE : ∀ e ∈ ts, e.f < n ∧ e.t < n)
    {q : AV → Hp → R1} {Q : AV → Hp → Prop} (hq : ∀ x H, Gl 3 H x (conL ins ts).length (qcz (conL ins ts)) → Fm No H1 H → (∀ b, In x b → H1.nx ≤ b) → Ok (q x H) Q) :
    ∀ (k i : Nat) (x : AV) (H : Hp), ts.length - i < k → i ≤ ts.length → Gl 3 H x (conL ins (ts.take i)).length (qcz (conL ins (ts.take i))) → (∀ b, In x b → H1.nx ≤ b) → Fm No H1 H →
      Ok (qhu call q (.sl nb 0 n n true) w k x (.int .i64 (.ofNat i)) H) Q
  | 0, i, x, H, h, _, _, _, _ => by omega
  | k + 1, i, x, H, h, hi, hg, hnew, hF => by
    show Ok (qrv call _ _ _ (qhu call _ _ _ k) _ _ H) Q
    unfold qrv
    by_cases hlt : i < ts.length
    · obtain ⟨b, o, e1, e2, e3, e4, e5, e6⟩ := zfm (hw.no hF) hlt
      have e0 := hw.lenV
      obtain ⟨r1, r2⟩ := hE ts[i] (List.getElem_mem _)
      have gi : ∀ y, y < n → (ints insR)[y]? = some (.int .i64 (.ofNat (ins.getD y 0))) := fun y hy => by
        rw [qjn insR y (by omega), ← hnum y hy, List.getD_eq_getElem?_getD, List.getElem?_eq_getElem (by omega)]; rfl
      have g1 := gi _ r1
      have g2 := gi _ r2
      have hnb' : H.get nb = qab 0 (ints insR) := (hF.keep hnl).trans hnb
      simp (disch := first | omega | exact ti rfl | (simp only [np, nq]; first | done | omega)) only [go_sem, reduceAdd, reduceMul, reduceSub, reduceLeDiff, reduceEqDiff, reduceShiftRight, reduceAnd, e0, hlt]
      unfold qru
      by_cases h1 : ins.getD ts[i].f 0 = ins.getD ts[i].t 0
      · have hc := ze8 hlt h1
        simp (disch := first | omega | exact ti rfl | (simp only [np, nq]; first | done | omega)) only [go_sem, reduceAdd, reduceMul, reduceSub, reduceLeDiff, reduceEqDiff, reduceShiftRight, reduceAnd, e1, e4, e5, hnb', g1, g2, h1, Nat.mul_one, Nat.zero_add, Nat.add_zero]
        unfold qje
        simp (disch := first | omega | exact ti rfl | (simp only [np, nq]; first | done | omega)) only [go_sem, reduceAdd, reduceMul, reduceSub, reduceLeDiff, reduceEqDiff, reduceShiftRight, reduceAnd]
        exact qmw hw hlen hnb hnl hin hnum hE hq k (i + 1) x H (by omega) (by omega) (by rw [hc]; exact hg) hnew hF
      · have hc := zbv hlt h1
        have hle := q77 ins (ts.take i)
        rw [List.length_take] at hle
        have hgP : Gl 3 (qan H (qab 0 [.int .i64 (.ofNat (ins.getD ts[i].f 0)), .int .i64 (.ofNat (ins.getD ts[i].t 0)), .int .i64 (.ofNat ts[i].s)])) x _ _ := hg.no ((Fm.refl _ _).push _)
        obtain ⟨H', a1, a2, _, a4, a5⟩ := hgP.append (w := 24) (k := 1) (x := [.int .i64 (.ofNat (ins.getD ts[i].f 0)), .int .i64 (.ofNat (ins.getD ts[i].t 0)), .int .i64 (.ofNat ts[i].s)]) (by omega) rfl (by omega) (by omega)
        simp (disch := first | omega | exact ti rfl | (simp only [np, nq]; first | done | omega)) only [go_sem, reduceAdd, reduceMul, reduceSub, reduceLeDiff, reduceEqDiff, reduceShiftRight, reduceAnd, e1, e4, e5, e6, hnb', g1, g2, h1, Nat.mul_one, Nat.zero_add, Nat.add_zero, a1]
        unfold qje
        simp (disch := first | omega | exact ti rfl | (simp only [np, nq]; first | done | omega)) only [go_sem, reduceAdd, reduceMul, reduceSub, reduceLeDiff, reduceEqDiff, reduceShiftRight, reduceAnd]
        have e10 : qcz (conL ins (ts.take i)) ++ [.int .i64 (.ofNat (ins.getD ts[i].f 0)), .int .i64 (.ofNat (ins.getD ts[i].t 0)), .int .i64 (.ofNat ts[i].s)] = qcz (conL ins (ts.take (i + 1))) := by rw [hc]; exact qhp _ (conE ins ts[i])
        have hml : (conL ins (ts.take (i + 1))).length = (conL ins (ts.take i)).length + 1 := by rw [hc, List.length_append]; rfl
        rw [e10, ← hml] at a2
        rw [← hml]
        have hn1 := hF.nx
        have hpn : (qan H (qab 0 [.int .i64 (.ofNat (ins.getD ts[i].f 0)), .int .i64 (.ofNat (ins.getD ts[i].t 0)), .int .i64 (.ofNat ts[i].s)])).nx = H.nx + 1 := rfl
        refine qmw hw hlen hnb hnl hin hnum hE hq k (i + 1) _ H' (by omega) (by omega) a2 (fun b hb => ?_) ((hF.trans ((Fm.refl _ _).push _)).then a4 fun c hc h => by have := hnew c h; omega)
        obtain ⟨_, _, _, _, h⟩ := hb
        cases h
        omega
    · have e0 := hw.lenV
      simp (disch := first | omega | exact ti rfl | (simp only [np, nq]; first | done | omega)) only [go_sem, reduceAdd, reduceMul, reduceSub, reduceLeDiff, reduceEqDiff, reduceShiftRight, reduceAnd, e0, hlt]
      have : i = ts.length := by omega
      subst this
      rw [List.take_length] at hg
      exact hq x H hg hF hnew
theorem qia (hC : qcd C) {k : Nat} (hk : 3 ≤ k) {n mb : Nat} {ms : List Nat} {mv : AV} {H : Hp} (hM : IsM H mv mb n ms) (hn : n < 13) :
    Ok (C k (.f qob) [mv] H) fun r H' => ∃ (b : Nat) (ins : List Nat) (res : List (List Nat)), OrdF n (qci (qcc n ms)) [] res ∧ Nm n res ins ∧
      IsM H' r b res.length (qjf res.length (List.replicate (res.length * res.length) 0) (conL ins (eM n ms n))) ∧ Fm No H H' := by
  obtain ⟨j, rfl⟩ : ∃ j, k = j + 1 := ⟨k - 1, by omega⟩
  have hr := hM.hv
  subst hr
  rw [(hC j).rCnd]
  unfold rCnd q5n
  simp (disch := first | omega | exact ti rfl | (simp only [np, nq]; first | done | omega)) only [go_sem, reduceAdd, reduceMul, reduceSub, reduceLeDiff, reduceEqDiff, reduceShiftRight, reduceAnd]
  generalize hH1 : qan (qan H (qab 0 [.int .i64 (.ofNat n), .sl mb 0 (n * n) (n * n) true])) (qab 0 [.int .i64 (.ofNat 0), .nilsl]) = H1
  have n1 : H1.nx = H.nx + 1 + 1 := by rw [← hH1]; rfl
  have f1 : Fm No H H1 := by rw [← hH1]; exact ((Fm.refl _ _).push _).push _
  have g1 : H1.get H.nx = qab 0 [.int .i64 (.ofNat n), .sl mb 0 (n * n) (n * n) true] := by rw [← hH1, qb6 _ _ _ (by (first | omega | (simp only [np, nq]; omega))), qaj]
  have g1' : H1.get (H.nx + 1) = qab 0 [.int .i64 (.ofNat 0), .nilsl] := by rw [← hH1]; exact qaj _ _
  refine Ok.ve (qz4 hC (k := j) (by omega) (hM.fm f1) hn) ?_
  rintro r H2 ⟨lr, nb, insR, cs, res, H0, rfl, fR, hRI, hF2, _⟩
  have f2 : Fm No H1 H2 := fR.trans hRI.fm
  have g2 : H2.get H.nx = qab 0 [.int .i64 (.ofNat n), .sl mb 0 (n * n) (n * n) true] := (f2.keep (by omega)).trans g1
  obtain ⟨z1, z2, z3, z4, z5⟩ := hF2.all
  obtain ⟨y1, y2⟩ := hRI.len
  simp (disch := first | omega | exact ti rfl | (simp only [np, nq]; first | done | omega)) only [go_sem, reduceAdd, reduceMul, reduceSub, reduceLeDiff, reduceEqDiff, reduceShiftRight, reduceAnd, g2]
  refine Ok.ve (q1c hC (k := j) (by omega) ((hM.fm f1).fm f2)) ?_
  rintro w H3 ⟨hw, f3, _⟩
  have hlen : (eM n ms n).length < 1000 := by
    have := qor ms hn
    unfold qcc at this
    rw [List.length_map] at this
    omega
  have hE : ∀ e ∈ eM n ms n, e.f < n ∧ e.t < n := fun e he => ⟨(qhj he).1, (qhj he).2.1⟩
  unfold qrw
  rw [qaq]
  have e0 := hRI.ls.gl.lenV
  rw [hRI.ls.len] at e0
  have hN : Nm n res (insR.map Int.toNat) := by
    refine ⟨fun j o x h1 h2 => ?_, fun x hx => ?_⟩
    · have hx := z2 x (List.mem_flatten.2 ⟨o, List.mem_of_getElem? h1, h2⟩)
      have := hRI.iv j o x h1 h2
      have hl := hRI.il
      rw [List.getD_eq_getElem?_getD, List.getElem?_eq_getElem (by omega)] at this
      rw [List.getD_eq_getElem?_getD, List.getElem?_map, List.getElem?_eq_getElem (by omega)]
      show Int.toNat _ = j
      have : insR[x]'(by omega) = Int.ofNat j := this
      rw [this]; rfl
    · obtain ⟨o, ho, hxo⟩ := List.mem_flatten.1 (z3 x hx)
      obtain ⟨j, hj⟩ := List.mem_iff_getElem?.1 ho
      exact ⟨j, o, hj, hxo⟩
  have hnum : ∀ y, y < n → insR.getD y 0 = Int.ofNat ((insR.map Int.toNat).getD y 0) := fun y hy => by
    obtain ⟨j, o, h1, h2⟩ := hN.all y hy
    rw [hN.is j o y h1 h2, hRI.iv j o y h1 h2]
  generalize insR.map Int.toNat = ins at hN hnum
  refine qmw (H1 := H3) (ins := ins) hw (by omega) ((f3.keep hRI.nbl.2).trans hRI.ng) (Nat.lt_of_lt_of_le hRI.nbl.2 f3.nx) hRI.il hnum hE (fun x H4 h4 f4 hnew => ?_) qam 0 .nilsl H3 (by rw [qai]; omega) (Nat.zero_le _) (by simpa [conL, qcz] using Gl.nil 3 H3) (fun b hb => by obtain ⟨_, _, _, _, h⟩ := hb; cases h) (Fm.refl _ _)
  unfold qgj
  have hle := q77 ins (eM n ms n)
  simp (disch := first | omega | exact ti rfl | (simp only [np, nq]; first | done | omega)) only [go_sem, reduceAdd, reduceMul, reduceSub, reduceLeDiff, reduceEqDiff, reduceShiftRight, reduceAnd, e0]
  refine Ok.ve (qqr hC (k := j) (by omega) (n := res.length) (by omega) (fun e he => ?_) (by omega) h4) ?_
  · obtain ⟨e0, he0, rfl⟩ := List.mem_map.1 he
    obtain ⟨h1, h2⟩ := hE e0 (List.mem_filter.1 he0).1
    exact ⟨hN.lt h1, hN.lt h2⟩
  · rintro r H5 ⟨b, hM5, hb, f5⟩
    have hr := hM5.hv
    subst hr
    have f15 := ((f2.trans f3).trans f4).trans f5
    have n15 := f15.nx
    have g5 : H5.get (H.nx + 1) = qab 0 [.int .i64 (.ofNat 0), .nilsl] := (f15.keep (by omega)).trans g1'
    have n14 := ((f2.trans f3).trans f4).nx
    simp (disch := first | omega | exact ti rfl | (simp only [np, nq]; first | done | omega)) only [go_sem, reduceAdd, reduceMul, reduceSub, reduceLeDiff, reduceEqDiff, reduceShiftRight, reduceAnd, g5]
    refine Ok.ret ⟨b, ins, res, hF2, hN, ⟨rfl, hM5.lt, ?_, hM5.ok⟩, ?_⟩
    · rw [qak _ _ _ _ (by omega)]; exact hM5.get
    · have := f1.trans f15
      exact this.then ((Fm.refl (fun b => b = H.nx + 1) H5).put _ _ fun _ => rfl) fun b hb h => by omega
end Go.Di
end
section
/-
  The graph of the components, without any program.
-/
namespace Go.Di
open Go.Ev Go.Di.T Go.Sort
theorem qoh (cs : List Nat) (a c v : Nat) (hc : c < cs.length) : (cs.set a v).getD c 0 = if a = c then v else cs.getD c 0 := by
  rw [List.getD_eq_getElem?_getD, List.getD_eq_getElem?_getD, List.getElem?_set]
  by_cases h : a = c
  · subst h; rw [if_pos rfl, if_pos rfl, if_pos hc]; rfl
  · rw [if_neg h, if_neg h]
theorem q99 (n : Nat) (ms : List Nat) (f t : Nat) (s : Bool) : (putM n ms f t s).length = ms.length := by
  unfold putM
  generalize (if s = true then 2 else 1) = d
  by_cases hd : ms.getD (f * n + t) 0 / d % 2 = 0
  · rw [if_pos hd, List.length_set]
  · rw [if_neg hd]
theorem zaa {n : Nat} {ms : List Nat} (hl : ms.length = n * n) {f t : Nat} (s : Bool) {i k : Nat} (hi : i < n) (hk : k < n) (ht : t < n) (h3 : ms.getD (i * n + k) 0 ≤ 3) :
    (putM n ms f t s).getD (i * n + k) 0 ≤ 3 ∧ ((putM n ms f t s).getD (i * n + k) 0 % 2 = 1 ↔ ms.getD (i * n + k) 0 % 2 = 1 ∨ (f = i ∧ t = k ∧ s = false)) ∧ (1 < (putM n ms f t s).getD (i * n + k) 0 ↔ 1 < ms.getD (i * n + k) 0 ∨ (f = i ∧ t = k ∧ s = true)) := by
  have hx := qem hi hk
  by_cases e : f = i ∧ t = k
  · obtain ⟨rfl, rfl⟩ := e
    unfold putM
    generalize hv : ms.getD (f * n + t) 0 = v at *
    cases s
    · simp only [Bool.false_eq_true, if_false]
      by_cases h : v / 1 % 2 = 0
      · rw [if_pos h, qoh _ _ _ _ (by omega), if_pos rfl]
        refine ⟨by omega, ?_, ?_⟩
        · simp; omega
        · simp; omega
      · rw [if_neg h, hv]
        refine ⟨by omega, ?_, ?_⟩
        · simp; omega
        · simp
    · simp only [if_true]
      by_cases h : v / 2 % 2 = 0
      · rw [if_pos h, qoh _ _ _ _ (by omega), if_pos rfl]
        refine ⟨by omega, ?_, ?_⟩
        · simp
        · simp
      · rw [if_neg h, hv]
        refine ⟨by omega, ?_, ?_⟩
        · simp
        · simp; omega
  · have : (putM n ms f t s).getD (i * n + k) 0 = ms.getD (i * n + k) 0 := by
      unfold putM
      generalize (if s = true then 2 else 1) = d
      by_cases hd : ms.getD (f * n + t) 0 / d % 2 = 0
      · rw [if_pos hd, qoh _ _ _ _ (by omega), if_neg fun h => e (qko ht hk h)]
      · rw [if_neg hd]
    rw [this]
    exact ⟨h3, ⟨Or.inl, fun h => h.resolve_right fun g => e ⟨g.1, g.2.1⟩⟩, ⟨Or.inl, fun h => h.resolve_right fun g => e ⟨g.1, g.2.1⟩⟩⟩
theorem qu1 {n i k : Nat} (hi : i < n) (hk : k < n) : ∀ (ts : List T3) (ms : List Nat), ms.length = n * n → (∀ e ∈ ts, e.f < n ∧ e.t < n) → ms.getD (i * n + k) 0 ≤ 3 →
    ((qjf n ms ts).getD (i * n + k) 0 % 2 = 1 ↔ ms.getD (i * n + k) 0 % 2 = 1 ∨ ∃ e ∈ ts, e.f = i ∧ e.t = k ∧ decide (e.s = 1) = false) ∧ (1 < (qjf n ms ts).getD (i * n + k) 0 ↔ 1 < ms.getD (i * n + k) 0 ∨ ∃ e ∈ ts, e.f = i ∧ e.t = k ∧ decide (e.s = 1) = true)
  | [], ms, _, _, _ => by simp [qjf]
  | e :: l, ms, hl, hT, h3 => by
    obtain ⟨a1, a2, a3⟩ := zaa hl (f := e.f) (t := e.t) (decide (e.s = 1)) hi hk (hT e List.mem_cons_self).2 h3
    obtain ⟨b1, b2⟩ := qu1 hi hk l (putM n ms e.f e.t (decide (e.s = 1))) (by rw [q99, hl]) (fun x hx => hT x (List.mem_cons_of_mem _ hx)) a1
    show ((qjf n (putM n ms e.f e.t (decide (e.s = 1))) l).getD _ 0 % 2 = 1 ↔ _) ∧ _
    rw [b1, a2]
    show _ ∧ (1 < (qjf n (putM n ms e.f e.t (decide (e.s = 1))) l).getD _ 0 ↔ _)
    rw [b2, a3]
    simp only [List.mem_cons, exists_eq_or_imp, or_assoc, and_self]
theorem zex {L : Nat} {ms : List Nat} {P : Edge → Bool} {i k : Nat} (h1 : P ⟨i, k, false⟩ = true ↔ ms.getD (i * L + k) 0 % 2 = 1) (h2 : P ⟨i, k, true⟩ = true ↔ 1 < ms.getD (i * L + k) 0) : (ent L ms i k).map toE = conT P i k 2 := by
  show _ = ([] ++ qft P ⟨i, k, decide (0 = 1)⟩) ++ qft P ⟨i, k, decide (1 = 1)⟩
  have d0 : decide ((0 : Nat) = 1) = false := rfl
  have d1 : decide ((1 : Nat) = 1) = true := rfl
  rw [d0, d1]
  unfold ent qft
  rw [List.map_append, List.nil_append]
  congr 1
  · by_cases h : ms.getD (i * L + k) 0 % 2 = 1
    · rw [if_pos h, if_pos (h1.2 h)]; rfl
    · rw [if_neg h, if_neg fun g => h (h1.1 g)]; rfl
  · by_cases h : 1 < ms.getD (i * L + k) 0
    · rw [if_pos h, if_pos (h2.2 h)]; rfl
    · rw [if_neg h, if_neg fun g => h (h2.1 g)]; rfl
theorem zhq {L : Nat} {ms : List Nat} {P : Edge → Bool} (h : ∀ i k, i < L → k < L → (P ⟨i, k, false⟩ = true ↔ ms.getD (i * L + k) 0 % 2 = 1) ∧ (P ⟨i, k, true⟩ = true ↔ 1 < ms.getD (i * L + k) 0)) : qcc L ms = conM P L L := by
  have row : ∀ i, i < L → ∀ k, k ≤ L → (eR L ms i k).map toE = conR P i k := fun i hi k => by
    induction k with
    | zero => intro _; rfl
    | succ k ih =>
      intro hk
      show (eR L ms i k ++ ent L ms i k).map toE = conR P i k ++ conT P i k 2
      rw [List.map_append, ih (by omega), zex (h i k hi (by omega)).1 (h i k hi (by omega)).2]
  have all : ∀ m, m ≤ L → (eM L ms m).map toE = conM P L m := fun m => by
    induction m with
    | zero => intro _; rfl
    | succ m ih =>
      intro hm
      show (eM L ms m ++ eR L ms m L).map toE = conM P L m ++ conR P m L
      rw [List.map_append, ih (by omega), row m (by omega) L (Nat.le_refl _)]
  exact all L (Nat.le_refl _)
theorem q2x {L : Nat} {P P' : Edge → Bool} (h : ∀ i k s, i < L → k < L → P ⟨i, k, s⟩ = P' ⟨i, k, s⟩) : conM P L L = conM P' L L := by
  have tt : ∀ i k, i < L → k < L → ∀ s, conT P i k s = conT P' i k s := fun i k hi hk s => by
    induction s with
    | zero => rfl
    | succ s ih =>
      show conT P i k s ++ qft P _ = conT P' i k s ++ qft P' _
      unfold qft
      rw [ih, h i k _ hi hk]
  have row : ∀ i, i < L → ∀ k, k ≤ L → conR P i k = conR P' i k := fun i hi k => by
    induction k with
    | zero => intro _; rfl
    | succ k ih =>
      intro hk
      show conR P i k ++ conT P i k 2 = conR P' i k ++ conT P' i k 2
      rw [ih (by omega), tt i k hi (by omega)]
  have all : ∀ m, m ≤ L → conM P L m = conM P' L m := fun m => by
    induction m with
    | zero => intro _; rfl
    | succ m ih =>
      intro hm
      show conM P L m ++ conR P m L = conM P' L m ++ conR P' m L
      rw [ih (by omega), row m (by omega) L (Nat.le_refl _)]
  exact all L (Nat.le_refl _)
theorem quh {P : Edge → Bool} {x y : Edge} : y ∈ qft P x ↔ y = x ∧ P x = true := by
  unfold qft
  by_cases h : P x = true
  · rw [if_pos h, List.mem_singleton]; exact ⟨fun e => ⟨e, h⟩, fun e => e.1⟩
  · rw [if_neg h]; exact ⟨fun e => (by cases e), fun e => absurd e.2 h⟩
theorem qth {L : Nat} {P : Edge → Bool} {x : Edge} : x ∈ conM P L L ↔ x.f < L ∧ x.t < L ∧ P x = true := by
  have tt : ∀ i k, x ∈ conT P i k 2 ↔ x.f = i ∧ x.t = k ∧ P x = true := fun i k => by
    show x ∈ ([] ++ qft P ⟨i, k, decide (0 = 1)⟩) ++ qft P ⟨i, k, decide (1 = 1)⟩ ↔ _
    rw [List.nil_append, List.mem_append, quh, quh]
    obtain ⟨f, t, s⟩ := x
    constructor
    · rintro (⟨e, h⟩ | ⟨e, h⟩) <;> cases e <;> exact ⟨rfl, rfl, h⟩
    · rintro ⟨rfl, rfl, h⟩
      cases s
      · exact Or.inl ⟨rfl, h⟩
      · exact Or.inr ⟨rfl, h⟩
  have row : ∀ i k, x ∈ conR P i k ↔ x.f = i ∧ x.t < k ∧ P x = true := fun i k => by
    induction k with
    | zero => exact ⟨fun h => (by cases h), fun h => absurd h.2.1 (Nat.not_lt_zero _)⟩
    | succ k ih =>
      show x ∈ conR P i k ++ conT P i k 2 ↔ _
      rw [List.mem_append, ih, tt]
      constructor
      · rintro (⟨a, b, c⟩ | ⟨a, b, c⟩)
        · exact ⟨a, by omega, c⟩
        · exact ⟨a, by omega, c⟩
      · rintro ⟨a, b, c⟩
        by_cases h : x.t = k
        · exact Or.inr ⟨a, h, c⟩
        · exact Or.inl ⟨a, by omega, c⟩
  have all : ∀ m, x ∈ conM P L m ↔ x.f < m ∧ x.t < L ∧ P x = true := fun m => by
    induction m with
    | zero => exact ⟨fun h => (by cases h), fun h => absurd h.1 (Nat.not_lt_zero _)⟩
    | succ m ih =>
      show x ∈ conM P L m ++ conR P m L ↔ _
      rw [List.mem_append, ih, row]
      constructor
      · rintro (⟨a, b, c⟩ | ⟨a, b, c⟩)
        · exact ⟨by omega, b, c⟩
        · exact ⟨by omega, b, c⟩
      · rintro ⟨a, b, c⟩
        by_cases h : x.f = m
        · exact Or.inr ⟨h, b, c⟩
        · exact Or.inl ⟨by omega, b, c⟩
  exact all L
theorem Nm.same {n : Nat} {res : List (List Nat)} {ins ins' : List Nat} (h : Nm n res ins) (h' : Nm n res ins') {x : Nat} (hx : x < n) : ins.getD x 0 = ins'.getD x 0 := by
  obtain ⟨j, o, h1, h2⟩ := h.all x hx
  rw [h.is j o x h1 h2, h'.is j o x h1 h2]
theorem qtj {ins : List Nat} {es : List Edge} {x : Edge} : cndP ins es x = true ↔ x.f ≠ x.t ∧ ∃ e ∈ es, ins.getD e.f 0 = x.f ∧ ins.getD e.t 0 = x.t ∧ e.s = x.s := by
  unfold cndP conP
  rw [Bool.and_eq_true, Bool.not_eq_true', decide_eq_false_iff_not, List.any_eq_true]
  obtain ⟨f, t, s⟩ := x
  simp only [decide_eq_true_eq, Edge.mk.injEq, ne_eq]
theorem zbt {n : Nat} {ms : List Nat} {res : List (List Nat)} {ins ins' : List Nat} (h : Nm n res ins) (h' : Nm n res ins') :
    qcc res.length (qjf res.length (List.replicate (res.length * res.length) 0) (conL ins (eM n ms n))) = conM (cndP ins' (qcc n ms)) res.length res.length := by
  refine zhq fun i k hi hk => ?_
  have h0 : (List.replicate (res.length * res.length) 0).getD (i * res.length + k) 0 = 0 := by
    rw [List.getD_eq_getElem?_getD, List.getElem?_replicate, if_pos (qem hi hk)]; rfl
  have hT : ∀ e ∈ conL ins (eM n ms n), e.f < res.length ∧ e.t < res.length := fun e he => by
    obtain ⟨e0, he0, rfl⟩ := List.mem_map.1 he
    obtain ⟨h1, h2, _⟩ := qhj (List.mem_filter.1 he0).1
    exact ⟨h.lt h1, h.lt h2⟩
  obtain ⟨a1, a2⟩ := qu1 hi hk (conL ins (eM n ms n)) (List.replicate (res.length * res.length) 0) (by simp) hT (by omega)
  rw [a1, a2, h0]
  have key : ∀ b : Bool, cndP ins' (qcc n ms) ⟨i, k, b⟩ = true ↔ ∃ e ∈ conL ins (eM n ms n), e.f = i ∧ e.t = k ∧ decide (e.s = 1) = b := fun b => by
    rw [qtj]
    constructor
    · rintro ⟨hne, e0, he0, h1, h2, h3⟩
      obtain ⟨e, he, rfl⟩ := List.mem_map.1 he0
      obtain ⟨l1, l2, _⟩ := qhj he
      have h1 : ins'.getD e.f 0 = i := h1
      have h2 : ins'.getD e.t 0 = k := h2
      have h3 : decide (e.s = 1) = b := h3
      rw [← h.same h' l1] at h1
      rw [← h.same h' l2] at h2
      refine ⟨conE ins e, List.mem_map_of_mem (List.mem_filter.2 ⟨he, ?_⟩), h1, h2, h3⟩
      rw [h1, h2, decide_eq_false hne]; rfl
    · rintro ⟨e1, he1, h1, h2, h3⟩
      obtain ⟨e, he, rfl⟩ := List.mem_map.1 he1
      obtain ⟨he, hf⟩ := List.mem_filter.1 he
      obtain ⟨l1, l2, _⟩ := qhj he
      have h1 : ins.getD e.f 0 = i := h1
      have h2 : ins.getD e.t 0 = k := h2
      rw [h1, h2, Bool.not_eq_true', decide_eq_false_iff_not] at hf
      rw [h.same h' l1] at h1
      rw [h.same h' l2] at h2
      exact ⟨hf, toE e, List.mem_map_of_mem he, h1, h2, h3⟩
  constructor
  · rw [key]; simp
  · rw [key]; simp
theorem zbu {n : Nat} {es : List Edge} (hE : ∀ e ∈ es, e.f < n ∧ e.t < n) {res : List (List Nat)} {ins : List Nat} (hF : OrdF n (qci es) [] res) (h : Nm n res ins) {x : Edge} (hx : x ∈ conM (cndP ins es) res.length res.length) : x.t < x.f ∧ x.f < res.length := by
  obtain ⟨a1, a2, a3⟩ := qth.1 hx
  obtain ⟨b1, e, he, b2, b3, b4⟩ := qtj.1 a3
  refine ⟨?_, a1⟩
  obtain ⟨l1, l2⟩ := hE e he
  obtain ⟨j, o, h1, h2⟩ := h.all e.f l1
  rcases qu8 hF h1 h2 l2 (qej.2 ⟨e, he, rfl, rfl⟩) with g | ⟨j', c', g1, g2, g3⟩
  · simp at g
  · rw [h.is j o e.f h1 h2] at b2
    rw [h.is j' c' e.t g2 g3] at b3
    omega
def qg2 (L : Nat) : List (List Nat) := (List.range L).map fun i => [i]
theorem qw9 {adj : Nat → List Nat} (h : ∀ a, ∀ b ∈ adj a, b < a) {a b : Nat} (hr : Rc adj a b) : b ≤ a := by
  induction hr with
  | refl => exact Nat.le_refl _
  | step _ e ih => have := h _ _ e; omega
theorem qhq (L : Nat) : (qg2 L).flatten = List.range L := by
  unfold qg2
  induction L with
  | zero => rfl
  | succ L ih => rw [List.range_succ, List.map_append, List.flatten_append, ih]; rfl
theorem qrx {L : Nat} {adj : Nat → List Nat} (h : ∀ a, ∀ b ∈ adj a, b < a) : OrdF L adj [] (qg2 L) := by
  have key : ∀ m i, i + m = L → OrdF L adj (qg2 i) ((List.range' i m).map fun i => [i]) := fun m => by
    induction m with
    | zero =>
      intro i hi x hx
      rw [qhq, List.mem_range]; omega
    | succ m ih =>
      intro i hi
      have hs : qg2 i ++ [[i]] = qg2 (i + 1) := by unfold qg2; rw [List.range_succ, List.map_append]; rfl
      show OrdF L adj (qg2 i) ([i] :: (List.range' (i + 1) m).map fun i => [i])
      refine ⟨⟨i, ⟨by omega, ?_, fun k _ hr => ?_, fun j hj hn => ?_⟩, ⟨List.pairwise_singleton _ _, fun x => ?_⟩⟩, ?_⟩
      · rw [qhq, List.mem_range]; omega
      · rw [qhq, List.mem_range]
        have := qw9 h hr
        by_cases e : k = i
        · subst e; exact Or.inr (Rc.refl _)
        · exact Or.inl (by omega)
      · rw [qhq, List.mem_range] at hn
        exact absurd hj hn
      · rw [List.mem_singleton]
        constructor
        · rintro rfl; exact ⟨by omega, Rc.refl _, Rc.refl _⟩
        · rintro ⟨_, a, b⟩
          have := qw9 h a
          have := qw9 h b
          omega
      · rw [hs]; exact ih (i + 1) (by omega)
  have := key L 0 (by omega)
  unfold qg2
  rw [List.range_eq_range']
  exact this
theorem q36 {L i : Nat} {o : List Nat} (h : (qg2 L)[i]? = some o) : o = [i] ∧ i < L := by
  unfold qg2 at h
  rw [List.getElem?_map] at h
  by_cases hi : i < L
  · rw [List.getElem?_range hi] at h
    cases h; exact ⟨rfl, hi⟩
  · rw [List.getElem?_eq_none (by simp; omega)] at h
    cases h
theorem q75 {L : Nat} {P : Edge → Bool} {ins : List Nat} (hins : ∀ x, x < L → ins.getD x 0 = x) (hP : ∀ x : Edge, P x = true → x.f ≠ x.t) : conM (cndP ins (conM P L L)) L L = conM P L L := by
  refine q2x fun i k s hi hk => ?_
  rw [Bool.eq_iff_iff, qtj]
  constructor
  · rintro ⟨_, e, he, h1, h2, h3⟩
    obtain ⟨a1, a2, a3⟩ := qth.1 he
    rw [hins _ a1] at h1
    rw [hins _ a2] at h2
    obtain ⟨f, t, s'⟩ := e
    cases h1; cases h2; cases h3
    exact a3
  · intro h
    refine ⟨hP _ h, ⟨i, k, s⟩, qth.2 ⟨hi, hk, h⟩, hins _ hi, hins _ hk, rfl⟩
end Go.Di
end
section
/-
  Contracts: whether a graph is that of a matrix.
-/
namespace Go.Di
open Go.Ev Go.Di.T Go.Sort
open Nat (reduceAdd reduceMul reduceSub reduceLeDiff reduceEqDiff reduceShiftRight reduceAnd)
variable {C : Nat → Ev.Call} {LA LO : LP}
theorem zd9 (x : Edge) : qj1 true (qoq (eqFields [(p1, ⟨qju⟩, 0), (p1, ⟨qju⟩, 1), (p1, ⟨qgz⟩, 2)]) (.agg x.cells) (.agg x.cells)) = .val (.bool false) := by
  rw [q0w, decide_eq_true rfl]; rfl
theorem qlh {call : Ev.Call} {H : Hp} {n g0 g1 : Nat} {w w2 : AV} {es : List Edge} (hg0 : H.get g0 = qab 0 [.int .i64 (.ofNat n), w]) (hg1 : H.get g1 = qab 0 [.int .i64 (.ofNat n), w2]) (hw : IsE H w es) (hw2 : IsE H w2 es) (hlen : es.length < 900000) {q1 : AV → Hp → R1} {q2 : Hp → R1} {Q : AV → Hp → Prop} (hq : Ok (q2 H) Q) :
    ∀ (k i : Nat), es.length - i < k → i ≤ es.length → Ok (qpy call q1 q2 (.ptr g0 0) (.ptr g1 0) k (.int .i64 (.ofNat i)) H) Q
  | 0, i, h, _ => by omega
  | k + 1, i, h, hi => by
    show Ok (q58 call _ _ _ _ (qpy call _ _ _ _ k) _ H) Q
    unfold q58
    have e0 := hw.len
    by_cases hlt : i < es.length
    · simp (disch := first | omega | exact ti rfl | (simp only [np, nq]; first | done | omega)) only [go_sem, reduceAdd, reduceMul, reduceSub, reduceLeDiff, reduceEqDiff, reduceShiftRight, reduceAnd, hg0, e0, hlt]
      unfold qx5
      obtain ⟨b, o, e1, e2, e3⟩ := hw.at hlt
      obtain ⟨b', o', e1', e2', e3'⟩ := hw2.at hlt
      have hn := zd9 es[i]
      simp (disch := first | omega | exact ti rfl | (simp only [np, nq]; first | done | omega)) only [go_sem, reduceAdd, reduceMul, reduceSub, reduceLeDiff, reduceEqDiff, reduceShiftRight, reduceAnd, hg0, hg1, e1, e3, e1', e3', hn]
      unfold q57
      simp (disch := first | omega | exact ti rfl | (simp only [np, nq]; first | done | omega)) only [go_sem, reduceAdd, reduceMul, reduceSub, reduceLeDiff, reduceEqDiff, reduceShiftRight, reduceAnd]
      exact qlh hg0 hg1 hw hw2 hlen hq k (i + 1) (by omega) (by omega)
    · simp (disch := first | omega | exact ti rfl | (simp only [np, nq]; first | done | omega)) only [go_sem, reduceAdd, reduceMul, reduceSub, reduceLeDiff, reduceEqDiff, reduceShiftRight, reduceAnd, hg0, e0, hlt]
      exact hq
theorem qqg (hC : qcd C) {k : Nat} (hk : 3 ≤ k) {n mb : Nat} {ms : List Nat} {mv w : AV} {es : List Edge} {H : Hp} (hM : IsM H mv mb n ms) (hes : qcc n ms = es) (hw : IsE H w es) (hc : capV w = .val (.int .i64 (.ofNat es.length))) (hlen : es.length < 900000) :
    Ok (C k (.f qvp) [.agg [.int .i64 (.ofNat n), w], mv] H) fun r H' => r = .bool true ∧ Fm No H H' := by
  obtain ⟨j, rfl⟩ : ∃ j, k = j + 1 := ⟨k - 1, by omega⟩
  have hr := hM.hv
  subst hr
  rw [(hC j).lwG]
  unfold lwG zeb
  have bw := hw.flat
  simp (disch := first | omega | exact ti rfl | (simp only [np, nq]; first | done | omega)) only [go_sem, reduceAdd, reduceMul, reduceSub, reduceLeDiff, reduceEqDiff, reduceShiftRight, reduceAnd]
  generalize hH1 : qan (qan H (qab 0 [.int .i64 (.ofNat n), w])) (qab 0 [.int .i64 (.ofNat n), .sl mb 0 (n * n) (n * n) true]) = H1
  have n1 : H1.nx = H.nx + 1 + 1 := by rw [← hH1]; rfl
  have f1 : Fm No H H1 := by rw [← hH1]; exact ((Fm.refl _ _).push _).push _
  have g1 : H1.get H.nx = qab 0 [.int .i64 (.ofNat n), w] := by rw [← hH1, qb6 _ _ _ (by (first | omega | (simp only [np, nq]; omega))), qaj]
  refine Ok.ve (q1b hC (k := j) (by omega) (hM.fm f1)) ?_
  rintro r H2 ⟨w2, rfl, hG, f2, _⟩
  rw [hes] at hG
  have n2 := f2.nx
  have g2 : H2.get H.nx = qab 0 [.int .i64 (.ofNat n), w] := (f2.keep (by omega)).trans g1
  have e0 := hw.len
  have hG := hG.isE
  have e1 := hG.len
  simp (disch := first | omega | exact ti rfl | (simp only [np, nq]; first | done | omega)) only [go_sem, reduceAdd, reduceMul, reduceSub, reduceLeDiff, reduceEqDiff, reduceShiftRight, reduceAnd, g2, e0, e1, hc]
  unfold qx4 q59
  rw [qaq]
  have f3 : Fm No H2 ((qan H2 (qab 0 [.int .i64 (.ofNat 0), .nilsl])).put H2.nx (qab 0 [.int .i64 (.ofNat n), w2])) := by (repeat (first | exact Fm.refl _ _ | assumption | refine Fm.push ?_ _ | refine Fm.up2 ?_ (by (first | omega | (simp only [np, nq]; omega))) | refine Fm.put_new ?_ _ _ (by (first | omega | (simp only [np, nq]; omega)))))
  refine qlh ((f3.keep (by omega)).trans g2) (qad _ _ _) (((hw.fm f1).fm f2).fm f3) (hG.fm f3) hlen ?_ qam 0 (by rw [qai]; omega) (Nat.zero_le _)
  unfold qnv
  exact Ok.ret ⟨rfl, (f1.trans f2).trans f3⟩
end Go.Di
end
section
/-
  The law CompsCondense: its loop.
-/
namespace Go.Di
open Go.Ev Go.Di.T Go.Sort
open Nat (reduceAdd reduceMul reduceSub reduceLeDiff reduceEqDiff reduceShiftRight reduceAnd)
variable {C : Nat → Ev.Call} {LA LO : LP}
theorem q7z {es : List Edge} (hd : ∀ e ∈ es, e.t < e.f) : ∀ a, ∀ b ∈ qci es a, b < a := fun a b hb => by
  obtain ⟨e, he, rfl, rfl⟩ := qej.1 hb
  exact hd e he
theorem q37 {es : List Edge} (hd : ∀ e ∈ es, e.t < e.f) (i : Nat) : simP es [i] = true := by
  unfold simP
  have : es.any (qmj ([i].headD 0)) = false := by
    rw [List.any_eq_false]
    intro e he h
    have := hd e he
    unfold qmj at h
    rw [Bool.and_eq_true, decide_eq_true_eq, decide_eq_true_eq] at h
    have h1 : e.f = i := h.1
    have h2 : e.t = i := h.2
    omega
  rw [this]; rfl
theorem qi4 (L : Nat) : (qg2 L).length = L := by unfold qg2; simp
theorem qwq {es : List Edge} {L i : Nat} {res : List (List Nat)} {r : AV} (hd : ∀ e ∈ es, e.t < e.f) (hF : OrdF L (qci es) [] res) (hi : i < L) (h : simQ es res (Int.ofNat i) r) : r = .tup [.bool true, .int .i64 (.ofNat 0)] := by
  have := hF.uniq (qrx (q7z hd))
  subst this
  rcases h with ⟨h | h, _⟩ | ⟨i', o, h1, h2, h3⟩
  · simp only [Int.ofNat_eq_natCast] at h; omega
  · rw [qi4] at h; simp only [Int.ofNat_eq_natCast] at h; omega
  · have := Int.ofNat.inj h1
    subst this
    rw [(q36 h2).1, q37 hd] at h3
    exact h3
theorem qv6 (hC : qcd C) (hO : qd2 C) (hS : qde C) (hR : qd1 LA LO C) {k0 : Nat} (hk : 930 ≤ k0) {H1 : Hp} {g7 g9 L : Nat} {wd lv iv : AV} {es : List Edge} {insd : List Nat} (hE : qgv L es) (hL : L ≤ 12) (hlen : es.length < 200000) (hd : ∀ e ∈ es, e.t < e.f) (h7 : H1.get g7 = qab 0 [.int .i64 (.ofNat L), wd]) (l7 : g7 < H1.nx) (h9 : H1.get g9 = qab 0 [lv, iv]) (l9 : g9 < H1.nx) (hw : IsE H1 wd es) (hi : Gl 1 H1 iv L (nats insd)) (hins : ∀ x, x < L → insd[x]? = some x)
    {q1 : AV → Hp → R1} {q2 : Hp → R1} {Q : AV → Hp → Prop} (hq : ∀ H, Fm No H1 H → Ok (q2 H) Q) :
    ∀ (k i : Nat) (H : Hp), L - i < k → i ≤ L → Fm No H1 H → Ok (qdx (C k0) q1 q2 (.ptr g7 0) (.ptr g9 0) k (.int .i64 (.ofNat i)) H) Q
  | 0, i, H, h, _, _ => by omega
  | k + 1, i, H, h, hil, hF => by
    show Ok (qx6 (C k0) _ _ _ _ (qdx (C k0) _ _ _ _ k) _ H) Q
    unfold qx6
    have k7 : H.get g7 = qab 0 [.int .i64 (.ofNat L), wd] := (hF.keep l7).trans h7
    by_cases hlt : i < L
    · try simp (disch := first | omega | exact ti rfl | (simp only [np, nq]; first | done | omega)) only [go_sem, reduceAdd, reduceMul, reduceSub, reduceLeDiff, reduceEqDiff, reduceShiftRight, reduceAnd, k7, hlt]
      (repeat ((first | (refine qbn ?_; unfold qb1) | (refine qbm ?_; unfold qb0) | (refine qbl ?_; unfold qbz) | (refine qbk ?_; unfold qby) | (refine qbj ?_; unfold qbx) | (refine qbi ?_; unfold qbw) | (refine qbh ?_; unfold qbv) | (refine qbg ?_; unfold qbu) | (refine qbf ?_; unfold qbt) | (refine qbe ?_; unfold qbs) | (refine qbd ?_; unfold qbr) | (refine qbc ?_; unfold qbq) | (refine qbb ?_; unfold qbp) | (refine qba ?_; unfold qbo) | (refine qaz ?_; unfold qa8) | (refine qay ?_; unfold qa7) | (refine qax ?_; unfold qa6) | (refine qaw ?_; unfold qa5) | (refine qav ?_; unfold qa4) | (refine qau ?_; unfold qa3) | (refine qat ?_; unfold qa2) | (refine qas ?_; unfold qa1)); try simp (disch := first | omega | exact ti rfl | (simp only [np, nq]; first | done | omega)) only [go_sem, reduceAdd, reduceMul, reduceSub, reduceLeDiff, reduceEqDiff, reduceShiftRight, reduceAnd, k7, hlt]))
      try simp (disch := first | omega | exact ti rfl | (simp only [np, nq]; first | done | omega)) only [go_sem, reduceAdd, reduceMul, reduceSub, reduceLeDiff, reduceEqDiff, reduceShiftRight, reduceAnd, k7]
      (repeat ((first | (refine qbn ?_; unfold qb1) | (refine qbm ?_; unfold qb0) | (refine qbl ?_; unfold qbz) | (refine qbk ?_; unfold qby) | (refine qbj ?_; unfold qbx) | (refine qbi ?_; unfold qbw) | (refine qbh ?_; unfold qbv) | (refine qbg ?_; unfold qbu) | (refine qbf ?_; unfold qbt) | (refine qbe ?_; unfold qbs) | (refine qbd ?_; unfold qbr) | (refine qbc ?_; unfold qbq) | (refine qbb ?_; unfold qbp) | (refine qba ?_; unfold qbo) | (refine qaz ?_; unfold qa8) | (refine qay ?_; unfold qa7) | (refine qax ?_; unfold qa6) | (refine qaw ?_; unfold qa5) | (refine qav ?_; unfold qa4) | (refine qau ?_; unfold qa3) | (refine qat ?_; unfold qa2) | (refine qas ?_; unfold qa1)); try simp (disch := first | omega | exact ti rfl | (simp only [np, nq]; first | done | omega)) only [go_sem, reduceAdd, reduceMul, reduceSub, reduceLeDiff, reduceEqDiff, reduceShiftRight, reduceAnd, k7]))
      refine Ok.ve (qwj hC hO hS hR (k := k0) hk hE hL hlen (hw.fm hF) (Int.ofNat i)) ?_
      rintro r H2 ⟨resS, hFS, f2, hq2⟩
      have hr := qwq hd hFS hlt hq2
      subst hr
      have hF2 := hF.trans f2
      have k9 : H2.get g9 = qab 0 [lv, iv] := (hF2.keep l9).trans h9
      have gi : (nats insd)[i]? = some (.int .i64 (.ofNat i)) := by unfold nats; rw [List.getElem?_map, hins i hlt]; rfl
      obtain ⟨b, o, e1, e2, _, e3⟩ := (hi.no hF2).at gi
      try simp (disch := first | omega | exact ti rfl | (simp only [np, nq]; first | done | omega)) only [go_sem, reduceAdd, reduceMul, reduceSub, reduceLeDiff, reduceEqDiff, reduceShiftRight, reduceAnd, k9, e1, e3]
      (repeat ((first | (refine qbn ?_; unfold qb1) | (refine qbm ?_; unfold qb0) | (refine qbl ?_; unfold qbz) | (refine qbk ?_; unfold qby) | (refine qbj ?_; unfold qbx) | (refine qbi ?_; unfold qbw) | (refine qbh ?_; unfold qbv) | (refine qbg ?_; unfold qbu) | (refine qbf ?_; unfold qbt) | (refine qbe ?_; unfold qbs) | (refine qbd ?_; unfold qbr) | (refine qbc ?_; unfold qbq) | (refine qbb ?_; unfold qbp) | (refine qba ?_; unfold qbo) | (refine qaz ?_; unfold qa8) | (refine qay ?_; unfold qa7) | (refine qax ?_; unfold qa6) | (refine qaw ?_; unfold qa5) | (refine qav ?_; unfold qa4) | (refine qau ?_; unfold qa3) | (refine qat ?_; unfold qa2) | (refine qas ?_; unfold qa1)); try simp (disch := first | omega | exact ti rfl | (simp only [np, nq]; first | done | omega)) only [go_sem, reduceAdd, reduceMul, reduceSub, reduceLeDiff, reduceEqDiff, reduceShiftRight, reduceAnd, k9, e1, e3]))
      try simp (disch := first | omega | exact ti rfl | (simp only [np, nq]; first | done | omega)) only [go_sem, reduceAdd, reduceMul, reduceSub, reduceLeDiff, reduceEqDiff, reduceShiftRight, reduceAnd]
      (repeat ((first | (refine qbn ?_; unfold qb1) | (refine qbm ?_; unfold qb0) | (refine qbl ?_; unfold qbz) | (refine qbk ?_; unfold qby) | (refine qbj ?_; unfold qbx) | (refine qbi ?_; unfold qbw) | (refine qbh ?_; unfold qbv) | (refine qbg ?_; unfold qbu) | (refine qbf ?_; unfold qbt) | (refine qbe ?_; unfold qbs) | (refine qbd ?_; unfold qbr) | (refine qbc ?_; unfold qbq) | (refine qbb ?_; unfold qbp) | (refine qba ?_; unfold qbo) | (refine qaz ?_; unfold qa8) | (refine qay ?_; unfold qa7) | (refine qax ?_; unfold qa6) | (refine qaw ?_; unfold qa5) | (refine qav ?_; unfold qa4) | (refine qau ?_; unfold qa3) | (refine qat ?_; unfold qa2) | (refine qas ?_; unfold qa1)); try simp (disch := first | omega | exact ti rfl | (simp only [np, nq]; first | done | omega)) only [go_sem, reduceAdd, reduceMul, reduceSub, reduceLeDiff, reduceEqDiff, reduceShiftRight, reduceAnd]))
      exact qv6 hC hO hS hR hk hE hL hlen hd h7 l7 h9 l9 hw hi hins hq k (i + 1) H2 (by omega) (by omega) hF2
    · try simp (disch := first | omega | exact ti rfl | (simp only [np, nq]; first | done | omega)) only [go_sem, reduceAdd, reduceMul, reduceSub, reduceLeDiff, reduceEqDiff, reduceShiftRight, reduceAnd, k7, hlt]
      (repeat ((first | (refine qbn ?_; unfold qb1) | (refine qbm ?_; unfold qb0) | (refine qbl ?_; unfold qbz) | (refine qbk ?_; unfold qby) | (refine qbj ?_; unfold qbx) | (refine qbi ?_; unfold qbw) | (refine qbh ?_; unfold qbv) | (refine qbg ?_; unfold qbu) | (refine qbf ?_; unfold qbt) | (refine qbe ?_; unfold qbs) | (refine qbd ?_; unfold qbr) | (refine qbc ?_; unfold qbq) | (refine qbb ?_; unfold qbp) | (refine qba ?_; unfold qbo) | (refine qaz ?_; unfold qa8) | (refine qay ?_; unfold qa7) | (refine qax ?_; unfold qa6) | (refine qaw ?_; unfold qa5) | (refine qav ?_; unfold qa4) | (refine qau ?_; unfold qa3) | (refine qat ?_; unfold qa2) | (refine qas ?_; unfold qa1)); try simp (disch := first | omega | exact ti rfl | (simp only [np, nq]; first | done | omega)) only [go_sem, reduceAdd, reduceMul, reduceSub, reduceLeDiff, reduceEqDiff, reduceShiftRight, reduceAnd, k7, hlt]))
      exact hq H hF
theorem zd4 {n x : Nat} {ms : List Nat} (hx : x < n) : (qcc n ms).any (qmj x) = decide (0 < ms.getD (x * n + x) 0) := by
  rw [Bool.eq_iff_iff, List.any_eq_true, decide_eq_true_eq]
  constructor
  · rintro ⟨e, he, h⟩
    unfold qmj at h
    rw [Bool.and_eq_true, decide_eq_true_eq, decide_eq_true_eq] at h
    have := qv1 he
    rw [h.1, h.2] at this
    exact this
  · intro h
    obtain ⟨e, he, h1, h2⟩ := q0y hx hx h
    exact ⟨e, he, by unfold qmj; rw [decide_eq_true h1, decide_eq_true h2]; rfl⟩
end Go.Di
end
section
/-
  The law CompsCondense.
-/
namespace Go.Di
open Go.Ev Go.Di.T Go.Sort
open Nat (reduceAdd reduceMul reduceSub reduceLeDiff reduceEqDiff reduceShiftRight reduceAnd)
variable {C : Nat → Ev.Call} {LA LO : LP}
theorem qlo (hC : qcd C) (hO : qd2 C) (hS : qde C) (hR : qd1 LA LO C) {k : Nat} (hk : 1500 ≤ k) (hlive : ∀ k H, 1 ≤ k → C k (.f qc7) [] H = .ok (.bool true) H) {call : Ev.Call} (hcall : call = C k) {N cnt : Nat} {v : AV} {z : Int} {H : Hp} (hv : Arg3 H v cnt) :
    Ok (lwD call (.agg [.int .u8 (.ofNat N), v]) (.int .i64 z) H) fun r _ => r = .bool true := by
  subst hcall
  unfold lwD zec
  have fH : Fm No H (qan H (qab 0 [.int .u8 (.ofNat N), v])) := by (repeat (first | exact Fm.refl _ _ | assumption | refine Fm.push ?_ _ | refine Fm.up2 ?_ (by (first | omega | (simp only [np, nq]; omega))) | refine Fm.put_new ?_ _ _ (by (first | omega | (simp only [np, nq]; omega)))))
  try simp (disch := first | omega | exact ti rfl | (simp only [np, nq]; first | done | omega)) only [go_sem, reduceAdd, reduceMul, reduceSub, reduceLeDiff, reduceEqDiff, reduceShiftRight, reduceAnd]
  (repeat ((first | (refine qbn ?_; unfold qb1) | (refine qbm ?_; unfold qb0) | (refine qbl ?_; unfold qbz) | (refine qbk ?_; unfold qby) | (refine qbj ?_; unfold qbx) | (refine qbi ?_; unfold qbw) | (refine qbh ?_; unfold qbv) | (refine qbg ?_; unfold qbu) | (refine qbf ?_; unfold qbt) | (refine qbe ?_; unfold qbs) | (refine qbd ?_; unfold qbr) | (refine qbc ?_; unfold qbq) | (refine qbb ?_; unfold qbp) | (refine qba ?_; unfold qbo) | (refine qaz ?_; unfold qa8) | (refine qay ?_; unfold qa7) | (refine qax ?_; unfold qa6) | (refine qaw ?_; unfold qa5) | (refine qav ?_; unfold qa4) | (refine qau ?_; unfold qa3) | (refine qat ?_; unfold qa2) | (refine qas ?_; unfold qa1)); try simp (disch := first | omega | exact ti rfl | (simp only [np, nq]; first | done | omega)) only [go_sem, reduceAdd, reduceMul, reduceSub, reduceLeDiff, reduceEqDiff, reduceShiftRight, reduceAnd]))
  refine Ok.ve (qzi hC (by omega) (hv.fm fH)) ?_
  rintro r H1 ⟨mb, ms, hM, hmb, f1⟩
  generalize hn : N % 13 = n at *
  have hn13 : n < 13 := by omega
  have hr := hM.hv
  subst hr
  try simp (disch := first | omega | exact ti rfl | (simp only [np, nq]; first | done | omega)) only [go_sem, reduceAdd, reduceMul, reduceSub, reduceLeDiff, reduceEqDiff, reduceShiftRight, reduceAnd]
  (repeat ((first | (refine qbn ?_; unfold qb1) | (refine qbm ?_; unfold qb0) | (refine qbl ?_; unfold qbz) | (refine qbk ?_; unfold qby) | (refine qbj ?_; unfold qbx) | (refine qbi ?_; unfold qbw) | (refine qbh ?_; unfold qbv) | (refine qbg ?_; unfold qbu) | (refine qbf ?_; unfold qbt) | (refine qbe ?_; unfold qbs) | (refine qbd ?_; unfold qbr) | (refine qbc ?_; unfold qbq) | (refine qbb ?_; unfold qbp) | (refine qba ?_; unfold qbo) | (refine qaz ?_; unfold qa8) | (refine qay ?_; unfold qa7) | (refine qax ?_; unfold qa6) | (refine qaw ?_; unfold qa5) | (refine qav ?_; unfold qa4) | (refine qau ?_; unfold qa3) | (refine qat ?_; unfold qa2) | (refine qas ?_; unfold qa1)); try simp (disch := first | omega | exact ti rfl | (simp only [np, nq]; first | done | omega)) only [go_sem, reduceAdd, reduceMul, reduceSub, reduceLeDiff, reduceEqDiff, reduceShiftRight, reduceAnd]))
  have fa : Fm No H1 ((qan H1 (qab 0 [.int .i64 (.ofNat 0), .nilsl])).put H1.nx (qab 0 [.int .i64 (.ofNat n), .sl mb 0 (n * n) (n * n) true])) := by (repeat (first | exact Fm.refl _ _ | assumption | refine Fm.push ?_ _ | refine Fm.up2 ?_ (by (first | omega | (simp only [np, nq]; omega))) | refine Fm.put_new ?_ _ _ (by (first | omega | (simp only [np, nq]; omega)))))
  refine Ok.ve (q1b hC (by omega) (hM.fm fa)) ?_
  rintro r H2 ⟨w, rfl, hG, f2, hw⟩
  try simp (disch := first | omega | exact ti rfl | (simp only [np, nq]; first | done | omega)) only [go_sem, reduceAdd, reduceMul, reduceSub, reduceLeDiff, reduceEqDiff, reduceShiftRight, reduceAnd]
  (repeat ((first | (refine qbn ?_; unfold qb1) | (refine qbm ?_; unfold qb0) | (refine qbl ?_; unfold qbz) | (refine qbk ?_; unfold qby) | (refine qbj ?_; unfold qbx) | (refine qbi ?_; unfold qbw) | (refine qbh ?_; unfold qbv) | (refine qbg ?_; unfold qbu) | (refine qbf ?_; unfold qbt) | (refine qbe ?_; unfold qbs) | (refine qbd ?_; unfold qbr) | (refine qbc ?_; unfold qbq) | (refine qbb ?_; unfold qbp) | (refine qba ?_; unfold qbo) | (refine qaz ?_; unfold qa8) | (refine qay ?_; unfold qa7) | (refine qax ?_; unfold qa6) | (refine qaw ?_; unfold qa5) | (refine qav ?_; unfold qa4) | (refine qau ?_; unfold qa3) | (refine qat ?_; unfold qa2) | (refine qas ?_; unfold qa1)); try simp (disch := first | omega | exact ti rfl | (simp only [np, nq]; first | done | omega)) only [go_sem, reduceAdd, reduceMul, reduceSub, reduceLeDiff, reduceEqDiff, reduceShiftRight, reduceAnd]))
  have n2 : H1.nx + 1 ≤ H2.nx := f2.nx
  have m2 : H2.get H1.nx = qab 0 [.int .i64 (.ofNat n), .sl mb 0 (n * n) (n * n) true] := (f2.keep (by (first | omega | (simp only [np, nq]; omega)))).trans (qad _ _ _)
  have fb : Fm No H2 ((qan H2 (qab 0 [.int .i64 (.ofNat 0), .nilsl])).put H2.nx (qab 0 [.int .i64 (.ofNat n), w])) := by (repeat (first | exact Fm.refl _ _ | assumption | refine Fm.push ?_ _ | refine Fm.up2 ?_ (by (first | omega | (simp only [np, nq]; omega))) | refine Fm.put_new ?_ _ _ (by (first | omega | (simp only [np, nq]; omega)))))
  have hE := qte n ms
  have hlen : (qcc n ms).length < 1000 := qor ms hn13
  refine Ok.ve (qpb hC hO hS hR (k := k) (by omega) hE (by omega) (by omega) (GlE.isE (Gl.no hG fb))) ?_
  rintro r H3 ⟨wd, res, ins, rfl, hF1, hin, hwd, hcd, f3⟩
  have n3 : H2.nx + 1 ≤ H3.nx := f3.nx
  have m3 : H3.get H1.nx = qab 0 [.int .i64 (.ofNat n), .sl mb 0 (n * n) (n * n) true] := ((fb.trans f3).keep (by omega)).trans m2
  have f13 : Fm No H1 H3 := ((fa.trans f2).trans fb).trans f3
  have g3 : H3.get H2.nx = qab 0 [.int .i64 (.ofNat n), w] := (f3.keep (by (first | omega | (simp only [np, nq]; omega)))).trans (qad _ _ _)
  obtain ⟨z1, z2, z3, z4, z5⟩ := hF1.all
  have hN : Nm n res ins := ⟨fun j o y h1 h2 => by
    rw [List.getD_eq_getElem?_getD, hin j o y h1 h2]; rfl, fun y hy => by
    obtain ⟨o, ho, hyo⟩ := List.mem_flatten.1 (z3 y hy)
    obtain ⟨j, hj⟩ := List.mem_iff_getElem?.1 ho
    exact ⟨j, o, hj, hyo⟩⟩
  have hL13 : res.length < 13 := by have := qry hF1; omega
  have hdn : ∀ e ∈ conM (cndP ins (qcc n ms)) res.length res.length, e.t < e.f := fun e he => (zbu hE.rng hF1 hN he).1
  generalize hes : conM (cndP ins (qcc n ms)) res.length res.length = es at *
  have hcs : ∀ ins', Nm n res ins' → qcc res.length (qjf res.length (List.replicate (res.length * res.length) 0) (conL ins' (eM n ms n))) = es := fun ins' h => (zbt h hN).trans hes
  have hEd : qgv res.length es := by rw [← hcs ins hN]; exact qte _ _
  have hld : es.length < 1000 := by rw [← hcs ins hN]; exact qor _ hL13
  have wfl : qhh wd = true := hwd.flat
  try simp (disch := first | omega | exact ti rfl | (simp only [np, nq]; first | done | omega)) only [go_sem, reduceAdd, reduceMul, reduceSub, reduceLeDiff, reduceEqDiff, reduceShiftRight, reduceAnd, m3]
  (repeat ((first | (refine qbn ?_; unfold qb1) | (refine qbm ?_; unfold qb0) | (refine qbl ?_; unfold qbz) | (refine qbk ?_; unfold qby) | (refine qbj ?_; unfold qbx) | (refine qbi ?_; unfold qbw) | (refine qbh ?_; unfold qbv) | (refine qbg ?_; unfold qbu) | (refine qbf ?_; unfold qbt) | (refine qbe ?_; unfold qbs) | (refine qbd ?_; unfold qbr) | (refine qbc ?_; unfold qbq) | (refine qbb ?_; unfold qbp) | (refine qba ?_; unfold qbo) | (refine qaz ?_; unfold qa8) | (refine qay ?_; unfold qa7) | (refine qax ?_; unfold qa6) | (refine qaw ?_; unfold qa5) | (refine qav ?_; unfold qa4) | (refine qau ?_; unfold qa3) | (refine qat ?_; unfold qa2) | (refine qas ?_; unfold qa1)); try simp (disch := first | omega | exact ti rfl | (simp only [np, nq]; first | done | omega)) only [go_sem, reduceAdd, reduceMul, reduceSub, reduceLeDiff, reduceEqDiff, reduceShiftRight, reduceAnd, m3]))
  have fc : Fm No H3 ((qan H3 (qab 0 [.int .i64 (.ofNat 0), .nilsl])).put H3.nx (qab 0 [.int .i64 (.ofNat res.length), wd])) := by (repeat (first | exact Fm.refl _ _ | assumption | refine Fm.push ?_ _ | refine Fm.up2 ?_ (by (first | omega | (simp only [np, nq]; omega))) | refine Fm.put_new ?_ _ _ (by (first | omega | (simp only [np, nq]; omega)))))
  generalize hH3' : (qan H3 (qab 0 [.int .i64 (.ofNat 0), .nilsl])).put H3.nx (qab 0 [.int .i64 (.ofNat res.length), wd]) = H3' at *
  have d3 : H3'.get H3.nx = qab 0 [.int .i64 (.ofNat res.length), wd] := by rw [← hH3', qad]
  have n3' : H3'.nx = H3.nx + 1 := by rw [← hH3']; rfl
  have hst : ({ t := H3'.t, nx := H3.nx + 1 } : Hp) = H3' := by rw [← hH3']; rfl
  rw [hst]
  have f13' := f13.trans fc
  refine Ok.deO (qia hC (k := k) (by omega) (hM.fm f13') hn13) ?_
  rintro r H4 ⟨b4, ins4, res4, hF4, hN4, hM4, f4⟩
  have hrr : res4 = res := hF4.uniq hF1
  subst hrr
  have hr4 := hM4.hv
  subst hr4
  have n4 := f4.nx
  have m4 : H4.get H1.nx = qab 0 [.int .i64 (.ofNat n), .sl mb 0 (n * n) (n * n) true] := ((fc.trans f4).keep (by omega)).trans m3
  have d4 : H4.get H3.nx = qab 0 [.int .i64 (.ofNat res4.length), wd] := (f4.keep (by omega)).trans d3
  have qd : eqF 64 (.agg [.int .i64 (.ofNat res4.length), wd]) (.agg [.int .i64 (.ofNat res4.length), wd]) = true := qtc _ (ti (by
    show ((qhh (.int .i64 (.ofNat res4.length)) && (qhh wd && true)) && Nat.blt 2 62) = true
    rw [wfl]; rfl))
  try simp (disch := first | omega | exact ti rfl | (simp only [np, nq]; first | done | omega)) only [go_sem, reduceAdd, reduceMul, reduceSub, reduceLeDiff, reduceEqDiff, reduceShiftRight, reduceAnd, m4, d4, qd, List.length_cons, List.length_nil]
  (repeat ((first | (refine qbn ?_; unfold qb1) | (refine qbm ?_; unfold qb0) | (refine qbl ?_; unfold qbz) | (refine qbk ?_; unfold qby) | (refine qbj ?_; unfold qbx) | (refine qbi ?_; unfold qbw) | (refine qbh ?_; unfold qbv) | (refine qbg ?_; unfold qbu) | (refine qbf ?_; unfold qbt) | (refine qbe ?_; unfold qbs) | (refine qbd ?_; unfold qbr) | (refine qbc ?_; unfold qbq) | (refine qbb ?_; unfold qbp) | (refine qba ?_; unfold qbo) | (refine qaz ?_; unfold qa8) | (refine qay ?_; unfold qa7) | (refine qax ?_; unfold qa6) | (refine qaw ?_; unfold qa5) | (refine qav ?_; unfold qa4) | (refine qau ?_; unfold qa3) | (refine qat ?_; unfold qa2) | (refine qas ?_; unfold qa1)); try simp (disch := first | omega | exact ti rfl | (simp only [np, nq]; first | done | omega)) only [go_sem, reduceAdd, reduceMul, reduceSub, reduceLeDiff, reduceEqDiff, reduceShiftRight, reduceAnd, m4, d4, qd, List.length_cons, List.length_nil]))
  refine Ok.deO (qqg hC (k := k) (by omega) hM4 (hcs ins4 hN4) ((hwd.fm fc).fm f4) hcd (by omega)) ?_
  rintro r H5 ⟨rfl, f5⟩
  have n5 := f5.nx
  have m5 : H5.get H1.nx = qab 0 [.int .i64 (.ofNat n), .sl mb 0 (n * n) (n * n) true] := (f5.keep (by omega)).trans m4
  have d5 : H5.get H3.nx = qab 0 [.int .i64 (.ofNat res4.length), wd] := (f5.keep (by omega)).trans d4
  try simp (disch := first | omega | exact ti rfl | (simp only [np, nq]; first | done | omega)) only [go_sem, reduceAdd, reduceMul, reduceSub, reduceLeDiff, reduceEqDiff, reduceShiftRight, reduceAnd, m5, d5, qd, List.length_cons, List.length_nil]
  (repeat ((first | (refine qbn ?_; unfold qb1) | (refine qbm ?_; unfold qb0) | (refine qbl ?_; unfold qbz) | (refine qbk ?_; unfold qby) | (refine qbj ?_; unfold qbx) | (refine qbi ?_; unfold qbw) | (refine qbh ?_; unfold qbv) | (refine qbg ?_; unfold qbu) | (refine qbf ?_; unfold qbt) | (refine qbe ?_; unfold qbs) | (refine qbd ?_; unfold qbr) | (refine qbc ?_; unfold qbq) | (refine qbb ?_; unfold qbp) | (refine qba ?_; unfold qbo) | (refine qaz ?_; unfold qa8) | (refine qay ?_; unfold qa7) | (refine qax ?_; unfold qa6) | (refine qaw ?_; unfold qa5) | (refine qav ?_; unfold qa4) | (refine qau ?_; unfold qa3) | (refine qat ?_; unfold qa2) | (refine qas ?_; unfold qa1)); try simp (disch := first | omega | exact ti rfl | (simp only [np, nq]; first | done | omega)) only [go_sem, reduceAdd, reduceMul, reduceSub, reduceLeDiff, reduceEqDiff, reduceShiftRight, reduceAnd, m5, d5, qd, List.length_cons, List.length_nil]))
  have f25 : Fm No H2 H5 := (((fb.trans f3).trans fc).trans f4).trans f5
  have f15 : Fm No H1 H5 := (fa.trans f2).trans f25
  have g5 : H5.get H2.nx = qab 0 [.int .i64 (.ofNat n), w] := (((fc.trans f4).trans f5).keep (by omega)).trans g3
  have hd5 : IsE H5 wd es := ((hwd.fm fc).fm f4).fm f5
  try simp (disch := first | omega | exact ti rfl | (simp only [np, nq]; first | done | omega)) only [go_sem, reduceAdd, reduceMul, reduceSub, reduceLeDiff, reduceEqDiff, reduceShiftRight, reduceAnd, d5]
  (repeat ((first | (refine qbn ?_; unfold qb1) | (refine qbm ?_; unfold qb0) | (refine qbl ?_; unfold qbz) | (refine qbk ?_; unfold qby) | (refine qbj ?_; unfold qbx) | (refine qbi ?_; unfold qbw) | (refine qbh ?_; unfold qbv) | (refine qbg ?_; unfold qbu) | (refine qbf ?_; unfold qbt) | (refine qbe ?_; unfold qbs) | (refine qbd ?_; unfold qbr) | (refine qbc ?_; unfold qbq) | (refine qbb ?_; unfold qbp) | (refine qba ?_; unfold qbo) | (refine qaz ?_; unfold qa8) | (refine qay ?_; unfold qa7) | (refine qax ?_; unfold qa6) | (refine qaw ?_; unfold qa5) | (refine qav ?_; unfold qa4) | (refine qau ?_; unfold qa3) | (refine qat ?_; unfold qa2) | (refine qas ?_; unfold qa1)); try simp (disch := first | omega | exact ti rfl | (simp only [np, nq]; first | done | omega)) only [go_sem, reduceAdd, reduceMul, reduceSub, reduceLeDiff, reduceEqDiff, reduceShiftRight, reduceAnd, d5]))
  refine Ok.ve (zfo hC hO hS hR (k := k) (by omega) hEd (by omega) (by omega) hd5) ?_
  rintro r H6 ⟨lv, iv, os, ins2, out, ins6, res6, rfl, hOrd, hCR, f6⟩
  have hF6 := hOrd.ord hEd.rng
  have hs6 := hF6.uniq (qrx (q7z hdn))
  subst hs6
  have n6 := f6.nx
  have d6 : H6.get H3.nx = qab 0 [.int .i64 (.ofNat res4.length), wd] := (f6.keep (by omega)).trans d5
  have es3 : ∀ x y : AV, setL [AV.nilsl, AV.nilsl] 0 [x, y] = [x, y] := fun _ _ => rfl
  have e1 := hCR.gl.lenV
  rw [hCR.len, qi4] at e1
  have e2 := hCR.gi.lenV
  try simp (disch := first | omega | exact ti rfl | (simp only [np, nq]; first | done | omega)) only [go_sem, reduceAdd, reduceMul, reduceSub, reduceLeDiff, reduceEqDiff, reduceShiftRight, reduceAnd, d6, es3, e1, e2, List.length_cons, List.length_nil]
  (repeat ((first | (refine qbn ?_; unfold qb1) | (refine qbm ?_; unfold qb0) | (refine qbl ?_; unfold qbz) | (refine qbk ?_; unfold qby) | (refine qbj ?_; unfold qbx) | (refine qbi ?_; unfold qbw) | (refine qbh ?_; unfold qbv) | (refine qbg ?_; unfold qbu) | (refine qbf ?_; unfold qbt) | (refine qbe ?_; unfold qbs) | (refine qbd ?_; unfold qbr) | (refine qbc ?_; unfold qbq) | (refine qbb ?_; unfold qbp) | (refine qba ?_; unfold qbo) | (refine qaz ?_; unfold qa8) | (refine qay ?_; unfold qa7) | (refine qax ?_; unfold qa6) | (refine qaw ?_; unfold qa5) | (refine qav ?_; unfold qa4) | (refine qau ?_; unfold qa3) | (refine qat ?_; unfold qa2) | (refine qas ?_; unfold qa1)); try simp (disch := first | omega | exact ti rfl | (simp only [np, nq]; first | done | omega)) only [go_sem, reduceAdd, reduceMul, reduceSub, reduceLeDiff, reduceEqDiff, reduceShiftRight, reduceAnd, d6, es3, e1, e2, List.length_cons, List.length_nil]))
  unfold qx7
  rw [qaq]
  have fd : Fm No H6 ((qan H6 (qab 0 [.nilsl, .nilsl])).put H6.nx (qab 0 [lv, iv])) := by (repeat (first | exact Fm.refl _ _ | assumption | refine Fm.push ?_ _ | refine Fm.up2 ?_ (by (first | omega | (simp only [np, nq]; omega))) | refine Fm.put_new ?_ _ _ (by (first | omega | (simp only [np, nq]; omega)))))
  refine qv6 hC hO hS hR (k0 := k) (by omega) hEd (by omega) (by omega) hdn ((fd.keep (by omega)).trans d6) (by (first | omega | (simp only [np, nq]; omega))) (qad _ _ _) (by (first | omega | (simp only [np, nq]; omega))) ((hd5.fm f6).fm fd) (hCR.gi.no fd) (fun x hx => hCR.ins x [x] x (by unfold qg2; rw [List.getElem?_map, List.getElem?_range hx]; rfl) (List.mem_singleton.2 rfl)) (fun H7 f7 => ?_) qam 0 _ (by rw [qai]; omega) (Nat.zero_le _) (Fm.refl _ _)
  have f57 : Fm No H5 H7 := (f6.trans fd).trans f7
  have n57 := f57.nx
  have d7 : H7.get H3.nx = qab 0 [.int .i64 (.ofNat res4.length), wd] := (f57.keep (by omega)).trans d5
  have g7 : H7.get H2.nx = qab 0 [.int .i64 (.ofNat n), w] := (f57.keep (by omega)).trans g5
  have m7 : H7.get H1.nx = qab 0 [.int .i64 (.ofNat n), .sl mb 0 (n * n) (n * n) true] := (f57.keep (by omega)).trans m5
  try simp (disch := first | omega | exact ti rfl | (simp only [np, nq]; first | done | omega)) only [go_sem, reduceAdd, reduceMul, reduceSub, reduceLeDiff, reduceEqDiff, reduceShiftRight, reduceAnd, d7]
  (repeat ((first | (refine qbn ?_; unfold qb1) | (refine qbm ?_; unfold qb0) | (refine qbl ?_; unfold qbz) | (refine qbk ?_; unfold qby) | (refine qbj ?_; unfold qbx) | (refine qbi ?_; unfold qbw) | (refine qbh ?_; unfold qbv) | (refine qbg ?_; unfold qbu) | (refine qbf ?_; unfold qbt) | (refine qbe ?_; unfold qbs) | (refine qbd ?_; unfold qbr) | (refine qbc ?_; unfold qbq) | (refine qbb ?_; unfold qbp) | (refine qba ?_; unfold qbo) | (refine qaz ?_; unfold qa8) | (refine qay ?_; unfold qa7) | (refine qax ?_; unfold qa6) | (refine qaw ?_; unfold qa5) | (refine qav ?_; unfold qa4) | (refine qau ?_; unfold qa3) | (refine qat ?_; unfold qa2) | (refine qas ?_; unfold qa1)); try simp (disch := first | omega | exact ti rfl | (simp only [np, nq]; first | done | omega)) only [go_sem, reduceAdd, reduceMul, reduceSub, reduceLeDiff, reduceEqDiff, reduceShiftRight, reduceAnd, d7]))
  refine Ok.ve (qpb hC hO hS hR (k := k) (by omega) hEd (by omega) (by omega) (hd5.fm f57)) ?_
  rintro r H8 ⟨w8, res8, ins8, rfl, hF8, hin8, hw8, hc8, f8⟩
  have hs8 := hF8.uniq (qrx (q7z hdn))
  subst hs8
  have hag : conM (cndP ins8 es) (qg2 res4.length).length (qg2 res4.length).length = es := by
    rw [qi4, ← hes]
    refine q75 (fun x hx => ?_) fun x hx => ?_
    · rw [List.getD_eq_getElem?_getD, hin8 x [x] x (by unfold qg2; rw [List.getElem?_map, List.getElem?_range hx]; rfl) (List.mem_singleton.2 rfl)]; rfl
    · exact (qtj.1 hx).1
  rw [hag] at hw8 hc8
  have n8 := f8.nx
  have g8 : H8.get H2.nx = qab 0 [.int .i64 (.ofNat n), w] := (f8.keep (by omega)).trans g7
  have fe : Fm No H8 ((qan H8 (qab 0 [.int .i64 (.ofNat 0), .nilsl])).put H8.nx (qab 0 [.int .i64 (.ofNat res4.length), w8])) := by (repeat (first | exact Fm.refl _ _ | assumption | refine Fm.push ?_ _ | refine Fm.up2 ?_ (by (first | omega | (simp only [np, nq]; omega))) | refine Fm.put_new ?_ _ _ (by (first | omega | (simp only [np, nq]; omega)))))
  rw [qi4]
  try simp (disch := first | omega | exact ti rfl | (simp only [np, nq]; first | done | omega)) only [go_sem, reduceAdd, reduceMul, reduceSub, reduceLeDiff, reduceEqDiff, reduceShiftRight, reduceAnd, g8]
  (repeat ((first | (refine qbn ?_; unfold qb1) | (refine qbm ?_; unfold qb0) | (refine qbl ?_; unfold qbz) | (refine qbk ?_; unfold qby) | (refine qbj ?_; unfold qbx) | (refine qbi ?_; unfold qbw) | (refine qbh ?_; unfold qbv) | (refine qbg ?_; unfold qbu) | (refine qbf ?_; unfold qbt) | (refine qbe ?_; unfold qbs) | (refine qbd ?_; unfold qbr) | (refine qbc ?_; unfold qbq) | (refine qbb ?_; unfold qbp) | (refine qba ?_; unfold qbo) | (refine qaz ?_; unfold qa8) | (refine qay ?_; unfold qa7) | (refine qax ?_; unfold qa6) | (refine qaw ?_; unfold qa5) | (refine qav ?_; unfold qa4) | (refine qau ?_; unfold qa3) | (refine qat ?_; unfold qa2) | (refine qas ?_; unfold qa1)); try simp (disch := first | omega | exact ti rfl | (simp only [np, nq]; first | done | omega)) only [go_sem, reduceAdd, reduceMul, reduceSub, reduceLeDiff, reduceEqDiff, reduceShiftRight, reduceAnd, g8]))
  generalize hH8' : (qan H8 (qab 0 [.int .i64 (.ofNat 0), .nilsl])).put H8.nx (qab 0 [.int .i64 (.ofNat res4.length), w8]) = H8' at *
  have d8 : H8'.get H8.nx = qab 0 [.int .i64 (.ofNat res4.length), w8] := by rw [← hH8', qad]
  have n8' : H8'.nx = H8.nx + 1 := by rw [← hH8']; rfl
  have f58 : Fm No H5 H8' := (f57.trans f8).trans fe
  refine Ok.ve (qwj hC hO hS hR (k := k) (by omega) hE (by omega) (by omega) (((GlE.isE (Gl.no hG f25)).fm f58)) z) ?_
  rintro r H9 ⟨resS, hFS, f9, hq9⟩
  have hsS := hFS.uniq hF1
  subst hsS
  have n9 := f9.nx
  have f59 := f58.trans f9
  have m9 : H9.get H1.nx = qab 0 [.int .i64 (.ofNat n), .sl mb 0 (n * n) (n * n) true] := (f59.keep (by omega)).trans m5
  obtain ⟨bb, ff, hr9, hcase⟩ : ∃ (bb : Bool) (ff : Nat), r = .tup [.bool bb, .int .i64 (.ofNat ff)] ∧ ((z < Int.ofNat 0 ∨ Int.ofNat resS.length ≤ z) ∧ bb = false ∧ ff = 4 ∨ ∃ (i : Nat) (o : List Nat), z = Int.ofNat i ∧ resS[i]? = some o ∧ bb = simP (qcc n ms) o ∧ ff = 0) := by
    rcases hq9 with ⟨h1, h2⟩ | ⟨i, o, h1, h2, h3⟩
    · exact ⟨_, _, h2, Or.inl ⟨h1, rfl, rfl⟩⟩
    · exact ⟨_, _, h3, Or.inr ⟨i, o, h1, h2, rfl, rfl⟩⟩
  subst hr9
  clear hq9
  try simp (disch := first | omega | exact ti rfl | (simp only [np, nq]; first | done | omega)) only [go_sem, reduceAdd, reduceMul, reduceSub, reduceLeDiff, reduceEqDiff, reduceShiftRight, reduceAnd, m9]
  (repeat ((first | (refine qbn ?_; unfold qb1) | (refine qbm ?_; unfold qb0) | (refine qbl ?_; unfold qbz) | (refine qbk ?_; unfold qby) | (refine qbj ?_; unfold qbx) | (refine qbi ?_; unfold qbw) | (refine qbh ?_; unfold qbv) | (refine qbg ?_; unfold qbu) | (refine qbf ?_; unfold qbt) | (refine qbe ?_; unfold qbs) | (refine qbd ?_; unfold qbr) | (refine qbc ?_; unfold qbq) | (refine qbb ?_; unfold qbp) | (refine qba ?_; unfold qbo) | (refine qaz ?_; unfold qa8) | (refine qay ?_; unfold qa7) | (refine qax ?_; unfold qa6) | (refine qaw ?_; unfold qa5) | (refine qav ?_; unfold qa4) | (refine qau ?_; unfold qa3) | (refine qat ?_; unfold qa2) | (refine qas ?_; unfold qa1)); try simp (disch := first | omega | exact ti rfl | (simp only [np, nq]; first | done | omega)) only [go_sem, reduceAdd, reduceMul, reduceSub, reduceLeDiff, reduceEqDiff, reduceShiftRight, reduceAnd, m9]))
  refine Ok.ve (qz4 hC (k := k) (by omega) (hM.fm ((f15.trans f59))) hn13) ?_
  rintro r H10 ⟨lr, nb, insR, cs, res10, H0, rfl, fR, hRI, hF10, _⟩
  have hs10 := hF10.uniq hF1
  subst hs10
  have f10 : Fm No H9 H10 := fR.trans hRI.fm
  have n10 := f10.nx
  have m10 : H10.get H1.nx = qab 0 [.int .i64 (.ofNat n), .sl mb 0 (n * n) (n * n) true] := (f10.keep (by omega)).trans m9
  have d10 : H10.get H8.nx = qab 0 [.int .i64 (.ofNat res10.length), w8] := ((f9.trans f10).keep (by omega)).trans d8
  have hw10 : IsE H10 w8 es := ((IsE.fm hw8 fe).fm f9).fm f10
  have wf8 : qhh w8 = true := hw8.flat
  have qe : eqF 64 (.agg [.int .i64 (.ofNat res10.length), w8]) (.agg [.int .i64 (.ofNat res10.length), w8]) = true := qtc _ (ti (by
    show ((qhh (.int .i64 (.ofNat res10.length)) && (qhh w8 && true)) && Nat.blt 2 62) = true
    rw [wf8]; rfl))
  try simp (disch := first | omega | exact ti rfl | (simp only [np, nq]; first | done | omega)) only [go_sem, reduceAdd, reduceMul, reduceSub, reduceLeDiff, reduceEqDiff, reduceShiftRight, reduceAnd, m10, d10, List.length_cons, List.length_nil]
  (repeat ((first | (refine qbn ?_; unfold qb1) | (refine qbm ?_; unfold qb0) | (refine qbl ?_; unfold qbz) | (refine qbk ?_; unfold qby) | (refine qbj ?_; unfold qbx) | (refine qbi ?_; unfold qbw) | (refine qbh ?_; unfold qbv) | (refine qbg ?_; unfold qbu) | (refine qbf ?_; unfold qbt) | (refine qbe ?_; unfold qbs) | (refine qbd ?_; unfold qbr) | (refine qbc ?_; unfold qbq) | (refine qbb ?_; unfold qbp) | (refine qba ?_; unfold qbo) | (refine qaz ?_; unfold qa8) | (refine qay ?_; unfold qa7) | (refine qax ?_; unfold qa6) | (refine qaw ?_; unfold qa5) | (refine qav ?_; unfold qa4) | (refine qau ?_; unfold qa3) | (refine qat ?_; unfold qa2) | (refine qas ?_; unfold qa1)); try simp (disch := first | omega | exact ti rfl | (simp only [np, nq]; first | done | omega)) only [go_sem, reduceAdd, reduceMul, reduceSub, reduceLeDiff, reduceEqDiff, reduceShiftRight, reduceAnd, m10, d10, List.length_cons, List.length_nil]))
  have f1X : Fm No H1 H10 := (f15.trans f59).trans f10
  refine Ok.deO (qia hC (k := k) (by omega) (hM.fm f1X) hn13) ?_
  rintro r H11 ⟨b11, ins11, res11, hF11, hN11, hM11, f11⟩
  have hrr := hF11.uniq hF1
  subst hrr
  have hr11 := hM11.hv
  subst hr11
  have f11 : Fm No H10 H11 := f11
  have n11 := f11.nx
  have m11 : H11.get H1.nx = qab 0 [.int .i64 (.ofNat n), .sl mb 0 (n * n) (n * n) true] := (f11.keep (by omega)).trans m10
  have d11 : H11.get H8.nx = qab 0 [.int .i64 (.ofNat res11.length), w8] := (f11.keep (by omega)).trans d10
  try simp (disch := first | omega | exact ti rfl | (simp only [np, nq]; first | done | omega)) only [go_sem, reduceAdd, reduceMul, reduceSub, reduceLeDiff, reduceEqDiff, reduceShiftRight, reduceAnd, m11, d11, qe, List.length_cons, List.length_nil]
  (repeat ((first | (refine qbn ?_; unfold qb1) | (refine qbm ?_; unfold qb0) | (refine qbl ?_; unfold qbz) | (refine qbk ?_; unfold qby) | (refine qbj ?_; unfold qbx) | (refine qbi ?_; unfold qbw) | (refine qbh ?_; unfold qbv) | (refine qbg ?_; unfold qbu) | (refine qbf ?_; unfold qbt) | (refine qbe ?_; unfold qbs) | (refine qbd ?_; unfold qbr) | (refine qbc ?_; unfold qbq) | (refine qbb ?_; unfold qbp) | (refine qba ?_; unfold qbo) | (refine qaz ?_; unfold qa8) | (refine qay ?_; unfold qa7) | (refine qax ?_; unfold qa6) | (refine qaw ?_; unfold qa5) | (refine qav ?_; unfold qa4) | (refine qau ?_; unfold qa3) | (refine qat ?_; unfold qa2) | (refine qas ?_; unfold qa1)); try simp (disch := first | omega | exact ti rfl | (simp only [np, nq]; first | done | omega)) only [go_sem, reduceAdd, reduceMul, reduceSub, reduceLeDiff, reduceEqDiff, reduceShiftRight, reduceAnd, m11, d11, qe, List.length_cons, List.length_nil]))
  refine Ok.deO (qqg hC (k := k) (by omega) hM11 (hcs ins11 hN11) (hw10.fm f11) hc8 (by omega)) ?_
  rintro r H12 ⟨rfl, f12⟩
  have n12 := f12.nx
  have m12 : H12.get H1.nx = qab 0 [.int .i64 (.ofNat n), .sl mb 0 (n * n) (n * n) true] := (f12.keep (by omega)).trans m11
  have d12 : H12.get H8.nx = qab 0 [.int .i64 (.ofNat res11.length), w8] := (f12.keep (by omega)).trans d11
  try simp (disch := first | omega | exact ti rfl | (simp only [np, nq]; first | done | omega)) only [go_sem, reduceAdd, reduceMul, reduceSub, reduceLeDiff, reduceEqDiff, reduceShiftRight, reduceAnd, m12, d12, qe, List.length_cons, List.length_nil]
  (repeat ((first | (refine qbn ?_; unfold qb1) | (refine qbm ?_; unfold qb0) | (refine qbl ?_; unfold qbz) | (refine qbk ?_; unfold qby) | (refine qbj ?_; unfold qbx) | (refine qbi ?_; unfold qbw) | (refine qbh ?_; unfold qbv) | (refine qbg ?_; unfold qbu) | (refine qbf ?_; unfold qbt) | (refine qbe ?_; unfold qbs) | (refine qbd ?_; unfold qbr) | (refine qbc ?_; unfold qbq) | (refine qbb ?_; unfold qbp) | (refine qba ?_; unfold qbo) | (refine qaz ?_; unfold qa8) | (refine qay ?_; unfold qa7) | (refine qax ?_; unfold qa6) | (refine qaw ?_; unfold qa5) | (refine qav ?_; unfold qa4) | (refine qau ?_; unfold qa3) | (refine qat ?_; unfold qa2) | (refine qas ?_; unfold qa1)); try simp (disch := first | omega | exact ti rfl | (simp only [np, nq]; first | done | omega)) only [go_sem, reduceAdd, reduceMul, reduceSub, reduceLeDiff, reduceEqDiff, reduceShiftRight, reduceAnd, m12, d12, qe, List.length_cons, List.length_nil]))
  have hLs := hRI.ls.no (f11.trans f12)
  have hlr := hLs.gl.lenV
  have hcl := hLs.len
  rw [hcl] at hlr
  have hlv := hlive k H12 (by omega)
  rcases hcase with ⟨h1, rfl, rfl⟩ | ⟨i, o, rfl, h2, rfl, rfl⟩
  · by_cases hz : z < Int.ofNat 0
    · try simp (disch := first | omega | exact ti rfl | (simp only [np, nq]; first | done | omega)) only [go_sem, reduceAdd, reduceMul, reduceSub, reduceLeDiff, reduceEqDiff, reduceShiftRight, reduceAnd, hz, hlv]
      (repeat ((first | (refine qbn ?_; unfold qb1) | (refine qbm ?_; unfold qb0) | (refine qbl ?_; unfold qbz) | (refine qbk ?_; unfold qby) | (refine qbj ?_; unfold qbx) | (refine qbi ?_; unfold qbw) | (refine qbh ?_; unfold qbv) | (refine qbg ?_; unfold qbu) | (refine qbf ?_; unfold qbt) | (refine qbe ?_; unfold qbs) | (refine qbd ?_; unfold qbr) | (refine qbc ?_; unfold qbq) | (refine qbb ?_; unfold qbp) | (refine qba ?_; unfold qbo) | (refine qaz ?_; unfold qa8) | (refine qay ?_; unfold qa7) | (refine qax ?_; unfold qa6) | (refine qaw ?_; unfold qa5) | (refine qav ?_; unfold qa4) | (refine qau ?_; unfold qa3) | (refine qat ?_; unfold qa2) | (refine qas ?_; unfold qa1)); try simp (disch := first | omega | exact ti rfl | (simp only [np, nq]; first | done | omega)) only [go_sem, reduceAdd, reduceMul, reduceSub, reduceLeDiff, reduceEqDiff, reduceShiftRight, reduceAnd, hz, hlv]))
      exact Ok.ret rfl
    · obtain ⟨i, rfl⟩ : ∃ i : Nat, z = Int.ofNat i := ⟨z.toNat, by simp only [Int.ofNat_eq_natCast] at hz ⊢; omega⟩
      have hi : res11.length ≤ i := by
        rcases h1 with h1 | h1
        · exact absurd h1 hz
        · simp only [Int.ofNat_eq_natCast] at h1; omega
      try simp (disch := first | omega | exact ti rfl | (simp only [np, nq]; first | done | omega)) only [go_sem, reduceAdd, reduceMul, reduceSub, reduceLeDiff, reduceEqDiff, reduceShiftRight, reduceAnd, hlr, hi, Nat.not_lt_zero, hlv]
      (repeat ((first | (refine qbn ?_; unfold qb1) | (refine qbm ?_; unfold qb0) | (refine qbl ?_; unfold qbz) | (refine qbk ?_; unfold qby) | (refine qbj ?_; unfold qbx) | (refine qbi ?_; unfold qbw) | (refine qbh ?_; unfold qbv) | (refine qbg ?_; unfold qbu) | (refine qbf ?_; unfold qbt) | (refine qbe ?_; unfold qbs) | (refine qbd ?_; unfold qbr) | (refine qbc ?_; unfold qbq) | (refine qbb ?_; unfold qbp) | (refine qba ?_; unfold qbo) | (refine qaz ?_; unfold qa8) | (refine qay ?_; unfold qa7) | (refine qax ?_; unfold qa6) | (refine qaw ?_; unfold qa5) | (refine qav ?_; unfold qa4) | (refine qau ?_; unfold qa3) | (refine qat ?_; unfold qa2) | (refine qas ?_; unfold qa1)); try simp (disch := first | omega | exact ti rfl | (simp only [np, nq]; first | done | omega)) only [go_sem, reduceAdd, reduceMul, reduceSub, reduceLeDiff, reduceEqDiff, reduceShiftRight, reduceAnd, hlr, hi, Nat.not_lt_zero, hlv]))
      exact Ok.ret rfl
  · have hi := (List.getElem?_eq_some_iff.1 h2).1
    have hi' : ¬ res11.length ≤ i := by omega
    try simp (disch := first | omega | exact ti rfl | (simp only [np, nq]; first | done | omega)) only [go_sem, reduceAdd, reduceMul, reduceSub, reduceLeDiff, reduceEqDiff, reduceShiftRight, reduceAnd, hlr, hi', Nat.not_lt_zero]
    (repeat ((first | (refine qbn ?_; unfold qb1) | (refine qbm ?_; unfold qb0) | (refine qbl ?_; unfold qbz) | (refine qbk ?_; unfold qby) | (refine qbj ?_; unfold qbx) | (refine qbi ?_; unfold qbw) | (refine qbh ?_; unfold qbv) | (refine qbg ?_; unfold qbu) | (refine qbf ?_; unfold qbt) | (refine qbe ?_; unfold qbs) | (refine qbd ?_; unfold qbr) | (refine qbc ?_; unfold qbq) | (refine qbb ?_; unfold qbp) | (refine qba ?_; unfold qbo) | (refine qaz ?_; unfold qa8) | (refine qay ?_; unfold qa7) | (refine qax ?_; unfold qa6) | (refine qaw ?_; unfold qa5) | (refine qav ?_; unfold qa4) | (refine qau ?_; unfold qa3) | (refine qat ?_; unfold qa2) | (refine qas ?_; unfold qa1)); try simp (disch := first | omega | exact ti rfl | (simp only [np, nq]; first | done | omega)) only [go_sem, reduceAdd, reduceMul, reduceSub, reduceLeDiff, reduceEqDiff, reduceShiftRight, reduceAnd, hlr, hi', Nat.not_lt_zero]))
    obtain ⟨b1, o1, e1, e2, _, e3⟩ := hLs.gl.at (i := i) (x := cs[i]'(by omega)) (by simp)
    obtain ⟨_, k2, _⟩ := hLs.at' i (cs[i]'(by omega)) o (by simp) h2
    generalize cs[i]'(by omega) = y at *
    have hne := z4 o (List.mem_of_getElem? h2)
    obtain ⟨x, t, rfl⟩ : ∃ x t, o = x :: t := by
      cases o with
      | nil => exact absurd rfl hne
      | cons x t => exact ⟨x, t, rfl⟩
    have hxn : x < n := z2 x (List.mem_flatten.2 ⟨_, List.mem_of_getElem? h2, List.mem_cons_self⟩)
    obtain ⟨b2, o2, e4, e5, _, e6⟩ := k2.at (i := 0) (x := .int .i64 (.ofNat x)) rfl
    have el := k2.lenV
    have i1 : x * n + x < n * n := qem hxn hxn
    have m1 : x * n ≤ 12 * 12 := Nat.mul_le_mul (by omega) (by omega)
    have hml := hM.ok.len
    have v1 : (nats ms)[x * n + x]? = some (.int .i64 (.ofNat (ms.getD (x * n + x) 0))) := by
      unfold nats
      rw [List.getElem?_map, List.getD_eq_getElem?_getD, List.getElem?_eq_getElem (by omega)]; rfl
    have gm : H12.get mb = qab 0 (nats ms) := ((f1X.trans f11).trans f12).keep hM.lt |>.trans hM.get
    have hown : simP (qcc n ms) (x :: t) = (decide ((x :: t).length = 1) && !decide (0 < ms.getD (x * n + x) 0)) := by
      unfold simP
      rw [List.headD_cons, zd4 hxn]
    rw [hown]
    generalize (x :: t).length = q at *
    have qb : ∀ b : Bool, qj1 false (qgz (.bool b) (.bool b)) = .val (.bool true) := fun b => by cases b <;> rfl
    by_cases h3 : q = 1
    · by_cases h4 : 0 < ms.getD (x * n + x) 0
      · try simp (disch := first | omega | exact ti rfl | (simp only [np, nq]; first | done | omega)) only [go_sem, reduceAdd, reduceMul, reduceSub, reduceLeDiff, reduceEqDiff, reduceShiftRight, reduceAnd, m12, e1, e3, e4, e6, el, gm, v1, h3, h4, hlv, qb, Bool.false_and, Nat.mul_one, Nat.zero_add]
        (repeat ((first | (refine qbn ?_; unfold qb1) | (refine qbm ?_; unfold qb0) | (refine qbl ?_; unfold qbz) | (refine qbk ?_; unfold qby) | (refine qbj ?_; unfold qbx) | (refine qbi ?_; unfold qbw) | (refine qbh ?_; unfold qbv) | (refine qbg ?_; unfold qbu) | (refine qbf ?_; unfold qbt) | (refine qbe ?_; unfold qbs) | (refine qbd ?_; unfold qbr) | (refine qbc ?_; unfold qbq) | (refine qbb ?_; unfold qbp) | (refine qba ?_; unfold qbo) | (refine qaz ?_; unfold qa8) | (refine qay ?_; unfold qa7) | (refine qax ?_; unfold qa6) | (refine qaw ?_; unfold qa5) | (refine qav ?_; unfold qa4) | (refine qau ?_; unfold qa3) | (refine qat ?_; unfold qa2) | (refine qas ?_; unfold qa1)); try simp (disch := first | omega | exact ti rfl | (simp only [np, nq]; first | done | omega)) only [go_sem, reduceAdd, reduceMul, reduceSub, reduceLeDiff, reduceEqDiff, reduceShiftRight, reduceAnd, m12, e1, e3, e4, e6, el, gm, v1, h3, h4, hlv, qb, Bool.false_and, Nat.mul_one, Nat.zero_add]))
        exact Ok.ret rfl
      · try simp (disch := first | omega | exact ti rfl | (simp only [np, nq]; first | done | omega)) only [go_sem, reduceAdd, reduceMul, reduceSub, reduceLeDiff, reduceEqDiff, reduceShiftRight, reduceAnd, m12, e1, e3, e4, e6, el, gm, v1, h3, h4, hlv, qb, Bool.false_and, Nat.mul_one, Nat.zero_add]
        (repeat ((first | (refine qbn ?_; unfold qb1) | (refine qbm ?_; unfold qb0) | (refine qbl ?_; unfold qbz) | (refine qbk ?_; unfold qby) | (refine qbj ?_; unfold qbx) | (refine qbi ?_; unfold qbw) | (refine qbh ?_; unfold qbv) | (refine qbg ?_; unfold qbu) | (refine qbf ?_; unfold qbt) | (refine qbe ?_; unfold qbs) | (refine qbd ?_; unfold qbr) | (refine qbc ?_; unfold qbq) | (refine qbb ?_; unfold qbp) | (refine qba ?_; unfold qbo) | (refine qaz ?_; unfold qa8) | (refine qay ?_; unfold qa7) | (refine qax ?_; unfold qa6) | (refine qaw ?_; unfold qa5) | (refine qav ?_; unfold qa4) | (refine qau ?_; unfold qa3) | (refine qat ?_; unfold qa2) | (refine qas ?_; unfold qa1)); try simp (disch := first | omega | exact ti rfl | (simp only [np, nq]; first | done | omega)) only [go_sem, reduceAdd, reduceMul, reduceSub, reduceLeDiff, reduceEqDiff, reduceShiftRight, reduceAnd, m12, e1, e3, e4, e6, el, gm, v1, h3, h4, hlv, qb, Bool.false_and, Nat.mul_one, Nat.zero_add]))
        exact Ok.ret rfl
    · try simp (disch := first | omega | exact ti rfl | (simp only [np, nq]; first | done | omega)) only [go_sem, reduceAdd, reduceMul, reduceSub, reduceLeDiff, reduceEqDiff, reduceShiftRight, reduceAnd, m12, e1, e3, e4, e6, el, gm, v1, h3, hlv, qb, Bool.false_and, Nat.mul_one, Nat.zero_add]
      (repeat ((first | (refine qbn ?_; unfold qb1) | (refine qbm ?_; unfold qb0) | (refine qbl ?_; unfold qbz) | (refine qbk ?_; unfold qby) | (refine qbj ?_; unfold qbx) | (refine qbi ?_; unfold qbw) | (refine qbh ?_; unfold qbv) | (refine qbg ?_; unfold qbu) | (refine qbf ?_; unfold qbt) | (refine qbe ?_; unfold qbs) | (refine qbd ?_; unfold qbr) | (refine qbc ?_; unfold qbq) | (refine qbb ?_; unfold qbp) | (refine qba ?_; unfold qbo) | (refine qaz ?_; unfold qa8) | (refine qay ?_; unfold qa7) | (refine qax ?_; unfold qa6) | (refine qaw ?_; unfold qa5) | (refine qav ?_; unfold qa4) | (refine qau ?_; unfold qa3) | (refine qat ?_; unfold qa2) | (refine qas ?_; unfold qa1)); try simp (disch := first | omega | exact ti rfl | (simp only [np, nq]; first | done | omega)) only [go_sem, reduceAdd, reduceMul, reduceSub, reduceLeDiff, reduceEqDiff, reduceShiftRight, reduceAnd, m12, e1, e3, e4, e6, el, gm, v1, h3, hlv, qb, Bool.false_and, Nat.mul_one, Nat.zero_add]))
      exact Ok.ret rfl
end Go.Di
end
