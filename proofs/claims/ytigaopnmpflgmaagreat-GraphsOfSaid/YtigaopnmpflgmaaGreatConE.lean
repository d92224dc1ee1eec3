/-
 For GraphsOf: functions in direct style, their contracts, and the plain mathematics, part 5 of 6. No conditions beyond those that each theorem states.
-/
import Derived.Test.YtigaopnmpflgmaaGreatConD
set_option linter.unusedSimpArgs false
set_option linter.unusedVariables false
open Nat (reduceAdd reduceMul reduceSub reduceLeDiff reduceEqDiff reduceShiftRight reduceAnd)
section
namespace Go.Di
open Go.Ev
variable {C : Nat → Ev.Call}
theorem q83 (e : AV → AV → Option Bool) (k : AV) (i : Nat) : qio e k [] i = some none := rfl
theorem q3j (e : AV → AV → Option Bool) (k : AV) (x : Ent) (es : List Ent) (i : Nat) : qio e k (x :: es) i = match e k x.key with | some true => some (some ⟨i, x⟩) | some false => qio e k es (i + 1) | none => none := rfl
def eqPr : AV → AV → Option Bool := qcd (eqFields [(p1, ⟨qbj⟩, 0), (p1, ⟨qbj⟩, 1)])
theorem qrq (s t : SS) : qbj s.v t.v = some (decide (s = t)) := by
 show some (Nat.beq s.n t.n && Nat.beq s.a t.a) = _
 rw [beq_eq, beq_eq, ← Bool.decide_and]
 congr 1
 exact decide_eq_decide.2 (qde s t).symm
theorem q88 (p q : SS × SS) : eqPr (.agg (pC p)) (.agg (pC q)) = some (decide (p = q)) := by
 show andThen (qbj p.1.v q.1.v) (andThen (qbj p.2.v q.2.v) (some true)) = _
 rw [qrq, qrq]
 obtain ⟨a, b⟩ := p
 obtain ⟨c, d⟩ := q
 by_cases h1 : a = c
 ·by_cases h2 : b = d
  ·simp [h1, h2, andThen]
  ·simp [h1, h2, andThen]
 ·simp [h1, andThen]
theorem qro {α : Type} [DecidableEq α] {e : AV → AV → Option Bool} {ky : α → AV} (he : ∀ p q, e (ky p) (ky q) = some (decide (p = q))) (p : α) : ∀ (es : List Ent) (ps : List α) (i : Nat), es.map Ent.key = ps.map ky →
  (p ∉ ps → qio e (ky p) es i = some none) ∧ (p ∈ ps → ∃ x, es[ps.findIdx fun q => decide (q = p)]? = some x ∧ qio e (ky p) es i = some (some ⟨i + ps.findIdx (fun q => decide (q = p)), x⟩))
 | [], [], i, _ => ⟨fun _ => q83 _ _ _, fun h => by cases h⟩
 | [], _ :: _, _, h => by cases h
 | _ :: _, [], _, h => by cases h
 | x :: es, q :: ps, i, h => by
  rw [List.map_cons, List.map_cons] at h
  injection h with h1 h2
  obtain ⟨i1, i2⟩ := qro he p es ps (i + 1) h2
  rw [q3j, h1, he]
  by_cases hpq : p = q
  ·subst hpq
   refine ⟨fun h => absurd List.mem_cons_self h, fun _ => ⟨x, ?_, ?_⟩⟩
   ·simp [List.findIdx_cons]
   ·simp [List.findIdx_cons]
  ·have hqp : ¬ q = p := fun h => hpq h.symm
   refine ⟨fun h => ?_, fun h => ?_⟩
   ·simp only [hpq, decide_false]
    exact i1 fun h' => h (List.mem_cons_of_mem _ h')
   ·have h' : p ∈ ps := by
     rcases List.mem_cons.1 h with h | h
     ·exact absurd h hpq
     ·exact h
    obtain ⟨y, y1, y2⟩ := i2 h'
    refine ⟨y, ?_, ?_⟩
    ·simp [List.findIdx_cons, hqp]; exact y1
    ·simp only [hpq, decide_false]
     rw [y2]
     simp only [List.findIdx_cons, hqp, decide_false, cond_false]
     congr 3; omega
structure MapI {α : Type} (ky : α → AV) (vl : Nat → Nat) (H : Hp) (b : Nat) (ps : List α) : Prop where
 ex : ∃ es c, H.get b = .map es c ∧ es.map Ent.key = ps.map ky ∧ es.map Ent.val = (List.range ps.length).map fun i => .int .i64 (.ofNat (vl i))
theorem MapI.eq {α : Type} {ky : α → AV} {vl : Nat → Nat} {H H' : Hp} {b : Nat} {ps : List α} (h : MapI ky vl H b ps) (e : H'.get b = H.get b) : MapI ky vl H' b ps := by
 obtain ⟨es, c, h1, h2, h3⟩ := h.ex
 exact ⟨es, c, e.trans h1, h2, h3⟩
theorem MapI.len {α : Type} {ky : α → AV} {vl : Nat → Nat} {H : Hp} {b : Nat} {ps : List α} (h : MapI ky vl H b ps) : lenM H (.map b) = .val (.int .i64 (.ofNat ps.length)) := by
 obtain ⟨es, c, h1, h2, h3⟩ := h.ex
 have hl : es.length = ps.length := by have := congrArg List.length h2; simpa using this
 show (match H.get b with | .map es _ => R0.val (i64 es.length) | _ => .bad) = _
 rw [h1, ← hl]; rfl
theorem MapI.look {α : Type} [DecidableEq α] {ky : α → AV} {vl : Nat → Nat} {H : Hp} {b : Nat} {ps : List α} (h : MapI ky vl H b ps) {e : AV → AV → Option Bool} {s : Option Nat} (he : ∀ p q, e (ky p) (ky q) = some (decide (p = q))) (hs : ∀ p, qhz s (ky p) = true) (z : AV) (ok : Bool) (p : α) :
  qeh ⟨e, s⟩ z ok H (.map b) (ky p) = if p ∈ ps then .val (bif ok then .tup [.int .i64 (.ofNat (vl (ps.findIdx fun q => decide (q = p)))), .bool true] else .int .i64 (.ofNat (vl (ps.findIdx fun q => decide (q = p))))) else .val (bif ok then .tup [z, .bool false] else z) := by
 obtain ⟨es, c, h1, h2, h3⟩ := h.ex
 obtain ⟨g1, g2⟩ := qro he p es ps 0 h2
 show (match (match H.get b with | .map es _ => some es | _ => none) with | some es => zit ok z (bif qhz s (ky p) then qio e (ky p) es 0 else none) | none => .bad) = _
 rw [h1, hs]
 simp only [cond_true]
 by_cases hp : p ∈ ps
 ·rw [if_pos hp]
  obtain ⟨x, x1, x2⟩ := g2 hp
  rw [x2]
  have hv : x.val = .int .i64 (.ofNat (vl (ps.findIdx fun q => decide (q = p)))) := by
   have hlt : (ps.findIdx fun q => decide (q = p)) < ps.length := by rw [List.findIdx_lt_length]; exact ⟨p, hp, by simp⟩
   have h4 : (es.map Ent.val)[ps.findIdx fun q => decide (q = p)]? = some x.val := by rw [List.getElem?_map, x1]; rfl
   rw [h3, List.getElem?_map, List.getElem?_eq_getElem (by simpa using hlt)] at h4
   simp at h4
   exact h4.symm
  show R0.val (bif ok then .tup [x.val, .bool true] else x.val) = _
  rw [hv]
 ·rw [if_neg hp, g1 hp]; rfl
theorem MapI.upd {α : Type} [DecidableEq α] {ky : α → AV} {vl : Nat → Nat} {H : Hp} {b : Nat} {ps : List α} (h : MapI ky vl H b ps) {e : AV → AV → Option Bool} {s : Option Nat} (he : ∀ p q, e (ky p) (ky q) = some (decide (p = q))) (hs : ∀ p, qhz s (ky p) = true) {p : α} (hp : p ∉ ps) :
  ∃ k, updV ⟨e, s⟩ H (.map b) (ky p) (.int .i64 (.ofNat (vl ps.length))) = .ok .undef (H.put b k) ∧ MapI ky vl (H.put b k) b (ps ++ [p]) := by
 obtain ⟨es, c, h1, h2, h3⟩ := h.ex
 obtain ⟨g1, _⟩ := qro he p es ps 0 h2
 refine ⟨.map (es ++ [⟨ky p, .int .i64 (.ofNat (vl ps.length)), c⟩]) (c + 1), ?_, ⟨_, _, qam _ _ _, ?_, ?_⟩⟩
 ·have hf : qrp ⟨e, s⟩ (ky p) es = some none := by
   show (bif qhz s (ky p) then qio e (ky p) es 0 else none) = _
   rw [hs, cond_true, g1 hp]
  unfold updV
  simp only [h1, hf]
 ·rw [List.map_append, List.map_append, h2]; rfl
 ·rw [List.map_append, h3, List.length_append, List.length_singleton, List.range_succ, List.map_append]; rfl
theorem MapI.nil {α : Type} (ky : α → AV) (vl : Nat → Nat) {H : Hp} {b c : Nat} (h : H.get b = .map [] c) : MapI ky vl H b ([] : List α) := ⟨[], c, h, rfl, rfl⟩
def kyP (p : SS × SS) : AV := .agg [.str p.1.n p.1.a, .str p.2.n p.2.a]
def kyS (s : SS) : AV := .str s.n s.a
theorem qte (p q : SS × SS) : qcd (eqFields [(p1, ⟨qbj⟩, 0), (p1, ⟨qbj⟩, 1)]) (kyP p) (kyP q) = some (decide (p = q)) := q88 p q
theorem q8h (p q : SS) : qbj (kyS p) (kyS q) = some (decide (p = q)) := qrq p q
abbrev MapP (H : Hp) (b : Nat) (ps : List (SS × SS)) : Prop := MapI kyP id H b ps
abbrev MapS (H : Hp) (b : Nat) (ss : List SS) : Prop := MapI kyS (fun _ => 1) H b ss
theorem MapP.find {H : Hp} {b : Nat} {ps : List (SS × SS)} (h : MapP H b ps) (z : AV) (x y : SS) (hp : (x, y) ∈ ps) :
  qeh ⟨qcd (eqFields [(p1, ⟨qbj⟩, 0), (p1, ⟨qbj⟩, 1)]), some 2⟩ z true H (.map b) (.agg [.str x.n x.a, .str y.n y.a]) = .val (.tup [.int .i64 (.ofNat (ps.findIdx fun q => decide (q = (x, y)))), .bool true]) := by
 have := h.look (s := some 2) qte (fun _ => rfl) z true (x, y)
 rw [if_pos hp] at this
 exact this
theorem MapP.find1 {H : Hp} {b : Nat} {ps : List (SS × SS)} (h : MapP H b ps) (z : AV) (x y : SS) (hp : (x, y) ∈ ps) :
  qeh ⟨qcd (eqFields [(p1, ⟨qbj⟩, 0), (p1, ⟨qbj⟩, 1)]), some 2⟩ z false H (.map b) (.agg [.str x.n x.a, .str y.n y.a]) = .val (.int .i64 (.ofNat (ps.findIdx fun q => decide (q = (x, y))))) := by
 have := h.look (s := some 2) qte (fun _ => rfl) z false (x, y)
 rw [if_pos hp] at this
 exact this
theorem MapP.miss {H : Hp} {b : Nat} {ps : List (SS × SS)} (h : MapP H b ps) (z : AV) (x y : SS) (hp : (x, y) ∉ ps) :
  qeh ⟨qcd (eqFields [(p1, ⟨qbj⟩, 0), (p1, ⟨qbj⟩, 1)]), some 2⟩ z true H (.map b) (.agg [.str x.n x.a, .str y.n y.a]) = .val (.tup [z, .bool false]) := by
 have := h.look (s := some 2) qte (fun _ => rfl) z true (x, y)
 rw [if_neg hp] at this
 exact this
theorem MapP.put {H : Hp} {b : Nat} {ps : List (SS × SS)} (h : MapP H b ps) (x y : SS) (hp : (x, y) ∉ ps) :
  ∃ k, updV ⟨qcd (eqFields [(p1, ⟨qbj⟩, 0), (p1, ⟨qbj⟩, 1)]), some 2⟩ H (.map b) (.agg [.str x.n x.a, .str y.n y.a]) (.int .i64 (.ofNat ps.length)) = .ok .undef (H.put b k) ∧ MapP (H.put b k) b (ps ++ [(x, y)]) :=
 h.upd (s := some 2) qte (fun _ => rfl) hp
theorem MapS.find {H : Hp} {b : Nat} {ss : List SS} (h : MapS H b ss) (z : AV) (x : SS) (hp : x ∈ ss) : qeh ⟨qbj, none⟩ z false H (.map b) (.str x.n x.a) = .val (.int .i64 (.ofNat 1)) := by
 have := h.look (s := none) q8h (fun _ => rfl) z false x
 rw [if_pos hp] at this
 exact this
theorem MapS.miss {H : Hp} {b : Nat} {ss : List SS} (h : MapS H b ss) (z : AV) (x : SS) (hp : x ∉ ss) : qeh ⟨qbj, none⟩ z false H (.map b) (.str x.n x.a) = .val z := by
 have := h.look (s := none) q8h (fun _ => rfl) z false x
 rw [if_neg hp] at this
 exact this
theorem MapS.put {H : Hp} {b : Nat} {ss : List SS} (h : MapS H b ss) (x : SS) (hp : x ∉ ss) :
  ∃ k, updV ⟨qbj, none⟩ H (.map b) (.str x.n x.a) (.int .i64 (.ofNat 1)) = .ok .undef (H.put b k) ∧ MapS (H.put b k) b (ss ++ [x]) :=
 h.upd (s := none) q8h (fun _ => rfl) hp
end Go.Di
end
section
namespace Go.Di
open Go.Ev
variable {C : Nat → Ev.Call}
def ptC (q : Nat × Nat) : List AV := [.ptr q.1 q.2]
theorem qyf (q : Nat × Nat) : (ptC q).length = 1 := rfl
def nmC (q : SS × RelG) : List AV := [q.1.v]
def kq (q : SS × RelG) : SS × SS := (q.1, q.2.r.name)
def qa5 (X : List SpG) : List (SS × RelG) := X.flatMap fun g => g.gs.map fun x => (g.name, x)
theorem qbl (X : List SpG) : (qa5 X).map kq = allG X := by
 unfold qa5 allG
 rw [List.map_flatMap]
 congr 1
 funext g
 rw [List.map_map]; rfl
structure PtR (H : Hp) (q : Nat × Nat) (x : RelG) : Prop where
 lt : q.1 < H.nx
 nm : qap (H.get q.1) q.2 = .val (.str x.r.name.n x.r.name.a)
 tv : qap (H.get q.1) (q.2 + 1) = .val x.tv
 ru : qba (H.get q.1) (q.2 + 2) 4 = some x.cs
 all : qba (H.get q.1) q.2 6 = some (relC x)
theorem PtR.fm {H H' : Hp} {q : Nat × Nat} {x : RelG} (h : PtR H q x) (f : Fm No H H') : PtR H' q x := by
 have e := f.keep h.lt
 exact ⟨Nat.lt_of_lt_of_le h.lt f.nx, by rw [e]; exact h.nm, by rw [e]; exact h.tv, by rw [e]; exact h.ru, by rw [e]; exact h.all⟩
theorem SpR.pt {H : Hp} {g : SpG} (h : SpR H g) {i : Nat} (hi : i < g.gs.length) : ∃ b o, idxS 6 g.rv (.int .i64 (.ofNat i)) = .val (.ptr b o) ∧ PtR H (b, o) g.gs[i] := by
 obtain ⟨b, o, e1, e2, e3, e4, e5, e6⟩ := h.at' i hi
 exact ⟨b, o, e1, e2, e3, e4, e5, e6⟩
structure IxI (H0 H : Hp) (ib mb nb : Nat) (sv av iv : AV) (ss : List SS) (rs : List (SS × RelG)) (qs : List (Nat × Nat)) : Prop where
 blk : H.get ib = qaa 0 [sv, .map mb, .map nb, av, iv]
 ms : MapS H mb ss
 mn : MapP H nb (rs.map kq)
 a : Gl 1 H av qs.length (qs.flatMap ptC)
 i : Gl 1 H iv rs.length (rs.flatMap nmC)
 len : qs.length = rs.length
 pt : ∀ i (h : i < qs.length) (h' : i < rs.length), PtR H0 qs[i] rs[i].2
 o : H0.nx ≤ mb ∧ mb < nb ∧ nb < ib ∧ ib < H.nx
 an : ∀ c, In av c → ib < c ∧ ¬ In iv c
 inn : ∀ c, In iv c → ib < c
 fm : Fm No H0 H
theorem q2j (H : Hp) (b o x y : Nat) : qbb H (.ptr b o) (.ptr x y) = storeAt H b o [.ptr x y] .undef := id rfl
theorem q30 (a b : Nat) : qdu (.ptr a b) = some [.ptr a b] := id rfl
theorem zkg (a b c d e x : AV) : setL [a, b, c, d, e] 3 [x] = [a, b, c, x, e] := id rfl
theorem zkf (a b c d e x : AV) : setL [a, b, c, d, e] 4 [x] = [a, b, c, d, x] := id rfl
attribute [go_sem] q2j q30 zkg zkf
theorem ziy {call : Ev.Call} {g31 : AV → Hp → R1} {H0 H : Hp} {ib mb nb pb : Nat} {sv av iv : AV} {ss : List SS} {rs : List (SS × RelG)} {qs : List (Nat × Nat)} (hI : IxI H0 H ib mb nb sv av iv ss rs qs) {g : SpG} {x : RelG} {i b o : Nat}
  (hrv : idxS 6 g.rv (.int .i64 (.ofNat i)) = .val (.ptr b o)) (hpt : PtR H0 (b, o) x) (hnew : (g.name, x.r.name) ∉ rs.map kq) (hi : i < 1000) (hpb : H.get pb = qaa 0 [.str g.name.n g.name.a, g.rv]) (hpl : pb < H.nx) (hrl : rs.length ≤ 1000) (hpn : ¬ In av pb ∧ ¬ In iv pb ∧ ib < pb) {Q : AV → Hp → Prop}
  (hg : ∀ H' av' iv', IxI H0 H' ib mb nb sv av' iv' ss (rs ++ [(g.name, x)]) (qs ++ [(b, o)]) → Fm (fun c => c = nb ∨ c = ib ∨ In av c ∨ In iv c) H H' → (∀ c, In av' c ∨ In iv' c → H.nx ≤ c) → Ok (g31 (.int .i64 (.ofNat (i + 1))) H') Q) :
  Ok (qp0 call g31 (.ptr ib 0) (.ptr pb 0) (.int .i64 (.ofNat i)) H) Q := by
 unfold qp0
 obtain ⟨o1, o2, o3, o4⟩ := hI.o
 have e0 := hI.blk
 have p1 := hpt.fm hI.fm
 have r0 : qap (H.get b) o = .val (.str x.r.name.n x.r.name.a) := p1.nm
 have em := hI.mn.miss (.int .i64 (.ofNat 0)) g.name x.r.name hnew
 have la := hI.a.lenV
 have hln := hI.len
 have hfa := qca (Gl.flat hI.a) 63
 have hfi := qca (Gl.flat hI.i) 63
 simp (disch := first | omega | exact ti rfl | (simp only [np, nq]; first | done | omega)) only [go_sem, reduceAdd, reduceMul, reduceSub, reduceLeDiff, reduceEqDiff, reduceShiftRight, reduceAnd, hpb, hrv, e0, r0, em]
 obtain ⟨k, eu, mu⟩ := hI.mn.put g.name x.r.name hnew
 rw [List.length_map, ← hln] at eu
 simp (disch := first | omega | exact ti rfl | (simp only [np, nq]; first | done | omega)) only [go_sem, reduceAdd, reduceMul, reduceSub, reduceLeDiff, reduceEqDiff, reduceShiftRight, reduceAnd, hpb, e0, r0, la]
 refine Ok.deE eu ?_
 simp (disch := first | omega | exact ti rfl | (simp only [np, nq]; first | done | omega)) only [go_sem, reduceAdd, reduceMul, reduceSub, reduceLeDiff, reduceEqDiff, reduceShiftRight, reduceAnd]
 unfold qp1
 have kp1 : ∀ c, c ≠ nb → (H.put nb k).get c = H.get c := fun c h => qat _ _ _ _ h
 have e1 : (H.put nb k).get ib = qaa 0 [sv, .map mb, .map nb, av, iv] := (kp1 _ (by omega)).trans e0
 have q1 : (H.put nb k).get pb = qaa 0 [.str g.name.n g.name.a, g.rv] := (kp1 _ (by omega)).trans hpb
 simp (disch := first | omega | exact ti rfl | (simp only [np, nq]; first | done | omega)) only [go_sem, reduceAdd, reduceMul, reduceSub, reduceLeDiff, reduceEqDiff, reduceShiftRight, reduceAnd, e1, q1]
 have ainx : ∀ c, In av c → c < H.nx := fun c hc => hI.a.lt hc
 have iinx : ∀ c, In iv c → c < H.nx := fun c hc => hI.i.lt hc
 have g2 : Gl 1 ((Hp.mk (H.put nb k).t (H.nx + 23)).put (H.nx + 7) (qaa 0 [.ptr b o])) av qs.length (qs.flatMap ptC) := by
  refine hI.a.keep (show H.nx ≤ H.nx + 23 by omega) fun c hc hl => ?_
  have := (hI.an c hc).1
  rw [qat _ _ _ _ (by omega)]
  exact kp1 c (by omega)
 obtain ⟨H2, e2, a2, _, f2, n2⟩ := g2.append (k := 1) (w := 8) (x := [.ptr b o]) (by omega) rfl (by omega) (by omega)
 simp only [nq] at e2 a2 f2 n2
 refine Ok.deE e2 ?_
 have kp2 : ∀ c, c < H.nx → c ≠ nb → ¬ In av c → H2.get c = H.get c := fun c h1 h2 h3 => by
  refine (f2.get c (show c < H.nx + 23 by omega) h3).trans ?_
  rw [qat _ _ _ _ (by omega)]
  exact kp1 c h2
 have naib : ¬ In av ib := fun h => by have := (hI.an ib h).1; omega
 have niib : ¬ In iv ib := fun h => by have := hI.inn ib h; omega
 have blk2 := (kp2 ib (by omega) (by omega) naib).trans e0
 have pb2 := (kp2 pb (by omega) (by omega) hpn.1).trans hpb
 simp (disch := first | omega | exact ti rfl | (simp only [np, nq]; first | done | omega)) only [go_sem, reduceAdd, reduceMul, reduceSub, reduceLeDiff, reduceEqDiff, reduceShiftRight, reduceAnd, blk2, pb2, hfi]
 have g3 : Gl 1 (H2.put (H.nx + 15) (qaa 0 [.str g.name.n g.name.a])) iv rs.length (rs.flatMap nmC) := by
  refine hI.i.keep (show H.nx ≤ H2.nx by omega) fun c hc hl => ?_
  have := hI.inn c hc
  rw [qat _ _ _ _ (by omega)]
  exact kp2 c hl (by omega) fun h => (hI.an c h).2 hc
 obtain ⟨H3, e3, a3, _, f3, n3⟩ := g3.append (k := 1) (w := 16) (x := [.str g.name.n g.name.a]) (by omega) rfl (by omega) (by omega)
 simp only [nq] at e3 a3 f3 n3
 refine Ok.deE e3 ?_
 have kp3 : ∀ c, c < H.nx → c ≠ nb → ¬ In av c → ¬ In iv c → H3.get c = H.get c := fun c h1 h2 h3 h4 => by
  refine (f3.get c (show c < H2.nx by omega) h4).trans ?_
  rw [qat _ _ _ _ (by omega)]
  exact kp2 c h1 h2 h3
 have blk3 := (kp3 ib (by omega) (by omega) naib niib).trans e0
 simp (disch := first | omega | exact ti rfl | (simp only [np, nq]; first | done | omega)) only [go_sem, reduceAdd, reduceMul, reduceSub, reduceLeDiff, reduceEqDiff, reduceShiftRight, reduceAnd, blk3]
 unfold qu9
 simp (disch := first | omega | exact ti rfl | (simp only [np, nq]; first | done | omega)) only [go_sem, reduceAdd, reduceMul, reduceSub, reduceLeDiff, reduceEqDiff, reduceShiftRight, reduceAnd]
 have inav : ∀ c, In (.sl (H.nx + 23) 0 (qs.length + 1) (qs.length + 1) false) c → c = H.nx + 23 := fun c hc => by
  obtain ⟨_, _, _, _, hc⟩ := hc
  injection hc with hc
  exact hc.symm
 have iniv : ∀ c, In (.sl H2.nx 0 (rs.length + 1) (rs.length + 1) false) c → c = H2.nx := fun c hc => by
  obtain ⟨_, _, _, _, hc⟩ := hc
  injection hc with hc
  exact hc.symm
 generalize hH4 : ((H3.put ib (qaa 0 [sv, .map mb, .map nb, .sl (H.nx + 23) 0 (qs.length + 1) (qs.length + 1) false, iv])).put ib (qaa 0 [sv, .map mb, .map nb, .sl (H.nx + 23) 0 (qs.length + 1) (qs.length + 1) false, .sl H2.nx 0 (rs.length + 1) (rs.length + 1) false])) = H4
 have n4 : H4.nx = H3.nx := by rw [← hH4]; rfl
 have kp4 : ∀ c, c ≠ ib → H4.get c = H3.get c := fun c h => by rw [← hH4, qat _ _ _ _ h, qat _ _ _ _ h]
 have b4 : H4.get ib = qaa 0 [sv, .map mb, .map nb, .sl (H.nx + 23) 0 (qs.length + 1) (qs.length + 1) false, .sl H2.nx 0 (rs.length + 1) (rs.length + 1) false] := by rw [← hH4]; exact qam _ _ _
 have hmb : H4.get mb = H.get mb := (kp4 mb (by omega)).trans (kp3 mb (by omega) (by omega) (fun h => by have := (hI.an mb h).1; omega) (fun h => by have := hI.inn mb h; omega))
 have hnb : H4.get nb = (H.put nb k).get nb := by
  refine (kp4 nb (by omega)).trans ((f3.get nb (show nb < H2.nx by omega) (fun h => by have := hI.inn nb h; omega)).trans ?_)
  rw [qat _ _ _ _ (by omega)]
  refine (f2.get nb (show nb < H.nx + 23 by omega) (fun h => by have := (hI.an nb h).1; omega)).trans ?_
  rw [qat _ _ _ _ (by omega)]
  rfl
 have fF : Fm (fun c => c = nb ∨ c = ib ∨ In av c ∨ In iv c) H H4 := ⟨by omega, fun c hc hs => (kp4 c fun h => hs (.inr (.inl h))).trans (kp3 c hc (fun h => hs (.inl h)) (fun h => hs (.inr (.inr (.inl h)))) fun h => hs (.inr (.inr (.inr h))))⟩
 refine hg H4 (.sl (H.nx + 23) 0 (qs.length + 1) (qs.length + 1) false) (.sl H2.nx 0 (rs.length + 1) (rs.length + 1) false) ⟨b4, hI.ms.eq hmb, ?_, ?_, ?_, ?_, ?_, ⟨o1, o2, o3, by omega⟩, ?_, ?_, ?_⟩ fF ?_
 ·rw [List.map_append]
  exact mu.eq hnb
 ·rw [List.length_append, List.flatMap_append, List.flatMap_singleton]
  refine a2.keep (by omega) fun c hc hl => ?_
  have := inav c hc
  rw [kp4 c (by omega), f3.get c (show c < H2.nx by omega) (fun h => by have := iinx c h; omega), qat _ _ _ _ (by omega)]
 ·rw [List.length_append, List.flatMap_append, List.flatMap_singleton]
  refine a3.keep (by omega) fun c hc hl => ?_
  have := iniv c hc
  exact kp4 c (by omega)
 ·simp [hln]
 ·intro m h1 h2
  rw [List.getElem_append, List.getElem_append]
  split
  ·rename_i h
   rw [dif_pos (by omega)]
   exact hI.pt m h (by omega)
  ·rename_i h
   rw [dif_neg (by omega)]
   simpa using hpt
 ·intro c hc
  have := inav c hc
  refine ⟨by omega, fun h => ?_⟩
  have := iniv c h
  omega
 ·intro c hc
  have := iniv c hc
  omega
 ·refine hI.fm.then fF fun c hc h => ?_
  rcases h with h | h | h | h
  ·omega
  ·omega
  ·have := (hI.an c h).1; omega
  ·have := hI.inn c h; omega
 ·intro c hc
  rcases hc with hc | hc
  ·have := inav c hc; omega
  ·have := iniv c hc; omega
end Go.Di
end
section
namespace Go.Di
open Go.Ev
variable {C : Nat → Ev.Call}
theorem qj8 {α : Type} {l : List α} (h : l.Nodup) {i : Nat} (hi : i < l.length) : l[i] ∉ l.take i := fun hm => by
 obtain ⟨j, hj, e⟩ := List.getElem_of_mem hm
 rw [List.getElem_take] at e
 exact List.pairwise_iff_getElem.1 h j i (by simp at hj; omega) hi (by simp at hj; omega) e
theorem qb6 {α β : Type} (g : α → List β) (c : Nat) : ∀ l : List α, (∀ x ∈ l, (g x).length ≤ c) → (l.flatMap g).length ≤ c * l.length
 | [], _ => by simp
 | a :: l, h => by
  rw [List.flatMap_cons, List.length_append, List.length_cons, Nat.mul_add, Nat.mul_one]
  have := qb6 g c l fun x hx => h x (List.mem_cons_of_mem _ hx)
  have := h a List.mem_cons_self
  omega
theorem PrX.len {X : List SpG} (h : PrX X) : (qa5 X).length ≤ 256 := by
 have := qb6 (fun g : SpG => g.gs.map fun x => (g.name, x)) 16 X fun g hg => by rw [List.length_map]; exact (h.r g hg).1
 have := h.n
 unfold qa5; omega
def preR (X : List SpG) (s : Nat) : List (SS × RelG) := qa5 (X.take s)
theorem q0b (X : List SpG) (s : Nat) : (preR X s).length ≤ (qa5 X).length := by
 unfold preR qa5
 conv => rhs; rw [← List.take_append_drop s X, List.flatMap_append, List.length_append]
 omega
theorem q7t {X : List SpG} {s i : Nat} (hs : s < X.length) (hi : i < X[s].gs.length) : ∃ Z, qa5 X = (preR X s ++ (X[s].gs.take i).map fun x => (X[s].name, x)) ++ (X[s].name, X[s].gs[i]) :: Z := by
 refine ⟨(X[s].gs.drop (i + 1)).map (fun x => (X[s].name, x)) ++ qa5 (X.drop (s + 1)), ?_⟩
 have h1 : X = X.take s ++ X[s] :: X.drop (s + 1) := by rw [← List.drop_eq_getElem_cons hs, List.take_append_drop]
 have h2 : X[s].gs = X[s].gs.take i ++ X[s].gs[i] :: X[s].gs.drop (i + 1) := by rw [← List.drop_eq_getElem_cons hi, List.take_append_drop]
 unfold preR qa5
 conv => lhs; rw [h1, List.flatMap_append, List.flatMap_cons]
 conv => lhs; rw [h2, List.map_append, List.map_cons]
 simp
theorem q0a {X : List SpG} (hN : (allG X).Nodup) {s i : Nat} (hs : s < X.length) (hi : i < X[s].gs.length) : (X[s].name, X[s].gs[i].r.name) ∉ (preR X s ++ (X[s].gs.take i).map fun x => (X[s].name, x)).map kq := by
 obtain ⟨Z, h⟩ := q7t hs hi
 rw [← qbl, h, List.map_append, List.map_cons] at hN
 intro hm
 exact (List.nodup_append.1 hN).2.2 _ hm (kq (X[s].name, X[s].gs[i])) List.mem_cons_self rfl
theorem q0n {call : Ev.Call} {H0 Hb : Hp} {ib mb nb pb : Nat} {sv : AV} {ss : List SS} {X : List SpG} (hX : SchR H0 sv X) (hN : (allG X).Nodup) (hL : (qa5 X).length ≤ 256) {s : Nat} (hs : s < X.length) (hgl : X[s].gs.length ≤ 16) {Q : AV → Hp → Prop} {q : Hp → R1}
  (hq : ∀ H av iv qs, IxI H0 H ib mb nb sv av iv ss (preR X s ++ X[s].gs.map fun x => (X[s].name, x)) qs → Hb.nx ≤ H.nx → Ok (q H) Q) :
  ∀ (k i : Nat) (H : Hp) (av iv : AV) (qs : List (Nat × Nat)), i ≤ X[s].gs.length → X[s].gs.length - i < k → IxI H0 H ib mb nb sv av iv ss (preR X s ++ (X[s].gs.take i).map fun x => (X[s].name, x)) qs →
   H.get pb = qaa 0 [.str X[s].name.n X[s].name.a, X[s].rv] → pb < H.nx → (¬ In av pb ∧ ¬ In iv pb ∧ ib < pb) → Hb.nx ≤ H.nx →
   Ok (qhj call q (.ptr ib 0) (.ptr pb 0) (.int .i64 (.ofNat X[s].gs.length)) k (.int .i64 (.ofNat i)) H) Q
 | 0, i, _, _, _, _, _, h, _, _, _, _, _ => by omega
 | k + 1, i, H, av, iv, qs, hi, hk, hI, hpb, hpl, hpn, hbn => by
  show Ok (qva call _ _ _ _ (qhj call _ _ _ _ k) _ H) Q
  unfold qva
  by_cases hlt : i < X[s].gs.length
  ·simp (disch := first | omega | exact ti rfl | (simp only [np, nq]; first | done | omega)) only [go_sem, reduceAdd, reduceMul, reduceSub, reduceLeDiff, reduceEqDiff, reduceShiftRight, reduceAnd, hlt]
   obtain ⟨b, o, e1, p1⟩ := (hX.sp _ (List.getElem_mem hs)).pt hlt
   have hpl2 : (preR X s ++ (X[s].gs.take i).map fun x => (X[s].name, x)).length ≤ 1000 := by
    have := q0b X s
    rw [List.length_append, List.length_map, List.length_take]; omega
   obtain ⟨o1, o2, o3, o4⟩ := hI.o
   refine ziy hI e1 p1 (q0a hN hs hlt) (by omega) hpb hpl hpl2 hpn fun H' av' iv' hI' f' hn' => ?_
   refine q0n hX hN hL hs hgl hq k (i + 1) H' av' iv' (qs ++ [(b, o)]) (by omega) (by omega) ?_ ((f'.get pb hpl fun h => ?_).trans hpb) (Nat.lt_of_lt_of_le hpl f'.nx) ⟨fun h => ?_, fun h => ?_, hpn.2.2⟩ (Nat.le_trans hbn f'.nx)
   ·rw [List.take_succ_eq_append_getElem hlt, List.map_append, List.map_singleton, ← List.append_assoc]
    exact hI'
   ·rcases h with h | h | h | h
    ·omega
    ·omega
    ·exact hpn.1 h
    ·exact hpn.2.1 h
   ·have := hn' pb (.inl h); omega
   ·have := hn' pb (.inr h); omega
  ·simp (disch := first | omega | exact ti rfl | (simp only [np, nq]; first | done | omega)) only [go_sem, reduceAdd, reduceMul, reduceSub, reduceLeDiff, reduceEqDiff, reduceShiftRight, reduceAnd, hlt]
   have he : i = X[s].gs.length := by omega
   rw [he, List.take_length] at hI
   exact hq H av iv qs hI hbn
theorem q0m {call : Ev.Call} {H0 : Hp} {ib mb nb : Nat} {sv : AV} {X : List SpG} (hX : SchR H0 sv X) (hN : (allG X).Nodup) (hS : (X.map SpG.name).Nodup) (hP : PrX X) {Q : AV → Hp → Prop} {q : Hp → R1}
  (hq : ∀ H av iv qs, IxI H0 H ib mb nb sv av iv (X.map SpG.name) (qa5 X) qs → Ok (q H) Q) :
  ∀ (k s : Nat) (H : Hp) (av iv : AV) (qs : List (Nat × Nat)), s ≤ X.length → X.length - s < k → IxI H0 H ib mb nb sv av iv ((X.take s).map SpG.name) (preR X s) qs →
   Ok (qdn call q (.ptr ib 0) sv (.int .i64 (.ofNat X.length)) k (.int .i64 (.ofNat s)) H) Q
 | 0, s, _, _, _, _, _, h, _ => by omega
 | k + 1, s, H, av, iv, qs, hs, hk, hI => by
  show Ok (qvb call _ _ _ _ (qdn call _ _ _ _ k) _ H) Q
  unfold qvb
  have hn := hP.n
  by_cases hlt : s < X.length
  ·simp (disch := first | omega | exact ti rfl | (simp only [np, nq]; first | done | omega)) only [go_sem, reduceAdd, reduceMul, reduceSub, reduceLeDiff, reduceEqDiff, reduceShiftRight, reduceAnd, hlt]
   unfold qu8
   have h1 := hX.fm hI.fm
   obtain ⟨b1, o1, e1, e2, _, e3, _⟩ := h1.rs.at' s hlt
   unfold spC SS.v at e3
   have hm := List.getElem_mem hlt
   obtain ⟨o1, o2, o3, o4⟩ := hI.o
   have e0 := hI.blk
   have hnew : X[s].name ∉ (X.take s).map SpG.name := by
    have h2 := qj8 hS (i := s) (by simpa using hlt)
    rw [List.getElem_map, ← List.map_take] at h2
    exact h2
   have fp : Fm No H ((qal H (qaa 0 [.str 0 0, .nilsl])).put H.nx (qaa 0 [.str X[s].name.n X[s].name.a, X[s].rv])) := by (repeat (first | exact Fm.refl _ _ | assumption | refine Fm.push ?_ _ | refine Fm.up2 ?_ (by (first | omega | (simp only [np, nq]; omega))) | refine Fm.put_new ?_ _ _ (by (first | omega | (simp only [np, nq]; omega)))))
   have ms1 : MapS ((qal H (qaa 0 [.str 0 0, .nilsl])).put H.nx (qaa 0 [.str X[s].name.n X[s].name.a, X[s].rv])) mb ((X.take s).map SpG.name) := hI.ms.eq (fp.keep (by omega))
   have em := ms1.miss (.int .i64 (.ofNat 0)) X[s].name hnew
   have e0' := (fp.keep o4).trans e0
   have em' : qeh ⟨qbj, none⟩ (.int .i64 (.ofNat 0)) false ⟨((qal H (qaa 0 [.str 0 0, .nilsl])).put H.nx (qaa 0 [.str X[s].name.n X[s].name.a, X[s].rv])).t, H.nx + 1⟩ (.map mb) (.str X[s].name.n X[s].name.a) = .val (.int .i64 (.ofNat 0)) := em
   simp (disch := first | omega | exact ti rfl | (simp only [np, nq]; first | done | omega)) only [go_sem, reduceAdd, reduceMul, reduceSub, reduceLeDiff, reduceEqDiff, reduceShiftRight, reduceAnd, e1, e3, e0', em']
   obtain ⟨kk, eu, mu⟩ := ms1.put X[s].name hnew
   refine Ok.deE eu ?_
   have hsp := hX.sp _ hm
   have hl := hsp.len
   have hg16 := (hP.r _ hm).1
   simp (disch := first | omega | exact ti rfl | (simp only [np, nq]; first | done | omega)) only [go_sem, reduceAdd, reduceMul, reduceSub, reduceLeDiff, reduceEqDiff, reduceShiftRight, reduceAnd, hl]
   unfold qvc
   rw [qan]
   generalize hH2 : ((qal H (qaa 0 [.str 0 0, .nilsl])).put H.nx (qaa 0 [.str X[s].name.n X[s].name.a, X[s].rv])).put mb kk = H2 at mu
   have n2 : H2.nx = H.nx + 1 := by rw [← hH2]; rfl
   have kp : ∀ c, c < H.nx → c ≠ mb → H2.get c = H.get c := fun c h1 h2 => by
    rw [← hH2, qat _ _ _ _ h2]
    exact fp.keep h1
   have pbk : H2.get H.nx = qaa 0 [.str X[s].name.n X[s].name.a, X[s].rv] := by
    rw [← hH2, qat _ _ _ _ (by omega)]
    exact qam _ _ _
   have hI2 : IxI H0 H2 ib mb nb sv av iv ((X.take s).map SpG.name ++ [X[s].name]) (preR X s ++ (X[s].gs.take 0).map fun x => (X[s].name, x)) qs := by
    rw [List.take_zero, List.map_nil, List.append_nil]
    refine ⟨(kp ib o4 (by omega)).trans e0, mu, hI.mn.eq (kp nb (by omega) (by omega)), hI.a.keep (by omega) fun c hc hl => kp c hl ?_, hI.i.keep (by omega) fun c hc hl => kp c hl ?_, hI.len, hI.pt, ⟨o1, o2, o3, by omega⟩, hI.an, hI.inn, ?_⟩
    ·have := (hI.an c hc).1; omega
    ·have := hI.inn c hc; omega
    ·exact ⟨by have := hI.fm.nx; omega, fun c hc _ => (kp c (Nat.lt_of_lt_of_le hc hI.fm.nx) (by omega)).trans (hI.fm.keep hc)⟩
   refine q0n hX hN hP.len hlt hg16 (Hb := H2) (fun H3 av3 iv3 qs3 hI3 hb3 => ?_) qak 0 H2 av iv qs (Nat.zero_le _) (by rw [qaf]; omega) hI2 pbk (by omega) ⟨fun h => ?_, fun h => ?_, by omega⟩ (Nat.le_refl _)
   ·unfold qf1
    simp (disch := first | omega | exact ti rfl | (simp only [np, nq]; first | done | omega)) only [go_sem, reduceAdd, reduceMul, reduceSub, reduceLeDiff, reduceEqDiff, reduceShiftRight, reduceAnd]
    refine q0m hX hN hS hP hq k (s + 1) H3 av3 iv3 qs3 (by omega) (by omega) ?_
    have hx : preR X (s + 1) = preR X s ++ X[s].gs.map fun x => (X[s].name, x) := by
     unfold preR qa5
     rw [List.take_succ_eq_append_getElem hlt, List.flatMap_append, List.flatMap_singleton]
    rw [List.take_succ_eq_append_getElem hlt, List.map_append, List.map_singleton, hx]
    exact hI3
   ·have := hI.a.lt h; omega
   ·have := hI.i.lt h; omega
  ·simp (disch := first | omega | exact ti rfl | (simp only [np, nq]; first | done | omega)) only [go_sem, reduceAdd, reduceMul, reduceSub, reduceLeDiff, reduceEqDiff, reduceShiftRight, reduceAnd, hlt]
   have he : s = X.length := by omega
   rw [he, List.take_length] at hI
   refine hq H av iv qs ?_
   have : preR X X.length = qa5 X := by unfold preR; rw [List.take_length]
   rw [this] at hI
   exact hI
structure IdR (H : Hp) (ib : Nat) (sv : AV) (X : List SpG) : Prop where
 ex : ∃ mb nb av iv qs, H.get ib = qaa 0 [sv, .map mb, .map nb, av, iv] ∧ MapS H mb (X.map SpG.name) ∧ MapP H nb (allG X) ∧ Rs 1 ptC H av qs ∧ Rs 1 nmC H iv (qa5 X) ∧ qim av = true ∧ qim iv = true ∧ qs.length = (qa5 X).length ∧
  (∀ i (h : i < qs.length) (h' : i < (qa5 X).length), PtR H qs[i] (qa5 X)[i].2) ∧ mb < H.nx ∧ nb < H.nx
 lt : ib < H.nx
theorem IdR.fm {H H' : Hp} {ib : Nat} {sv : AV} {X : List SpG} (h : IdR H ib sv X) (f : Fm No H H') : IdR H' ib sv X := by
 obtain ⟨mb, nb, av, iv, qs, h1, h2, h3, h4, h5, h6, h7, h8, h9, l1, l2⟩ := h.ex
 exact ⟨⟨mb, nb, av, iv, qs, (f.keep h.lt).trans h1, h2.eq (f.keep l1), h3.eq (f.keep l2), h4.fm f, h5.fm f, h6, h7, h8, fun i a b => (h9 i a b).fm f, Nat.lt_of_lt_of_le l1 f.nx, Nat.lt_of_lt_of_le l2 f.nx⟩, Nat.lt_of_lt_of_le h.lt f.nx⟩
theorem zim (q : SS × RelG) : (nmC q).length = 1 := rfl
theorem zfm (hC : qav C) {k : Nat} (hk : 1 ≤ k) {H : Hp} {sv : AV} {X : List SpG} (hX : SchR H sv X) (hP : PrX X) (hN : (allG X).Nodup) (hS : (X.map SpG.name).Nodup) :
  Ok (C k (.f qtr) [.agg [sv]] H) fun r H' => ∃ ib, r = .ptr ib 0 ∧ IdR H' ib sv X ∧ Fm No H H' := by
 obtain ⟨j, rfl⟩ : ∃ j, k = j + 1 := ⟨k - 1, by omega⟩
 rw [(hC j).zBi]
 unfold zBi zgj
 have hl := hX.rs.len
 have hn := hP.n
 have hsv : qdu sv = some [sv] := by
  have hfl := hX.fl
  cases sv <;> first | rfl | (exfalso; revert hl; exact fun h => by cases h)
 have hcm : ∀ b, qdu (.map b) = some [.map b] := fun b => rfl
 simp (disch := first | omega | exact ti rfl | (simp only [np, nq]; first | done | omega)) only [go_sem, reduceAdd, reduceMul, reduceSub, reduceLeDiff, reduceEqDiff, reduceShiftRight, reduceAnd, hsv, hl, hcm]
 unfold qvd
 rw [qan]
 generalize hH1 : qal (qal (qal (qal H (qaa 0 [sv])) (.map [] 0)) (.map [] 0)) (qaa 0 [sv, .map (H.nx + 1), .map (H.nx + 1 + 1), .nilsl, .nilsl]) = H1
 have f1 : Fm No H H1 := by rw [← hH1]; (repeat (first | exact Fm.refl _ _ | assumption | refine Fm.push ?_ _ | refine Fm.up2 ?_ (by (first | omega | (simp only [np, nq]; omega))) | refine Fm.put_new ?_ _ _ (by (first | omega | (simp only [np, nq]; omega)))))
 have n1 : H1.nx = H.nx + 4 := by rw [← hH1]; rfl
 have k1 : H1.get (H.nx + 1) = .map [] 0 := by rw [← hH1]; simp (disch := first | omega | exact ti rfl | (simp only [np, nq]; first | done | omega)) only [go_sem, reduceAdd, reduceMul, reduceSub, reduceLeDiff, reduceEqDiff, reduceShiftRight, reduceAnd]
 have k2 : H1.get (H.nx + 1 + 1) = .map [] 0 := by rw [← hH1]; simp (disch := first | omega | exact ti rfl | (simp only [np, nq]; first | done | omega)) only [go_sem, reduceAdd, reduceMul, reduceSub, reduceLeDiff, reduceEqDiff, reduceShiftRight, reduceAnd]
 have k3 : H1.get (H.nx + 1 + 1 + 1) = qaa 0 [sv, .map (H.nx + 1), .map (H.nx + 1 + 1), .nilsl, .nilsl] := by rw [← hH1]; simp (disch := first | omega | exact ti rfl | (simp only [np, nq]; first | done | omega)) only [go_sem, reduceAdd, reduceMul, reduceSub, reduceLeDiff, reduceEqDiff, reduceShiftRight, reduceAnd]
 have nn : ∀ c, ¬ In AV.nilsl c := fun c h => by obtain ⟨_, _, _, _, h⟩ := h; cases h
 refine q0m hX hN hS hP (fun H2 av iv qs hI => ?_) qak 0 H1 .nilsl .nilsl [] (Nat.zero_le _) (by rw [qaf]; omega) ⟨k3, MapI.nil _ _ k1, MapI.nil _ _ k2, Gl.nil 1 _, Gl.nil 1 _, rfl, fun i h => by simp at h, ⟨by omega, by omega, by omega, by omega⟩, fun c h => absurd h (nn c), fun c h => absurd h (nn c), f1⟩
 unfold qfw
 obtain ⟨o1, o2, o3, o4⟩ := hI.o
 refine Ok.ret ⟨_, rfl, ⟨⟨_, _, av, iv, qs, hI.blk, hI.ms, ?_, hI.a.rs qyf, hI.i.rs zim, Gl.flat hI.a, Gl.flat hI.i, hI.len, fun i a b => (hI.pt i a b).fm hI.fm, by omega, by omega⟩, o4⟩, hI.fm⟩
 have := hI.mn
 rw [qbl] at this
 exact this
end Go.Di
end
section
namespace Go.Di
open Go.Ev
variable {C : Nat → Ev.Call}
structure ValX (X : List SpG) : Prop where
 pr : PrX X
 al : (allG X).Nodup
 sp : (X.map SpG.name).Nodup
 ty : ∀ g ∈ X, ∀ x ∈ g.gs, x.r.types.Nodup ∧ ∀ t ∈ x.r.types, t.sp ∈ X.map SpG.name ∧ (t.rl = sE ∨ (t.sp, t.rl) ∈ allG X)
 nd : ∀ g ∈ X, ∀ x ∈ g.gs, ∀ y ∈ x.r.rule.nodes false, (y.k = 2 ∨ y.k = 3 → (g.name, y.rl) ∈ allG X) ∧ (y.k = 3 → qel X g.name y.rl y.to ≠ [])
 us : ∀ g ∈ X, ∀ x ∈ g.gs, ((x.r.rule.nodes false).any (fun n => decide (n.k = 1)) = true → x.r.types ≠ []) ∧ ((x.r.rule.nodes false).any (fun n => decide (n.k = 1)) = false → x.r.types ≠ [] → (g.gs.any fun z => hasR z.r.rule 3 x.r.name) = true)
theorem qid {X : List SpG} {a : SS} {x : RelG} : (a, x) ∈ qa5 X ↔ ∃ g ∈ X, x ∈ g.gs ∧ g.name = a := by
 unfold qa5
 rw [List.mem_flatMap]
 constructor
 ·rintro ⟨g, hg, h⟩
  rw [List.mem_map] at h
  obtain ⟨y, hy, e⟩ := h
  injection e with e1 e2
  subst e2
  exact ⟨g, hg, hy, e1⟩
 ·rintro ⟨g, hg, hx, rfl⟩
  exact ⟨g, hg, List.mem_map_of_mem hx⟩
theorem qit {X : List SpG} {a b : SS} : (a, b) ∈ allG X ↔ ∃ g ∈ X, ∃ x ∈ g.gs, g.name = a ∧ x.r.name = b := by
 rw [← qbl, List.mem_map]
 constructor
 ·rintro ⟨⟨a', x⟩, h, e⟩
  injection e with e1 e2
  subst e1
  obtain ⟨g, hg, hx, e⟩ := qid.1 h
  exact ⟨g, hg, x, hx, e, e2⟩
 ·rintro ⟨g, hg, x, hx, rfl, rfl⟩
  exact ⟨(g.name, x), qid.2 ⟨g, hg, hx, rfl⟩, rfl⟩
theorem qmm {α β : Type} {f : α → β} : ∀ {l : List α}, (l.map f).Nodup → ∀ {x y : α}, x ∈ l → y ∈ l → f x = f y → x = y
 | [], _, _, _, h, _, _ => by cases h
 | a :: l, hn, x, y, hx, hy, e => by
  rw [List.map_cons, List.nodup_cons] at hn
  rcases List.mem_cons.1 hx with h1 | h1
  ·rcases List.mem_cons.1 hy with h2 | h2
   ·rw [h1, h2]
   ·exact absurd (by rw [← h1, e]; exact List.mem_map_of_mem h2) hn.1
  ·rcases List.mem_cons.1 hy with h2 | h2
   ·exact absurd (by rw [← h2, ← e]; exact List.mem_map_of_mem h1) hn.1
   ·exact qmm hn.2 h1 h2 e
theorem qmp {α : Type} [DecidableEq α] {l : List α} (h : l.Nodup) {i : Nat} (hi : i < l.length) : (l.findIdx fun q => decide (q = l[i])) = i := by
 rw [List.findIdx_eq hi]
 refine ⟨by simp, fun j hj => ?_⟩
 have := List.pairwise_iff_getElem.1 h j i (by omega) hi hj
 simpa using this
theorem qgl {X : List SpG} (hal : (allG X).Nodup) (hsp : (X.map SpG.name).Nodup) {a b : SS} (h : (a, b) ∈ allG X) : ∃ x, qdt X a b = some x ∧ (qa5 X)[numG X a b]? = some (a, x) := by
 obtain ⟨g, hg, x, hx, rfl, rfl⟩ := qit.1 h
 have h1 : X.find? (fun p => decide (p.name = g.name)) = some g := by
  cases hf : X.find? (fun p => decide (p.name = g.name)) with
  | none =>
   rw [List.find?_eq_none] at hf
   exact absurd (hf g hg) (by simp)
  | some p =>
   have e : p.name = g.name := by simpa using List.find?_some hf
   rw [qmm hsp (List.mem_of_find?_eq_some hf) hg e]
 obtain ⟨y, h2⟩ : ∃ y, g.gs.find? (fun z => decide (z.r.name = x.r.name)) = some y := by
  cases hf : g.gs.find? (fun z => decide (z.r.name = x.r.name)) with
  | none =>
   rw [List.find?_eq_none] at hf
   exact absurd (hf x hx) (by simp)
  | some y => exact ⟨y, rfl⟩
 have hfg : qdt X g.name x.r.name = some y := by unfold qdt; rw [h1]; exact h2
 have hy : y.r.name = x.r.name := by simpa using List.find?_some h2
 refine ⟨y, hfg, ?_⟩
 have hm : (g.name, y) ∈ qa5 X := qid.2 ⟨g, hg, List.mem_of_find?_eq_some h2, rfl⟩
 obtain ⟨n, hn, e⟩ := List.getElem_of_mem hm
 have hln : (qa5 X).length = (allG X).length := by rw [← qbl, List.length_map]
 have hk : (allG X)[n]'(by omega) = (g.name, x.r.name) := by
  have : ((qa5 X).map kq)[n]'(by simpa using hn) = kq (qa5 X)[n] := List.getElem_map ..
  have e2 : (allG X)[n]? = some (kq (qa5 X)[n]) := by rw [← qbl, List.getElem?_map, List.getElem?_eq_getElem hn]; rfl
  rw [List.getElem?_eq_getElem (by omega)] at e2
  injection e2 with e2
  rw [e2, e]
  show (g.name, y.r.name) = _
  rw [hy]
 have hnum : numG X g.name x.r.name = n := by
  have := qmp hal (i := n) (by omega)
  unfold numG
  rw [hk] at this
  exact this
 rw [hnum, List.getElem?_eq_getElem hn, e]
theorem qjq {X : List SpG} (hal : (allG X).Nodup) (hsp : (X.map SpG.name).Nodup) (a b : SS) : (qdt X a b).isSome = decide ((a, b) ∈ allG X) := by
 by_cases h : (a, b) ∈ allG X
 ·obtain ⟨x, h1, _⟩ := qgl hal hsp h
  rw [h1, decide_eq_true h]; rfl
 ·rw [decide_eq_false h]
  cases hf : qdt X a b with
  | none => rfl
  | some x =>
   obtain ⟨p, hp, hx, e1, e2⟩ := qin hf
   exact absurd (qit.2 ⟨p, hp, x, hx, e1, e2⟩) h
theorem zd2 (a b : Nat) : qmz (.ptr a b) .nilptr = some false := id rfl
theorem zd3 : qmz .nilptr .nilptr = some true := id rfl
theorem q38 (n b : Bool) : qdy n (some b) = .val (.bool (bif n then !b else b)) := id rfl
attribute [go_sem] zd2 zd3 q38
theorem qg2 (hC : qav C) {k : Nat} (hk : 1 ≤ k) {H : Hp} {ib : Nat} {sv : AV} {X : List SpG} (hI : IdR H ib sv X) (hal : (allG X).Nodup) (hsp : (X.map SpG.name).Nodup) {a b : SS} (h : (a, b) ∈ allG X) :
  ∃ q x, qdt X a b = some x ∧ C k (.f qg9) [.ptr ib 0, .str a.n a.a, .str b.n b.a] H = .ok (.ptr q.1 q.2) H ∧ PtR H q x := by
 obtain ⟨j, rfl⟩ : ∃ j, k = j + 1 := ⟨k - 1, by omega⟩
 obtain ⟨x, hf, hx⟩ := qgl hal hsp h
 obtain ⟨mb, nb, av, iv, qs, h1, h2, h3, h4, h5, h6, h7, h8, h9, l1, l2⟩ := hI.ex
 have hlt := qmk h
 have hln : (qa5 X).length = (allG X).length := by rw [← qbl, List.length_map]
 have hq : numG X a b < qs.length := by omega
 obtain ⟨b1, o1, e1, e2, _, _, e4⟩ := h4.at' _ hq
 have r0 : qap (H.get b1) o1 = .val (.ptr qs[numG X a b].1 qs[numG X a b].2) := e4 0 (by rw [qyf]; omega)
 refine ⟨qs[numG X a b], x, hf, ?_, ?_⟩
 ·rw [(hC j).zBl]
  unfold zBl zbg
  have em := h3.find (.int .i64 (.ofNat 0)) a b h
  have hnx : (List.findIdx (fun q => decide (q = (a, b))) (allG X)) = numG X a b := rfl
  rw [hnx] at em
  simp (disch := first | omega | exact ti rfl | (simp only [np, nq]; first | done | omega)) only [go_sem, reduceAdd, reduceMul, reduceSub, reduceLeDiff, reduceEqDiff, reduceShiftRight, reduceAnd, h1, em]
  unfold qu5
  simp (disch := first | omega | exact ti rfl | (simp only [np, nq]; first | done | omega)) only [go_sem, reduceAdd, reduceMul, reduceSub, reduceLeDiff, reduceEqDiff, reduceShiftRight, reduceAnd, h1, e1, r0]
 ·have := h9 _ hq (by omega)
  rw [List.getElem?_eq_getElem (by omega)] at hx
  injection hx with hx
  rw [hx] at this
  exact this
theorem zey (hC : qav C) {k : Nat} (hk : 1 ≤ k) {H : Hp} {ib : Nat} {sv : AV} {X : List SpG} (hI : IdR H ib sv X) {a b : SS} (h : (a, b) ∉ allG X) :
  C k (.f qg9) [.ptr ib 0, .str a.n a.a, .str b.n b.a] H = .ok .nilptr H := by
 obtain ⟨j, rfl⟩ : ∃ j, k = j + 1 := ⟨k - 1, by omega⟩
 obtain ⟨mb, nb, av, iv, qs, h1, h2, h3, h4, h5, h6, h7, h8, h9, l1, l2⟩ := hI.ex
 rw [(hC j).zBl]
 unfold zBl zbg
 have em := h3.miss (.int .i64 (.ofNat 0)) a b h
 simp (disch := first | omega | exact ti rfl | (simp only [np, nq]; first | done | omega)) only [go_sem, reduceAdd, reduceMul, reduceSub, reduceLeDiff, reduceEqDiff, reduceShiftRight, reduceAnd, h1, em]
theorem qq9 (hC : qav C) {j : Nat} (hj : 1 ≤ j) {H0 : Hp} {ib : Nat} {sv tv : AV} {X : List SpG} (hI : IdR H0 ib sv X) (hal : (allG X).Nodup) (hsp : (X.map SpG.name).Nodup)
  {ts : List TyS} (ht : Rs 2 tC H0 tv ts) (htl : ts.length ≤ 1000) (to : SS) {Q : AV → Hp → Prop} {q : AV → Hp → R1}
  (hq : ∀ w H, Ac 1 sC H0 H w (tgL X to ts) → Ok (q w H) Q) :
  ∀ (k i : Nat) (w : AV) (H : Hp), i ≤ ts.length → ts.length - i < k → Ac 1 sC H0 H w (tgL X to (ts.take i)) →
   Ok (qk7 (C j) q (.ptr ib 0) to.v tv (.int .i64 (.ofNat ts.length)) k w (.int .i64 (.ofNat i)) H) Q
 | 0, i, _, _, _, h, _ => by omega
 | k + 1, i, w, H, hi, hk, hw => by
  show Ok (q5d (C j) _ _ _ _ _ (qk7 (C j) _ _ _ _ _ k) _ _ H) Q
  unfold q5d
  by_cases hlt : i < ts.length
  ·simp (disch := first | omega | exact ti rfl | (simp only [np, nq]; first | done | omega)) only [go_sem, reduceAdd, reduceMul, reduceSub, reduceLeDiff, reduceEqDiff, reduceShiftRight, reduceAnd, hlt]
   unfold qu4
   have ht1 := ht.fm hw.fm
   obtain ⟨b1, o1, e1, e2, _, e3, _⟩ := ht1.at' i hlt
   unfold tC SS.v at e3
   have hs := qzl X to hlt
   have hll := qqv X to (ts.take i)
   rw [List.length_take] at hll
   have skip : ∀ H3, Fm No H H3 → tgP X to ts[i] = false → Ok (qi0 (C j) (qk7 (C j) q (.ptr ib 0) (.str to.n to.a) tv (.int .i64 (.ofNat ts.length)) k) w (.int .i64 (.ofNat i)) H3) Q := fun H3 f3 h => by
    unfold qi0
    simp (disch := first | omega | exact ti rfl | (simp only [np, nq]; first | done | omega)) only [go_sem, reduceAdd, reduceMul, reduceSub, reduceLeDiff, reduceEqDiff, reduceShiftRight, reduceAnd]
    refine qq9 hC hj hI hal hsp ht htl to hq k (i + 1) w H3 (by omega) (by omega) ?_
    rw [hs, h]
    simpa using hw.no f3
   have f2 : Fm No H ((qal H (qaa 0 [.str 0 0, .str 0 0])).put H.nx (qaa 0 [.str ts[i].sp.n ts[i].sp.a, .str ts[i].rl.n ts[i].rl.a])) := by (repeat (first | exact Fm.refl _ _ | assumption | refine Fm.push ?_ _ | refine Fm.up2 ?_ (by (first | omega | (simp only [np, nq]; omega))) | refine Fm.put_new ?_ _ _ (by (first | omega | (simp only [np, nq]; omega)))))
   have hI2 := (hI.fm hw.fm).fm f2
   unfold SS.v
   unfold tgP at skip hs
   by_cases h1 : ts[i].rl.n = 0 ∧ ts[i].rl.a = 0
   ·have h1' : ts[i].rl = sE := (qde _ _).2 h1
    have h1t := eq_true h1
    rw [decide_eq_true h1', qjq hal hsp] at skip hs
    by_cases hin : (ts[i].sp, to) ∈ allG X
    ·obtain ⟨qq, x, _, ec, _⟩ := qg2 hC (k := j) hj hI2 hal hsp hin
     rw [decide_eq_true hin] at hs
     simp (disch := first | omega | exact ti rfl | (simp only [np, nq]; first | done | omega)) only [go_sem, reduceAdd, reduceMul, reduceSub, reduceLeDiff, reduceEqDiff, reduceShiftRight, reduceAnd, e1, e3, h1t, ec]
     refine Ok.ve ((hw.no (f2.trans (by (repeat (first | exact Fm.refl _ _ | assumption | refine Fm.push ?_ _ | refine Fm.up2 ?_ (by (first | omega | (simp only [np, nq]; omega))) | refine Fm.put_new ?_ _ _ (by (first | omega | (simp only [np, nq]; omega)))))))).add ts[i].sp 16 rfl (by omega) (by omega)) ?_
     intro w4 H4 hw4
     unfold qi0
     simp (disch := first | omega | exact ti rfl | (simp only [np, nq]; first | done | omega)) only [go_sem, reduceAdd, reduceMul, reduceSub, reduceLeDiff, reduceEqDiff, reduceShiftRight, reduceAnd]
     refine qq9 hC hj hI hal hsp ht htl to hq k (i + 1) w4 H4 (by omega) (by omega) ?_
     rw [hs]
     exact hw4
    ·have ec := zey hC (k := j) hj hI2 hin
     rw [decide_eq_false hin] at skip
     simp (disch := first | omega | exact ti rfl | (simp only [np, nq]; first | done | omega)) only [go_sem, reduceAdd, reduceMul, reduceSub, reduceLeDiff, reduceEqDiff, reduceShiftRight, reduceAnd, e1, e3, h1t, ec]
     exact skip _ f2 rfl
   ·rw [decide_eq_false (fun h => h1 ((qde _ _).1 h))] at skip
    simp (disch := first | omega | exact ti rfl | (simp only [np, nq]; first | done | omega)) only [go_sem, reduceAdd, reduceMul, reduceSub, reduceLeDiff, reduceEqDiff, reduceShiftRight, reduceAnd, e1, e3, h1]
    exact skip _ f2 rfl
  ·simp (disch := first | omega | exact ti rfl | (simp only [np, nq]; first | done | omega)) only [go_sem, reduceAdd, reduceMul, reduceSub, reduceLeDiff, reduceEqDiff, reduceShiftRight, reduceAnd, hlt]
   have he : i = ts.length := by omega
   rw [he, List.take_length] at hw
   exact hq w H hw
theorem ze0 (hC : qav C) {k : Nat} (hk : 1 ≤ k) {n : Nat} {H : Hp} {v : AV} {l : List AV} (h : Gl 1 H v n l) :
  ∃ w, C k (.f q0w) [v] H = .ok w H ∧ Gl 1 H w n l ∧ (∀ b, In w b → In v b) := by
 obtain ⟨j, rfl⟩ : ∃ j, k = j + 1 := ⟨k - 1, by omega⟩
 obtain ⟨w, e, h1, h2, h3⟩ := h.clip
 refine ⟨w, ?_, h1, h3⟩
 rw [(hC j).zCd]
 unfold zCd zf4
 simp (disch := first | omega | exact ti rfl | (simp only [np, nq]; first | done | omega)) only [go_sem, reduceAdd, reduceMul, reduceSub, reduceLeDiff, reduceEqDiff, reduceShiftRight, reduceAnd, h.lenV, e]
theorem qnc (hC : qav C) {k : Nat} (hk : 2 ≤ k) {H : Hp} {ib : Nat} {sv : AV} {X : List SpG} (hX : SchR H sv X) (hS : Sml X) (hI : IdR H ib sv X) (hal : (allG X).Nodup) (hsp : (X.map SpG.name).Nodup) (a b to : SS) (hab : (a, b) ∈ allG X) :
  Ok (C k (.f qtp) [.ptr ib 0, .str a.n a.a, .str b.n b.a, .str to.n to.a] H) fun r H' => Ac 1 sC H H' r (qel X a b to) := by
 obtain ⟨j, rfl⟩ : ∃ j, k = j + 1 := ⟨k - 1, by omega⟩
 rw [(hC j).zBm]
 unfold zBm zgg
 obtain ⟨q, x, hf, ec, hp⟩ := qg2 hC (k := j) (by omega) hI hal hsp hab
 have rt := hp.tv
 obtain ⟨p, hp1, hx, _, _⟩ := qin hf
 have hty := ((hX.sp p hp1).rel x hx).ty
 have htl := hS.t p hp1 x hx
 have hl := hty.len
 simp (disch := first | omega | exact ti rfl | (simp only [np, nq]; first | done | omega)) only [go_sem, reduceAdd, reduceMul, reduceSub, reduceLeDiff, reduceEqDiff, reduceShiftRight, reduceAnd, ec, rt, hl]
 unfold q5e
 rw [qan]
 refine qq9 hC (by omega) hI hal hsp hty (by omega) to (fun w H2 hw => ?_) qak 0 .nilsl H (Nat.zero_le _) (by rw [qaf]; omega) (Ac.nil _ _ (Fm.refl _ _))
 unfold qj0
 obtain ⟨w', e, g, hi⟩ := ze0 hC (k := j) (by omega) hw.gl
 simp (disch := first | omega | exact ti rfl | (simp only [np, nq]; first | done | omega)) only [go_sem, reduceAdd, reduceMul, reduceSub, reduceLeDiff, reduceEqDiff, reduceShiftRight, reduceAnd, e]
 unfold qel
 rw [hf]
 exact Ok.ret ⟨g, hw.fm, fun c hc => hw.nw c (hi c hc)⟩
end Go.Di
end
section
namespace Go.Di
open Go.Ev
variable {C : Nat → Ev.Call}
theorem quf (n m i : Nat) (h : i ≤ m) : bounds n m none (some (.int .i64 (.ofNat i))) none = some ⟨0, i, m⟩ := by
 show (match (bif Nat.ble i m then some i else none) with | none => none | some h => match (some 0 : Option Nat) with | none => none | some l => some (Bd.mk l h m)) = _
 rw [ble_eq, decide_eq_true h]; rfl
theorem Rs.pre {α : Type} {z : Nat} {f : α → List AV} {H : Hp} {v : AV} {l : List α} (h : Rs z f H v l) (hc : v = .nilsl ∨ ∃ b o n m e, v = .sl b o n m e ∧ n ≤ m) {i : Nat} (hi : i < l.length) :
  ∃ w, qbq z v none (some (.int .i64 (.ofNat i))) none = .val w ∧ Rs z f H w (l.take i) := by
 have hl := h.len
 rcases hc with rfl | ⟨b, o, n, m, e, rfl, hnm⟩
 ·exfalso
  have : l.length = 0 := by
   have h1 : lenSl .nilsl = R0.val (.int .i64 (.ofNat 0)) := rfl
   rw [h1] at hl
   injection hl with hl
   injection hl with _ hl
   injection hl with hl
   exact hl.symm
  omega
 ·have hn : n = l.length := by
   have h1 : lenSl (.sl b o n m e) = R0.val (.int .i64 (.ofNat n)) := rfl
   rw [h1] at hl
   injection hl with hl
   injection hl with _ hl
   injection hl
  subst hn
  have e1 : qbq z (.sl b o l.length m e) none (some (.int .i64 (.ofNat i))) none = mkSl b o z ⟨0, i, m⟩ e := by
   show (match bounds l.length m none (some (.int .i64 (.ofNat i))) none with | some bd => mkSl b o z bd e | none => R0.bad) = _
   rw [quf _ _ _ (by omega)]
  have e2 : mkSl b o z ⟨0, i, m⟩ e = .val (.sl b o i m e) := by
   unfold mkSl
   simp only [beq_eq]
   rw [decide_eq_false (by omega), cond_false]
   show R0.val (.sl b (o + 0 * z) (i - 0) (m - 0) e) = _
   rw [Nat.zero_mul, Nat.add_zero, Nat.sub_zero, Nat.sub_zero]
  refine ⟨.sl b o i m e, e1.trans e2, ?_, fun j hj => ?_⟩
  ·rw [List.length_take, Nat.min_eq_left (by omega)]; rfl
  ·have hj' : j < i := by rw [List.length_take] at hj; omega
   obtain ⟨b', o', i1, i2, i3, i4, i5⟩ := h.at' j (by omega)
   rw [qg8 _ _ _ _ _ _ _ _ (by omega)] at i1
   injection i1 with i1
   injection i1 with i1 i6
   subst i1 i6
   refine ⟨b, _, qg8 _ _ _ _ _ _ _ _ hj', i2, ⟨_, _, _, _, rfl⟩, ?_, fun m hm => ?_⟩
   ·rw [List.getElem_take]; exact i4
   ·have : ((l.take i)[j]'hj) = l[j]'(by omega) := List.getElem_take ..
    simp only [this] at hm ⊢
    exact i5 m hm
def kyT (t : TyS) : SS × SS := (t.sp, t.rl)
theorem qzk {call : Ev.Call} {H : Hp} {tv : AV} {ts : List TyS} (ht : Rs 2 tC H tv ts) (htl : ts.length ≤ 1000) {t : TyS} (hn : t ∉ ts) {pb : Nat} (hp : H.get pb = qaa 0 [.str t.sp.n t.sp.a, .str t.rl.n t.rl.a]) {Q : AV → Hp → Prop} {q : Hp → R1} {qr : AV → Hp → R1} (hq : Ok (q H) Q) :
  ∀ (k i : Nat), i ≤ ts.length → ts.length - i < k → Ok (qnn call qr q tv (.ptr pb 0) (.int .i64 (.ofNat ts.length)) k (.int .i64 (.ofNat i)) H) Q
 | 0, i, _, h => by omega
 | k + 1, i, hi, hk => by
  show Ok (q4n call _ _ _ _ _ (qnn call _ _ _ _ _ k) _ H) Q
  unfold q4n
  by_cases hlt : i < ts.length
  ·simp (disch := first | omega | exact ti rfl | (simp only [np, nq]; first | done | omega)) only [go_sem, reduceAdd, reduceMul, reduceSub, reduceLeDiff, reduceEqDiff, reduceShiftRight, reduceAnd, hlt]
   unfold quq
   obtain ⟨b1, o1, e1, e2, _, e3, _⟩ := ht.at' i hlt
   unfold tC SS.v at e3
   have hne : ¬ kyT t = kyT ts[i] := fun h => hn (by
    have : t = ts[i] := by
     unfold kyT at h
     injection h with h1 h2
     cases t
     generalize ts[i] = u at *
     cases u
     simp only at h1 h2
     rw [h1, h2]
    rw [this]; exact List.getElem_mem hlt)
   have ee : qcd (eqFields [(p1, ⟨qbj⟩, 0), (p1, ⟨qbj⟩, 1)]) (.agg [.str t.sp.n t.sp.a, .str t.rl.n t.rl.a]) (.agg [.str ts[i].sp.n ts[i].sp.a, .str ts[i].rl.n ts[i].rl.a]) = some (decide (kyT t = kyT ts[i])) := qte (kyT t) (kyT ts[i])
   rw [decide_eq_false hne] at ee
   simp (disch := first | omega | exact ti rfl | (simp only [np, nq]; first | done | omega)) only [go_sem, reduceAdd, reduceMul, reduceSub, reduceLeDiff, reduceEqDiff, reduceShiftRight, reduceAnd, hp, e1, e3, ee]
   unfold q4m
   simp (disch := first | omega | exact ti rfl | (simp only [np, nq]; first | done | omega)) only [go_sem, reduceAdd, reduceMul, reduceSub, reduceLeDiff, reduceEqDiff, reduceShiftRight, reduceAnd]
   exact qzk ht htl hn hp hq k (i + 1) (by omega) (by omega)
  ·simp (disch := first | omega | exact ti rfl | (simp only [np, nq]; first | done | omega)) only [go_sem, reduceAdd, reduceMul, reduceSub, reduceLeDiff, reduceEqDiff, reduceShiftRight, reduceAnd, hlt]
   exact hq
theorem quk (hC : qav C) {k : Nat} (hk : 2 ≤ k) {H : Hp} {tv : AV} {ts : List TyS} (ht : Rs 2 tC H tv ts) (htl : ts.length ≤ 1000) {t : TyS} (hn : t ∉ ts) :
  Ok (C k (.f qti) [tv, .agg [.str t.sp.n t.sp.a, .str t.rl.n t.rl.a]] H) fun r H' => r = .bool false ∧ Fm No H H' := by
 obtain ⟨j, rfl⟩ : ∃ j, k = j + 1 + 1 := ⟨k - 2, by omega⟩
 rw [(hC (j + 1)).zCl]
 unfold zCl zfw
 simp (disch := first | omega | exact ti rfl | (simp only [np, nq]; first | done | omega)) only [go_sem, reduceAdd, reduceMul, reduceSub, reduceLeDiff, reduceEqDiff, reduceShiftRight, reduceAnd]
 rw [(hC j).zCp]
 unfold zCp zft
 have hl := ht.len
 simp (disch := first | omega | exact ti rfl | (simp only [np, nq]; first | done | omega)) only [go_sem, reduceAdd, reduceMul, reduceSub, reduceLeDiff, reduceEqDiff, reduceShiftRight, reduceAnd, hl]
 have f : Fm No H (qal (qal H (qaa 0 [.str t.sp.n t.sp.a, .str t.rl.n t.rl.a])) (qaa 0 [.str t.sp.n t.sp.a, .str t.rl.n t.rl.a])) := by (repeat (first | exact Fm.refl _ _ | assumption | refine Fm.push ?_ _ | refine Fm.up2 ?_ (by (first | omega | (simp only [np, nq]; omega))) | refine Fm.put_new ?_ _ _ (by (first | omega | (simp only [np, nq]; omega)))))
 unfold q4o
 rw [qan]
 refine Ok.ve (R := fun r H' => r = .int .i64 (.negSucc 0) ∧ Fm No H H') (qzk (ht.fm f) htl hn (pb := H.nx + 1) (by simp (disch := first | omega | exact ti rfl | (simp only [np, nq]; first | done | omega)) only [go_sem, reduceAdd, reduceMul, reduceSub, reduceLeDiff, reduceEqDiff, reduceShiftRight, reduceAnd]) ?_ qak 0 (Nat.zero_le _) (by rw [qaf]; omega)) ?_
 ·unfold qky
  exact Ok.ret ⟨rfl, f⟩
 ·rintro _ H2 ⟨rfl, f2⟩
  simp (disch := first | omega | exact ti rfl | (simp only [np, nq]; first | done | omega)) only [go_sem, reduceAdd, reduceMul, reduceSub, reduceLeDiff, reduceEqDiff, reduceShiftRight, reduceAnd]
  exact Ok.ret ⟨rfl, f2⟩
theorem qz9 (hC : qav C) {j : Nat} (hj : 2 ≤ j) {Hb : Hp} {ib : Nat} {sv : AV} {X : List SpG} (hI : IdR Hb ib sv X) (hV : ValX X) {pp : Nat × Nat} {x : RelG} (hpx : PtR Hb pp x) (hxr : RelR Hb x) (htl : x.r.types.length ≤ 8) (hnd : x.r.types.Nodup)
  (hty : ∀ t ∈ x.r.types, t.sp ∈ X.map SpG.name ∧ (t.rl = sE ∨ (t.sp, t.rl) ∈ allG X)) {Q : AV → Hp → Prop} {q : Hp → R1} {qr : AV → Hp → R1} (hq : ∀ H, Fm No Hb H → Ok (q H) Q) :
  ∀ (k i : Nat) (H : Hp), i ≤ x.r.types.length → x.r.types.length - i < k → Fm No Hb H → Ok (qdl (C j) qr q (.ptr ib 0) (.ptr pp.1 pp.2) x.tv (.int .i64 (.ofNat x.r.types.length)) k (.int .i64 (.ofNat i)) H) Q
 | 0, i, _, _, h, _ => by omega
 | k + 1, i, H, hi, hk, hf => by
  show Ok (q4t (C j) _ _ _ _ _ _ (qdl (C j) _ _ _ _ _ _ k) _ H) Q
  unfold q4t
  by_cases hlt : i < x.r.types.length
  ·simp (disch := first | omega | exact ti rfl | (simp only [np, nq]; first | done | omega)) only [go_sem, reduceAdd, reduceMul, reduceSub, reduceLeDiff, reduceEqDiff, reduceShiftRight, reduceAnd, hlt]
   rw [qnr]
   unfold qez
   have h1 := hxr.fm hf
   obtain ⟨b1, o1, e1, e2, _, e3, _⟩ := h1.ty.at' i hlt
   unfold tC SS.v at e3
   have hI1 := hI.fm hf
   have ht := hty _ (List.getElem_mem hlt)
   have fp : Fm No H ((qal H (qaa 0 [.str 0 0, .str 0 0])).put H.nx (qaa 0 [.str x.r.types[i].sp.n x.r.types[i].sp.a, .str x.r.types[i].rl.n x.r.types[i].rl.a])) := by (repeat (first | exact Fm.refl _ _ | assumption | refine Fm.push ?_ _ | refine Fm.up2 ?_ (by (first | omega | (simp only [np, nq]; omega))) | refine Fm.put_new ?_ _ _ (by (first | omega | (simp only [np, nq]; omega)))))
   have hI2 := hI1.fm fp
   obtain ⟨mb, nb, av, iv, qs, g1, g2, g3, _⟩ := hI2.ex
   have em : qeh ⟨qbj, none⟩ (.int .i64 (.ofNat 0)) false ⟨((qal H (qaa 0 [.str 0 0, .str 0 0])).put H.nx (qaa 0 [.str x.r.types[i].sp.n x.r.types[i].sp.a, .str x.r.types[i].rl.n x.r.types[i].rl.a])).t, H.nx + 1⟩ (.map mb) (.str x.r.types[i].sp.n x.r.types[i].sp.a) = .val (.int .i64 (.ofNat 1)) := g2.find _ _ ht.1
   have hpx1 := (hpx.fm hf).fm fp
   have rt := hpx1.tv
   have hxr2 := h1.fm fp
   obtain ⟨w, ew, hw⟩ := hxr2.ty.pre hxr2.tc hlt
   have tail : ∀ H3, Fm No ((qal H (qaa 0 [.str 0 0, .str 0 0])).put H.nx (qaa 0 [.str x.r.types[i].sp.n x.r.types[i].sp.a, .str x.r.types[i].rl.n x.r.types[i].rl.a])) H3 → Ok (C j (.f qti) [w, .agg [.str x.r.types[i].sp.n x.r.types[i].sp.a, .str x.r.types[i].rl.n x.r.types[i].rl.a]] H3) fun r H' => r = .bool false ∧ Fm No H3 H' := fun H3 f3 =>
    quk hC hj (hw.fm f3) (by rw [List.length_take]; omega) (t := x.r.types[i]) (qj8 hnd hlt)
   have fin : ∀ H3, Fm No H H3 → Ok (qy5 (C j) (qdl (C j) qr q (.ptr ib 0) (.ptr pp.1 pp.2) x.tv (.int .i64 (.ofNat x.r.types.length)) k) (.int .i64 (.ofNat i)) H3) Q := fun H3 f3 => by
    rw [qr2]
    unfold qhg
    simp (disch := first | omega | exact ti rfl | (simp only [np, nq]; first | done | omega)) only [go_sem, reduceAdd, reduceMul, reduceSub, reduceLeDiff, reduceEqDiff, reduceShiftRight, reduceAnd]
    exact qz9 hC hj hI hV hpx hxr htl hnd hty hq k (i + 1) H3 (by omega) (by omega) (hf.trans f3)
   by_cases hz : x.r.types[i].rl.n = 0 ∧ x.r.types[i].rl.a = 0
   ·have hzt := eq_true hz
    simp (disch := first | omega | exact ti rfl | (simp only [np, nq]; first | done | omega)) only [go_sem, reduceAdd, reduceMul, reduceSub, reduceLeDiff, reduceEqDiff, reduceShiftRight, reduceAnd, e1, e3, g1, em, hzt, rt, ew]
    refine Ok.deO (tail _ (Fm.refl _ _)) ?_
    rintro _ H3 ⟨rfl, f3⟩
    simp (disch := first | omega | exact ti rfl | (simp only [np, nq]; first | done | omega)) only [go_sem, reduceAdd, reduceMul, reduceSub, reduceLeDiff, reduceEqDiff, reduceShiftRight, reduceAnd]
    exact fin H3 (fp.trans f3)
   ·have hin : (x.r.types[i].sp, x.r.types[i].rl) ∈ allG X := by
     rcases ht.2 with h | h
     ·exact absurd ((qde _ _).1 h) hz
     ·exact h
    obtain ⟨qq, y, _, ec, _⟩ := qg2 hC (k := j) (by omega) hI2 hV.al hV.sp hin
    have ec' : C j (.f qg9) [.ptr ib 0, .str x.r.types[i].sp.n x.r.types[i].sp.a, .str x.r.types[i].rl.n x.r.types[i].rl.a] ⟨((qal H (qaa 0 [.str 0 0, .str 0 0])).put H.nx (qaa 0 [.str x.r.types[i].sp.n x.r.types[i].sp.a, .str x.r.types[i].rl.n x.r.types[i].rl.a])).t, H.nx + 1⟩ = .ok (.ptr qq.1 qq.2) ((qal H (qaa 0 [.str 0 0, .str 0 0])).put H.nx (qaa 0 [.str x.r.types[i].sp.n x.r.types[i].sp.a, .str x.r.types[i].rl.n x.r.types[i].rl.a])) := ec
    simp (disch := first | omega | exact ti rfl | (simp only [np, nq]; first | done | omega)) only [go_sem, reduceAdd, reduceMul, reduceSub, reduceLeDiff, reduceEqDiff, reduceShiftRight, reduceAnd, e1, e3, g1, em, hz, ec', rt, ew]
    refine Ok.deO (tail _ (Fm.refl _ _)) ?_
    rintro _ H3 ⟨rfl, f3⟩
    simp (disch := first | omega | exact ti rfl | (simp only [np, nq]; first | done | omega)) only [go_sem, reduceAdd, reduceMul, reduceSub, reduceLeDiff, reduceEqDiff, reduceShiftRight, reduceAnd]
    exact fin H3 (fp.trans f3)
  ·simp (disch := first | omega | exact ti rfl | (simp only [np, nq]; first | done | omega)) only [go_sem, reduceAdd, reduceMul, reduceSub, reduceLeDiff, reduceEqDiff, reduceShiftRight, reduceAnd, hlt]
   exact hq H hf
theorem q98 (hC : qav C) {k : Nat} (hk : 3 ≤ k) {H : Hp} {ib : Nat} {sv : AV} {X : List SpG} (hI : IdR H ib sv X) (hV : ValX X) {pp : Nat × Nat} {x : RelG} (hpx : PtR H pp x) (hxr : RelR H x) (htl : x.r.types.length ≤ 8) (hnd : x.r.types.Nodup)
  (hty : ∀ t ∈ x.r.types, t.sp ∈ X.map SpG.name ∧ (t.rl = sE ∨ (t.sp, t.rl) ∈ allG X)) :
  Ok (C k (.f q0u) [.ptr ib 0, .ptr pp.1 pp.2] H) fun r H' => r = .int .i64 (.ofNat 0) ∧ Fm No H H' := by
 obtain ⟨j, rfl⟩ : ∃ j, k = j + 1 := ⟨k - 1, by omega⟩
 rw [(hC j).zCg]
 unfold zCg zf1
 have rt := hpx.tv
 have hl := hxr.ty.len
 simp (disch := first | omega | exact ti rfl | (simp only [np, nq]; first | done | omega)) only [go_sem, reduceAdd, reduceMul, reduceSub, reduceLeDiff, reduceEqDiff, reduceShiftRight, reduceAnd, rt, hl]
 unfold q4u
 rw [qan]
 refine qz9 hC (by omega) hI hV hpx hxr htl hnd hty (fun H2 f2 => ?_) qak 0 H (Nat.zero_le _) (by rw [qaf]; omega) (Fm.refl _ _)
 rw [qr3]
 unfold qhh
 exact Ok.ret ⟨rfl, f2⟩
end Go.Di
end
section
namespace Go.Di
open Go.Ev
variable {C : Nat → Ev.Call}
theorem zel (nm n a : Nat) : box1 nm (.str n a) = .new (.ptr nm 0) (qaa 0 [.str n a]) := id rfl
theorem zem (nm n a : Nat) : box1 nm (.ptr n a) = .new (.ptr nm 0) (qaa 0 [.ptr n a]) := id rfl
attribute [go_sem] zel zem
theorem qjg (hC : qav C) {j : Nat} (hj : 2 ≤ j) {Hb : Hp} {ib : Nat} {sv nv : AV} {X : List SpG} (hX : SchR Hb sv X) (hI : IdR Hb ib sv X) (hV : ValX X) (s : SS) {l : List (Nd × AV)} (hl : Rs 5 ndC Hb nv l) (hll : l.length ≤ 1000)
  (hnd : ∀ y ∈ l, (y.1.k = 2 ∨ y.1.k = 3 → (s, y.1.rl) ∈ allG X) ∧ (y.1.k = 3 → qel X s y.1.rl y.1.to ≠ [])) {Q : AV → Hp → Prop} {q : AV → Hp → R1} {qr : AV → AV → Hp → R1} (hq : ∀ H, Fm No Hb H → Ok (q (.bool (l.any fun y => decide (y.1.k = 1))) H) Q) :
  ∀ (k i : Nat) (u : Bool) (H : Hp), i ≤ l.length → l.length - i < k → Fm No Hb H → u = ((l.take i).any fun y => decide (y.1.k = 1)) → Ok (qjy (C j) qr q (.ptr ib 0) (.str s.n s.a) nv (.int .i64 (.ofNat l.length)) k (.bool u) (.int .i64 (.ofNat i)) H) Q
 | 0, i, _, _, _, h, _, _ => by omega
 | k + 1, i, u, H, hi, hk, hf, hu => by
  show Ok (q4p (C j) _ _ _ _ _ _ (qjy (C j) _ _ _ _ _ _ k) _ _ H) Q
  unfold q4p
  by_cases hlt : i < l.length
  ·simp (disch := first | omega | exact ti rfl | (simp only [np, nq]; first | done | omega)) only [go_sem, reduceAdd, reduceMul, reduceSub, reduceLeDiff, reduceEqDiff, reduceShiftRight, reduceAnd, hlt]
   unfold qur
   have h1 := hl.fm hf
   obtain ⟨b1, o1, e1, e2, _, e3, _⟩ := h1.at' i hlt
   unfold ndC SS.v at e3
   have hn := hnd _ (List.getElem_mem hlt)
   have fp : Fm No H ((qal H (qaa 0 [.int .u8 (.ofNat 0), .str 0 0, .str 0 0, .nilsl, .bool false])).put H.nx (qaa 0 [.int .u8 (.ofNat l[i].1.k), .str l[i].1.rl.n l[i].1.rl.a, .str l[i].1.to.n l[i].1.to.a, l[i].2, .bool l[i].1.neg])) := by (repeat (first | exact Fm.refl _ _ | assumption | refine Fm.push ?_ _ | refine Fm.up2 ?_ (by (first | omega | (simp only [np, nq]; omega))) | refine Fm.put_new ?_ _ _ (by (first | omega | (simp only [np, nq]; omega)))))
   obtain ⟨H1, hH1⟩ : ∃ H1, H1 = (qal H (qaa 0 [.int .u8 (.ofNat 0), .str 0 0, .str 0 0, .nilsl, .bool false])).put H.nx (qaa 0 [.int .u8 (.ofNat l[i].1.k), .str l[i].1.rl.n l[i].1.rl.a, .str l[i].1.to.n l[i].1.to.a, l[i].2, .bool l[i].1.neg]) := ⟨_, rfl⟩
   rw [← hH1] at fp
   have pb : H1.get H.nx = qaa 0 [.int .u8 (.ofNat l[i].1.k), .str l[i].1.rl.n l[i].1.rl.a, .str l[i].1.to.n l[i].1.to.a, l[i].2, .bool l[i].1.neg] := by rw [hH1]; exact qam _ _ _
   have n1 : H.nx < H1.nx := by rw [hH1]; (first | omega | (simp only [np, nq]; omega))
   have hI2 := (hI.fm hf).fm fp
   have hs : ((l.take (i + 1)).any fun y => decide (y.1.k = 1)) = (((l.take i).any fun y => decide (y.1.k = 1)) || decide (l[i].1.k = 1)) := by
    rw [List.take_succ_eq_append_getElem hlt, List.any_append]; simp
   have fin : ∀ H3, Fm No H1 H3 → Ok (qpw (C j) (qjy (C j) qr q (.ptr ib 0) (.str s.n s.a) nv (.int .i64 (.ofNat l.length)) k) (.bool u) (.ptr H.nx 0) (.int .i64 (.ofNat i)) H3) Q := fun H3 f3 => by
    unfold qpw
    have p3 := (f3.keep n1).trans pb
    cases u with
    | true =>
     simp (disch := first | omega | exact ti rfl | (simp only [np, nq]; first | done | omega)) only [go_sem, reduceAdd, reduceMul, reduceSub, reduceLeDiff, reduceEqDiff, reduceShiftRight, reduceAnd]
     unfold qy4
     simp (disch := first | omega | exact ti rfl | (simp only [np, nq]; first | done | omega)) only [go_sem, reduceAdd, reduceMul, reduceSub, reduceLeDiff, reduceEqDiff, reduceShiftRight, reduceAnd]
     exact qjg hC hj hX hI hV s hl hll hnd hq k (i + 1) true H3 (by omega) (by omega) (hf.trans (fp.trans f3)) (by rw [hs, ← hu]; rfl)
    | false =>
     simp (disch := first | omega | exact ti rfl | (simp only [np, nq]; first | done | omega)) only [go_sem, reduceAdd, reduceMul, reduceSub, reduceLeDiff, reduceEqDiff, reduceShiftRight, reduceAnd, p3]
     unfold qy4
     simp (disch := first | omega | exact ti rfl | (simp only [np, nq]; first | done | omega)) only [go_sem, reduceAdd, reduceMul, reduceSub, reduceLeDiff, reduceEqDiff, reduceShiftRight, reduceAnd]
     exact qjg hC hj hX hI hV s hl hll hnd hq k (i + 1) _ H3 (by omega) (by omega) (hf.trans (fp.trans f3)) (by rw [hs, ← hu]; rfl)
   by_cases q2 : l[i].1.k = 2
   ·have q2t := eq_true q2
    obtain ⟨qq, y, _, ec, _⟩ := qg2 hC (k := j) (by omega) hI2 hV.al hV.sp (hn.1 (.inl q2))
    have q3 : ¬ l[i].1.k = 3 := by omega
    rw [hH1] at ec
    simp (disch := first | omega | exact ti rfl | (simp only [np, nq]; first | done | omega)) only [go_sem, reduceAdd, reduceMul, reduceSub, reduceLeDiff, reduceEqDiff, reduceShiftRight, reduceAnd, e1, e3, q2t, q3, ec]
    rw [← hH1]
    exact fin H1 (Fm.refl _ _)
   ·by_cases q3 : l[i].1.k = 3
    ·have q3t := eq_true q3
     have hin := hn.1 (.inr q3)
     obtain ⟨qq, y, _, ec, _⟩ := qg2 hC (k := j) (by omega) hI2 hV.al hV.sp hin
     have ht := qnc hC (k := j) (by omega) ((hX.fm hf).fm fp) hV.pr.sml hI2 hV.al hV.sp s l[i].1.rl l[i].1.to hin
     rw [hH1] at ec
     simp (disch := first | omega | exact ti rfl | (simp only [np, nq]; first | done | omega)) only [go_sem, reduceAdd, reduceMul, reduceSub, reduceLeDiff, reduceEqDiff, reduceShiftRight, reduceAnd, e1, e3, q3t, q2, ec]
     rw [← hH1]
     refine Ok.ve ht ?_
     intro tv H2 ha
     have hla := ha.lenV
     have hne : ¬ (qel X s l[i].1.rl l[i].1.to).length = 0 := fun h => hn.2 q3 (List.length_eq_zero_iff.1 h)
     simp (disch := first | omega | exact ti rfl | (simp only [np, nq]; first | done | omega)) only [go_sem, reduceAdd, reduceMul, reduceSub, reduceLeDiff, reduceEqDiff, reduceShiftRight, reduceAnd, hla, hne]
     exact fin H2 ha.fm
    ·simp (disch := first | omega | exact ti rfl | (simp only [np, nq]; first | done | omega)) only [go_sem, reduceAdd, reduceMul, reduceSub, reduceLeDiff, reduceEqDiff, reduceShiftRight, reduceAnd, e1, e3, q2, q3]
     rw [← hH1]
     exact fin H1 (Fm.refl _ _)
  ·simp (disch := first | omega | exact ti rfl | (simp only [np, nq]; first | done | omega)) only [go_sem, reduceAdd, reduceMul, reduceSub, reduceLeDiff, reduceEqDiff, reduceShiftRight, reduceAnd, hlt]
   have he : i = l.length := by omega
   rw [he, List.take_length] at hu
   rw [hu]
   exact hq H hf
theorem zex (hC : qav C) {k : Nat} (hk : 3 ≤ k) {H : Hp} {ib : Nat} {sv nv : AV} {X : List SpG} (hX : SchR H sv X) (hI : IdR H ib sv X) (hV : ValX X) (s : SS) {l : List (Nd × AV)} (hl : Rs 5 ndC H nv l) (hll : l.length ≤ 1000)
  (hnd : ∀ y ∈ l, (y.1.k = 2 ∨ y.1.k = 3 → (s, y.1.rl) ∈ allG X) ∧ (y.1.k = 3 → qel X s y.1.rl y.1.to ≠ [])) :
  Ok (C k (.f q0t) [.ptr ib 0, .str s.n s.a, nv] H) fun r H' => r = .tup [.bool (l.any fun y => decide (y.1.k = 1)), .int .i64 (.ofNat 0)] ∧ Fm No H H' := by
 obtain ⟨j, rfl⟩ : ∃ j, k = j + 1 := ⟨k - 1, by omega⟩
 rw [(hC j).zCh]
 unfold zCh zf0
 have hln := hl.len
 simp (disch := first | omega | exact ti rfl | (simp only [np, nq]; first | done | omega)) only [go_sem, reduceAdd, reduceMul, reduceSub, reduceLeDiff, reduceEqDiff, reduceShiftRight, reduceAnd, hln]
 unfold q4q
 rw [qan]
 refine qjg hC (by omega) hX hI hV s hl hll hnd (fun H2 f2 => ?_) qak 0 false H (Nat.zero_le _) (by rw [qaf]; omega) (Fm.refl _ _) rfl
 unfold qjz
 exact Ok.ret ⟨rfl, f2⟩
theorem q0k (hC : qav C) {j : Nat} (hj : 1 ≤ j) {Hb : Hp} {nv : AV} {l : List (Nd × AV)} (hl : Rs 5 ndC Hb nv l) (hll : l.length ≤ 1000) {s : SS} {sb : Nat} (hs : Hb.get sb = qaa 0 [.str s.n s.a]) (hsl : sb < Hb.nx) {Q : AV → Hp → Prop} {q : Hp → R1} {qr : AV → Hp → R1}
  (hr : ∀ i H, l.any (fun y => hasN 3 s y.1) = true → Fm No Hb H → Ok (qr (.int .i64 (.ofNat i)) H) Q) (hq : ∀ H, l.any (fun y => hasN 3 s y.1) = false → Fm No Hb H → Ok (q H) Q) :
  ∀ (k i : Nat) (H : Hp), i ≤ l.length → l.length - i < k → Fm No Hb H → (l.take i).any (fun y => hasN 3 s y.1) = false → Ok (qkv (C j) qr q nv (.fn qo6 [] [.ptr sb 0]) (.int .i64 (.ofNat l.length)) k (.int .i64 (.ofNat i)) H) Q
 | 0, i, _, _, h, _, _ => by omega
 | k + 1, i, H, hi, hk, hf, hn => by
  show Ok (q4g (C j) _ _ _ _ _ (qkv (C j) _ _ _ _ _ k) _ H) Q
  unfold q4g
  obtain ⟨m, rfl⟩ : ∃ m, j = m + 1 := ⟨j - 1, by omega⟩
  by_cases hlt : i < l.length
  ·simp (disch := first | omega | exact ti rfl | (simp only [np, nq]; first | done | omega)) only [go_sem, reduceAdd, reduceMul, reduceSub, reduceLeDiff, reduceEqDiff, reduceShiftRight, reduceAnd, hlt]
   unfold q4f
   have h1 := hl.fm hf
   obtain ⟨b1, o1, e1, e2, _, e3, _⟩ := h1.at' i hlt
   unfold ndC SS.v at e3
   have hs1 := (hf.keep hsl).trans hs
   have nx1 := hf.nx
   simp (disch := first | omega | exact ti rfl | (simp only [np, nq]; first | done | omega)) only [go_sem, reduceAdd, reduceMul, reduceSub, reduceLeDiff, reduceEqDiff, reduceShiftRight, reduceAnd, e1, e3]
   rw [(hC m).zCq]
   unfold zCq zfs
   have fp : Fm No H (qal H (qaa 0 [.int .u8 (.ofNat l[i].1.k), .str l[i].1.rl.n l[i].1.rl.a, .str l[i].1.to.n l[i].1.to.a, l[i].2, .bool l[i].1.neg])) := by (repeat (first | exact Fm.refl _ _ | assumption | refine Fm.push ?_ _ | refine Fm.up2 ?_ (by (first | omega | (simp only [np, nq]; omega))) | refine Fm.put_new ?_ _ _ (by (first | omega | (simp only [np, nq]; omega)))))
   have hst : (l.take (i + 1)).any (fun y => hasN 3 s y.1) = hasN 3 s l[i].1 := by
    rw [List.take_succ_eq_append_getElem hlt, List.any_append, hn]; simp
   have skip : hasN 3 s l[i].1 = false → Ok (qy3 (C (m + 1)) (qkv (C (m + 1)) qr q nv (.fn qo6 [] [.ptr sb 0]) (.int .i64 (.ofNat l.length)) k) (.int .i64 (.ofNat i)) (qal H (qaa 0 [.int .u8 (.ofNat l[i].1.k), .str l[i].1.rl.n l[i].1.rl.a, .str l[i].1.to.n l[i].1.to.a, l[i].2, .bool l[i].1.neg]))) Q := fun hh => by
    unfold qy3
    simp (disch := first | omega | exact ti rfl | (simp only [np, nq]; first | done | omega)) only [go_sem, reduceAdd, reduceMul, reduceSub, reduceLeDiff, reduceEqDiff, reduceShiftRight, reduceAnd]
    exact q0k hC hj hl hll hs hsl hr hq k (i + 1) _ (by omega) (by omega) (hf.trans fp) (by rw [hst, hh])
   by_cases q3 : l[i].1.k = 3
   ·have q3t := eq_true q3
    by_cases h2 : l[i].1.rl.n = s.n ∧ l[i].1.rl.a = s.a
    ·have h2t := eq_true h2
     have hh : hasN 3 s l[i].1 = true := by unfold hasN; rw [decide_eq_true q3, decide_eq_true ((qde _ _).2 h2)]; rfl
     simp (disch := first | omega | exact ti rfl | (simp only [np, nq]; first | done | omega)) only [go_sem, reduceAdd, reduceMul, reduceSub, reduceLeDiff, reduceEqDiff, reduceShiftRight, reduceAnd, q3t, hs1, h2t]
     exact hr i _ (List.any_eq_true.2 ⟨_, List.getElem_mem hlt, hh⟩) (hf.trans fp)
    ·have hh : hasN 3 s l[i].1 = false := by unfold hasN; rw [decide_eq_false (fun h => h2 ((qde _ _).1 h))]; simp
     simp (disch := first | omega | exact ti rfl | (simp only [np, nq]; first | done | omega)) only [go_sem, reduceAdd, reduceMul, reduceSub, reduceLeDiff, reduceEqDiff, reduceShiftRight, reduceAnd, q3t, hs1, h2]
     exact skip hh
   ·have hh : hasN 3 s l[i].1 = false := by unfold hasN; rw [decide_eq_false q3]; simp
    simp (disch := first | omega | exact ti rfl | (simp only [np, nq]; first | done | omega)) only [go_sem, reduceAdd, reduceMul, reduceSub, reduceLeDiff, reduceEqDiff, reduceShiftRight, reduceAnd, q3]
    exact skip hh
  ·simp (disch := first | omega | exact ti rfl | (simp only [np, nq]; first | done | omega)) only [go_sem, reduceAdd, reduceMul, reduceSub, reduceLeDiff, reduceEqDiff, reduceShiftRight, reduceAnd, hlt]
   have he : i = l.length := by omega
   rw [he, List.take_length] at hn
   exact hq H hn hf
theorem qun (hC : qav C) {k : Nat} (hk : 3 ≤ k) {H : Hp} {nv : AV} {l : List (Nd × AV)} (hl : Rs 5 ndC H nv l) (hll : l.length ≤ 1000) {s : SS} {sb : Nat} (hs : H.get sb = qaa 0 [.str s.n s.a]) (hsl : sb < H.nx) :
  Ok (C k (.f q0p) [nv, .fn qo6 [] [.ptr sb 0]] H) fun r H' => r = .bool (l.any fun y => hasN 3 s y.1) ∧ Fm No H H' := by
 obtain ⟨j, rfl⟩ : ∃ j, k = j + 1 + 1 := ⟨k - 2, by omega⟩
 rw [(hC (j + 1)).zCr]
 unfold zCr zfr
 rw [(hC j).zCt]
 unfold zCt zfp
 have hln := hl.len
 simp (disch := first | omega | exact ti rfl | (simp only [np, nq]; first | done | omega)) only [go_sem, reduceAdd, reduceMul, reduceSub, reduceLeDiff, reduceEqDiff, reduceShiftRight, reduceAnd, hln]
 unfold q4h
 rw [qan]
 refine Ok.ve (R := fun r H' => Fm No H H' ∧ ((l.any (fun y => hasN 3 s y.1) = true ∧ ∃ i, r = .int .i64 (.ofNat i)) ∨ (l.any (fun y => hasN 3 s y.1) = false ∧ r = .int .i64 (.negSucc 0)))) (q0k hC (by omega) hl hll hs hsl (fun i H2 h f => Ok.ret ⟨f, .inl ⟨h, i, rfl⟩⟩) (fun H2 h f => ?_) qak 0 H (Nat.zero_le _) (by rw [qaf]; omega) (Fm.refl _ _) rfl) ?_
 ·unfold qkw
  exact Ok.ret ⟨f, .inr ⟨h, rfl⟩⟩
 ·rintro r H2 ⟨f2, ⟨h, i, rfl⟩ | ⟨h, rfl⟩⟩
  ·simp (disch := first | omega | exact ti rfl | (simp only [np, nq]; first | done | omega)) only [go_sem, reduceAdd, reduceMul, reduceSub, reduceLeDiff, reduceEqDiff, reduceShiftRight, reduceAnd, Nat.zero_le]
   exact Ok.ret ⟨by rw [h], f2⟩
  ·simp (disch := first | omega | exact ti rfl | (simp only [np, nq]; first | done | omega)) only [go_sem, reduceAdd, reduceMul, reduceSub, reduceLeDiff, reduceEqDiff, reduceShiftRight, reduceAnd]
   exact Ok.ret ⟨by rw [h], f2⟩
end Go.Di
end
section
namespace Go.Di
open Go.Ev
variable {C : Nat → Ev.Call}
theorem qq5 {H : Hp} {x : RelG} (h : RelR H x) : ∃ c0 c1 c2 c3, x.cs = [c0, c1, c2, c3] ∧ relC x = [.str x.r.name.n x.r.name.a, x.tv, c0, c1, c2, c3] := by
 obtain ⟨c0, c1, c2, c3, hcs⟩ := h.ru.four
 exact ⟨c0, c1, c2, c3, hcs, by unfold relC; rw [hcs]; rfl⟩
theorem q92 (hC : qav C) (hN : qbs C) {k : Nat} (hk : 14 ≤ k) {H : Hp} {x : RelG} (hx : RelR H x) (hr : x.r.rule.Rt) {s : SS} {sb : Nat} (hs : H.get sb = qaa 0 [.str s.n s.a]) (hsl : sb < H.nx) :
  Ok (C k (.f qth) [.agg (relC x), .ptr sb 0] H) fun r H' => r = .bool (hasR x.r.rule 3 s) ∧ Fm No H H' := by
 obtain ⟨j, rfl⟩ : ∃ j, k = j + 1 := ⟨k - 1, by omega⟩
 rw [(hC j).zCm]
 unfold zCm zfv
 obtain ⟨c0, c1, c2, c3, hcs, hrc⟩ := qq5 hx
 rw [hrc]
 have f : Fm No H (qal H (qaa 0 [.str x.r.name.n x.r.name.a, x.tv, c0, c1, c2, c3])) := by (repeat (first | exact Fm.refl _ _ | assumption | refine Fm.push ?_ _ | refine Fm.up2 ?_ (by (first | omega | (simp only [np, nq]; omega))) | refine Fm.put_new ?_ _ _ (by (first | omega | (simp only [np, nq]; omega)))))
 have hru := hx.ru.fm f
 rw [hcs] at hru
 simp (disch := first | omega | exact ti rfl | (simp only [np, nq]; first | done | omega)) only [go_sem, reduceAdd, reduceMul, reduceSub, reduceLeDiff, reduceEqDiff, reduceShiftRight, reduceAnd]
 refine Ok.ve (qnd hC hN (k := j) (by omega) hru hr) ?_
 rintro _ H2 ⟨nv, l, rfl, ha, hl⟩
 have hln : l.length ≤ 32 := by
  have := congrArg List.length hl
  simp only [List.length_map, qbx] at this
  have := hr.sz
  omega
 simp (disch := first | omega | exact ti rfl | (simp only [np, nq]; first | done | omega)) only [go_sem, reduceAdd, reduceMul, reduceSub, reduceLeDiff, reduceEqDiff, reduceShiftRight, reduceAnd]
 refine Ok.ve (qun hC (k := j) (by omega) (ha.rs qcm) (by omega) (s := s) ((ha.fm.keep (show sb < (qal H _).nx by (first | omega | (simp only [np, nq]; omega)))).trans ((f.keep hsl).trans hs)) (Nat.lt_of_lt_of_le hsl (Nat.le_trans f.nx ha.fm.nx))) ?_
 rintro _ H3 ⟨rfl, f3⟩
 refine Ok.ret ⟨?_, f.trans (ha.fm.trans f3)⟩
 unfold hasR
 rw [← hl, List.any_map]; rfl
theorem qz1 (hC : qav C) (hN : qbs C) {j : Nat} (hj : 14 ≤ j) {Hb : Hp} {g : SpG} (hg : SpR Hb g) (hgl : g.gs.length ≤ 16) (hr : ∀ x ∈ g.gs, x.r.rule.Rt) {s : SS} {sb : Nat} (hs : Hb.get sb = qaa 0 [.str s.n s.a]) (hsl : sb < Hb.nx) {Q : AV → Hp → Prop} {q : Hp → R1} {qr : AV → Hp → R1}
  (hr' : ∀ i H, g.gs.any (fun x => hasR x.r.rule 3 s) = true → Fm No Hb H → Ok (qr (.int .i64 (.ofNat i)) H) Q) (hq : ∀ H, g.gs.any (fun x => hasR x.r.rule 3 s) = false → Fm No Hb H → Ok (q H) Q) :
  ∀ (k i : Nat) (H : Hp), i ≤ g.gs.length → g.gs.length - i < k → Fm No Hb H → (g.gs.take i).any (fun x => hasR x.r.rule 3 s) = false → Ok (qnm (C j) qr q g.rv (.fn qth [] [.ptr sb 0]) (.int .i64 (.ofNat g.gs.length)) k (.int .i64 (.ofNat i)) H) Q
 | 0, i, _, _, h, _, _ => by omega
 | k + 1, i, H, hi, hk, hf, hn => by
  show Ok (q4k (C j) _ _ _ _ _ (qnm (C j) _ _ _ _ _ k) _ H) Q
  unfold q4k
  by_cases hlt : i < g.gs.length
  ·simp (disch := first | omega | exact ti rfl | (simp only [np, nq]; first | done | omega)) only [go_sem, reduceAdd, reduceMul, reduceSub, reduceLeDiff, reduceEqDiff, reduceShiftRight, reduceAnd, hlt]
   unfold q4i
   have h1 := hg.fm hf
   obtain ⟨b, o, e1, _, _, _, _, e6⟩ := h1.at' i hlt
   have hm := List.getElem_mem hlt
   simp (disch := first | omega | exact ti rfl | (simp only [np, nq]; first | done | omega)) only [go_sem, reduceAdd, reduceMul, reduceSub, reduceLeDiff, reduceEqDiff, reduceShiftRight, reduceAnd, e1, e6]
   refine Ok.ve (q92 hC hN hj (h1.rel _ hm) (hr _ hm) ((hf.keep hsl).trans hs) (Nat.lt_of_lt_of_le hsl hf.nx)) ?_
   rintro _ H2 ⟨rfl, f2⟩
   have hst : (g.gs.take (i + 1)).any (fun x => hasR x.r.rule 3 s) = hasR g.gs[i].r.rule 3 s := by
    rw [List.take_succ_eq_append_getElem hlt, List.any_append, hn]; simp
   cases hh : hasR g.gs[i].r.rule 3 s with
   | true =>
    simp (disch := first | omega | exact ti rfl | (simp only [np, nq]; first | done | omega)) only [go_sem, reduceAdd, reduceMul, reduceSub, reduceLeDiff, reduceEqDiff, reduceShiftRight, reduceAnd]
    exact hr' i _ (List.any_eq_true.2 ⟨_, hm, hh⟩) (hf.trans f2)
   | false =>
    simp (disch := first | omega | exact ti rfl | (simp only [np, nq]; first | done | omega)) only [go_sem, reduceAdd, reduceMul, reduceSub, reduceLeDiff, reduceEqDiff, reduceShiftRight, reduceAnd]
    unfold q4j
    simp (disch := first | omega | exact ti rfl | (simp only [np, nq]; first | done | omega)) only [go_sem, reduceAdd, reduceMul, reduceSub, reduceLeDiff, reduceEqDiff, reduceShiftRight, reduceAnd]
    exact qz1 hC hN hj hg hgl hr hs hsl hr' hq k (i + 1) _ (by omega) (by omega) (hf.trans f2) (by rw [hst, hh])
  ·simp (disch := first | omega | exact ti rfl | (simp only [np, nq]; first | done | omega)) only [go_sem, reduceAdd, reduceMul, reduceSub, reduceLeDiff, reduceEqDiff, reduceShiftRight, reduceAnd, hlt]
   have he : i = g.gs.length := by omega
   rw [he, List.take_length] at hn
   exact hq H hn hf
theorem zaa (hC : qav C) (hN : qbs C) {k : Nat} (hk : 17 ≤ k) {H : Hp} {g : SpG} (hg : SpR H g) (hgl : g.gs.length ≤ 16) (hr : ∀ x ∈ g.gs, x.r.rule.Rt) (s : SS) :
  Ok (C k (.f q0s) [.agg [.str g.name.n g.name.a, g.rv], .str s.n s.a] H) fun r H' => r = .bool (g.gs.any fun x => hasR x.r.rule 3 s) ∧ Fm No H H' := by
 obtain ⟨j, rfl⟩ : ∃ j, k = j + 1 + 1 + 1 := ⟨k - 3, by omega⟩
 rw [(hC (j + 1 + 1)).zCi]
 unfold zCi zfz
 simp (disch := first | omega | exact ti rfl | (simp only [np, nq]; first | done | omega)) only [go_sem, reduceAdd, reduceMul, reduceSub, reduceLeDiff, reduceEqDiff, reduceShiftRight, reduceAnd]
 have f : Fm No H (qal (qal H (qaa 0 [.str g.name.n g.name.a, g.rv])) (qaa 0 [.str s.n s.a])) := by (repeat (first | exact Fm.refl _ _ | assumption | refine Fm.push ?_ _ | refine Fm.up2 ?_ (by (first | omega | (simp only [np, nq]; omega))) | refine Fm.put_new ?_ _ _ (by (first | omega | (simp only [np, nq]; omega)))))
 rw [(hC (j + 1)).zCn]
 unfold zCn zfu
 rw [(hC j).zCs]
 unfold zCs zfq
 have hln := hg.len
 simp (disch := first | omega | exact ti rfl | (simp only [np, nq]; first | done | omega)) only [go_sem, reduceAdd, reduceMul, reduceSub, reduceLeDiff, reduceEqDiff, reduceShiftRight, reduceAnd, hln]
 unfold q4l
 rw [qan]
 refine Ok.ve (R := fun r H' => r = .bool (g.gs.any fun x => hasR x.r.rule 3 s) ∧ Fm No H H') (Ok.ve (R := fun r H' => Fm No H H' ∧ ((g.gs.any (fun x => hasR x.r.rule 3 s) = true ∧ ∃ i, r = .int .i64 (.ofNat i)) ∨ (g.gs.any (fun x => hasR x.r.rule 3 s) = false ∧ r = .int .i64 (.negSucc 0)))) (qz1 hC hN (j := j) (by omega) (hg.fm f) hgl hr (s := s) (sb := H.nx + 1) (by simp (disch := first | omega | exact ti rfl | (simp only [np, nq]; first | done | omega)) only [go_sem, reduceAdd, reduceMul, reduceSub, reduceLeDiff, reduceEqDiff, reduceShiftRight, reduceAnd]) (by (first | omega | (simp only [np, nq]; omega))) (fun i H2 h f2 => Ok.ret ⟨f.trans f2, .inl ⟨h, i, rfl⟩⟩) (fun H2 h f2 => ?_) qak 0 _ (Nat.zero_le _) (by rw [qaf]; omega) (Fm.refl _ _) rfl) ?_) ?_
 ·unfold qkx
  exact Ok.ret ⟨f.trans f2, .inr ⟨h, rfl⟩⟩
 ·rintro r H2 ⟨f2, ⟨h, i, rfl⟩ | ⟨h, rfl⟩⟩
  ·simp (disch := first | omega | exact ti rfl | (simp only [np, nq]; first | done | omega)) only [go_sem, reduceAdd, reduceMul, reduceSub, reduceLeDiff, reduceEqDiff, reduceShiftRight, reduceAnd, Nat.zero_le]
   exact Ok.ret ⟨by rw [h], f2⟩
  ·simp (disch := first | omega | exact ti rfl | (simp only [np, nq]; first | done | omega)) only [go_sem, reduceAdd, reduceMul, reduceSub, reduceLeDiff, reduceEqDiff, reduceShiftRight, reduceAnd]
   exact Ok.ret ⟨by rw [h], f2⟩
 ·rintro _ H2 ⟨rfl, f2⟩
  exact Ok.ret ⟨rfl, f2⟩
structure RlI (H : Hp) (X : List SpG) (g : SpG) (x : RelG) (sv : AV) (ib n A0 A1 AR A2 : Nat) (q : Nat × Nat) : Prop where
 sch : SchR H sv X
 id : IdR H ib sv X
 mem : g ∈ X ∧ x ∈ g.gs
 a0 : H.get A0 = qaa 0 [.ptr ib 0]
 a1 : H.get A1 = qaa 0 [.str g.name.n g.name.a, g.rv]
 ar : H.get AR = qaa 0 [.ptr q.1 q.2]
 a2 : H.get A2 = qaa 0 [.int .i64 (.ofNat n)]
 lt : A0 < H.nx ∧ A1 < H.nx ∧ AR < H.nx ∧ A2 < H.nx
 pt : PtR H q x
 nu : numG X g.name x.r.name = n
theorem RlI.fm {H H' : Hp} {X : List SpG} {g : SpG} {x : RelG} {sv : AV} {ib n A0 A1 AR A2 : Nat} {q : Nat × Nat} (h : RlI H X g x sv ib n A0 A1 AR A2 q) (f : Fm No H H') : RlI H' X g x sv ib n A0 A1 AR A2 q := by
 obtain ⟨l0, l1, l2, l3⟩ := h.lt
 have := f.nx
 exact ⟨h.sch.fm f, h.id.fm f, h.mem, (f.keep l0).trans h.a0, (f.keep l1).trans h.a1, (f.keep l2).trans h.ar, (f.keep l3).trans h.a2, ⟨by omega, by omega, by omega, by omega⟩, h.pt.fm f, h.nu⟩
theorem zh0 (hC : qav C) {k : Nat} (hk : 1 ≤ k) {H : Hp} {X : List SpG} {g : SpG} {x : RelG} {sv : AV} {ib n A0 A1 AR A2 : Nat} {q : Nat × Nat} (h : RlI H X g x sv ib n A0 A1 AR A2 q) :
  C k (.f qpa) [.ptr A0 0, .ptr A1 0, .ptr AR 0, .ptr A2 0] H = .ok (.int .i64 (.ofNat 0)) H := by
 obtain ⟨j, rfl⟩ : ∃ j, k = j + 1 := ⟨k - 1, by omega⟩
 rw [(hC j).zBw]
 unfold zBw zga
 have a0 := h.a0
 have a1 := h.a1
 have ar := h.ar
 have a2 := h.a2
 have r0 := h.pt.nm
 obtain ⟨mb, nb, av, iv, qs, g1, g2, g3, _⟩ := h.id.ex
 have em := g3.find1 (.int .i64 (.ofNat 0)) g.name x.r.name (qit.2 ⟨g, h.mem.1, x, h.mem.2, rfl, rfl⟩)
 have hnx : (List.findIdx (fun q => decide (q = (g.name, x.r.name))) (allG X)) = n := h.nu
 rw [hnx] at em
 simp (disch := first | omega | exact ti rfl | (simp only [np, nq]; first | done | omega)) only [go_sem, reduceAdd, reduceMul, reduceSub, reduceLeDiff, reduceEqDiff, reduceShiftRight, reduceAnd, a0, a1, ar, a2, r0, g1, em]
 unfold q4w
 rfl
theorem zhz (hC : qav C) {k : Nat} (hk : 4 ≤ k) {H : Hp} {X : List SpG} {g : SpG} {x : RelG} {sv : AV} {ib n A0 A1 AR A2 : Nat} {q : Nat × Nat} (h : RlI H X g x sv ib n A0 A1 AR A2 q) (hV : ValX X) :
  Ok (C k (.f qo9) [.ptr A0 0, .ptr AR 0] H) fun r H' => r = .int .i64 (.ofNat 0) ∧ Fm No H H' := by
 obtain ⟨j, rfl⟩ : ∃ j, k = j + 1 := ⟨k - 1, by omega⟩
 rw [(hC j).zBx]
 unfold zBx zf9
 have a0 := h.a0
 have ar := h.ar
 simp (disch := first | omega | exact ti rfl | (simp only [np, nq]; first | done | omega)) only [go_sem, reduceAdd, reduceMul, reduceSub, reduceLeDiff, reduceEqDiff, reduceShiftRight, reduceAnd, a0, ar]
 have ht := hV.ty _ h.mem.1 _ h.mem.2
 refine Ok.ve (q98 hC (k := j) (by omega) h.id hV h.pt ((h.sch.sp _ h.mem.1).rel _ h.mem.2) (hV.pr.x _ h.mem.1 _ h.mem.2).1 ht.1 ht.2) ?_
 rintro _ H2 ⟨rfl, f2⟩
 exact Ok.ret ⟨rfl, f2⟩
theorem zhy (hC : qav C) {k : Nat} (hk : 4 ≤ k) {H : Hp} {X : List SpG} {g : SpG} {x : RelG} {sv nv : AV} {ib n A0 A1 AR A2 A20 A22 : Nat} {q : Nat × Nat} (h : RlI H X g x sv ib n A0 A1 AR A2 q) (hV : ValX X) {l : List (Nd × AV)} (hl : Rs 5 ndC H nv l) (hln : l.map Prod.fst = x.r.rule.nodes false)
  (h20 : H.get A20 = qaa 0 [nv]) {u : Bool} (h22 : H.get A22 = qaa 0 [.bool u]) (hlt : A22 < H.nx) :
  Ok (C k (.f qo8) [.ptr A0 0, .ptr A1 0, .ptr A20 0, .ptr A22 0] H) fun r H' => r = .int .i64 (.ofNat 0) ∧ ∃ H1, Fm No H H1 ∧ H' = H1.put A22 (qaa 0 [.bool ((x.r.rule.nodes false).any fun y => decide (y.k = 1))]) := by
 obtain ⟨j, rfl⟩ : ∃ j, k = j + 1 := ⟨k - 1, by omega⟩
 rw [(hC j).zBy]
 unfold zBy zf8
 have a0 := h.a0
 have a1 := h.a1
 simp (disch := first | omega | exact ti rfl | (simp only [np, nq]; first | done | omega)) only [go_sem, reduceAdd, reduceMul, reduceSub, reduceLeDiff, reduceEqDiff, reduceShiftRight, reduceAnd, a0, a1, h20]
 have hll : l.length ≤ 32 := by
  have := congrArg List.length hln
  simp only [List.length_map, qbx] at this
  have := (hV.pr.x _ h.mem.1 _ h.mem.2).2.2.1.sz
  omega
 refine Ok.ve (zex hC (k := j) (by omega) h.sch h.id hV g.name hl (by omega) fun y hy => ?_) ?_
 ·exact hV.nd _ h.mem.1 _ h.mem.2 y.1 (by rw [← hln]; exact List.mem_map_of_mem hy)
 rintro _ H2 ⟨rfl, f2⟩
 have h22' := (f2.keep hlt).trans h22
 simp (disch := first | omega | exact ti rfl | (simp only [np, nq]; first | done | omega)) only [go_sem, reduceAdd, reduceMul, reduceSub, reduceLeDiff, reduceEqDiff, reduceShiftRight, reduceAnd, h22']
 refine Ok.ret ⟨rfl, H2, f2, ?_⟩
 rw [← hln, List.any_map]; rfl
theorem zhx (hC : qav C) (hN : qbs C) {k : Nat} (hk : 18 ≤ k) {H : Hp} {X : List SpG} {g : SpG} {x : RelG} {sv : AV} {ib n A0 A1 AR A2 A22 : Nat} {q : Nat × Nat} (h : RlI H X g x sv ib n A0 A1 AR A2 q) (hV : ValX X)
  (h22 : H.get A22 = qaa 0 [.bool ((x.r.rule.nodes false).any fun y => decide (y.k = 1))]) :
  Ok (C k (.f qo7) [.ptr A22 0, .ptr AR 0, .ptr A1 0] H) fun r H' => r = .int .i64 (.ofNat 0) ∧ Fm No H H' := by
 obtain ⟨j, rfl⟩ : ∃ j, k = j + 1 := ⟨k - 1, by omega⟩
 rw [(hC j).zBz]
 unfold zBz zf7
 have a1 := h.a1
 have ar := h.ar
 have r0 := h.pt.nm
 have rt := h.pt.tv
 have hsp := h.sch.sp _ h.mem.1
 have hl := ((hsp.rel _ h.mem.2).ty).len
 have hu := hV.us _ h.mem.1 _ h.mem.2
 cases hb : (x.r.rule.nodes false).any fun y => decide (y.k = 1) with
 | true =>
  rw [hb] at h22
  have hne : ¬ x.r.types.length = 0 := fun h0 => hu.1 hb (List.length_eq_zero_iff.1 h0)
  simp (disch := first | omega | exact ti rfl | (simp only [np, nq]; first | done | omega)) only [go_sem, reduceAdd, reduceMul, reduceSub, reduceLeDiff, reduceEqDiff, reduceShiftRight, reduceAnd, h22, ar, rt, hl, hne]
  unfold qr4
  exact Ok.ret ⟨rfl, Fm.refl _ _⟩
 | false =>
  rw [hb] at h22
  by_cases h0 : 0 < x.r.types.length
  ·have hba := hu.2 hb (fun h => by rw [h] at h0; exact absurd h0 (by simp))
   simp (disch := first | omega | exact ti rfl | (simp only [np, nq]; first | done | omega)) only [go_sem, reduceAdd, reduceMul, reduceSub, reduceLeDiff, reduceEqDiff, reduceShiftRight, reduceAnd, h22, ar, rt, hl, h0, a1, r0]
   refine Ok.deO (zaa hC hN (k := j) (by omega) hsp (hV.pr.r _ h.mem.1).1 (fun y hy => (hV.pr.x _ h.mem.1 y hy).2.2.1) x.r.name) ?_
   rintro _ H2 ⟨rfl, f2⟩
   rw [hba]
   simp (disch := first | omega | exact ti rfl | (simp only [np, nq]; first | done | omega)) only [go_sem, reduceAdd, reduceMul, reduceSub, reduceLeDiff, reduceEqDiff, reduceShiftRight, reduceAnd]
   unfold qr4
   exact Ok.ret ⟨rfl, f2⟩
  ·simp (disch := first | omega | exact ti rfl | (simp only [np, nq]; first | done | omega)) only [go_sem, reduceAdd, reduceMul, reduceSub, reduceLeDiff, reduceEqDiff, reduceShiftRight, reduceAnd, h22, ar, rt, hl, h0]
   unfold qr4
   exact Ok.ret ⟨rfl, Fm.refl _ _⟩
end Go.Di
end
section
namespace Go.Di
open Go.Ev
variable {C : Nat → Ev.Call}
theorem sf2 (call : Ev.Call) (qr : AV → Hp → R1) (q : Hp → R1) (a b : AV) (n : Nat) : qns call qr q a b (n + 1) = qk2 call qr q a b (qns call qr q a b n) := rfl
theorem q9w (f : FuncId) (x y : List AV) : qdu (.fn f x y) = some [.fn f x y] := id rfl
attribute [go_sem] q9w
theorem zlz (hC : qav C) {k : Nat} (hk : 1 ≤ k) {H : Hp} {b : Nat} {f1 f2 f3 f4 : FuncId} {c1 c2 c3 c4 : List AV} (hb : H.get b = qaa 0 [.fn f1 [] c1, .fn f2 [] c2, .fn f3 [] c3, .fn f4 [] c4]) {R1' R2' R3' R4' : Hp → Prop}
  (h1 : Ok (C (k - 1) (.f f1) c1 H) fun r H' => r = .int .i64 (.ofNat 0) ∧ R1' H') (g1 : ∀ H', R1' H' → H'.get b = H.get b)
  (h2 : ∀ H1, R1' H1 → Ok (C (k - 1) (.f f2) c2 H1) fun r H' => r = .int .i64 (.ofNat 0) ∧ R2' H') (g2 : ∀ H', R2' H' → H'.get b = H.get b)
  (h3 : ∀ H1, R2' H1 → Ok (C (k - 1) (.f f3) c3 H1) fun r H' => r = .int .i64 (.ofNat 0) ∧ R3' H') (g3 : ∀ H', R3' H' → H'.get b = H.get b)
  (h4 : ∀ H1, R3' H1 → Ok (C (k - 1) (.f f4) c4 H1) fun r H' => r = .int .i64 (.ofNat 0) ∧ R4' H') :
  Ok (C k (.f qtk) [.sl b 0 4 4 true] H) fun r H' => r = .int .i64 (.ofNat 0) ∧ R4' H' := by
 obtain ⟨j, rfl⟩ : ∃ j, k = j + 1 := ⟨k - 1, by omega⟩
 rw [(hC j).zCa]
 rw [Nat.add_sub_cancel] at h1 h2 h3 h4
 unfold zCa zf6
 simp (disch := first | omega | exact ti rfl | (simp only [np, nq]; first | done | omega)) only [go_sem, reduceAdd, reduceMul, reduceSub, reduceLeDiff, reduceEqDiff, reduceShiftRight, reduceAnd]
 unfold q4v
 obtain ⟨m, hm⟩ : ∃ m, qak = m + 5 := ⟨999995, by rw [qaf]⟩
 rw [qan, hm, sf2]
 unfold qk2
 simp (disch := first | omega | exact ti rfl | (simp only [np, nq]; first | done | omega)) only [go_sem, reduceAdd, reduceMul, reduceSub, reduceLeDiff, reduceEqDiff, reduceShiftRight, reduceAnd]
 unfold qiz
 simp (disch := first | omega | exact ti rfl | (simp only [np, nq]; first | done | omega)) only [go_sem, reduceAdd, reduceMul, reduceSub, reduceLeDiff, reduceEqDiff, reduceShiftRight, reduceAnd, hb]
 refine Ok.ve h1 ?_
 rintro _ H1 ⟨rfl, r1⟩
 simp (disch := first | omega | exact ti rfl | (simp only [np, nq]; first | done | omega)) only [go_sem, reduceAdd, reduceMul, reduceSub, reduceLeDiff, reduceEqDiff, reduceShiftRight, reduceAnd]
 unfold qnt
 simp (disch := first | omega | exact ti rfl | (simp only [np, nq]; first | done | omega)) only [go_sem, reduceAdd, reduceMul, reduceSub, reduceLeDiff, reduceEqDiff, reduceShiftRight, reduceAnd]
 rw [sf2]
 unfold qk2
 simp (disch := first | omega | exact ti rfl | (simp only [np, nq]; first | done | omega)) only [go_sem, reduceAdd, reduceMul, reduceSub, reduceLeDiff, reduceEqDiff, reduceShiftRight, reduceAnd]
 unfold qiz
 have hb1 := (g1 _ r1).trans hb
 simp (disch := first | omega | exact ti rfl | (simp only [np, nq]; first | done | omega)) only [go_sem, reduceAdd, reduceMul, reduceSub, reduceLeDiff, reduceEqDiff, reduceShiftRight, reduceAnd, hb1]
 refine Ok.ve (h2 _ r1) ?_
 rintro _ H2 ⟨rfl, r2⟩
 simp (disch := first | omega | exact ti rfl | (simp only [np, nq]; first | done | omega)) only [go_sem, reduceAdd, reduceMul, reduceSub, reduceLeDiff, reduceEqDiff, reduceShiftRight, reduceAnd]
 unfold qnt
 simp (disch := first | omega | exact ti rfl | (simp only [np, nq]; first | done | omega)) only [go_sem, reduceAdd, reduceMul, reduceSub, reduceLeDiff, reduceEqDiff, reduceShiftRight, reduceAnd]
 rw [sf2]
 unfold qk2
 simp (disch := first | omega | exact ti rfl | (simp only [np, nq]; first | done | omega)) only [go_sem, reduceAdd, reduceMul, reduceSub, reduceLeDiff, reduceEqDiff, reduceShiftRight, reduceAnd]
 unfold qiz
 have hb2 := (g2 _ r2).trans hb
 simp (disch := first | omega | exact ti rfl | (simp only [np, nq]; first | done | omega)) only [go_sem, reduceAdd, reduceMul, reduceSub, reduceLeDiff, reduceEqDiff, reduceShiftRight, reduceAnd, hb2]
 refine Ok.ve (h3 _ r2) ?_
 rintro _ H3 ⟨rfl, r3⟩
 simp (disch := first | omega | exact ti rfl | (simp only [np, nq]; first | done | omega)) only [go_sem, reduceAdd, reduceMul, reduceSub, reduceLeDiff, reduceEqDiff, reduceShiftRight, reduceAnd]
 unfold qnt
 simp (disch := first | omega | exact ti rfl | (simp only [np, nq]; first | done | omega)) only [go_sem, reduceAdd, reduceMul, reduceSub, reduceLeDiff, reduceEqDiff, reduceShiftRight, reduceAnd]
 rw [sf2]
 unfold qk2
 simp (disch := first | omega | exact ti rfl | (simp only [np, nq]; first | done | omega)) only [go_sem, reduceAdd, reduceMul, reduceSub, reduceLeDiff, reduceEqDiff, reduceShiftRight, reduceAnd]
 unfold qiz
 have hb3 := (g3 _ r3).trans hb
 simp (disch := first | omega | exact ti rfl | (simp only [np, nq]; first | done | omega)) only [go_sem, reduceAdd, reduceMul, reduceSub, reduceLeDiff, reduceEqDiff, reduceShiftRight, reduceAnd, hb3]
 refine Ok.ve (h4 _ r3) ?_
 rintro _ H4 ⟨rfl, r4⟩
 simp (disch := first | omega | exact ti rfl | (simp only [np, nq]; first | done | omega)) only [go_sem, reduceAdd, reduceMul, reduceSub, reduceLeDiff, reduceEqDiff, reduceShiftRight, reduceAnd]
 unfold qnt
 simp (disch := first | omega | exact ti rfl | (simp only [np, nq]; first | done | omega)) only [go_sem, reduceAdd, reduceMul, reduceSub, reduceLeDiff, reduceEqDiff, reduceShiftRight, reduceAnd]
 rw [sf2]
 unfold qk2
 simp (disch := first | omega | exact ti rfl | (simp only [np, nq]; first | done | omega)) only [go_sem, reduceAdd, reduceMul, reduceSub, reduceLeDiff, reduceEqDiff, reduceShiftRight, reduceAnd]
 unfold qk1
 exact Ok.ret ⟨rfl, r4⟩
theorem qum (hC : qav C) (hN : qbs C) {k : Nat} (hk : 20 ≤ k) {H : Hp} {X : List SpG} {g : SpG} {x : RelG} {sv : AV} {ib n : Nat} (hX : SchR H sv X) (hI : IdR H ib sv X) (hV : ValX X) (hn : (qa5 X)[n]? = some (g.name, x)) (hm : g ∈ X ∧ x ∈ g.gs) :
  Ok (C k (.f q02) [.ptr ib 0, .agg [.str g.name.n g.name.a, g.rv], .int .i64 (.ofNat n)] H) fun r H' => r = .int .i64 (.ofNat 0) ∧ Fm No H H' := by
 obtain ⟨j, rfl⟩ : ∃ j, k = j + 1 := ⟨k - 1, by omega⟩
 rw [(hC j).zBj]
 unfold zBj zgi
 obtain ⟨mb, nb, av, iv, qs, g1, g2, g3, g4, g5, g6, g7, g8, g9, _⟩ := hI.ex
 have hnl : n < (qa5 X).length := by
  rcases Nat.lt_or_ge n (qa5 X).length with h | h
  ·exact h
  ·rw [List.getElem?_eq_none h] at hn; cases hn
 have hxx : (qa5 X)[n] = (g.name, x) := by
  rw [List.getElem?_eq_getElem hnl] at hn
  exact Option.some.inj hn
 have hq := g9 n (by omega) hnl
 rw [hxx] at hq
 obtain ⟨b1, o1, e1, e2, _, _, e4⟩ := g4.at' n (by omega)
 have r0 : qap (H.get b1) o1 = .val (.ptr (qs[n]'(by omega)).1 (qs[n]'(by omega)).2) := e4 0 (by rw [qyf]; omega)
 have il := hI.lt
 simp (disch := first | omega | exact ti rfl | (simp only [np, nq]; first | done | omega)) only [go_sem, reduceAdd, reduceMul, reduceSub, reduceLeDiff, reduceEqDiff, reduceShiftRight, reduceAnd, g1, e1, r0]
 have hP := hV.pr.x _ hm.1 _ hm.2
 have hln2 := hV.pr.len
 generalize hHa : (((Hp.mk (qal (qal (qal H (qaa 0 [.ptr ib 0])) (qaa 0 [.str g.name.n g.name.a, g.rv])) (qaa 0 [.int .i64 (.ofNat n)])).t (H.nx + 1 + 1 + 1 + 9)).put (H.nx + 1 + 1 + 1 + 7) (qaa 0 [.nilptr])).put (H.nx + 1 + 1 + 1 + 7) (qaa 0 [.ptr (qs[n]'(by omega)).1 (qs[n]'(by omega)).2])) = Ha
 have fa : Fm No H Ha := by rw [← hHa]; exact (((((Fm.refl No H).push _).push _).push _).up2 (n := H.nx + 1 + 1 + 1 + 9) (by omega)).put_new _ _ (by omega) |>.put_new _ _ (by omega)
 have na : Ha.nx = H.nx + 12 := by rw [← hHa]; rfl
 have hR : RlI Ha X g x sv ib n H.nx (H.nx + 1) (H.nx + 1 + 1 + 1 + 7) (H.nx + 1 + 1) (qs[n]'(by omega)) := by
  refine ⟨hX.fm fa, hI.fm fa, hm, ?_, ?_, ?_, ?_, ⟨by omega, by omega, by omega, by omega⟩, hq.fm fa, ?_⟩
  ·rw [← hHa]; simp (disch := first | omega | exact ti rfl | (simp only [np, nq]; first | done | omega)) only [go_sem, reduceAdd, reduceMul, reduceSub, reduceLeDiff, reduceEqDiff, reduceShiftRight, reduceAnd]
  ·rw [← hHa]; simp (disch := first | omega | exact ti rfl | (simp only [np, nq]; first | done | omega)) only [go_sem, reduceAdd, reduceMul, reduceSub, reduceLeDiff, reduceEqDiff, reduceShiftRight, reduceAnd]
  ·rw [← hHa]; exact qam _ _ _
  ·rw [← hHa]; simp (disch := first | omega | exact ti rfl | (simp only [np, nq]; first | done | omega)) only [go_sem, reduceAdd, reduceMul, reduceSub, reduceLeDiff, reduceEqDiff, reduceShiftRight, reduceAnd]
  ·obtain ⟨y, _, hy⟩ := qgl hV.al hV.sp (qit.2 ⟨g, hm.1, x, hm.2, rfl, rfl⟩)
   have hnd := qmp hV.al (i := n) (by rw [← qbl, List.length_map]; exact hnl)
   have hk : (allG X)[n]'(by rw [← qbl, List.length_map]; exact hnl) = (g.name, x.r.name) := by
    have e3 : (allG X)[n]? = some (kq (qa5 X)[n]) := by rw [← qbl, List.getElem?_map, List.getElem?_eq_getElem hnl]; rfl
    rw [List.getElem?_eq_getElem (by rw [← qbl, List.length_map]; exact hnl), hxx] at e3
    exact Option.some.inj e3
   rw [hk] at hnd
   exact hnd
 have ru := (hq.fm fa).ru
 obtain ⟨c0, c1, c2, c3, hcs, _⟩ := qq5 ((hX.sp _ hm.1).rel _ hm.2)
 have hru := (((hX.sp _ hm.1).rel _ hm.2).ru).fm fa
 simp only at ru
 rw [hcs] at ru hru
 simp (disch := first | omega | exact ti rfl | (simp only [np, nq]; first | done | omega)) only [go_sem, reduceAdd, reduceMul, reduceSub, reduceLeDiff, reduceEqDiff, reduceShiftRight, reduceAnd, ru]
 refine Ok.ve (qnd hC hN (k := j) (by omega) hru hP.2.2.1) ?_
 rintro _ H2 ⟨nv, l, rfl, ha, hl⟩
 have n2 := ha.fm.nx
 obtain ⟨Hf, hHf⟩ : ∃ Hf, Hf = qal ((qal ((qal H2 (qaa 0 [.nilsl])).put H2.nx (qaa 0 [nv])) (qaa 0 [.bool false])).put (H2.nx + 1) (qaa 0 [.bool false])) (qaa 0 [.fn qpa [] [.ptr H.nx 0, .ptr (H.nx + 1) 0, .ptr (H.nx + 1 + 1 + 1 + 7) 0, .ptr (H.nx + 1 + 1) 0], .fn qo9 [] [.ptr H.nx 0, .ptr (H.nx + 1 + 1 + 1 + 7) 0], .fn qo8 [] [.ptr H.nx 0, .ptr (H.nx + 1) 0, .ptr H2.nx 0, .ptr (H2.nx + 1) 0], .fn qo7 [] [.ptr (H2.nx + 1) 0, .ptr (H.nx + 1 + 1 + 1 + 7) 0, .ptr (H.nx + 1) 0]]) := ⟨_, rfl⟩
 have ff : Fm No H2 Hf := by rw [hHf]; (repeat (first | exact Fm.refl _ _ | assumption | refine Fm.push ?_ _ | refine Fm.up2 ?_ (by (first | omega | (simp only [np, nq]; omega))) | refine Fm.put_new ?_ _ _ (by (first | omega | (simp only [np, nq]; omega)))))
 have nf : Hf.nx = H2.nx + 3 := by rw [hHf]; rfl
 have k20 : Hf.get H2.nx = qaa 0 [nv] := by rw [hHf]; simp (disch := first | omega | exact ti rfl | (simp only [np, nq]; first | done | omega)) only [go_sem, reduceAdd, reduceMul, reduceSub, reduceLeDiff, reduceEqDiff, reduceShiftRight, reduceAnd]
 have k22 : Hf.get (H2.nx + 1) = qaa 0 [.bool false] := by rw [hHf]; simp (disch := first | omega | exact ti rfl | (simp only [np, nq]; first | done | omega)) only [go_sem, reduceAdd, reduceMul, reduceSub, reduceLeDiff, reduceEqDiff, reduceShiftRight, reduceAnd]
 have kfb : Hf.get (H2.nx + 1 + 1) = qaa 0 [.fn qpa [] [.ptr H.nx 0, .ptr (H.nx + 1) 0, .ptr (H.nx + 1 + 1 + 1 + 7) 0, .ptr (H.nx + 1 + 1) 0], .fn qo9 [] [.ptr H.nx 0, .ptr (H.nx + 1 + 1 + 1 + 7) 0], .fn qo8 [] [.ptr H.nx 0, .ptr (H.nx + 1) 0, .ptr H2.nx 0, .ptr (H2.nx + 1) 0], .fn qo7 [] [.ptr (H2.nx + 1) 0, .ptr (H.nx + 1 + 1 + 1 + 7) 0, .ptr (H.nx + 1) 0]] := by rw [hHf]; simp (disch := first | omega | exact ti rfl | (simp only [np, nq]; first | done | omega)) only [go_sem, reduceAdd, reduceMul, reduceSub, reduceLeDiff, reduceEqDiff, reduceShiftRight, reduceAnd]
 have faf : Fm No Ha Hf := ha.fm.trans ff
 have hRf := hR.fm faf
 have hlf : Rs 5 ndC Hf nv l := (ha.rs qcm).fm ff
 have main : Ok (C j (.f qtk) [.sl (H2.nx + 1 + 1) 0 4 4 true] Hf) fun r H' => r = .int .i64 (.ofNat 0) ∧ ∃ Hm, Fm No Hf Hm ∧ Fm No (Hm.put (H2.nx + 1) (qaa 0 [.bool ((x.r.rule.nodes false).any fun y => decide (y.k = 1))])) H' := by
  refine zlz hC (k := j) (by omega) kfb (R1' := fun H' => H' = Hf) (R2' := fun H' => Fm No Hf H') (R3' := fun H' => ∃ Hm, Fm No Hf Hm ∧ H' = Hm.put (H2.nx + 1) (qaa 0 [.bool ((x.r.rule.nodes false).any fun y => decide (y.k = 1))])) ?_ ?_ ?_ ?_ ?_ ?_ ?_
  ·rw [zh0 hC (by omega) hRf]
   exact Ok.ret ⟨rfl, rfl⟩
  ·rintro _ rfl; rfl
  ·rintro _ rfl
   exact zhz hC (by omega) hRf hV
  ·intro H' f; exact f.keep (by omega)
  ·intro H1 f1
   exact zhy hC (by omega) (hRf.fm f1) hV (hlf.fm f1) hl ((f1.keep (by omega)).trans k20) ((f1.keep (by omega)).trans k22) (by have := f1.nx; omega) |>.mono fun r H' ⟨e, Hm, f, h⟩ => ⟨e, Hm, f1.trans f, h⟩
  ·rintro _ ⟨Hm, fm, rfl⟩
   rw [qat _ _ _ _ (by omega)]
   exact fm.keep (by omega)
  ·rintro _ ⟨Hm, fm, rfl⟩
   have hRm : RlI (Hm.put (H2.nx + 1) (qaa 0 [.bool ((x.r.rule.nodes false).any fun y => decide (y.k = 1))])) X g x sv ib n H.nx (H.nx + 1) (H.nx + 1 + 1 + 1 + 7) (H.nx + 1 + 1) (qs[n]'(by omega)) := hR.fm ((faf.trans fm).put_new _ _ (by omega))
   exact (zhx hC hN (by omega) hRm hV (qam _ _ _)).mono fun r H' ⟨e, f⟩ => ⟨e, Hm, fm, f⟩
 have done : ∀ r H', r = AV.int .i64 (.ofNat 0) ∧ (∃ Hm, Fm No Hf Hm ∧ Fm No (Hm.put (H2.nx + 1) (qaa 0 [.bool ((x.r.rule.nodes false).any fun y => decide (y.k = 1))])) H') → Ok (.ok r H') fun r H' => r = .int .i64 (.ofNat 0) ∧ Fm No H H' := fun r H' ⟨e, Hm, f, f'⟩ =>
  Ok.ret ⟨e, (((fa.trans faf).trans f).put_new (H2.nx + 1) _ (by omega)).trans f'⟩
 rcases ha.gl.is with ⟨h, _⟩ | ⟨_, _, _, _, _, h, _⟩
 ·subst h
  simp (disch := first | omega | exact ti rfl | (simp only [np, nq]; first | done | omega)) only [go_sem, reduceAdd, reduceMul, reduceSub, reduceLeDiff, reduceEqDiff, reduceShiftRight, reduceAnd]
  rw [← hHf]
  exact Ok.ve main done
 ·subst h
  simp (disch := first | omega | exact ti rfl | (simp only [np, nq]; first | done | omega)) only [go_sem, reduceAdd, reduceMul, reduceSub, reduceLeDiff, reduceEqDiff, reduceShiftRight, reduceAnd]
  rw [← hHf]
  exact Ok.ve main done
end Go.Di
end
section
namespace Go.Di
open Go.Ev
variable {C : Nat → Ev.Call}
theorem zdd {X : List SpG} {s i : Nat} (hs : s < X.length) (hi : i < X[s].gs.length) : (qa5 X)[(preR X s).length + i]? = some (X[s].name, X[s].gs[i]) := by
 obtain ⟨Z, h⟩ := q7t hs hi
 rw [h, List.getElem?_append_right (by simp; omega)]
 simp [Nat.min_eq_left (Nat.le_of_lt hi)]
theorem qpn (hC : qav C) (hN : qbs C) {j : Nat} (hj : 20 ≤ j) {sv : AV} {X : List SpG} {ib pb : Nat} {Hb : Hp} (hX : SchR Hb sv X) (hI : IdR Hb ib sv X) (hV : ValX X) {s : Nat} (hs : s < X.length) (hp : Hb.get pb = qaa 0 [.str X[s].name.n X[s].name.a, X[s].rv]) (hpl : pb < Hb.nx) {Q : AV → Hp → Prop} {q : AV → Hp → R1} {qr : AV → Hp → R1}
  (hq : ∀ H, Fm No Hb H → Ok (q (.int .i64 (.ofNat ((preR X s).length + X[s].gs.length))) H) Q) :
  ∀ (k i : Nat) (H : Hp), i ≤ X[s].gs.length → X[s].gs.length - i < k → Fm No Hb H → Ok (qhm (C j) qr q (.ptr ib 0) (.ptr pb 0) (.int .i64 (.ofNat X[s].gs.length)) k (.int .i64 (.ofNat ((preR X s).length + i))) (.int .i64 (.ofNat i)) H) Q
 | 0, i, _, _, h, _ => by omega
 | k + 1, i, H, hi, hk, hf => by
  show Ok (qv5 (C j) _ _ _ _ _ (qhm (C j) _ _ _ _ _ k) _ _ H) Q
  unfold qv5
  have h256 := hV.pr.len
  have hpl2 := q0b X s
  by_cases hlt : i < X[s].gs.length
  ·have h16 := (hV.pr.r _ (List.getElem_mem hs)).1
   simp (disch := first | omega | exact ti rfl | (simp only [np, nq]; first | done | omega)) only [go_sem, reduceAdd, reduceMul, reduceSub, reduceLeDiff, reduceEqDiff, reduceShiftRight, reduceAnd, hlt]
   unfold qv2
   have hp1 := (hf.keep hpl).trans hp
   simp (disch := first | omega | exact ti rfl | (simp only [np, nq]; first | done | omega)) only [go_sem, reduceAdd, reduceMul, reduceSub, reduceLeDiff, reduceEqDiff, reduceShiftRight, reduceAnd, hp1]
   refine Ok.ve (qum hC hN hj (hX.fm hf) (hI.fm hf) hV (zdd hs hlt) ⟨List.getElem_mem hs, List.getElem_mem hlt⟩) ?_
   rintro _ H2 ⟨rfl, f2⟩
   simp (disch := first | omega | exact ti rfl | (simp only [np, nq]; first | done | omega)) only [go_sem, reduceAdd, reduceMul, reduceSub, reduceLeDiff, reduceEqDiff, reduceShiftRight, reduceAnd]
   unfold qv3
   simp (disch := first | omega | exact ti rfl | (simp only [np, nq]; first | done | omega)) only [go_sem, reduceAdd, reduceMul, reduceSub, reduceLeDiff, reduceEqDiff, reduceShiftRight, reduceAnd]
   unfold qv4
   simp (disch := first | omega | exact ti rfl | (simp only [np, nq]; first | done | omega)) only [go_sem, reduceAdd, reduceMul, reduceSub, reduceLeDiff, reduceEqDiff, reduceShiftRight, reduceAnd]
   exact qpn hC hN hj hX hI hV hs hp hpl hq k (i + 1) H2 (by omega) (by omega) (hf.trans f2)
  ·simp (disch := first | omega | exact ti rfl | (simp only [np, nq]; first | done | omega)) only [go_sem, reduceAdd, reduceMul, reduceSub, reduceLeDiff, reduceEqDiff, reduceShiftRight, reduceAnd, hlt]
   have he : i = X[s].gs.length := by omega
   rw [he]
   exact hq H hf
theorem qt9 (hC : qav C) (hN : qbs C) {j : Nat} (hj : 20 ≤ j) {sv : AV} {X : List SpG} {ib : Nat} {Hb : Hp} (hX : SchR Hb sv X) (hI : IdR Hb ib sv X) (hV : ValX X) {Q : AV → Hp → Prop} {q : Hp → R1} {qr : AV → Hp → R1}
  (hq : ∀ H, Fm No Hb H → Ok (q H) Q) :
  ∀ (k s : Nat) (H : Hp), s ≤ X.length → X.length - s < k → Fm No Hb H → Ok (qf3 (C j) qr q (.ptr ib 0) sv (.int .i64 (.ofNat X.length)) k (.int .i64 (.ofNat (preR X s).length)) (.int .i64 (.ofNat s)) H) Q
 | 0, i, _, _, h, _ => by omega
 | k + 1, s, H, hi, hk, hf => by
  show Ok (q5p (C j) _ _ _ _ _ (qf3 (C j) _ _ _ _ _ k) _ _ H) Q
  unfold q5p
  have hn := hV.pr.n
  by_cases hlt : s < X.length
  ·simp (disch := first | omega | exact ti rfl | (simp only [np, nq]; first | done | omega)) only [go_sem, reduceAdd, reduceMul, reduceSub, reduceLeDiff, reduceEqDiff, reduceShiftRight, reduceAnd, hlt]
   unfold qv1
   have h1 := hX.fm hf
   obtain ⟨b1, o1, e1, e2, _, e3, _⟩ := h1.rs.at' s hlt
   unfold spC SS.v at e3
   have hsp := h1.sp _ (List.getElem_mem hlt)
   have hl := hsp.len
   have h16 := (hV.pr.r _ (List.getElem_mem hlt)).1
   simp (disch := first | omega | exact ti rfl | (simp only [np, nq]; first | done | omega)) only [go_sem, reduceAdd, reduceMul, reduceSub, reduceLeDiff, reduceEqDiff, reduceShiftRight, reduceAnd, e1, e3, hl]
   have fp : Fm No H ((qal H (qaa 0 [.str 0 0, .nilsl])).put H.nx (qaa 0 [.str X[s].name.n X[s].name.a, X[s].rv])) := by (repeat (first | exact Fm.refl _ _ | assumption | refine Fm.push ?_ _ | refine Fm.up2 ?_ (by (first | omega | (simp only [np, nq]; omega))) | refine Fm.put_new ?_ _ _ (by (first | omega | (simp only [np, nq]; omega)))))
   unfold qv6
   rw [qan]
   refine qpn hC hN hj (h1.fm fp) ((hI.fm hf).fm fp) hV hlt (pb := H.nx) (qam _ _ _) (by (first | omega | (simp only [np, nq]; omega))) (fun H3 f3 => ?_) qak 0 _ (Nat.zero_le _) (by rw [qaf]; omega) (Fm.refl _ _)
   unfold qf4
   simp (disch := first | omega | exact ti rfl | (simp only [np, nq]; first | done | omega)) only [go_sem, reduceAdd, reduceMul, reduceSub, reduceLeDiff, reduceEqDiff, reduceShiftRight, reduceAnd]
   have hx : (preR X s).length + X[s].gs.length = (preR X (s + 1)).length := by
    unfold preR qa5
    rw [List.take_succ_eq_append_getElem hlt, List.flatMap_append, List.flatMap_singleton, List.length_append, List.length_map]
   rw [hx]
   exact qt9 hC hN hj hX hI hV hq k (s + 1) H3 (by omega) (by omega) ((hf.trans fp).trans f3)
  ·simp (disch := first | omega | exact ti rfl | (simp only [np, nq]; first | done | omega)) only [go_sem, reduceAdd, reduceMul, reduceSub, reduceLeDiff, reduceEqDiff, reduceShiftRight, reduceAnd, hlt]
   exact hq H hf
theorem qul (hC : qav C) (hN : qbs C) {k : Nat} (hk : 21 ≤ k) {H : Hp} {sv : AV} {X : List SpG} (hX : SchR H sv X) (hV : ValX X) :
  Ok (C k (.f qts) [.agg [sv]] H) fun r H' => r = .int .i64 (.ofNat 0) ∧ Fm No H H' := by
 obtain ⟨j, rfl⟩ : ∃ j, k = j + 1 := ⟨k - 1, by omega⟩
 rw [(hC j).zAv]
 unfold zAv zgw
 simp (disch := first | omega | exact ti rfl | (simp only [np, nq]; first | done | omega)) only [go_sem, reduceAdd, reduceMul, reduceSub, reduceLeDiff, reduceEqDiff, reduceShiftRight, reduceAnd]
 have f : Fm No H (qal H (qaa 0 [sv])) := by (repeat (first | exact Fm.refl _ _ | assumption | refine Fm.push ?_ _ | refine Fm.up2 ?_ (by (first | omega | (simp only [np, nq]; omega))) | refine Fm.put_new ?_ _ _ (by (first | omega | (simp only [np, nq]; omega)))))
 refine Ok.ve (q99 hC hN (k := j) (by omega) (hX.fm f) hV.pr) ?_
 rintro _ H1 ⟨rfl, f1⟩
 simp (disch := first | omega | exact ti rfl | (simp only [np, nq]; first | done | omega)) only [go_sem, reduceAdd, reduceMul, reduceSub, reduceLeDiff, reduceEqDiff, reduceShiftRight, reduceAnd]
 unfold qvz
 have n1 := f1.nx
 simp only [np] at n1
 have k1 : H1.get H.nx = qaa 0 [sv] := (f1.keep (by (first | omega | (simp only [np, nq]; omega)))).trans (qbc _ _)
 simp (disch := first | omega | exact ti rfl | (simp only [np, nq]; first | done | omega)) only [go_sem, reduceAdd, reduceMul, reduceSub, reduceLeDiff, reduceEqDiff, reduceShiftRight, reduceAnd, k1]
 have hX1 := (hX.fm f).fm f1
 refine Ok.ve (zfm hC (k := j) (by omega) hX1 hV.pr hV.al hV.sp) ?_
 rintro _ H2 ⟨ib, rfl, hI, f2⟩
 have k2 := (f2.keep (by omega)).trans k1
 have hX2 := hX1.fm f2
 obtain ⟨mb, nb, av, iv, qs, g1, g2, _⟩ := hI.ex
 have hlm := g2.len
 rw [List.length_map] at hlm
 have hls := hX2.rs.len
 have hn := hV.pr.n
 simp (disch := first | omega | exact ti rfl | (simp only [np, nq]; first | done | omega)) only [go_sem, reduceAdd, reduceMul, reduceSub, reduceLeDiff, reduceEqDiff, reduceShiftRight, reduceAnd, g1, hlm, k2, hls, Nat.lt_irrefl]
 unfold qv0
 simp (disch := first | omega | exact ti rfl | (simp only [np, nq]; first | done | omega)) only [go_sem, reduceAdd, reduceMul, reduceSub, reduceLeDiff, reduceEqDiff, reduceShiftRight, reduceAnd, k2, hls]
 unfold q5q
 rw [qan]
 have h0 : (0 : Nat) = (preR X 0).length := by unfold preR qa5; simp
 have main := qt9 hC hN (j := j) (by omega) hX2 hI hV (Q := fun r H' => r = .int .i64 (.ofNat 0) ∧ Fm No H H') (q := fun H => qek (C j) H) (qr := fun x2 H => .ok x2 H) (fun H3 f3 => by
  unfold qek
  exact Ok.ret ⟨rfl, ((f.trans f1).trans f2).trans f3⟩) qak 0 H2 (Nat.zero_le _) (by rw [qaf]; omega) (Fm.refl _ _)
 rw [← h0] at main
 exact main
theorem qyz (hC : qav C) (hN : qbs C) {k : Nat} (hk : 22 ≤ k) {H : Hp} {sv : AV} {X : List SpG} (hX : SchR H sv X) (hV : ValX X) (a b to : SS) (hab : (a, b) ∈ allG X) (hne : qel X a b to ≠ []) :
  Ok (C k (.f q08) [.agg [sv], .str a.n a.a, .str b.n b.a, .str to.n to.a] H) fun r H' => ∃ tv, r = .tup [tv, .int .i64 (.ofNat 0)] ∧ Ac 1 sC H H' tv (qel X a b to) := by
 obtain ⟨j, rfl⟩ : ∃ j, k = j + 1 := ⟨k - 1, by omega⟩
 rw [(hC j).zAy]
 unfold zAy zgt
 simp (disch := first | omega | exact ti rfl | (simp only [np, nq]; first | done | omega)) only [go_sem, reduceAdd, reduceMul, reduceSub, reduceLeDiff, reduceEqDiff, reduceShiftRight, reduceAnd]
 have f : Fm No H (qal H (qaa 0 [sv])) := by (repeat (first | exact Fm.refl _ _ | assumption | refine Fm.push ?_ _ | refine Fm.up2 ?_ (by (first | omega | (simp only [np, nq]; omega))) | refine Fm.put_new ?_ _ _ (by (first | omega | (simp only [np, nq]; omega)))))
 refine Ok.ve (qul hC hN (k := j) (by omega) (hX.fm f) hV) ?_
 rintro _ H1 ⟨rfl, f1⟩
 simp (disch := first | omega | exact ti rfl | (simp only [np, nq]; first | done | omega)) only [go_sem, reduceAdd, reduceMul, reduceSub, reduceLeDiff, reduceEqDiff, reduceShiftRight, reduceAnd]
 unfold qvy
 have n1 := f1.nx
 simp only [np] at n1
 have k1 : H1.get H.nx = qaa 0 [sv] := (f1.keep (by (first | omega | (simp only [np, nq]; omega)))).trans (qbc _ _)
 simp (disch := first | omega | exact ti rfl | (simp only [np, nq]; first | done | omega)) only [go_sem, reduceAdd, reduceMul, reduceSub, reduceLeDiff, reduceEqDiff, reduceShiftRight, reduceAnd, k1]
 have hX1 := (hX.fm f).fm f1
 refine Ok.ve (zfm hC (k := j) (by omega) hX1 hV.pr hV.al hV.sp) ?_
 rintro _ H2 ⟨ib, rfl, hI, f2⟩
 obtain ⟨q, x, _, ec, _⟩ := qg2 hC (k := j) (by omega) hI hV.al hV.sp hab
 simp (disch := first | omega | exact ti rfl | (simp only [np, nq]; first | done | omega)) only [go_sem, reduceAdd, reduceMul, reduceSub, reduceLeDiff, reduceEqDiff, reduceShiftRight, reduceAnd, ec]
 unfold q5n
 refine Ok.ve (qnc hC (k := j) (by omega) (hX1.fm f2) hV.pr.sml hI hV.al hV.sp a b to hab) ?_
 intro tv H3 ha
 have hl := ha.lenV
 have h0 : ¬ (qel X a b to).length = 0 := fun h => hne (List.length_eq_zero_iff.1 h)
 simp (disch := first | omega | exact ti rfl | (simp only [np, nq]; first | done | omega)) only [go_sem, reduceAdd, reduceMul, reduceSub, reduceLeDiff, reduceEqDiff, reduceShiftRight, reduceAnd, hl, h0]
 unfold q5o
 exact Ok.ret ⟨tv, rfl, ha.trans ((f.trans f1).trans f2)⟩
end Go.Di
end
section
namespace Go.Di
open Go.Ev
variable {C : Nat → Ev.Call}
theorem q8i (p q : SS × SS) : qcd (fun xs ys => qcn p1 ⟨qbj⟩ 1 xs ys 2 0) (kyP p) (kyP q) = some (decide (p = q)) := q88 p q
theorem MapP.findA {H : Hp} {b : Nat} {ps : List (SS × SS)} (h : MapP H b ps) (z : AV) (x y : SS) (hp : (x, y) ∈ ps) :
  qeh ⟨qcd fun xs ys => qcn p1 ⟨qbj⟩ 1 xs ys 2 0, some 2⟩ z false H (.map b) (.agg [.str x.n x.a, .str y.n y.a]) = .val (.int .i64 (.ofNat (ps.findIdx fun q => decide (q = (x, y))))) := by
 have := h.look (s := some 2) q8i (fun _ => rfl) z false (x, y)
 rw [if_pos hp] at this
 exact this
theorem MapP.putA {H : Hp} {b : Nat} {ps : List (SS × SS)} (h : MapP H b ps) (x y : SS) (hp : (x, y) ∉ ps) :
  ∃ k, updV ⟨qcd fun xs ys => qcn p1 ⟨qbj⟩ 1 xs ys 2 0, some 2⟩ H (.map b) (.agg [.str x.n x.a, .str y.n y.a]) (.int .i64 (.ofNat ps.length)) = .ok .undef (H.put b k) ∧ MapP (H.put b k) b (ps ++ [(x, y)]) :=
 h.upd (s := some 2) q8i (fun _ => rfl) hp
structure GOf (Hb : Hp) (ev0 : AV) (H : Hp) (gb N : Nat) (ev : AV) (es : List Edge) : Prop where
 blk : H.get gb = qaa 0 [.int .i64 (.ofNat N), ev]
 lt : gb < Hb.nx
 gl : Gl 3 H ev es.length (es.flatMap Edge.cells)
 fm : Fm (fun c => c = gb ∨ In ev0 c) Hb H
 nw : ∀ c, In ev c → In ev0 c ∨ Hb.nx ≤ c
 nin : ∀ c, In ev c → gb < c
theorem GOf.no {Hb H H' : Hp} {ev0 ev : AV} {gb N : Nat} {es : List Edge} (h : GOf Hb ev0 H gb N ev es) (f : Fm No H H') : GOf Hb ev0 H' gb N ev es :=
 ⟨(f.keep (Nat.lt_of_lt_of_le h.lt h.fm.nx)).trans h.blk, h.lt, h.gl.no f, h.fm.then f fun _ _ h => absurd h id, h.nw, h.nin⟩
theorem GOf.base {Hb H H' : Hp} {ev0 ev : AV} {gb N : Nat} {es : List Edge} (h : GOf Hb ev0 H gb N ev es) (f : Fm No H H') : GOf H' ev H' gb N ev es :=
 ⟨(f.keep (Nat.lt_of_lt_of_le h.lt h.fm.nx)).trans h.blk, Nat.lt_of_lt_of_le h.lt (Nat.le_trans h.fm.nx f.nx), h.gl.no f, Fm.refl _ _, fun _ h => .inl h, h.nin⟩
theorem GOf.comp {Hb H H1 H2 : Hp} {ev0 ev ev2 : AV} {gb N : Nat} {es es2 : List Edge} (h : GOf Hb ev0 H gb N ev es) (f : Fm No H H1) (h2 : GOf H1 ev H2 gb N ev2 es2) : GOf Hb ev0 H2 gb N ev2 es2 :=
 ⟨h2.blk, h.lt, h2.gl, (h.fm.then f fun _ _ h => absurd h id).then h2.fm fun c hc hs => by
  rcases hs with hs | hs
  ·exact .inl hs
  ·rcases h.nw c hs with h | h
   ·exact .inr h
   ·omega, fun c hc => by
  have n1 := h.fm.nx
  have n2 := f.nx
  rcases h2.nw c hc with h' | h'
  ·exact h.nw c h'
  ·exact .inr (by omega), h2.nin⟩
structure ToR (X : List SpG) (g : SpG) (x : RelG) (y : Nd × AV) (nb mb pb rb yb : Nat) (H : Hp) : Prop where
 n : H.get nb = qaa 0 [.map mb]
 m : MapP H mb (allG X)
 p : H.get pb = qaa 0 [.str g.name.n g.name.a, g.rv]
 r : ∃ c1 c2 c3 c4 c5, H.get rb = qaa 0 [.str x.r.name.n x.r.name.a, c1, c2, c3, c4, c5]
 y : H.get yb = qaa 0 (ndC y)
theorem zhl (hC : qav C) {k : Nat} (hk : 1 ≤ k) {Hb H : Hp} {ev0 ev : AV} {gb N : Nat} {es : List Edge} (hG : GOf Hb ev0 H gb N ev es) (hes : es.length ≤ 1000000) {X : List SpG} {g : SpG} {x : RelG} {y : Nd × AV} {nb mb pb rb yb : Nat} (hR : ToR X g x y nb mb pb rb yb H)
  (hself : (g.name, x.r.name) ∈ allG X) {a b : SS} (hab : (a, b) ∈ allG X) (h256 : (allG X).length ≤ 256) :
  Ok (C k (.f qmr) [.str a.n a.a, .str b.n b.a, .ptr gb 0, .ptr nb 0, .ptr pb 0, .ptr rb 0, .ptr yb 0] H) fun _ H' => ∃ ev', GOf Hb ev0 H' gb N ev' (es ++ [⟨numG X g.name x.r.name, numG X a b, y.1.neg⟩]) := by
 obtain ⟨j, rfl⟩ : ∃ j, k = j + 1 := ⟨k - 1, by omega⟩
 rw [(hC j).zAx]
 unfold zAx zgu
 have e0 := hG.blk
 have hn := hR.n
 have hp := hR.p
 obtain ⟨c1, c2, c3, c4, c5, hr⟩ := hR.r
 have hy := hR.y
 have m1 := hR.m.findA (.int .i64 (.ofNat 0)) g.name x.r.name hself
 have m2 := hR.m.findA (.int .i64 (.ofNat 0)) a b hab
 have i1 : (List.findIdx (fun q => decide (q = (g.name, x.r.name))) (allG X)) = numG X g.name x.r.name := rfl
 have i2 : (List.findIdx (fun q => decide (q = (a, b))) (allG X)) = numG X a b := rfl
 have l1 := qmk hself
 have l2 := qmk hab
 rw [i1] at m1
 rw [i2] at m2
 have m1' : qeh ⟨qcd fun xs ys => qcn p1 ⟨qbj⟩ 1 xs ys 2 0, some 2⟩ (.int .i64 (.ofNat 0)) false ⟨H.t, H.nx + 21⟩ (.map mb) (.agg [.str g.name.n g.name.a, .str x.r.name.n x.r.name.a]) = .val (.int .i64 (.ofNat (numG X g.name x.r.name))) := m1
 have m2' : qeh ⟨qcd fun xs ys => qcn p1 ⟨qbj⟩ 1 xs ys 2 0, some 2⟩ (.int .i64 (.ofNat 0)) false ⟨H.t, H.nx + 21⟩ (.map mb) (.agg [.str a.n a.a, .str b.n b.a]) = .val (.int .i64 (.ofNat (numG X a b))) := m2
 unfold ndC SS.v at hy
 simp (disch := first | omega | exact ti rfl | (simp only [np, nq]; first | done | omega)) only [go_sem, reduceAdd, reduceMul, reduceSub, reduceLeDiff, reduceEqDiff, reduceShiftRight, reduceAnd, e0, hn, hp, hr, hy, m1', m2']
 have hbl := Nat.lt_of_lt_of_le hG.lt hG.fm.nx
 have fp : Fm No H ((Hp.mk H.t (H.nx + 21)).put (H.nx + 17) (qaa 0 [.int .i64 (.ofNat (numG X g.name x.r.name)), .int .i64 (.ofNat (numG X a b)), .bool y.1.neg])) := by (repeat (first | exact Fm.refl _ _ | assumption | refine Fm.push ?_ _ | refine Fm.up2 ?_ (by (first | omega | (simp only [np, nq]; omega))) | refine Fm.put_new ?_ _ _ (by (first | omega | (simp only [np, nq]; omega)))))
 obtain ⟨H2, e2, g2, _, f2, n2⟩ := (hG.gl.no fp).append (k := 1) (w := 24) (x := Edge.cells ⟨numG X g.name x.r.name, numG X a b, y.1.neg⟩) (by omega) rfl (by omega) (by omega)
 simp only [nq] at e2 g2 n2
 refine Ok.deE e2 ?_
 have nig : ¬ In ev gb := fun h => by have := hG.nin gb h; omega
 have k2 : H2.get gb = qaa 0 [.int .i64 (.ofNat N), ev] := (f2.get gb (show gb < H.nx + 21 by omega) nig).trans ((fp.keep hbl).trans e0)
 have kn : H2.get nb = qaa 0 [.map mb] ∨ True := .inr trivial
 simp (disch := first | omega | exact ti rfl | (simp only [np, nq]; first | done | omega)) only [go_sem, reduceAdd, reduceMul, reduceSub, reduceLeDiff, reduceEqDiff, reduceShiftRight, reduceAnd, k2]
 have hnb := hG.fm.nx
 refine Ok.ret ⟨.sl (H.nx + 21) 0 (es.length + 1) (es.length + 1) false, qam _ _ _, hG.lt, ?_, ?_, ?_, ?_⟩
 ·rw [List.length_append, List.flatMap_append, List.flatMap_singleton]
  refine g2.keep (Nat.le_refl _) fun c hc _ => ?_
  obtain ⟨_, _, _, _, hc⟩ := hc
  injection hc with hc
  rw [qat _ _ _ _ (by omega)]
 ·refine ((hG.fm.then fp fun _ _ h => absurd h id).then f2 fun c hc h => ?_).put _ _ fun _ => .inl rfl
  rcases hG.nw c h with h | h
  ·exact .inr h
  ·omega
 ·rintro c ⟨_, _, _, _, hc⟩
  injection hc with hc
  exact .inr (by omega)
 ·rintro c ⟨_, _, _, _, hc⟩
  injection hc with hc
  omega
end Go.Di
end
section
namespace Go.Di
open Go.Ev
variable {C : Nat → Ev.Call}
def eE (X : List SpG) (n : Nat) (neg : Bool) (p : SS × SS) : Edge := ⟨n, numG X p.1 p.2, neg⟩
def toF (gb nb pb rb yb : Nat) : AV := .fn qmr [] [.ptr gb 0, .ptr nb 0, .ptr pb 0, .ptr rb 0, .ptr yb 0]
theorem qxy (l : List TyS) : (tyT l).length ≤ l.length := by unfold tyT; rw [List.length_map]; exact List.length_filter_le _ _
theorem qrk (hC : qav C) {j : Nat} (hj : 1 ≤ j) {Hb : Hp} {ev0 tv : AV} {gb N nb mb pb rb yb : Nat} {X : List SpG} {g : SpG} {x : RelG} {y : Nd × AV} (hR : ∀ H, Fm (fun c => c = gb ∨ In ev0 c) Hb H → ToR X g x y nb mb pb rb yb H) (hT : ∀ H, Fm (fun c => c = gb ∨ In ev0 c) Hb H → Rs 2 tC H tv x.r.types) (htl : x.r.types.length ≤ 8)
  (hself : (g.name, x.r.name) ∈ allG X) (h256 : (allG X).length ≤ 256) (hin : ∀ p ∈ tyT x.r.types, p ∈ allG X) {E : List Edge} (hE : E.length ≤ 900000) {Q : AV → Hp → Prop} {q : Hp → R1}
  (hq : ∀ H ev, GOf Hb ev0 H gb N ev (E ++ (tyT x.r.types).map (eE X (numG X g.name x.r.name) y.1.neg)) → Ok (q H) Q) :
  ∀ (k i : Nat) (H : Hp) (ev : AV), i ≤ x.r.types.length → x.r.types.length - i < k → GOf Hb ev0 H gb N ev (E ++ (tyT (x.r.types.take i)).map (eE X (numG X g.name x.r.name) y.1.neg)) →
   Ok (qi9 (C j) q (toF gb nb pb rb yb) tv (.int .i64 (.ofNat x.r.types.length)) k (.int .i64 (.ofNat i)) H) Q
 | 0, i, _, _, _, h, _ => by omega
 | k + 1, i, H, ev, hi, hk, hG => by
  show Ok (qwt (C j) _ _ _ _ (qi9 (C j) _ _ _ _ k) _ H) Q
  unfold qwt
  by_cases hlt : i < x.r.types.length
  ·simp (disch := first | omega | exact ti rfl | (simp only [np, nq]; first | done | omega)) only [go_sem, reduceAdd, reduceMul, reduceSub, reduceLeDiff, reduceEqDiff, reduceShiftRight, reduceAnd, hlt]
   unfold qwr
   obtain ⟨b1, o1, e1, e2, _, e3, _⟩ := (hT H hG.fm).at' i hlt
   unfold tC SS.v at e3
   have hs := qzi hlt
   have fp : Fm No H ((qal H (qaa 0 [.str 0 0, .str 0 0])).put H.nx (qaa 0 [.str x.r.types[i].sp.n x.r.types[i].sp.a, .str x.r.types[i].rl.n x.r.types[i].rl.a])) := by (repeat (first | exact Fm.refl _ _ | assumption | refine Fm.push ?_ _ | refine Fm.up2 ?_ (by (first | omega | (simp only [np, nq]; omega))) | refine Fm.put_new ?_ _ _ (by (first | omega | (simp only [np, nq]; omega)))))
   have hll := qxy (x.r.types.take i)
   rw [List.length_take] at hll
   by_cases hz : x.r.types[i].rl.n = 0 ∧ x.r.types[i].rl.a = 0
   ·have hzt := eq_true hz
    rw [if_pos ((qde _ _).2 hz), List.append_nil] at hs
    simp (disch := first | omega | exact ti rfl | (simp only [np, nq]; first | done | omega)) only [go_sem, reduceAdd, reduceMul, reduceSub, reduceLeDiff, reduceEqDiff, reduceShiftRight, reduceAnd, e1, e3, hzt]
    unfold qlo
    simp (disch := first | omega | exact ti rfl | (simp only [np, nq]; first | done | omega)) only [go_sem, reduceAdd, reduceMul, reduceSub, reduceLeDiff, reduceEqDiff, reduceShiftRight, reduceAnd]
    exact qrk hC hj hR hT htl hself h256 hin hE hq k (i + 1) _ ev (by omega) (by omega) (by rw [hs]; exact hG.no fp)
   ·have hz' : ¬ x.r.types[i].rl = sE := fun h => hz ((qde _ _).1 h)
    rw [if_neg hz'] at hs
    have hpm : (x.r.types[i].sp, x.r.types[i].rl) ∈ allG X := hin _ (by
     unfold tyT
     rw [List.mem_map]
     exact ⟨x.r.types[i], by rw [List.mem_filter]; exact ⟨List.getElem_mem hlt, by simpa using hz'⟩, rfl⟩)
    unfold toF
    simp (disch := first | omega | exact ti rfl | (simp only [np, nq]; first | done | omega)) only [go_sem, reduceAdd, reduceMul, reduceSub, reduceLeDiff, reduceEqDiff, reduceShiftRight, reduceAnd, e1, e3, hz]
    refine Ok.ve (zhl hC hj (hG.no fp) (by rw [List.length_append, List.length_map]; omega) (hR _ (hG.no fp).fm) hself hpm h256) ?_
    rintro _ H3 ⟨ev3, hG3⟩
    unfold qlo
    simp (disch := first | omega | exact ti rfl | (simp only [np, nq]; first | done | omega)) only [go_sem, reduceAdd, reduceMul, reduceSub, reduceLeDiff, reduceEqDiff, reduceShiftRight, reduceAnd]
    refine qrk hC hj hR hT htl hself h256 hin hE hq k (i + 1) _ ev3 (by omega) (by omega) ?_
    rw [hs, List.map_append, ← List.append_assoc]
    exact hG3
  ·simp (disch := first | omega | exact ti rfl | (simp only [np, nq]; first | done | omega)) only [go_sem, reduceAdd, reduceMul, reduceSub, reduceLeDiff, reduceEqDiff, reduceShiftRight, reduceAnd, hlt]
   have he : i = x.r.types.length := by omega
   rw [he, List.take_length] at hG
   exact hq H ev hG
theorem q1h (hC : qav C) {j : Nat} (hj : 1 ≤ j) {Hb : Hp} {ev0 tv : AV} {gb N nb mb pb rb yb : Nat} {X : List SpG} {g : SpG} {x : RelG} {y : Nd × AV} (hR : ∀ H, Fm (fun c => c = gb ∨ In ev0 c) Hb H → ToR X g x y nb mb pb rb yb H) {ts : List SS} (hT : ∀ H, Fm (fun c => c = gb ∨ In ev0 c) Hb H → Rs 1 sC H tv ts) (htl : ts.length ≤ 100)
  (hself : (g.name, x.r.name) ∈ allG X) (h256 : (allG X).length ≤ 256) (hin : ∀ s ∈ ts, (s, y.1.to) ∈ allG X) {E : List Edge} (hE : E.length ≤ 900000) {Q : AV → Hp → Prop} {q : Hp → R1}
  (hq : ∀ H ev, GOf Hb ev0 H gb N ev (E ++ (ts.map fun s => (s, y.1.to)).map (eE X (numG X g.name x.r.name) y.1.neg)) → Ok (q H) Q) :
  ∀ (k i : Nat) (H : Hp) (ev : AV), i ≤ ts.length → ts.length - i < k → GOf Hb ev0 H gb N ev (E ++ ((ts.take i).map fun s => (s, y.1.to)).map (eE X (numG X g.name x.r.name) y.1.neg)) →
   Ok (qi8 (C j) q (.ptr yb 0) (toF gb nb pb rb yb) tv (.int .i64 (.ofNat ts.length)) k (.int .i64 (.ofNat i)) H) Q
 | 0, i, _, _, _, h, _ => by omega
 | k + 1, i, H, ev, hi, hk, hG => by
  show Ok (qws (C j) _ _ _ _ _ (qi8 (C j) _ _ _ _ _ k) _ H) Q
  unfold qws
  by_cases hlt : i < ts.length
  ·simp (disch := first | omega | exact ti rfl | (simp only [np, nq]; first | done | omega)) only [go_sem, reduceAdd, reduceMul, reduceSub, reduceLeDiff, reduceEqDiff, reduceShiftRight, reduceAnd, hlt]
   unfold qqb
   obtain ⟨b1, o1, e1, e2, e3⟩ := (hT H hG.fm).at1 (g := SS.v) (fun _ => rfl) hlt
   unfold SS.v at e3
   have r := hR H hG.fm
   have hy := r.y
   unfold ndC SS.v at hy
   unfold toF
   simp (disch := first | omega | exact ti rfl | (simp only [np, nq]; first | done | omega)) only [go_sem, reduceAdd, reduceMul, reduceSub, reduceLeDiff, reduceEqDiff, reduceShiftRight, reduceAnd, e1, e3, hy]
   refine Ok.ve (zhl hC hj hG (by rw [List.length_append, List.length_map, List.length_map, List.length_take]; omega) r hself (hin ts[i] (List.getElem_mem hlt)) h256) ?_
   rintro _ H3 ⟨ev3, hG3⟩
   unfold qwq
   simp (disch := first | omega | exact ti rfl | (simp only [np, nq]; first | done | omega)) only [go_sem, reduceAdd, reduceMul, reduceSub, reduceLeDiff, reduceEqDiff, reduceShiftRight, reduceAnd]
   refine q1h hC hj hR hT htl hself h256 hin hE hq k (i + 1) _ ev3 (by omega) (by omega) ?_
   rw [List.take_succ_eq_append_getElem hlt, List.map_append, List.map_append, ← List.append_assoc]
   exact hG3
  ·simp (disch := first | omega | exact ti rfl | (simp only [np, nq]; first | done | omega)) only [go_sem, reduceAdd, reduceMul, reduceSub, reduceLeDiff, reduceEqDiff, reduceShiftRight, reduceAnd, hlt]
   have he : i = ts.length := by omega
   rw [he, List.take_length] at hG
   exact hq H ev hG
def ndF (X : List SpG) (g : SpG) (x : RelG) (y : Nd) : List Edge := (ndT X g.name x y).map (eE X (numG X g.name x.r.name) y.neg)
structure NdR (X : List SpG) (g : SpG) (x : RelG) (sv nv : AV) (l : List (Nd × AV)) (xb nb mb pb rb : Nat) (H : Hp) : Prop where
 sch : SchR H sv X
 x1 : H.get xb = qaa 0 [sv]
 n : H.get nb = qaa 0 [.map mb]
 m : MapP H mb (allG X)
 p : H.get pb = qaa 0 [.str g.name.n g.name.a, g.rv]
 r : ∃ c2 c3 c4 c5, H.get rb = qaa 0 [.str x.r.name.n x.r.name.a, x.tv, c2, c3, c4, c5]
 nd : Rs 5 ndC H nv l
theorem ziq {X : List SpG} (hS : Sml X) {a : SS} {x : RelG} (hx : x.r.types.length ≤ 100) (y : Nd) : (ndT X a x y).length ≤ 100 := by
 unfold ndT
 split
 ·have := qxy x.r.types; omega
 split
 ·simp
 split
 ·rw [List.length_map]; exact qlv hS _ _ _
 ·simp
theorem zir {X : List SpG} (hS : Sml X) {g : SpG} {x : RelG} (hx : x.r.types.length ≤ 100) (y : Nd) : (ndF X g x y).length ≤ 100 := by
 unfold ndF
 rw [List.length_map]; exact ziq hS hx y
theorem q1l (hC : qav C) (hN : qbs C) {j : Nat} (hj : 22 ≤ j) {Hb : Hp} {ev0 sv nv : AV} {gb N xb nb mb pb rb : Nat} {X : List SpG} (hV : ValX X) {g : SpG} {x : RelG} (hm : g ∈ X ∧ x ∈ g.gs) {l : List (Nd × AV)} (hR : ∀ H, Fm (fun c => c = gb ∨ In ev0 c) Hb H → NdR X g x sv nv l xb nb mb pb rb H)
  (hlt' : xb < Hb.nx ∧ nb < Hb.nx ∧ mb < Hb.nx ∧ pb < Hb.nx ∧ rb < Hb.nx) (hll : l.length ≤ 32) (hln : l.map Prod.fst = x.r.rule.nodes false) (hin : ∀ y ∈ l, ∀ p ∈ ndT X g.name x y.1, p ∈ allG X) {E : List Edge} (hE : E.length ≤ 800000) {Q : AV → Hp → Prop} {q : Hp → R1}
  (hq : ∀ H ev, GOf Hb ev0 H gb N ev (E ++ l.flatMap fun y => ndF X g x y.1) → Ok (q H) Q) :
  ∀ (k i : Nat) (H : Hp) (ev : AV), i ≤ l.length → l.length - i < k → GOf Hb ev0 H gb N ev (E ++ (l.take i).flatMap fun y => ndF X g x y.1) →
   Ok (qcg (C j) q (.ptr xb 0) (.ptr nb 0) (.ptr gb 0) (.ptr pb 0) (.ptr rb 0) nv (.int .i64 (.ofNat l.length)) k (.int .i64 (.ofNat i)) H) Q
 | 0, i, _, _, _, h, _ => by omega
 | k + 1, i, H, ev, hi, hk, hG => by
  show Ok (qwu (C j) _ _ _ _ _ _ _ _ (qcg (C j) _ _ _ _ _ _ _ _ k) _ H) Q
  unfold qwu
  obtain ⟨t1, t2, t3, t4, t5⟩ := hlt'
  by_cases hlt : i < l.length
  ·simp (disch := first | omega | exact ti rfl | (simp only [np, nq]; first | done | omega)) only [go_sem, reduceAdd, reduceMul, reduceSub, reduceLeDiff, reduceEqDiff, reduceShiftRight, reduceAnd, hlt]
   unfold qqa
   have r := hR H hG.fm
   obtain ⟨b1, o1, e1, e2, _, e3, _⟩ := r.nd.at' i hlt
   unfold ndC SS.v at e3
   have hSm := hV.pr.sml
   have htx := (hV.pr.x _ hm.1 _ hm.2).1
   have hself : (g.name, x.r.name) ∈ allG X := qit.2 ⟨g, hm.1, x, hm.2, rfl, rfl⟩
   have h256 : (allG X).length ≤ 256 := by have := hV.pr.len; rw [← qbl, List.length_map]; exact this
   have fp : Fm No H ((qal H (qaa 0 [.int .u8 (.ofNat 0), .str 0 0, .str 0 0, .nilsl, .bool false])).put H.nx (qaa 0 [.int .u8 (.ofNat l[i].1.k), .str l[i].1.rl.n l[i].1.rl.a, .str l[i].1.to.n l[i].1.to.a, l[i].2, .bool l[i].1.neg])) := by (repeat (first | exact Fm.refl _ _ | assumption | refine Fm.push ?_ _ | refine Fm.up2 ?_ (by (first | omega | (simp only [np, nq]; omega))) | refine Fm.put_new ?_ _ _ (by (first | omega | (simp only [np, nq]; omega)))))
   obtain ⟨H1, hH1⟩ : ∃ H1, H1 = (qal H (qaa 0 [.int .u8 (.ofNat 0), .str 0 0, .str 0 0, .nilsl, .bool false])).put H.nx (qaa 0 [.int .u8 (.ofNat l[i].1.k), .str l[i].1.rl.n l[i].1.rl.a, .str l[i].1.to.n l[i].1.to.a, l[i].2, .bool l[i].1.neg]) := ⟨_, rfl⟩
   rw [← hH1] at fp
   have kb : H1.get H.nx = qaa 0 (ndC l[i]) := by rw [hH1]; exact qam _ _ _
   have n1 : H1.nx = H.nx + 1 := by rw [hH1]; rfl
   have hG1 := hG.no fp
   have nx0 := hG.fm.nx
   have hEl : (E ++ (l.take i).flatMap fun y => ndF X g x y.1).length ≤ 900000 := by
    have h1 := qb6 (fun y : Nd × AV => ndF X g x y.1) 100 (l.take i) fun y _ => zir hSm (by omega) _
    rw [List.length_append]
    have h2 : (l.take i).length ≤ 32 := by rw [List.length_take]; omega
    omega
   have next : ∀ H' ev', GOf Hb ev0 H' gb N ev' ((E ++ (l.take i).flatMap fun y => ndF X g x y.1) ++ ndF X g x l[i].1) → Ok (qch (C j) (qcg (C j) q (.ptr xb 0) (.ptr nb 0) (.ptr gb 0) (.ptr pb 0) (.ptr rb 0) nv (.int .i64 (.ofNat l.length)) k) (.int .i64 (.ofNat i)) H') Q := fun H' ev' h => by
    unfold qch
    simp (disch := first | omega | exact ti rfl | (simp only [np, nq]; first | done | omega)) only [go_sem, reduceAdd, reduceMul, reduceSub, reduceLeDiff, reduceEqDiff, reduceShiftRight, reduceAnd]
    refine q1l hC hN hj hV hm hR ⟨t1, t2, t3, t4, t5⟩ hll hln hin hE hq k (i + 1) H' ev' (by omega) (by omega) ?_
    rw [List.take_succ_eq_append_getElem hlt, List.flatMap_append, List.flatMap_singleton, ← List.append_assoc]
    exact h
   have inH : ∀ c, In ev c → c < H.nx := fun c hc => hG.gl.lt hc
   have gbl := hG.lt
   have hTo : ∀ H2, Fm No H1 H2 → ∀ H', Fm (fun c => c = gb ∨ In ev c) H2 H' → ToR X g x l[i] nb mb pb rb H.nx H' := fun H2 f2 H' f' => by
    have ft : Fm (fun c => c = gb ∨ In ev0 c) Hb H' := ((hG1.fm).then f2 fun _ _ h => absurd h id).then f' fun c hc hs => by
     rcases hs with hs | hs
     ·exact .inl hs
     ·rcases hG.nw c hs with h | h
      ·exact .inr h
      ·omega
    have r' := hR H' ft
    refine ⟨r'.n, r'.m, r'.p, ?_, ?_⟩
    ·obtain ⟨c2, c3, c4, c5, h⟩ := r'.r
     exact ⟨_, _, _, _, _, h⟩
    ·have := f2.nx
     refine (f'.get H.nx (by omega) fun hs => ?_).trans ((f2.keep (by omega)).trans kb)
     rcases hs with hs | hs
     ·omega
     ·have := inH _ hs; omega
   have r1 := hR H1 hG1.fm
   have hini := hin _ (List.getElem_mem hlt)
   have hnf : ndF X g x l[i].1 = (ndT X g.name x l[i].1).map (eE X (numG X g.name x.r.name) l[i].1.neg) := rfl
   unfold ndT at hini hnf
   by_cases q1 : l[i].1.k = 1
   ·have q1t := eq_true q1
    rw [if_pos q1] at hini hnf
    obtain ⟨c2, c3, c4, c5, hrb⟩ := r.r
    have rr := (fp.keep (show rb < H.nx by omega)).trans hrb
    rw [hH1] at rr
    have hty := ((r.sch.sp _ hm.1).rel _ hm.2).ty
    have hl := hty.len
    simp (disch := first | omega | exact ti rfl | (simp only [np, nq]; first | done | omega)) only [go_sem, reduceAdd, reduceMul, reduceSub, reduceLeDiff, reduceEqDiff, reduceShiftRight, reduceAnd, e1, e3, q1t, rr, hl]
    unfold qwy
    rw [qan, ← hH1]
    have hGb := hG1.base (Fm.refl No H1)
    refine qrk hC (by omega) (N := N) (Hb := H1) (ev0 := ev) (y := l[i]) (hTo H1 (Fm.refl _ _)) (fun H' f' => ?_) htx hself h256 hini hEl (fun H' ev' h => ?_) qak 0 H1 ev (Nat.zero_le _) (by rw [qaf]; omega) ?_
    ·have ft : Fm (fun c => c = gb ∨ In ev0 c) Hb H' := (hG1.fm).then f' fun c hc hs => by
      rcases hs with hs | hs
      ·exact .inl hs
      ·rcases hG.nw c hs with h | h
       ·exact .inr h
       ·omega
     exact (((hR H' ft).sch.sp _ hm.1).rel _ hm.2).ty
    ·refine next H' ev' ?_
     rw [hnf]
     exact hG1.comp (Fm.refl _ _) h
    ·rw [List.take_zero]
     simpa [tyT] using hGb
   ·rw [if_neg q1] at hini hnf
    by_cases q2 : l[i].1.k = 2
    ·have q2t := eq_true q2
     rw [if_pos q2] at hini hnf
     have rp := (fp.keep (show pb < H.nx by omega)).trans r.p
     rw [hH1] at rp
     simp (disch := first | omega | exact ti rfl | (simp only [np, nq]; first | done | omega)) only [go_sem, reduceAdd, reduceMul, reduceSub, reduceLeDiff, reduceEqDiff, reduceShiftRight, reduceAnd, e1, e3, q1, q2t, rp]
     rw [← hH1]
     have hGb := hG1.base (Fm.refl No H1)
     refine Ok.ve (zhl hC (by omega) hGb (by omega) (hTo H1 (Fm.refl _ _) H1 (Fm.refl _ _)) hself (hini _ List.mem_cons_self) h256) ?_
     rintro _ H3 ⟨ev3, hG3⟩
     refine next H3 ev3 ?_
     rw [hnf]
     exact hG1.comp (Fm.refl _ _) hG3
    ·rw [if_neg q2] at hini hnf
     by_cases q3 : l[i].1.k = 3
     ·have q3t := eq_true q3
      rw [if_pos q3] at hini hnf
      have rp := (fp.keep (show pb < H.nx by omega)).trans r.p
      have rx := (fp.keep (show xb < H.nx by omega)).trans r.x1
      rw [hH1] at rp rx
      simp (disch := first | omega | exact ti rfl | (simp only [np, nq]; first | done | omega)) only [go_sem, reduceAdd, reduceMul, reduceSub, reduceLeDiff, reduceEqDiff, reduceShiftRight, reduceAnd, e1, e3, q1, q2, q3t, rp, rx]
      rw [← hH1]
      have hnd := hV.nd _ hm.1 _ hm.2 l[i].1 (by rw [← hln]; exact List.mem_map_of_mem (List.getElem_mem hlt))
      refine Ok.ve (qyz hC hN (k := j) (by omega) r1.sch hV g.name l[i].1.rl l[i].1.to (hnd.1 (.inr q3)) (hnd.2 q3)) ?_
      rintro _ H2 ⟨tv, rfl, ha⟩
      have hl := ha.lenV
      simp (disch := first | omega | exact ti rfl | (simp only [np, nq]; first | done | omega)) only [go_sem, reduceAdd, reduceMul, reduceSub, reduceLeDiff, reduceEqDiff, reduceShiftRight, reduceAnd, hl]
      unfold qwx
      rw [qan]
      have hGb := hG1.base ha.fm
      have htl := qlv hSm g.name l[i].1.rl l[i].1.to
      have n2 := ha.fm.nx
      refine q1h hC (by omega) (N := N) (Hb := H2) (ev0 := ev) (y := l[i]) (hTo H2 ha.fm) (fun H' f' => (ha.rs q7a).fmS f' fun c hc hs => ?_) htl hself h256 (fun s hs => hini _ (List.mem_map_of_mem hs)) hEl (fun H' ev' h => ?_) qak 0 H2 ev (Nat.zero_le _) (by rw [qaf]; omega) ?_
      ·have := ha.nw c hc
       rcases hs with hs | hs
       ·omega
       ·have := inH c hs; omega
      ·refine next H' ev' ?_
       rw [hnf]
       exact hG1.comp ha.fm h
      ·rw [List.take_zero]
       simpa using hGb
     ·rw [if_neg q3] at hnf
      simp (disch := first | omega | exact ti rfl | (simp only [np, nq]; first | done | omega)) only [go_sem, reduceAdd, reduceMul, reduceSub, reduceLeDiff, reduceEqDiff, reduceShiftRight, reduceAnd, e1, e3, q1, q2, q3]
      rw [← hH1]
      refine next H1 ev ?_
      rw [hnf]
      simpa using hG1
  ·simp (disch := first | omega | exact ti rfl | (simp only [np, nq]; first | done | omega)) only [go_sem, reduceAdd, reduceMul, reduceSub, reduceLeDiff, reduceEqDiff, reduceShiftRight, reduceAnd, hlt]
   have he : i = l.length := by omega
   rw [he, List.take_length] at hG
   exact hq H ev hG
end Go.Di
end
