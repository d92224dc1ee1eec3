/-
 For TablesEval: functions in direct style, their contracts, and the plain mathematics, part 5 of 5. No conditions beyond those that each theorem states.
-/
import Derived.Test.YtoknlffemngkbaaGreatConD
import Derived.Test.YtoknlffemngkbaaGreatEv4
import Derived.Test.YtoknlffemngkbaaGreatConB
import Derived.ChangeArms
import Derived.DataReads
set_option linter.unusedSimpArgs false
set_option linter.unusedVariables false
noncomputable section
namespace Go.Di
open Go.Ev
variable {C : Nat → Ev.Call}
theorem quw (hC : qbi C) {j : Nat} (hj : 3 ≤ j) {Hb : Hp} {v : AV} {p : Nat → Bool} (hv : Ob Hb v (dom p)) {qr : AV → AV → Hp → R1} {q : Hp → R1} {Q : AV → Hp → Prop} (hq : ∀ H, Fm No Hb H → Ok (q H) Q) :
  ∀ (k i : Nat) (H : Hp), 1 ≤ i → (dom p).length - i < k → Fm No Hb H → Ok (qeb (C j) qr q v k (.int .i64 (.ofNat i)) H) Q
 | 0, i, _, _, h, _ => by omega
 | k + 1, i, H, h1, hk, hf => by
  show Ok (qf0 (C j) _ _ _ (qeb (C j) _ _ _ k) _ H) Q
  unfold qf0
  have l1 := hv.len
  by_cases hlt : i < (dom p).length
  ·simp (disch := first | omega | exact tr_i rfl | (simp only [qaa, qab]; done) | (simp only [qaa, qab]; omega)) only [go_sem, Nat.reduceAdd, Nat.reduceMul, Nat.reduceSub, Nat.reduceLeDiff, Nat.reduceEqDiff, Nat.reduceShiftRight, Nat.reduceAnd, l1, hlt]
   unfold qhs
   obtain ⟨h8, b, o, e1, e2, e3⟩ := (hv.fm hf).at hlt
   obtain ⟨g8, b', o', g1, g2, g3⟩ := (hv.fm hf).at (show i - 1 < (dom p).length by omega)
   have hlt2 : (dom p)[i - 1] < (dom p)[i] := by
    have := List.pairwise_iff_getElem.1 (zaz p) (i - 1) i (by omega) hlt (by omega)
    exact this
   have hi1000 := qie p
   simp (disch := first | omega | exact tr_i rfl | (simp only [qaa, qab]; done) | (simp only [qaa, qab]; omega)) only [go_sem, Nat.reduceAdd, Nat.reduceMul, Nat.reduceSub, Nat.reduceLeDiff, Nat.reduceEqDiff, Nat.reduceShiftRight, Nat.reduceAnd, e1, e3, g1, g3]
   refine Ok.deO (q5y hC (k := j) hj g8 h8 H) ?_
   rintro _ H2 ⟨rfl, f2⟩
   have hc : cN (dom p)[i - 1] (dom p)[i] = .negSucc 0 := if_pos hlt2
   have hgn : intV (qad .geq).f (.int .i64 (.negSucc 0)) (.int .i64 (.ofNat 0)) = .val (.bool false) := rfl
   rw [hc]
   simp (disch := first | omega | exact tr_i rfl | (simp only [qaa, qab]; done) | (simp only [qaa, qab]; omega)) only [go_sem, Nat.reduceAdd, Nat.reduceMul, Nat.reduceSub, Nat.reduceLeDiff, Nat.reduceEqDiff, Nat.reduceShiftRight, Nat.reduceAnd, hgn]
   unfold qj6
   simp (disch := first | omega | exact tr_i rfl | (simp only [qaa, qab]; done) | (simp only [qaa, qab]; omega)) only [go_sem, Nat.reduceAdd, Nat.reduceMul, Nat.reduceSub, Nat.reduceLeDiff, Nat.reduceEqDiff, Nat.reduceShiftRight, Nat.reduceAnd]
   exact quw hC hj hv hq k (i + 1) H2 (by omega) (by omega) (hf.trans f2)
  ·simp (disch := first | omega | exact tr_i rfl | (simp only [qaa, qab]; done) | (simp only [qaa, qab]; omega)) only [go_sem, Nat.reduceAdd, Nat.reduceMul, Nat.reduceSub, Nat.reduceLeDiff, Nat.reduceEqDiff, Nat.reduceShiftRight, Nat.reduceAnd, l1, hlt]
   exact hq H hf
theorem qto (hC : qbi C) {j : Nat} (hj : 3 ≤ j) {Hb : Hp} {vv : AV} {ps : List (Nat → Bool)} {n : Nat} (hn : ps.length ≤ n) (hn2 : n ≤ 100) (hv : ∀ i (h : i < ps.length), ∃ b o w, idxS 1 vv (.int .i64 (.ofNat i)) = .val (.ptr b o) ∧ b < Hb.nx ∧ qbt (Hb.get b) o = .val w ∧ Ob Hb w (dom ps[i]) ∧ Gl 2 Hb w (dom ps[i]).length ((dom ps[i]).flatMap obC)) {qr : AV → AV → Hp → R1} {q : Hp → R1} {Q : AV → Hp → Prop}
  (hq : ∀ k H, n - ps.length < k → Fm No Hb H → Ok (qbn (C j) qr q vv (.int .i64 (.ofNat n)) k (.int .i64 (.ofNat ps.length)) H) Q) :
  ∀ (k i : Nat) (H : Hp), i ≤ ps.length → n - i < k → Fm No Hb H → Ok (qbn (C j) qr q vv (.int .i64 (.ofNat n)) k (.int .i64 (.ofNat i)) H) Q
 | 0, i, _, _, h, _ => by omega
 | k + 1, i, H, hi, hk, hf => by
  by_cases hlt : i < ps.length
  ·show Ok (qew (C j) _ _ _ _ (qbn (C j) _ _ _ _ k) _ H) Q
   unfold qew
   have hin : i < n := by omega
   simp (disch := first | omega | exact tr_i rfl | (simp only [qaa, qab]; done) | (simp only [qaa, qab]; omega)) only [go_sem, Nat.reduceAdd, Nat.reduceMul, Nat.reduceSub, Nat.reduceLeDiff, Nat.reduceEqDiff, Nat.reduceShiftRight, Nat.reduceAnd, hin]
   unfold qhr
   obtain ⟨b, o, w, e1, e2, e3, e4, _⟩ := hv i hlt
   rw [← hf.keep e2] at e3
   simp (disch := first | omega | exact tr_i rfl | (simp only [qaa, qab]; done) | (simp only [qaa, qab]; omega)) only [go_sem, Nat.reduceAdd, Nat.reduceMul, Nat.reduceSub, Nat.reduceLeDiff, Nat.reduceEqDiff, Nat.reduceShiftRight, Nat.reduceAnd, e1, e3]
   unfold qhu
   rw [qbc]
   refine quw hC hj (e4.fm hf) (fun H2 f2 => ?_) qaz 1 H (Nat.le_refl _) (by have := qie ps[i]; rw [qas]; omega) (Fm.refl _ _)
   unfold qec
   simp (disch := first | omega | exact tr_i rfl | (simp only [qaa, qab]; done) | (simp only [qaa, qab]; omega)) only [go_sem, Nat.reduceAdd, Nat.reduceMul, Nat.reduceSub, Nat.reduceLeDiff, Nat.reduceEqDiff, Nat.reduceShiftRight, Nat.reduceAnd]
   exact qto hC hj hn hn2 hv hq k (i + 1) H2 (by omega) (by omega) (hf.trans f2)
  ·have he : i = ps.length := by omega
   subst he
   exact hq (k + 1) H hk hf
def RO (H : Hp) (v : AV) (p : Nat → Bool) : Prop := Ob H v (dom p) ∧ Gl 2 H v (dom p).length ((dom p).flatMap obC)
theorem vlRO : VlR RO := ⟨fun h f => ⟨h.1.fm f, h.2.no f⟩, fun {H v p q} h e => by
 have : dom p = dom q := qit fun x _ => e x
 unfold RO at h ⊢
 rw [← this]; exact h⟩
theorem qsc (hC : qbi C) {k : Nat} (hk : 1 ≤ k) (f : FuncId) (H : Hp) : C k (.f qer) [.fn f [] []] H = .ok (.fn qb6 [] [.ptr H.nx 0]) (qaq H (qac 0 [.fn f [] []])) := by
 obtain ⟨j, rfl⟩ : ∃ j, k = j + 1 := ⟨k - 1, by omega⟩
 rw [(hC j).tables_chosen]
 rfl
theorem S1_ok (hC : qbi C) (j : Nat) (p q : Bool) (H : Hp) : C (j + 1) (.f qcu) [.bool p, .bool q] H = .ok (.bool (fB 4 p q)) H := by
 rw [(hC j).tables_Sets_1]
 unfold tables_Sets_1 qj9
 cases p <;> cases q <;> (simp (disch := first | omega | exact tr_i rfl | (simp only [qaa, qab]; done) | (simp only [qaa, qab]; omega)) only [go_sem, Nat.reduceAdd, Nat.reduceMul, Nat.reduceSub, Nat.reduceLeDiff, Nat.reduceEqDiff, Nat.reduceShiftRight, Nat.reduceAnd]; rfl)
theorem S2_ok (hC : qbi C) (j : Nat) (p q : Bool) (H : Hp) : C (j + 1) (.f qct) [.bool p, .bool q] H = .ok (.bool (fB 5 p q)) H := by
 rw [(hC j).tables_Sets_2]
 unfold tables_Sets_2 qj8
 cases p <;> cases q <;> (simp (disch := first | omega | exact tr_i rfl | (simp only [qaa, qab]; done) | (simp only [qaa, qab]; omega)) only [go_sem, Nat.reduceAdd, Nat.reduceMul, Nat.reduceSub, Nat.reduceLeDiff, Nat.reduceEqDiff, Nat.reduceShiftRight, Nat.reduceAnd]; rfl)
theorem S3_ok (hC : qbi C) (j : Nat) (p q : Bool) (H : Hp) : C (j + 1) (.f qdt) [.bool p, .bool q] H = .ok (.bool (fB 6 p q)) H := by
 rw [(hC j).tables_Sets_3]
 unfold tables_Sets_3 qj7
 cases p <;> cases q <;> (simp (disch := first | omega | exact tr_i rfl | (simp only [qaa, qab]; done) | (simp only [qaa, qab]; omega)) only [go_sem, Nat.reduceAdd, Nat.reduceMul, Nat.reduceSub, Nat.reduceLeDiff, Nat.reduceEqDiff, Nat.reduceShiftRight, Nat.reduceAnd]; rfl)
def gsO (b : Nat) (k : Nat) : AV := .fn qb6 [] [.ptr (b + (k - 4)) 0]
theorem opO (hC : qbi C) {H : Hp} {b : Nat} (h4 : H.get b = qac 0 [.fn qcu [] []]) (h5 : H.get (b + 1) = qac 0 [.fn qct [] []]) (h6 : H.get (b + 2) = qac 0 [.fn qdt [] []]) (hb : b + 2 < H.nx) : OpR RO C H (gsO b) := by
 refine ⟨fun k _ _ => ⟨_, _, rfl, ?_⟩, fun k k4 k6 j hj H' u v p q f hu hv => ?_⟩
 ·show (Nat.beq qb6 qb6 && eqFL 63 [] [] && eqFL 63 [.ptr (b + (k - 4)) 0] [.ptr (b + (k - 4)) 0]) = true
  simp [eqFL, eqF, beq_eq]
 ·have hpl := qie p
  have hql := qie q
  have main : ∀ (f' : FuncId), (∀ j p q H, C (j + 1) (.f f') [.bool p, .bool q] H = .ok (.bool (fB k p q)) H) → H.get (b + (k - 4)) = qac 0 [.fn f' [] []] → b + (k - 4) < H.nx → Ok (qom (C j) (gsO b k) [u, v] H') fun w H'' => RO H'' w (fun x => fB k (p x) (q x)) ∧ Fm No H' H'' := by
   intro f' hF hg hl
   unfold gsO
   rw [qn8]
   have hm := q69 (fB k) (fB0 k) p q
   refine (za4 hC (k := j) (by omega) hF ((f.keep hl).trans hg) (Nat.lt_of_lt_of_le hl f.nx) hu.1 hv.1 (by omega) (by omega) (fun x hx => by rw [hm] at hx; exact (qia.1 hx).1)).mono ?_
   rintro w H2 ⟨h1, h2, h3, _⟩
   rw [hm] at h1 h3
   exact ⟨⟨h1, h3⟩, h2⟩
  have : k = 4 ∨ k = 5 ∨ k = 6 := by omega
  rcases this with rfl | rfl | rfl
  ·exact main _ (S1_ok hC) h4 (by omega)
  ·exact main _ (S2_ok hC) h5 (by omega)
  ·exact main _ (S3_ok hC) h6 (by omega)
theorem q21 (hC : qbi C) {k : Nat} (hk : 1 ≤ k) {H : Hp} {v : AV} {l : List Nat} (hv : Gl 2 H v l.length (l.flatMap obC)) (hl : l.length ≤ 100) :
  Ok (C k (.f qbe) [v] H) fun w H' => Gl 2 H' w l.length (l.flatMap obC) ∧ Fm No H H' := by
 obtain ⟨j, rfl⟩ : ∃ j, k = j + 1 := ⟨k - 1, by omega⟩
 rw [(hC j).slices_Clone_api_Object_api_Object]
 unfold slices_Clone_api_Object_api_Object qb8
 rcases hv.is with ⟨rfl, h0⟩ | ⟨b, o, e, q, L, hvv, h1, h2, h3, h4, h5⟩
 ·have e1 : qjn false (eqSl .nilsl .nilsl) = .val (.bool true) := rfl
  simp (disch := first | omega | exact tr_i rfl | (simp only [qaa, qab]; done) | (simp only [qaa, qab]; omega)) only [go_sem, Nat.reduceAdd, Nat.reduceMul, Nat.reduceSub, Nat.reduceLeDiff, Nat.reduceEqDiff, Nat.reduceShiftRight, Nat.reduceAnd, e1]
  exact Ok.ret ⟨hv, Fm.refl _ _⟩
 ·have e1 : qjn false (eqSl v .nilsl) = .val (.bool false) := by rw [hvv]; rfl
  simp (disch := first | omega | exact tr_i rfl | (simp only [qaa, qab]; done) | (simp only [qaa, qab]; omega)) only [go_sem, Nat.reduceAdd, Nat.reduceMul, Nat.reduceSub, Nat.reduceLeDiff, Nat.reduceEqDiff, Nat.reduceShiftRight, Nat.reduceAnd, e1]
  unfold qb3
  have fx : Fm No H (qaq H (qac 0 [])) := by (repeat (first | exact Fm.refl _ _ | assumption | refine Fm.push ?_ _ | refine Fm.up2 ?_ (by (first | omega | (simp only [qaa, qab]; omega))) | refine Fm.put_new ?_ _ _ (by (first | omega | (simp only [qaa, qab]; omega)))))
  have hs := (hv.no fx).src
  have hr0 : reps [AV.str 0 0, AV.str 0 0] 0 = [] := rfl
  simp (disch := first | omega | exact tr_i rfl | (simp only [qaa, qab]; done) | (simp only [qaa, qab]; omega)) only [go_sem, Nat.reduceAdd, Nat.reduceMul, Nat.reduceSub, Nat.reduceLeDiff, Nat.reduceEqDiff, Nat.reduceShiftRight, Nat.reduceAnd, hr0, hs]
  by_cases hl0 : l.length = 0
  ·have : l = [] := List.length_eq_zero_iff.1 hl0
   subst this
   have e3 : qbb 2 32 (qaq H (qac 0 [])) (.sl H.nx 0 0 0 true) (some ⟨0, []⟩) = storeAt (qaq H (qac 0 [])) H.nx 0 [] (.sl H.nx 0 0 0 true) := rfl
   have e4 := qp1 (qaq H (qac 0 [])) H.nx 0 [] (.sl H.nx 0 0 0 true) 0 [] (qby _ _) (by simp)
   simp only [List.length_nil, List.flatMap_nil]
   rw [e3, e4]
   simp (disch := first | omega | exact tr_i rfl | (simp only [qaa, qab]; done) | (simp only [qaa, qab]; omega)) only [go_sem, Nat.reduceAdd, Nat.reduceMul, Nat.reduceSub, Nat.reduceLeDiff, Nat.reduceEqDiff, Nat.reduceShiftRight, Nat.reduceAnd]
   exact Ok.ret ⟨⟨rfl, .inr ⟨H.nx, 0, true, 0, _, rfl, qar _ _ _, by simp, by simp [setL], .inl rfl, by (first | omega | (simp only [qaa, qab]; omega))⟩⟩, by (repeat (first | exact Fm.refl _ _ | assumption | refine Fm.push ?_ _ | refine Fm.up2 ?_ (by (first | omega | (simp only [qaa, qab]; omega))) | refine Fm.put_new ?_ _ _ (by (first | omega | (simp only [qaa, qab]; omega)))))⟩
  ·have g0 : Gl 2 (qaq H (qac 0 [])) (.sl H.nx 0 0 0 true) 0 [] := ⟨rfl, .inr ⟨H.nx, 0, true, 0, [], rfl, qby _ _, Nat.le_refl _, rfl, .inl rfl, by (first | omega | (simp only [qaa, qab]; omega))⟩⟩
   obtain ⟨H2, e3, g3, _, f3, n3⟩ := g0.append (k := l.length) (w := 32) (x := l.flatMap obC) (by omega) hv.len (by omega) (by omega)
   refine Ok.veE e3 ?_
   rw [Nat.zero_add, List.nil_append] at g3
   rw [Nat.zero_add]
   exact Ok.ret ⟨g3, fx.then f3 fun c hc hi => by
    obtain ⟨_, _, _, _, hi⟩ := hi
    injection hi with hi
    omega⟩
theorem q5f (hC : qbi C) {k : Nat} (hk : 1 ≤ k) {n : Nat} {H : Hp} {v : AV} {l : List AV} (h : Gl 2 H v n l) :
  ∃ w, C k (.f qbh) [v] H = .ok w H ∧ Gl 2 H w n l ∧ capV w = .val (.int .i64 (.ofNat n)) ∧ (∀ b, In w b → In v b) := by
 obtain ⟨j, rfl⟩ : ∃ j, k = j + 1 := ⟨k - 1, by omega⟩
 obtain ⟨w, e, h1, h2, h3⟩ := h.clip
 refine ⟨w, ?_, h1, h2, h3⟩
 rw [(hC j).slices_Clip_api_Object_api_Object]
 unfold slices_Clip_api_Object_api_Object qcg
 simp (disch := first | omega | exact tr_i rfl | (simp only [qaa, qab]; done) | (simp only [qaa, qab]; omega)) only [go_sem, Nat.reduceAdd, Nat.reduceMul, Nat.reduceSub, Nat.reduceLeDiff, Nat.reduceEqDiff, Nat.reduceShiftRight, Nat.reduceAnd, h.lenV, e]
structure Fl1 (f F : Fo) : Prop where
 ok : f.Ok1
 is : F = f.flat
theorem Fl1.ok1 {f F : Fo} (h : Fl1 f F) : F.Ok1 := by
 obtain rfl := h.is
 exact ⟨by rw [Fo.flat_len]; exact h.ok.one, Fo.flat_rt Nm f h.ok.rt, Nat.le_trans (Fo.flat_depth f) h.ok.dp, Nat.le_trans (Fo.flat_size f) h.ok.sz⟩
theorem Fl1.fl {f F : Fo} (h : Fl1 f F) : F.isFl := by rw [h.is]; exact Fo.flat_fl f
theorem Fl1.lv {f F : Fo} (h : Fl1 f F) : F.lv = f.lv := by rw [h.is]; exact Fo.flat_lv Nm f h.ok.rt
theorem Fl1.ev {f F : Fo} (h : Fl1 f F) (t : Nat → Bool) : evB t F = evB t f := by unfold evB; rw [h.is, Fo.flat_vals Nm t f 0 h.ok.rt]
theorem TbR.len {H : Hp} {v : AV} {es : List TE} {f : Fo} (h : TbR H v es f) (hs : f.size ≤ 32) : es.length ≤ 32 := by
 have := congrArg List.length h.is
 rw [List.length_map, Fo.nds_len] at this
 omega
theorem q8l (hC : qbi C) (hN : qhj C) {k : Nat} (hk : 22 ≤ k) {H : Hp} {v vv : AV} {es : List TE} {f F : Fo} {ps : List (Nat → Bool)} (ht : TbR H v es F) (hF : Fl1 f F) (hv : Vals H vv ps) (hn : ps.length = f.lv) (hn2 : ps.length ≤ 100) :
  Ok (C k (.f qd7) [v, vv] H) fun w H' => ∃ u, w = .tup [u, .int .i64 (.ofNat 0)] ∧ Ob H' u (dom fun x => evB (fun k => (ps.getD k fun _ => false) x) f) ∧ capV u = .val (.int .i64 (.ofNat (dom fun x => evB (fun k => (ps.getD k fun _ => false) x) f).length)) ∧ Fm No H H' := by
 obtain ⟨j, rfl⟩ : ∃ j, k = j + 1 := ⟨k - 1, by omega⟩
 rw [(hC j).tables_Sets]
 unfold tables_Sets qht
 have hok := hF.ok1
 have hes := ht.len hok.sz
 refine Ok.ve (qpv hC hN (k := j) (by omega) ht hok hF.fl) ?_
 rintro _ H1 ⟨rfl, f1⟩
 simp (disch := first | omega | exact tr_i rfl | (simp only [qaa, qab]; done) | (simp only [qaa, qab]; omega)) only [go_sem, Nat.reduceAdd, Nat.reduceMul, Nat.reduceSub, Nat.reduceLeDiff, Nat.reduceEqDiff, Nat.reduceShiftRight, Nat.reduceAnd]
 unfold qfz
 have l1 := (hv.fm f1).len
 simp (disch := first | omega | exact tr_i rfl | (simp only [qaa, qab]; done) | (simp only [qaa, qab]; omega)) only [go_sem, Nat.reduceAdd, Nat.reduceMul, Nat.reduceSub, Nat.reduceLeDiff, Nat.reduceEqDiff, Nat.reduceShiftRight, Nat.reduceAnd, l1]
 refine Ok.ve (qn0 hC (k := j) (by omega) (ht.fm f1) hok.rt hes) ?_
 rintro _ H2 ⟨rfl, f2⟩
 rw [hF.lv, ← hn]
 simp (disch := first | omega | exact tr_i rfl | (simp only [qaa, qab]; done) | (simp only [qaa, qab]; omega)) only [go_sem, Nat.reduceAdd, Nat.reduceMul, Nat.reduceSub, Nat.reduceLeDiff, Nat.reduceEqDiff, Nat.reduceShiftRight, Nat.reduceAnd]
 unfold qhq qig
 have f12 := f1.trans f2
 have l2 := (hv.fm f12).len
 simp (disch := first | omega | exact tr_i rfl | (simp only [qaa, qab]; done) | (simp only [qaa, qab]; omega)) only [go_sem, Nat.reduceAdd, Nat.reduceMul, Nat.reduceSub, Nat.reduceLeDiff, Nat.reduceEqDiff, Nat.reduceShiftRight, Nat.reduceAnd, l2]
 rw [qbc]
 refine qto hC (j := j) (by omega) (Nat.le_refl _) hn2 (fun i h => (hv.fm f12).at' i h) (fun k3 H3 hk3 f3 => ?_) qaz 0 H2 (Nat.zero_le _) (by rw [qas]; omega) (Fm.refl _ _)
 obtain ⟨k3, rfl⟩ : ∃ m, k3 = m + 1 := ⟨k3 - 1, by omega⟩
 show Ok (qew (C j) _ _ _ _ (qbn (C j) _ _ _ _ k3) _ H3) _
 unfold qew
 have hlt : ¬ ps.length < ps.length := Nat.lt_irrefl _
 simp (disch := first | omega | exact tr_i rfl | (simp only [qaa, qab]; done) | (simp only [qaa, qab]; omega)) only [go_sem, Nat.reduceAdd, Nat.reduceMul, Nat.reduceSub, Nat.reduceLeDiff, Nat.reduceEqDiff, Nat.reduceShiftRight, Nat.reduceAnd, hlt]
 unfold qb7
 have f13 := f12.trans f3
 have c1 := qsc hC (k := j) (by omega) qcu
 have c2 := qsc hC (k := j) (by omega) qct
 have c3 := qsc hC (k := j) (by omega) qdt
 refine Ok.veE (c1 H3) ?_
 refine Ok.veE (c2 _) ?_
 refine Ok.veE (c3 _) ?_
 obtain ⟨H4, hH4⟩ : ∃ H4, H4 = qaq (qaq (qaq H3 (qac 0 [.fn qcu [] []])) (qac 0 [.fn qct [] []])) (qac 0 [.fn qdt [] []]) := ⟨_, rfl⟩
 rw [← hH4]
 have f4 : Fm No H3 H4 := by rw [hH4]; (repeat (first | exact Fm.refl _ _ | assumption | refine Fm.push ?_ _ | refine Fm.up2 ?_ (by (first | omega | (simp only [qaa, qab]; omega))) | refine Fm.put_new ?_ _ _ (by (first | omega | (simp only [qaa, qab]; omega)))))
 have o4 : OpR RO C H4 (gsO H3.nx) := opO hC (by rw [hH4]; simp (disch := first | omega | exact tr_i rfl | (simp only [qaa, qab]; done) | (simp only [qaa, qab]; omega)) only [go_sem, Nat.reduceAdd, Nat.reduceMul, Nat.reduceSub, Nat.reduceLeDiff, Nat.reduceEqDiff, Nat.reduceShiftRight, Nat.reduceAnd]) (by rw [hH4]; simp (disch := first | omega | exact tr_i rfl | (simp only [qaa, qab]; done) | (simp only [qaa, qab]; omega)) only [go_sem, Nat.reduceAdd, Nat.reduceMul, Nat.reduceSub, Nat.reduceLeDiff, Nat.reduceEqDiff, Nat.reduceShiftRight, Nat.reduceAnd]) (by rw [hH4]; simp (disch := first | omega | exact tr_i rfl | (simp only [qaa, qab]; done) | (simp only [qaa, qab]; omega)) only [go_sem, Nat.reduceAdd, Nat.reduceMul, Nat.reduceSub, Nat.reduceLeDiff, Nat.reduceEqDiff, Nat.reduceShiftRight, Nat.reduceAnd]) (by rw [hH4]; simp only [qaa]; omega)
 have ht4 := ht.fm (f13.trans f4)
 have hv4 := hv.fm (f13.trans f4)
 obtain ⟨kd, rl, to, a, hFe⟩ : ∃ kd rl to a, F = .cons kd rl to a .nil := by
  have := hok.one
  cases F with
  | nil => cases this
  | cons k rl to a r =>
   cases r with
   | nil => exact ⟨_, _, _, _, rfl⟩
   | cons _ _ _ _ _ => simp [Fo.len] at this
 have hd := hok.dp
 rw [hFe] at hd
 simp only [Fo.depth] at hd
 have call := qxq hC vlRO (q7l hC vlRO a).1 j (by omega) F v vv es H4 H4 0 0 ps.length rl to [] [] (fun i => ps.getD i fun _ => false) (gsO H3.nx) ht4 hes (kd := kd) (by rw [hFe]; simp) rfl (by rw [← hFe]; exact hok.rt) o4 (Fm.refl _ _) (fun i hi => by
  obtain ⟨b, o, w, e1, e2, e3, e4, e5⟩ := hv4.at' i hi
  have gd : ps.getD i (fun _ => false) = ps[i] := by rw [List.getD_eq_getElem?_getD, List.getElem?_eq_getElem hi]; rfl
  rw [gd]
  exact ⟨b, o, w, e1, e2, e3, e4, e5⟩) (by rw [← hFe, hF.lv, hn]; omega)
 unfold gsO at call
 have hnx : (qaq (qaq H3 (qac 0 [.fn qcu [] []])) (qac 0 [.fn qct [] []])).nx = H3.nx + 2 := rfl
 simp (disch := first | omega | exact tr_i rfl | (simp only [qaa, qab]; done) | (simp only [qaa, qab]; omega)) only [go_sem, Nat.reduceAdd, Nat.reduceMul, Nat.reduceSub, Nat.reduceLeDiff, Nat.reduceEqDiff, Nat.reduceShiftRight, Nat.reduceAnd]
 refine Ok.ve call ?_
 rintro w H5 ⟨⟨r1, r2⟩, f5⟩
 have hev : dom (tvl (fun i => ps.getD i fun _ => false) kd a 0) = dom fun x => evB (fun k => (ps.getD k fun _ => false) x) f := qit fun x _ => by
  rw [← hF.ev, hFe]; rfl
 rw [hev] at r1 r2
 refine Ok.ve (q21 hC (k := j) (by omega) r2 (Nat.le_trans (qie _) (by omega))) ?_
 rintro w2 H6 ⟨g6, f6⟩
 obtain ⟨w3, e7, g7, c7, _⟩ := q5f hC (k := j) (by omega) g6
 refine Ok.veE e7 ?_
 exact Ok.ret ⟨w3, rfl, ⟨g7.lenV, fun _ => g7, r1.lt⟩, c7, (((f13.trans f4).trans f5).trans f6)⟩
end Go.Di
end
noncomputable section
namespace Go.Di
open Go.Ev
variable {C : Nat → Ev.Call}
theorem q5b (hC : qbi C) (hN : qhj C) {k : Nat} (hk : 22 ≤ k) {H : Hp} {v vv : AV} {es : List TE} {f F : Fo} {m : Nat} (ht : TbR H v es F) (hF : Fl1 f F) (hl : lenSl vv = .val (.int .i64 (.ofNat m))) (hm : m ≠ f.lv) :
  Ok (C k (.f qd7) [v, vv] H) fun w H' => w = .tup [.nilsl, .int .i64 (.ofNat 4)] ∧ Fm No H H' := by
 obtain ⟨j, rfl⟩ : ∃ j, k = j + 1 := ⟨k - 1, by omega⟩
 rw [(hC j).tables_Sets]
 unfold tables_Sets qht
 have hok := hF.ok1
 have hes := ht.len hok.sz
 refine Ok.ve (qpv hC hN (k := j) (by omega) ht hok hF.fl) ?_
 rintro _ H1 ⟨rfl, f1⟩
 simp (disch := first | omega | exact tr_i rfl | (simp only [qaa, qab]; done) | (simp only [qaa, qab]; omega)) only [go_sem, Nat.reduceAdd, Nat.reduceMul, Nat.reduceSub, Nat.reduceLeDiff, Nat.reduceEqDiff, Nat.reduceShiftRight, Nat.reduceAnd]
 unfold qfz
 simp (disch := first | omega | exact tr_i rfl | (simp only [qaa, qab]; done) | (simp only [qaa, qab]; omega)) only [go_sem, Nat.reduceAdd, Nat.reduceMul, Nat.reduceSub, Nat.reduceLeDiff, Nat.reduceEqDiff, Nat.reduceShiftRight, Nat.reduceAnd, hl]
 refine Ok.ve (qn0 hC (k := j) (by omega) (ht.fm f1) hok.rt hes) ?_
 rintro _ H2 ⟨rfl, f2⟩
 rw [hF.lv]
 simp (disch := first | omega | exact tr_i rfl | (simp only [qaa, qab]; done) | (simp only [qaa, qab]; omega)) only [go_sem, Nat.reduceAdd, Nat.reduceMul, Nat.reduceSub, Nat.reduceLeDiff, Nat.reduceEqDiff, Nat.reduceShiftRight, Nat.reduceAnd, hm]
 exact Ok.ret ⟨rfl, f1.trans f2⟩
theorem q5e (hC : qbi C) (hN : qhj C) {k : Nat} (hk : 22 ≤ k) {H : Hp} {v vv : AV} {es : List TE} {f F : Fo} {m : Nat} (ht : TbR H v es F) (hF : Fl1 f F) (hl : lenSl vv = .val (.int .i64 (.ofNat m))) (hm : m ≠ f.lv) :
  Ok (C k (.f qft) [v, vv] H) fun w H' => w = .tup [.bool false, .int .i64 (.ofNat 4)] ∧ Fm No H H' := by
 obtain ⟨j, rfl⟩ : ∃ j, k = j + 1 := ⟨k - 1, by omega⟩
 rw [(hC j).tables_Eval]
 unfold tables_Eval qjp
 have hok := hF.ok1
 have hes := ht.len hok.sz
 refine Ok.ve (qpv hC hN (k := j) (by omega) ht hok hF.fl) ?_
 rintro _ H1 ⟨rfl, f1⟩
 simp (disch := first | omega | exact tr_i rfl | (simp only [qaa, qab]; done) | (simp only [qaa, qab]; omega)) only [go_sem, Nat.reduceAdd, Nat.reduceMul, Nat.reduceSub, Nat.reduceLeDiff, Nat.reduceEqDiff, Nat.reduceShiftRight, Nat.reduceAnd]
 unfold qih
 simp (disch := first | omega | exact tr_i rfl | (simp only [qaa, qab]; done) | (simp only [qaa, qab]; omega)) only [go_sem, Nat.reduceAdd, Nat.reduceMul, Nat.reduceSub, Nat.reduceLeDiff, Nat.reduceEqDiff, Nat.reduceShiftRight, Nat.reduceAnd, hl]
 refine Ok.ve (qn0 hC (k := j) (by omega) (ht.fm f1) hok.rt hes) ?_
 rintro _ H2 ⟨rfl, f2⟩
 rw [hF.lv]
 simp (disch := first | omega | exact tr_i rfl | (simp only [qaa, qab]; done) | (simp only [qaa, qab]; omega)) only [go_sem, Nat.reduceAdd, Nat.reduceMul, Nat.reduceSub, Nat.reduceLeDiff, Nat.reduceEqDiff, Nat.reduceShiftRight, Nat.reduceAnd, hm]
 exact Ok.ret ⟨rfl, f1.trans f2⟩
def RB (_ : Hp) (v : AV) (p : Nat → Bool) : Prop := v = .bool (p 0)
theorem vlRB : VlR RB := ⟨fun h _ => h, fun h e => h.trans (by rw [e])⟩
def gsB (k : Nat) : AV := if k = 4 then .fn qdw [] [] else if k = 5 then .fn qdv [] [] else .fn qdu [] []
theorem opB (hC : qbi C) (H : Hp) : OpR RB C H gsB := by
 refine ⟨fun k _ _ => ?_, fun k k4 k6 j hj H' u v p q f hu hv => ?_⟩
 ·unfold gsB
  split
  ·exact ⟨_, _, rfl, by simp [eqF, eqFL, beq_eq]⟩
  ·split
   ·exact ⟨_, _, rfl, by simp [eqF, eqFL, beq_eq]⟩
   ·exact ⟨_, _, rfl, by simp [eqF, eqFL, beq_eq]⟩
 ·obtain ⟨j, rfl⟩ : ∃ m, j = m + 1 := ⟨j - 1, by omega⟩
  unfold RB at hu hv ⊢
  subst hu
  subst hv
  have : k = 4 ∨ k = 5 ∨ k = 6 := by omega
  rcases this with rfl | rfl | rfl
  ·show Ok (qom _ (.fn qdw [] []) _ _) _
   rw [qn8]
   show Ok (C (j + 1) (.f qdw) [.bool (p 0), .bool (q 0)] H') _
   rw [(hC j).tables_Eval_1]
   unfold tables_Eval_1 qkc
   cases hp : p 0 <;> cases hq : q 0 <;> (simp (disch := first | omega | exact tr_i rfl | (simp only [qaa, qab]; done) | (simp only [qaa, qab]; omega)) only [go_sem, Nat.reduceAdd, Nat.reduceMul, Nat.reduceSub, Nat.reduceLeDiff, Nat.reduceEqDiff, Nat.reduceShiftRight, Nat.reduceAnd]; exact Ok.ret ⟨by rw [hp, hq]; rfl, Fm.refl _ _⟩)
  ·show Ok (qom _ (.fn qdv [] []) _ _) _
   rw [qn8]
   show Ok (C (j + 1) (.f qdv) [.bool (p 0), .bool (q 0)] H') _
   rw [(hC j).tables_Eval_2]
   unfold tables_Eval_2 qkb
   cases hp : p 0 <;> cases hq : q 0 <;> (simp (disch := first | omega | exact tr_i rfl | (simp only [qaa, qab]; done) | (simp only [qaa, qab]; omega)) only [go_sem, Nat.reduceAdd, Nat.reduceMul, Nat.reduceSub, Nat.reduceLeDiff, Nat.reduceEqDiff, Nat.reduceShiftRight, Nat.reduceAnd]; exact Ok.ret ⟨by rw [hp, hq]; rfl, Fm.refl _ _⟩)
  ·show Ok (qom _ (.fn qdu [] []) _ _) _
   rw [qn8]
   show Ok (C (j + 1) (.f qdu) [.bool (p 0), .bool (q 0)] H') _
   rw [(hC j).tables_Eval_3]
   unfold tables_Eval_3 qka
   cases hp : p 0 <;> cases hq : q 0 <;> (simp (disch := first | omega | exact tr_i rfl | (simp only [qaa, qab]; done) | (simp only [qaa, qab]; omega)) only [go_sem, Nat.reduceAdd, Nat.reduceMul, Nat.reduceSub, Nat.reduceLeDiff, Nat.reduceEqDiff, Nat.reduceShiftRight, Nat.reduceAnd]; exact Ok.ret ⟨by rw [hp, hq]; rfl, Fm.refl _ _⟩)
theorem q49 (hC : qbi C) (hN : qhj C) {k : Nat} (hk : 22 ≤ k) {H : Hp} {v vv : AV} {es : List TE} {f F : Fo} {t : Nat → Bool} {n : Nat} (ht : TbR H v es F) (hF : Fl1 f F) (hv : Bl H vv n t) (hn : n = f.lv) :
  Ok (C k (.f qft) [v, vv] H) fun w H' => w = .tup [.bool (evB t f), .int .i64 (.ofNat 0)] ∧ Fm No H H' := by
 obtain ⟨j, rfl⟩ : ∃ j, k = j + 1 := ⟨k - 1, by omega⟩
 rw [(hC j).tables_Eval]
 unfold tables_Eval qjp
 have hok := hF.ok1
 have hes := ht.len hok.sz
 refine Ok.ve (qpv hC hN (k := j) (by omega) ht hok hF.fl) ?_
 rintro _ H1 ⟨rfl, f1⟩
 simp (disch := first | omega | exact tr_i rfl | (simp only [qaa, qab]; done) | (simp only [qaa, qab]; omega)) only [go_sem, Nat.reduceAdd, Nat.reduceMul, Nat.reduceSub, Nat.reduceLeDiff, Nat.reduceEqDiff, Nat.reduceShiftRight, Nat.reduceAnd]
 unfold qih
 have hl := hv.len
 simp (disch := first | omega | exact tr_i rfl | (simp only [qaa, qab]; done) | (simp only [qaa, qab]; omega)) only [go_sem, Nat.reduceAdd, Nat.reduceMul, Nat.reduceSub, Nat.reduceLeDiff, Nat.reduceEqDiff, Nat.reduceShiftRight, Nat.reduceAnd, hl]
 refine Ok.ve (qn0 hC (k := j) (by omega) (ht.fm f1) hok.rt hes) ?_
 rintro _ H2 ⟨rfl, f2⟩
 rw [hF.lv, ← hn]
 simp (disch := first | omega | exact tr_i rfl | (simp only [qaa, qab]; done) | (simp only [qaa, qab]; omega)) only [go_sem, Nat.reduceAdd, Nat.reduceMul, Nat.reduceSub, Nat.reduceLeDiff, Nat.reduceEqDiff, Nat.reduceShiftRight, Nat.reduceAnd]
 unfold qlh
 have f12 := f1.trans f2
 obtain ⟨kd, rl, to, a, hFe⟩ : ∃ kd rl to a, F = .cons kd rl to a .nil := by
  have := hok.one
  cases F with
  | nil => cases this
  | cons k rl to a r =>
   cases r with
   | nil => exact ⟨_, _, _, _, rfl⟩
   | cons _ _ _ _ _ => simp [Fo.len] at this
 have hd := hok.dp
 rw [hFe] at hd
 simp only [Fo.depth] at hd
 have call := qxv hC vlRB (q7n hC vlRB a).1 j (by omega) F v vv es H2 H2 0 0 n rl to [] [] (fun i _ => t i) gsB (ht.fm f12) hes (kd := kd) (by rw [hFe]; simp) rfl (by rw [← hFe]; exact hok.rt) (opB hC H2) (Fm.refl _ _) (fun i hi => by
  obtain ⟨b, o, e1, e2, e3⟩ := (hv.fm f12).at' i hi
  exact ⟨b, o, _, e1, e2, e3, rfl⟩) (by rw [← hFe, hF.lv, hn]; omega)
 have g4 : gsB 4 = .fn qdw [] [] := rfl
 have g5 : gsB 5 = .fn qdv [] [] := rfl
 have g6 : gsB 6 = .fn qdu [] [] := rfl
 rw [g4, g5, g6] at call
 simp (disch := first | omega | exact tr_i rfl | (simp only [qaa, qab]; done) | (simp only [qaa, qab]; omega)) only [go_sem, Nat.reduceAdd, Nat.reduceMul, Nat.reduceSub, Nat.reduceLeDiff, Nat.reduceEqDiff, Nat.reduceShiftRight, Nat.reduceAnd]
 refine Ok.ve call ?_
 rintro w H5 ⟨r1, f5⟩
 unfold RB at r1
 subst r1
 refine Ok.ret ⟨?_, f12.trans f5⟩
 rw [← hF.ev, hFe]; rfl
theorem q8p (hC : qbi C) {k : Nat} (hk : 2 ≤ k) (H : Hp) : C k (.f qci) [.str 0 0, .str 1 120] H = .ok (.int .i64 (.negSucc 0)) H := by
 obtain ⟨j, rfl⟩ : ∃ j, k = j + 1 + 1 := ⟨k - 2, by omega⟩
 rw [(hC (j + 1)).cmp_Compare_string]
 unfold cmp_Compare_string qe3
 have h1 : ∀ n x H, C (j + 1) (.f qbx) [.str n x] H = .ok (.bool false) H := fun n x H => by
  rw [(hC j).cmp_isNaN_string]
  unfold cmp_isNaN_string qfy
  simp (disch := first | omega | exact tr_i rfl | (simp only [qaa, qab]; done) | (simp only [qaa, qab]; omega)) only [go_sem, Nat.reduceAdd, Nat.reduceMul, Nat.reduceSub, Nat.reduceLeDiff, Nat.reduceEqDiff, Nat.reduceShiftRight, Nat.reduceAnd]
  simp
 rw [h1]
 show ve (C (j + 1) (.f qbx) [.str 1 120] H) _ = _
 rw [h1]
 simp (disch := first | omega | exact tr_i rfl | (simp only [qaa, qab]; done) | (simp only [qaa, qab]; omega)) only [go_sem, Nat.reduceAdd, Nat.reduceMul, Nat.reduceSub, Nat.reduceLeDiff, Nat.reduceEqDiff, Nat.reduceShiftRight, Nat.reduceAnd]
 unfold qes qet qeu qev
 have e1 : strV (qh3 .lss).f (.str 0 0) (.str 1 120) = .val (.bool true) := rfl
 simp (disch := first | omega | exact tr_i rfl | (simp only [qaa, qab]; done) | (simp only [qaa, qab]; omega)) only [go_sem, Nat.reduceAdd, Nat.reduceMul, Nat.reduceSub, Nat.reduceLeDiff, Nat.reduceEqDiff, Nat.reduceShiftRight, Nat.reduceAnd, e1]
theorem q78 (hC : qbi C) {k : Nat} (hk : 3 ≤ k) (H : Hp) : Ok (C k (.f qd9) [.agg [.str 1 98, .str 0 0], .agg [.str 1 97, .str 1 120]] H) fun v H' => v = .int .i64 (.ofNat 1) ∧ Fm No H H' := by
 obtain ⟨j, rfl⟩ : ∃ j, k = j + 1 := ⟨k - 1, by omega⟩
 rw [(hC j).tables_compare]
 unfold tables_compare qg9
 have c1 := fun H => qwo hC (k := j) (by omega) (a := 1) (b := 0) (by omega) (by omega) H
 have c2 := fun H => q8p hC (k := j) (by omega) H
 have e1 : cN 1 0 = .ofNat 1 := rfl
 simp only [e1, Nat.add_zero, Nat.reduceAdd] at c1
 simp (disch := first | omega | exact tr_i rfl | (simp only [qaa, qab]; done) | (simp only [qaa, qab]; omega)) only [go_sem, Nat.reduceAdd, Nat.reduceMul, Nat.reduceSub, Nat.reduceLeDiff, Nat.reduceEqDiff, Nat.reduceShiftRight, Nat.reduceAnd, c1, c2]
 refine Ok.deE (zbg hC (show 1 ≤ j by omega) (l := [.ofNat 1, .negSucc 0]) rfl (qar _ _ _) (by simp)) ?_
 have e2 : orI [.ofNat 1, .negSucc 0] = .ofNat 1 := rfl
 rw [e2]
 simp (disch := first | omega | exact tr_i rfl | (simp only [qaa, qab]; done) | (simp only [qaa, qab]; omega)) only [go_sem, Nat.reduceAdd, Nat.reduceMul, Nat.reduceSub, Nat.reduceLeDiff, Nat.reduceEqDiff, Nat.reduceShiftRight, Nat.reduceAnd]
 exact Ok.ret ⟨rfl, by (repeat (first | exact Fm.refl _ _ | assumption | refine Fm.push ?_ _ | refine Fm.up2 ?_ (by (first | omega | (simp only [qaa, qab]; omega))) | refine Fm.put_new ?_ _ _ (by (first | omega | (simp only [qaa, qab]; omega)))))⟩
theorem q5a (hC : qbi C) (hN : qhj C) {k : Nat} (hk : 22 ≤ k) {H : Hp} {v vv : AV} {es : List TE} {f F : Fo} {ps : List (Nat → Bool)} (ht : TbR H v es F) (hF : Fl1 f F) (hl : lenSl vv = .val (.int .i64 (.ofNat (ps.length + 1)))) (hn : ps.length + 1 = f.lv) (hn2 : ps.length + 1 ≤ 100)
  (hv : ∀ i (h : i < ps.length), ∃ b o w, idxS 1 vv (.int .i64 (.ofNat i)) = .val (.ptr b o) ∧ b < H.nx ∧ qbt (H.get b) o = .val w ∧ Ob H w (dom ps[i]) ∧ Gl 2 H w (dom ps[i]).length ((dom ps[i]).flatMap obC)) {b o ub : Nat}
  (hlast : idxS 1 vv (.int .i64 (.ofNat ps.length)) = .val (.ptr b o)) (hb : b < H.nx) (hr : qbt (H.get b) o = .val (.sl ub 0 2 2 true)) (hub : H.get ub = qac 0 [.str 1 98, .str 0 0, .str 1 97, .str 1 120]) (hul : ub < H.nx) :
  Ok (C k (.f qd7) [v, vv] H) fun w H' => w = .tup [.nilsl, .int .i64 (.ofNat 18)] ∧ Fm No H H' := by
 obtain ⟨j, rfl⟩ : ∃ j, k = j + 1 := ⟨k - 1, by omega⟩
 rw [(hC j).tables_Sets]
 unfold tables_Sets qht
 have hok := hF.ok1
 have hes := ht.len hok.sz
 refine Ok.ve (qpv hC hN (k := j) (by omega) ht hok hF.fl) ?_
 rintro _ H1 ⟨rfl, f1⟩
 simp (disch := first | omega | exact tr_i rfl | (simp only [qaa, qab]; done) | (simp only [qaa, qab]; omega)) only [go_sem, Nat.reduceAdd, Nat.reduceMul, Nat.reduceSub, Nat.reduceLeDiff, Nat.reduceEqDiff, Nat.reduceShiftRight, Nat.reduceAnd]
 unfold qfz
 simp (disch := first | omega | exact tr_i rfl | (simp only [qaa, qab]; done) | (simp only [qaa, qab]; omega)) only [go_sem, Nat.reduceAdd, Nat.reduceMul, Nat.reduceSub, Nat.reduceLeDiff, Nat.reduceEqDiff, Nat.reduceShiftRight, Nat.reduceAnd, hl]
 refine Ok.ve (qn0 hC (k := j) (by omega) (ht.fm f1) hok.rt hes) ?_
 rintro _ H2 ⟨rfl, f2⟩
 rw [hF.lv, ← hn]
 simp (disch := first | omega | exact tr_i rfl | (simp only [qaa, qab]; done) | (simp only [qaa, qab]; omega)) only [go_sem, Nat.reduceAdd, Nat.reduceMul, Nat.reduceSub, Nat.reduceLeDiff, Nat.reduceEqDiff, Nat.reduceShiftRight, Nat.reduceAnd]
 unfold qhq qig
 have f12 := f1.trans f2
 simp (disch := first | omega | exact tr_i rfl | (simp only [qaa, qab]; done) | (simp only [qaa, qab]; omega)) only [go_sem, Nat.reduceAdd, Nat.reduceMul, Nat.reduceSub, Nat.reduceLeDiff, Nat.reduceEqDiff, Nat.reduceShiftRight, Nat.reduceAnd, hl]
 rw [qbc]
 refine qto hC (j := j) (by omega) (Nat.le_succ _) hn2 (fun i h => by
  obtain ⟨b, o, w, e1, e2, e3, e4, e5⟩ := hv i h
  exact ⟨b, o, w, e1, Nat.lt_of_lt_of_le e2 f12.nx, by rw [f12.keep e2]; exact e3, e4.fm f12, e5.no f12⟩) (fun k3 H3 hk3 f3 => ?_) qaz 0 H2 (Nat.zero_le _) (by rw [qas]; omega) (Fm.refl _ _)
 obtain ⟨k3, rfl⟩ : ∃ m, k3 = m + 1 := ⟨k3 - 1, by omega⟩
 show Ok (qew (C j) _ _ _ _ (qbn (C j) _ _ _ _ k3) _ H3) _
 unfold qew
 have f13 := f12.trans f3
 have hlt : ps.length < ps.length + 1 := Nat.lt_succ_self _
 have hr3 := hr
 rw [← f13.keep hb] at hr3
 have hu3 := (f13.keep hul).trans hub
 simp (disch := first | omega | exact tr_i rfl | (simp only [qaa, qab]; done) | (simp only [qaa, qab]; omega)) only [go_sem, Nat.reduceAdd, Nat.reduceMul, Nat.reduceSub, Nat.reduceLeDiff, Nat.reduceEqDiff, Nat.reduceShiftRight, Nat.reduceAnd, hlt]
 unfold qhr
 simp (disch := first | omega | exact tr_i rfl | (simp only [qaa, qab]; done) | (simp only [qaa, qab]; omega)) only [go_sem, Nat.reduceAdd, Nat.reduceMul, Nat.reduceSub, Nat.reduceLeDiff, Nat.reduceEqDiff, Nat.reduceShiftRight, Nat.reduceAnd, hlast, hr3]
 unfold qhu
 obtain ⟨m, hm⟩ : ∃ m, qaz = m + 1 := ⟨999999, by rw [qas]⟩
 rw [qbc, hm]
 show Ok (qf0 (C j) _ _ _ (qeb (C j) _ _ _ m) _ H3) _
 unfold qf0
 simp (disch := first | omega | exact tr_i rfl | (simp only [qaa, qab]; done) | (simp only [qaa, qab]; omega)) only [go_sem, Nat.reduceAdd, Nat.reduceMul, Nat.reduceSub, Nat.reduceLeDiff, Nat.reduceEqDiff, Nat.reduceShiftRight, Nat.reduceAnd]
 unfold qhs
 simp (disch := first | omega | exact tr_i rfl | (simp only [qaa, qab]; done) | (simp only [qaa, qab]; omega)) only [go_sem, Nat.reduceAdd, Nat.reduceMul, Nat.reduceSub, Nat.reduceLeDiff, Nat.reduceEqDiff, Nat.reduceShiftRight, Nat.reduceAnd, hu3]
 refine Ok.deO (q78 hC (k := j) (by omega) H3) ?_
 rintro _ H4 ⟨rfl, f4⟩
 simp (disch := first | omega | exact tr_i rfl | (simp only [qaa, qab]; done) | (simp only [qaa, qab]; omega)) only [go_sem, Nat.reduceAdd, Nat.reduceMul, Nat.reduceSub, Nat.reduceLeDiff, Nat.reduceEqDiff, Nat.reduceShiftRight, Nat.reduceAnd]
 exact Ok.ret ⟨rfl, f13.trans f4⟩
end Go.Di
end
noncomputable section
namespace Go.Di
open Go.Ev
variable {C : Nat → Ev.Call}
theorem Fo.lv_pos : ∀ f : Fo, f.Rt Nm → 0 < f.len → 0 < f.lv
 | .nil, _, h => by simp [Fo.len] at h
 | .cons k rl to a r, ⟨h1, h2, h3⟩, _ => by
  rw [Fo.lv]
  by_cases hk : k < 4
  ·rw [if_pos hk]; omega
  ·rw [if_neg hk]
   have : 0 < a.len := by rcases h1 with h | h | h | h | h | h <;> omega
   have := Fo.lv_pos a h2 this
   omega
theorem Fo.lv_size : ∀ f : Fo, f.lv ≤ f.size
 | .nil => Nat.le_refl _
 | .cons k rl to a r => by
  have := Fo.lv_size a; have := Fo.lv_size r
  rw [Fo.lv, Fo.size]
  split <;> omega
structure VI (H0 H : Hp) (w : AV) (ws : List AV) (ps : List (Nat → Bool)) : Prop where
 fm : Fm No H0 H
 ln : ws.length = ps.length
 sh : (w = .nilsl ∧ ws = []) ∨ ∃ b, w = .sl b 0 ws.length ws.length false ∧ H.get b = qac 1 ws ∧ b < H.nx ∧ H0.nx ≤ b
 ok : ∀ i (h : i < ws.length) (h' : i < ps.length), Ob H ws[i] (dom ps[i]) ∧ Gl 2 H ws[i] (dom ps[i]).length ((dom ps[i]).flatMap obC) ∧ ∀ b, In ws[i] b → H0.nx ≤ b ∧ ¬ In w b
theorem VI.gl {H0 H : Hp} {w : AV} {ws : List AV} {ps : List (Nat → Bool)} (h : VI H0 H w ws ps) : Gl 1 H w ws.length ws := by
 rcases h.sh with ⟨rfl, rfl⟩ | ⟨b, rfl, h1, h2, h3⟩
 ·exact Gl.nil 1 H
 ·exact ⟨by rw [Nat.mul_one], .inr ⟨b, 0, false, 1, ws, rfl, h1, Nat.zero_le _, rfl, .inr rfl, h2⟩⟩
theorem VI.nw {H0 H : Hp} {w : AV} {ws : List AV} {ps : List (Nat → Bool)} (h : VI H0 H w ws ps) {b : Nat} (hb : In w b) : H0.nx ≤ b := by
 rcases h.sh with ⟨rfl, _⟩ | ⟨b', rfl, h1, h2, h3⟩
 ·exact absurd hb (notNil b)
 ·obtain ⟨_, _, _, _, hb⟩ := hb
  injection hb with hb
  omega
theorem VI.no {H0 H H' : Hp} {w : AV} {ws : List AV} {ps : List (Nat → Bool)} (h : VI H0 H w ws ps) (f : Fm No H H') : VI H0 H' w ws ps := ⟨h.fm.trans f, h.ln, h.sh.imp id fun ⟨b, h1, h2, h3, h4⟩ => ⟨b, h1, by rw [f.keep h3]; exact h2, Nat.lt_of_lt_of_le h3 f.nx, h4⟩, fun i a b => by
 obtain ⟨h1, h2, h3⟩ := h.ok i a b
 exact ⟨h1.fm f, h2.no f, h3⟩⟩
theorem VI.vals {H0 H : Hp} {w : AV} {ws : List AV} {ps : List (Nat → Bool)} (h : VI H0 H w ws ps) : Vals H w ps := by
 have hg := h.gl
 refine ⟨by rw [← h.ln]; exact hg.lenV, fun i hi => ?_⟩
 have hi' : i < ws.length := by rw [h.ln]; exact hi
 obtain ⟨b, o, e1, e2, _, e3⟩ := hg.at (List.getElem?_eq_getElem hi')
 obtain ⟨h1, h2, _⟩ := h.ok i hi' hi
 exact ⟨b, o, ws[i], e1, e2, e3, h1, h2⟩
theorem qt7 (hC : qbi C) {j : Nat} (hj : 1 ≤ j) {H0 : Hp} {bv : AV} {B : List Nat} (hb : Rl H0 bv (u8s B)) (hB : ∀ x ∈ B, x < 256) {m : Nat} (hm : m ≤ 100) {q : AV → Hp → R1} {Q : AV → Hp → Prop} (hq : ∀ w ws ps H, VI H0 H w ws ps → ws.length = m → Ok (q w H) Q) :
  ∀ (k i : Nat) (w : AV) (ws : List AV) (ps : List (Nat → Bool)) (H : Hp), i ≤ m → m - i < k → VI H0 H w ws ps → ws.length = i → Ok (qbj (C j) q bv (.int .i64 (.ofNat m)) k w (.int .i64 (.ofNat i)) H) Q
 | 0, i, _, _, _, _, _, h, _, _ => by omega
 | k + 1, i, w, ws, ps, H, hi, hk, hV, hw => by
  show Ok (qga (C j) _ _ _ (qbj (C j) _ _ _ k) _ _ H) Q
  unfold qga
  by_cases hlt : i < m
  ·simp (disch := first | omega | exact tr_i rfl | (simp only [qaa, qab]; done) | (simp only [qaa, qab]; omega)) only [go_sem, Nat.reduceAdd, Nat.reduceMul, Nat.reduceSub, Nat.reduceLeDiff, Nat.reduceEqDiff, Nat.reduceShiftRight, Nat.reduceAnd, hlt]
   unfold qf8
   have lb := (hb.fm hV.fm).len
   rw [show (u8s B).length = B.length by simp [u8s]] at lb
   have main : ∀ n, n < 256 → Ok (qdi (C j) (qbj (C j) q bv (.int .i64 (.ofNat m)) k) w (.int .i64 (.ofNat i)) (.int .u8 (.ofNat n)) H) Q := by
    intro n hn
    unfold qdi
    refine Ok.ve (qs9 hC (k := j) hj hn H) ?_
    intro u H1 hu
    have V1 := hV.no hu.fm
    have hc := hu.gl.cells
    simp (disch := first | omega | exact tr_i rfl | (simp only [qaa, qab]; done) | (simp only [qaa, qab]; omega)) only [go_sem, Nat.reduceAdd, Nat.reduceMul, Nat.reduceSub, Nat.reduceLeDiff, Nat.reduceEqDiff, Nat.reduceShiftRight, Nat.reduceAnd, hc]
    have fp : Fm No H1 (qaq H1 (qac 0 [u])) := by (repeat (first | exact Fm.refl _ _ | assumption | refine Fm.push ?_ _ | refine Fm.up2 ?_ (by (first | omega | (simp only [qaa, qab]; omega))) | refine Fm.put_new ?_ _ _ (by (first | omega | (simp only [qaa, qab]; omega)))))
    obtain ⟨H2, e2, g2, q2, f2, n2⟩ := (V1.no fp).gl.append (k := 1) (w := 24) (x := [u]) (by omega) rfl (by omega) (by omega)
    refine Ok.veE e2 ?_
    simp only [qaa] at n2 q2
    unfold qf9
    simp (disch := first | omega | exact tr_i rfl | (simp only [qaa, qab]; done) | (simp only [qaa, qab]; omega)) only [go_sem, Nat.reduceAdd, Nat.reduceMul, Nat.reduceSub, Nat.reduceLeDiff, Nat.reduceEqDiff, Nat.reduceShiftRight, Nat.reduceAnd]
    have n0 := hV.fm.nx
    have n1 := hu.fm.nx
    have hin : ∀ b, In (.sl (qaq H1 (qac 0 [u])).nx 0 (ws.length + 1) (ws.length + 1) false) b → b = H1.nx + 1 := fun b hb => by
     obtain ⟨_, _, _, _, hb⟩ := hb
     injection hb with hb
     rw [← hb]; simp only [qaa]
    refine qt7 hC hj hb hB hm hq k (i + 1) _ (ws ++ [u]) (ps ++ [bt n]) H2 (by omega) (by omega) ⟨(V1.fm.trans fp).then f2 fun c hc hi => by have := hV.nw hi; omega, by simp [hV.ln], .inr ⟨H1.nx + 1, ?_, q2, by omega, by omega⟩, fun i' a b => ?_⟩ (by simp [hw])
    ·simp only [List.length_append, List.length_singleton, qaa]
    ·by_cases hlast : i' < ws.length
     ·have hps : i' < ps.length := by rw [← hV.ln]; exact hlast
      obtain ⟨k1, k2, k3⟩ := V1.ok i' hlast hps
      have ea : (ws ++ [u])[i'] = ws[i'] := List.getElem_append_left hlast
      have eb : (ps ++ [bt n])[i'] = ps[i'] := List.getElem_append_left hps
      rw [ea, eb]
      have kk := (k2.no fp).fm f2 fun b hb => (k3 b hb).2
      refine ⟨⟨k1.len, fun _ => kk, k1.lt⟩, kk, fun b hb => ⟨(k3 b hb).1, fun hi => ?_⟩⟩
      have := hin b hi
      have := k2.lt hb
      omega
     ·have hps : i' = ws.length := by simp at a; omega
      subst hps
      have ea : (ws ++ [u])[ws.length] = u := by simp
      have eb : (ps ++ [bt n])[ws.length]'b = bt n := by simp [hV.ln]
      rw [ea, eb]
      have kk := (hu.gl.no fp).fm f2 fun b hb hi => by
       have h1 := hu.nw b hb
       have h2 := hV.gl.lt hi
       omega
      refine ⟨⟨kk.lenV, fun _ => kk, fun x hx => (qia.1 hx).1⟩, kk, fun b hb => ⟨by have := hu.nw b hb; omega, fun hi => ?_⟩⟩
      have := hin b hi
      have := hu.gl.lt hb
      omega
   by_cases hB0 : B.length = 0
   ·simp (disch := first | omega | exact tr_i rfl | (simp only [qaa, qab]; done) | (simp only [qaa, qab]; omega)) only [go_sem, Nat.reduceAdd, Nat.reduceMul, Nat.reduceSub, Nat.reduceLeDiff, Nat.reduceEqDiff, Nat.reduceShiftRight, Nat.reduceAnd, lb, hB0]
    exact main 0 (by omega)
   ·have hpos := eq_true (show 0 < B.length by omega)
    have hmod : i % B.length < B.length := Nat.mod_lt _ (by omega)
    obtain ⟨b, o, e1, e2, e3⟩ := (hb.fm hV.fm).at' (i % B.length) (by simpa [u8s] using hmod)
    obtain ⟨c, hc, hcv⟩ : ∃ c, c < 256 ∧ (u8s B)[i % B.length]'(by simpa [u8s] using hmod) = .int .u8 (.ofNat c) := ⟨B[i % B.length], hB _ (List.getElem_mem _), by simp [u8s]⟩
    rw [hcv] at e3
    simp (disch := first | omega | exact tr_i rfl | (simp only [qaa, qab]; done) | (simp only [qaa, qab]; omega)) only [go_sem, Nat.reduceAdd, Nat.reduceMul, Nat.reduceSub, Nat.reduceLeDiff, Nat.reduceEqDiff, Nat.reduceShiftRight, Nat.reduceAnd, lb, hpos, e1, e3]
    exact main c hc
  ·simp (disch := first | omega | exact tr_i rfl | (simp only [qaa, qab]; done) | (simp only [qaa, qab]; omega)) only [go_sem, Nat.reduceAdd, Nat.reduceMul, Nat.reduceSub, Nat.reduceLeDiff, Nat.reduceEqDiff, Nat.reduceShiftRight, Nat.reduceAnd, hlt]
   have he : i = m := by omega
   exact hq w ws ps H hV (by omega)
end Go.Di
end
noncomputable section
namespace Go.Di
open Go.Ev
variable {C : Nat → Ev.Call}
theorem qvm (hC : qbi C) {j : Nat} (hj : 1 ≤ j) {Hb : Hp} {vv au : AV} {ps : List (Nat → Bool)} {A : List Nat} (hv : Vals Hb vv ps) (hA : Ob Hb au A) {i bb : Nat} (hi : i < A.length) (hb : Hb.nx ≤ bb) (hn : ps.length ≤ 100) {q : Hp → R1} {Q : AV → Hp → Prop}
  (hq : ∀ H, Fm No Hb H → H.get bb = qac 0 (qqe ps.length ps.length fun k => (ps.getD k fun _ => false) A[i]) → bb < H.nx → Ok (q H) Q) :
  ∀ (k m : Nat) (H : Hp), m ≤ ps.length → ps.length - m < k → Fm No Hb H → bb < H.nx → H.get bb = qac 0 (qqe ps.length m fun k => (ps.getD k fun _ => false) A[i]) →
   Ok (qcq (C j) q (.int .i64 (.ofNat ps.length)) vv au (.int .i64 (.ofNat i)) (.sl bb 0 ps.length ps.length true) k (.int .i64 (.ofNat m)) H) Q
 | 0, m, _, _, h, _, _, _ => by omega
 | k + 1, m, H, hm, hk, hf, hbl, hbb => by
  show Ok (qgw (C j) _ _ _ _ _ _ (qcq (C j) _ _ _ _ _ _ k) _ H) Q
  unfold qgw
  have l1 := hv.len
  by_cases hlt : m < ps.length
  ·simp (disch := first | omega | exact tr_i rfl | (simp only [qaa, qab]; done) | (simp only [qaa, qab]; omega)) only [go_sem, Nat.reduceAdd, Nat.reduceMul, Nat.reduceSub, Nat.reduceLeDiff, Nat.reduceEqDiff, Nat.reduceShiftRight, Nat.reduceAnd, l1, hlt]
   unfold qgt
   obtain ⟨b, o, w, e1, e2, e3, e4, e5⟩ := (hv.fm hf).at' m hlt
   obtain ⟨h8, b', o', g1, g2, g3⟩ := (hA.fm hf).at hi
   have e6 := qhf (Gl.flat e5) 63
   have call := qx4 hC (k := j) hj e4 h8 (Nat.le_trans (qie _) (by omega))
   unfold obC at call
   simp (disch := first | omega | exact tr_i rfl | (simp only [qaa, qab]; done) | (simp only [qaa, qab]; omega)) only [go_sem, Nat.reduceAdd, Nat.reduceMul, Nat.reduceSub, Nat.reduceLeDiff, Nat.reduceEqDiff, Nat.reduceShiftRight, Nat.reduceAnd, e1, e3, g1, g3]
   refine Ok.deE call ?_
   have gd : ps.getD m (fun _ => false) = ps[m] := by rw [List.getD_eq_getElem?_getD, List.getElem?_eq_getElem hlt]; rfl
   have hmem : decide (A[i] ∈ dom ps[m]) = (ps.getD m fun _ => false) A[i] := by
    rw [gd]
    cases hp : ps[m] A[i]
    ·exact decide_eq_false fun h => by rw [(qia.1 h).2] at hp; cases hp
    ·exact decide_eq_true (qia.2 ⟨h8, hp⟩)
   rw [hmem]
   have gb : b < H.nx := e2
   have hset := qvo ps.length m (fun k => (ps.getD k fun _ => false) A[i]) hlt
   have hle := eq_true (show m + 1 ≤ ps.length by omega)
   simp (disch := first | omega | exact tr_i rfl | (simp only [qaa, qab]; done) | (simp only [qaa, qab]; omega)) only [go_sem, Nat.reduceAdd, Nat.reduceMul, Nat.reduceSub, Nat.reduceLeDiff, Nat.reduceEqDiff, Nat.reduceShiftRight, Nat.reduceAnd, e1, e3, g1, g3, hbb, qvp, hle, if_true, hset]
   unfold qgu
   simp (disch := first | omega | exact tr_i rfl | (simp only [qaa, qab]; done) | (simp only [qaa, qab]; omega)) only [go_sem, Nat.reduceAdd, Nat.reduceMul, Nat.reduceSub, Nat.reduceLeDiff, Nat.reduceEqDiff, Nat.reduceShiftRight, Nat.reduceAnd]
   have n0 := hf.nx
   refine qvm hC hj hv hA hi hb hn hq k (m + 1) _ (by omega) (by omega) ((hf.push _).put_new _ _ hb) (by simp only [qab, qaa]; omega) ?_
   exact qar _ _ _
  ·simp (disch := first | omega | exact tr_i rfl | (simp only [qaa, qab]; done) | (simp only [qaa, qab]; omega)) only [go_sem, Nat.reduceAdd, Nat.reduceMul, Nat.reduceSub, Nat.reduceLeDiff, Nat.reduceEqDiff, Nat.reduceShiftRight, Nat.reduceAnd, l1, hlt]
   have he : m = ps.length := by omega
   subst he
   exact hq H hf hbb hbl
theorem q72 : dom (bt 255) = List.range' 0 8 := by decide
theorem qve (hC : qbi C) (hN : qhj C) {j : Nat} (hj : 22 ≤ j) {Hb : Hp} {v vv au gu : AV} {es : List TE} {f F : Fo} {ps : List (Nat → Bool)} {cs : List AV} {rb : Nat} (ht : TbR Hb v es F) (hF : Fl1 f F) (hv : Vals Hb vv ps) (hn : ps.length = f.lv) (hn2 : ps.length ≤ 100) (hA : Ob Hb au (List.range' 0 8)) (hG : Ob Hb gu (dom fun x => evB (fun k => (ps.getD k fun _ => false) x) f)) (hc : FoC (fun _ => True) Hb f cs) (hrb : Hb.get rb = qac 0 cs) (hrl : rb < Hb.nx) {qr : AV → Hp → R1} {q : Hp → R1} {Q : AV → Hp → Prop} (hq : ∀ H, Fm No Hb H → Ok (q H) Q) :
  ∀ (k i : Nat) (H : Hp), i ≤ 8 → 8 - i < k → Fm No Hb H → Ok (qa5 (C j) qr q (.ptr rb 0) v (.int .i64 (.ofNat ps.length)) vv gu au k (.int .i64 (.ofNat i)) H) Q
 | 0, i, _, _, h, _ => by omega
 | k + 1, i, H, hi, hk, hf => by
  show Ok (qgx (C j) _ _ _ _ _ _ _ _ (qa5 (C j) _ _ _ _ _ _ _ _ k) _ H) Q
  unfold qgx
  have l1 := hA.len
  rw [List.length_range'] at l1
  by_cases hlt : i < 8
  ·simp (disch := first | omega | exact tr_i rfl | (simp only [qaa, qab]; done) | (simp only [qaa, qab]; omega)) only [go_sem, Nat.reduceAdd, Nat.reduceMul, Nat.reduceSub, Nat.reduceLeDiff, Nat.reduceEqDiff, Nat.reduceShiftRight, Nat.reduceAnd, l1, hlt]
   unfold qgs
   have mk := qrx [.bool false] 1 H.nx ps.length (by omega) (by omega)
   simp (disch := first | omega | exact tr_i rfl | (simp only [qaa, qab]; done) | (simp only [qaa, qab]; omega)) only [go_sem, Nat.reduceAdd, Nat.reduceMul, Nat.reduceSub, Nat.reduceLeDiff, Nat.reduceEqDiff, Nat.reduceShiftRight, Nat.reduceAnd, mk]
   have hil : i < (List.range' 0 8).length := by rw [List.length_range']; exact hlt
   have hAi : (List.range' 0 8)[i] = i := by simp
   unfold qgy
   rw [qbc, q2p ps.length fun k => (ps.getD k fun _ => false) (List.range' 0 8)[i]]
   refine qvm hC (j := j) (by omega) (hv.fm hf) (hA.fm hf) hil (Nat.le_refl H.nx) hn2 (fun H2 f2 k2 b2 => ?_) qaz 0 _ (Nat.zero_le _) (by rw [qas]; omega) ((Fm.refl No H).push _) (by rw [qaa]; omega) (qby _ _)
   unfold qb4
   have f02 := hf.trans f2
   have hbl := q2o k2 b2
   rw [hAi] at hbl
   refine Ok.ve (q49 hC hN (k := j) hj (ht.fm f02) hF hbl hn) ?_
   rintro _ H3 ⟨rfl, f3⟩
   have f03 := f02.trans f3
   have kr := (f03.keep hrl).trans hrb
   have call := q20 hC (k := j) (by omega) (hc.fm f03) hF.ok (hbl.fm f3) (by omega) (by omega)
   obtain ⟨kd, rl, to, a, av, ca, hfe, hcs, _⟩ := hc.one hF.ok.one
   subst hcs
   simp (disch := first | omega | exact tr_i rfl | (simp only [qaa, qab]; done) | (simp only [qaa, qab]; omega)) only [go_sem, Nat.reduceAdd, Nat.reduceMul, Nat.reduceSub, Nat.reduceLeDiff, Nat.reduceEqDiff, Nat.reduceShiftRight, Nat.reduceAnd, kr]
   refine Ok.ve call ?_
   rintro _ H4 ⟨x3, rfl, f4⟩
   have f04 := f03.trans f4
   obtain ⟨_, b', o', g1, g2, g3⟩ := (hA.fm f04).at hil
   rw [hAi] at g3
   have hgl := qie fun x => evB (fun k => (ps.getD k fun _ => false) x) f
   have hhas := qx4 hC (k := j) (by omega) (hG.fm f04) hlt (by omega)
   have hmem : decide (i ∈ dom fun x => evB (fun k => (ps.getD k fun _ => false) x) f) = evB (fun k => (ps.getD k fun _ => false) i) f := by
    cases hp : evB (fun k => (ps.getD k fun _ => false) i) f
    ·exact decide_eq_false fun h => by rw [(qia.1 h).2] at hp; cases hp
    ·exact decide_eq_true (qia.2 ⟨hlt, hp⟩)
   rw [hmem] at hhas
   unfold obC at hhas
   generalize evB (fun k => (ps.getD k fun _ => false) i) f = bb at hhas
   have nb : qjn true (qml (.bool bb) (.bool bb)) = .val (.bool false) := by cases bb <;> rfl
   simp (disch := first | omega | exact tr_i rfl | (simp only [qaa, qab]; done) | (simp only [qaa, qab]; omega)) only [go_sem, Nat.reduceAdd, Nat.reduceMul, Nat.reduceSub, Nat.reduceLeDiff, Nat.reduceEqDiff, Nat.reduceShiftRight, Nat.reduceAnd, nb, g1, g3, hhas]
   unfold qgv
   simp (disch := first | omega | exact tr_i rfl | (simp only [qaa, qab]; done) | (simp only [qaa, qab]; omega)) only [go_sem, Nat.reduceAdd, Nat.reduceMul, Nat.reduceSub, Nat.reduceLeDiff, Nat.reduceEqDiff, Nat.reduceShiftRight, Nat.reduceAnd]
   exact qve hC hN hj ht hF hv hn hn2 hA hG hc hrb hrl hq k (i + 1) _ (by omega) (by omega) (f04.push _)
  ·simp (disch := first | omega | exact tr_i rfl | (simp only [qaa, qab]; done) | (simp only [qaa, qab]; omega)) only [go_sem, Nat.reduceAdd, Nat.reduceMul, Nat.reduceSub, Nat.reduceLeDiff, Nat.reduceEqDiff, Nat.reduceShiftRight, Nat.reduceAnd, l1, hlt]
   exact hq H hf
end Go.Di
end
noncomputable section
namespace Go.Di
open Go.Ev
variable {C : Nat → Ev.Call}
structure Mid (H : Hp) (v : AV) (n : Nat) (w : AV) : Prop where
 ex : ∃ f F es Hn ws ps, TbR Hn v es F ∧ Fl1 f F ∧ VI Hn H w ws ps ∧ ws.length = n ∧ n = f.lv ∧ 1 ≤ n ∧ n ≤ 32
theorem zbf (hC : qbi C) (hN : qhj C) {j : Nat} (hj : 22 ≤ j) {L B : List Nat} {xv bv : AV} {H : Hp} (hx : Rl H xv (u8s L)) (hL : ∀ x ∈ L, x < 256) (hxf : qh2 xv = some [xv]) (hb : Rl H bv (u8s B)) (hB : ∀ x ∈ B, x < 256) :
  Ok (qjk (C j) (.agg [xv]) bv H) fun r H' => ∃ v n w, r = .tup [v, .int .i64 (.ofNat n), w] ∧ Mid H' v n w := by
 unfold qjk qhy
 have fx : Fm No H (qaq H (qac 0 [xv])) := by (repeat (first | exact Fm.refl _ _ | assumption | refine Fm.push ?_ _ | refine Fm.up2 ?_ (by (first | omega | (simp only [qaa, qab]; omega))) | refine Fm.put_new ?_ _ _ (by (first | omega | (simp only [qaa, qab]; omega)))))
 simp (disch := first | omega | exact tr_i rfl | (simp only [qaa, qab]; done) | (simp only [qaa, qab]; omega)) only [go_sem, Nat.reduceAdd, Nat.reduceMul, Nat.reduceSub, Nat.reduceLeDiff, Nat.reduceEqDiff, Nat.reduceShiftRight, Nat.reduceAnd]
 refine Ok.ve (Of_ok hC (k := j) (by omega) hL (hx.fm fx)) ?_
 rintro _ H1 ⟨f, cs, rfl, hc, f1, c1, c2, c3, c4⟩
 have hok : f.Ok1 := ⟨c1, c2, c3, by omega⟩
 have hcT : FoC (fun _ => True) H1 f cs := hc.mono fun _ _ _ => trivial
 obtain ⟨kd, rl, to, a, av, ca, hfe, hcs, _⟩ := hc.one c1
 subst hcs
 have fy : Fm No H1 ((qaq H1 (qac 0 [.int .u8 (.ofNat 0), .str 0 0, .str 0 0, .nilsl])).put H1.nx (qac 0 [.int .u8 (.ofNat kd), .str rl.n rl.a, .str to.n to.a, av])) := by (repeat (first | exact Fm.refl _ _ | assumption | refine Fm.push ?_ _ | refine Fm.up2 ?_ (by (first | omega | (simp only [qaa, qab]; omega))) | refine Fm.put_new ?_ _ _ (by (first | omega | (simp only [qaa, qab]; omega)))))
 simp (disch := first | omega | exact tr_i rfl | (simp only [qaa, qab]; done) | (simp only [qaa, qab]; omega)) only [go_sem, Nat.reduceAdd, Nat.reduceMul, Nat.reduceSub, Nat.reduceLeDiff, Nat.reduceEqDiff, Nat.reduceShiftRight, Nat.reduceAnd]
 refine Ok.ve (q2y hC (k := j) (by omega) (hcT.fm fy) hok) ?_
 rintro v H2 ⟨es, ht, f2, _⟩
 have n1 := f2.nx
 simp only [qab, qaa] at n1
 have k2 : H2.get H1.nx = qac 0 [.int .u8 (.ofNat kd), .str rl.n rl.a, .str to.n to.a, av] := (f2.keep (by (first | omega | (simp only [qaa, qab]; omega)))).trans (qar _ _ _)
 simp (disch := first | omega | exact tr_i rfl | (simp only [qaa, qab]; done) | (simp only [qaa, qab]; omega)) only [go_sem, Nat.reduceAdd, Nat.reduceMul, Nat.reduceSub, Nat.reduceLeDiff, Nat.reduceEqDiff, Nat.reduceShiftRight, Nat.reduceAnd, k2]
 have fA := fy.trans f2
 refine Ok.ve (qzm hC (k := j) (by omega) (hcT.fm fA) hok) ?_
 rintro _ H3 ⟨rfl, f3⟩
 have fB := fA.trans f3
 have hF : Fl1 f f.flat := ⟨hok, rfl⟩
 have hlv1 := Fo.lv_pos f c2 (by omega)
 have hlv2 := Fo.lv_size f
 have f03 := ((fx.trans f1).trans fB)
 have k3 := (f3.keep (show H1.nx < H2.nx by omega)).trans k2
 unfold qgb
 rw [qbc]
 refine qt7 hC (j := j) (by omega) (hb.fm f03) hB (m := f.lv) (by omega) (fun w ws ps H4 hV hwl => ?_) qaz 0 .nilsl [] [] H3 (Nat.zero_le _) (by rw [qas]; omega) ⟨Fm.refl _ _, rfl, .inl ⟨rfl, rfl⟩, fun i a => by simp at a⟩ rfl
 unfold qbq
 have hpl : ps.length = f.lv := by rw [← hV.ln]; exact hwl
 have ht4 := (ht.fm f3).fm hV.fm
 refine Ok.ve (q8l hC hN (k := j) hj ht4 hF hV.vals hpl (by omega)) ?_
 rintro _ H5 ⟨u, rfl, o5, cap5, f5⟩
 have f35 := hV.fm.trans f5
 have k5 := (f35.keep (show H1.nx < H3.nx by have := f3.nx; omega)).trans k3
 have hc5 := (hcT.fm fB).fm f35
 have call := q5d hC (k := j) (by omega) hc5 hok (hV.vals.fm f5) hpl (by omega)
 simp (disch := first | omega | exact tr_i rfl | (simp only [qaa, qab]; done) | (simp only [qaa, qab]; omega)) only [go_sem, Nat.reduceAdd, Nat.reduceMul, Nat.reduceSub, Nat.reduceLeDiff, Nat.reduceEqDiff, Nat.reduceShiftRight, Nat.reduceAnd, k5]
 refine Ok.ve call ?_
 rintro gw H6 ⟨o6, f6⟩
 have hobj := q63 hC (k := j) (by omega) (o5.fm f6) cap5 o6 (Nat.le_trans (qie _) (by omega))
 simp (disch := first | omega | exact tr_i rfl | (simp only [qaa, qab]; done) | (simp only [qaa, qab]; omega)) only [go_sem, Nat.reduceAdd, Nat.reduceMul, Nat.reduceSub, Nat.reduceLeDiff, Nat.reduceEqDiff, Nat.reduceShiftRight, Nat.reduceAnd, hobj]
 unfold qgr
 refine Ok.ve (qs9 hC (k := j) (by omega) (n := 255) (by omega) H6) ?_
 intro au H7 hau
 have f36 := f35.trans f6
 have f37 := f36.trans hau.fm
 have k7 := (f37.keep (show H1.nx < H3.nx by have := f3.nx; omega)).trans k3
 have oa := hau.ob
 rw [q72] at oa
 have f47 := (f5.trans f6).trans hau.fm
 unfold qgz
 rw [qbc, ← hpl]
 refine qve hC hN hj (ht4.fm f47) hF (hV.vals.fm f47) hpl (by omega) oa ((o5.fm f6).fm hau.fm) ((hcT.fm fB).fm f37) k7 (by have := f37.nx; have := f3.nx; omega) (fun H8 f8 => ?_) qaz 0 H7 (Nat.zero_le _) (by rw [qas]; omega) (Fm.refl _ _)
 unfold qa1
 exact Ok.ret ⟨v, ps.length, w, rfl, ⟨f, f.flat, es, H3, ws, ps, ht.fm f3, hF, hV.no (f47.trans f8), by rw [hwl, hpl], hpl, by omega, by omega⟩⟩
end Go.Di
end
noncomputable section
namespace Go.Di
open Go.Ev
variable {C : Nat → Ev.Call}
structure TV (H : Hp) (v : AV) (b : Nat) (ws : List AV) : Prop where
 ex : ∃ m e q L, v = .sl b 0 ws.length m e ∧ H.get b = qac q L ∧ ws.length ≤ L.length ∧ L.take ws.length = ws ∧ b < H.nx
theorem TV.no {H H' : Hp} {v : AV} {b : Nat} {ws : List AV} (h : TV H v b ws) (f : Fm No H H') : TV H' v b ws := by
 obtain ⟨m, e, q, L, h1, h2, h3, h4, h5⟩ := h.ex
 exact ⟨m, e, q, L, h1, by rw [f.keep h5]; exact h2, h3, h4, Nat.lt_of_lt_of_le h5 f.nx⟩
structure Tl (H : Hp) (v : AV) (n : Nat) (w : AV) : Prop where
 ex : ∃ (f F : Fo) (es : List TE) (Hn : Hp) (ws : List AV) (ps : List (Nat → Bool)) (b : Nat), TbR Hn v es F ∧ Fl1 f F ∧ Fm No Hn H ∧ Hn.nx ≤ b ∧ ws.length = n ∧ n = f.lv ∧ 1 ≤ n ∧ n ≤ 32 ∧ ps.length = n ∧
  (∀ i (h : i < ws.length) (h' : i < ps.length), Ob H ws[i] (dom ps[i]) ∧ Gl 2 H ws[i] (dom ps[i]).length ((dom ps[i]).flatMap obC) ∧ ∀ c, In ws[i] c → c ≠ b) ∧
  ∃ a H', qbb 1 24 (qaq H (qac 0 [.nilsl])) w (some ⟨1, [.nilsl]⟩) = .ok a H' ∧ lenSl a = .val (.int .i64 (.ofNat (n + 1))) ∧ TV H' w b ws ∧ Fm (fun c => c = b) (qaq H (qac 0 [.nilsl])) H'
theorem q8k (hC : qbi C) (hN : qhj C) {j : Nat} (hj : 22 ≤ j) (hlive : ∀ H, C j (.f qmd) [] H = .ok (.bool true) H) {H : Hp} {v w : AV} {n : Nat} (hT : Tl H v n w) :
  Ok (qfx (C j) v (.int .i64 (.ofNat n)) w H) fun r _ => r = .bool true := by
 obtain ⟨f, F, es, Hn, ws, ps, b, ht, hF, fn, hb, hwl, hnl, hn1, hn2, hpl, hok, a, H1, e1, hla, hTV, f1⟩ := hT.ex
 unfold qfx
 have fp : Fm No H (qaq H (qac 0 [.nilsl])) := by (repeat (first | exact Fm.refl _ _ | assumption | refine Fm.push ?_ _ | refine Fm.up2 ?_ (by (first | omega | (simp only [qaa, qab]; omega))) | refine Fm.put_new ?_ _ _ (by (first | omega | (simp only [qaa, qab]; omega)))))
 simp (disch := first | omega | exact tr_i rfl | (simp only [qaa, qab]; done) | (simp only [qaa, qab]; omega)) only [go_sem, Nat.reduceAdd, Nat.reduceMul, Nat.reduceSub, Nat.reduceLeDiff, Nat.reduceEqDiff, Nat.reduceShiftRight, Nat.reduceAnd]
 refine Ok.veE e1 ?_
 have fn1 : Fm No Hn H1 := (fn.trans fp).then f1 fun c hc h => by omega
 refine Ok.ve (q5b hC hN (k := j) hj (ht.fm fn1) hF hla (by omega)) ?_
 rintro _ H2 ⟨rfl, f2⟩
 have mk := qrx [.bool false] 1 H2.nx (n + 1) (by omega) (by omega)
 simp (disch := first | omega | exact tr_i rfl | (simp only [qaa, qab]; done) | (simp only [qaa, qab]; omega)) only [go_sem, Nat.reduceAdd, Nat.reduceMul, Nat.reduceSub, Nat.reduceLeDiff, Nat.reduceEqDiff, Nat.reduceShiftRight, Nat.reduceAnd, mk]
 have fp2 : Fm No H2 (qaq H2 (qac 0 (reps [.bool false] (n + 1)))) := by (repeat (first | exact Fm.refl _ _ | assumption | refine Fm.push ?_ _ | refine Fm.up2 ?_ (by (first | omega | (simp only [qaa, qab]; omega))) | refine Fm.put_new ?_ _ _ (by (first | omega | (simp only [qaa, qab]; omega)))))
 refine Ok.ve (q5e hC hN (k := j) hj (m := n + 1) (ht.fm ((fn1.trans f2).trans fp2)) hF rfl (by omega)) ?_
 rintro _ H3 ⟨rfl, f3⟩
 have f13 := (f2.trans fp2).trans f3
 have fp3 : Fm No H3 (qaq H3 (qac 0 [.str 1 98, .str 0 0, .str 1 97, .str 1 120])) := by (repeat (first | exact Fm.refl _ _ | assumption | refine Fm.push ?_ _ | refine Fm.up2 ?_ (by (first | omega | (simp only [qaa, qab]; omega))) | refine Fm.put_new ?_ _ _ (by (first | omega | (simp only [qaa, qab]; omega)))))
 obtain ⟨m, e, q, L, t1, t2, t3, t4, t5⟩ := (hTV.no (f13.trans fp3)).ex
 have t2' : H3.get b = qac q L := by
  have := t2
  rw [qhi _ _ _ (by have := hTV.ex; obtain ⟨_, _, _, _, _, _, _, _, h⟩ := this; have := f13.nx; omega)] at this
  exact this
 subst t1
 have hix : ∀ i, i < n → idxS 1 (.sl b 0 ws.length m e) (.int .i64 (.ofNat i)) = .val (.ptr b i) := fun i hi => by
  rw [qqk _ _ _ _ _ _ _ _ (by omega), Nat.mul_one, Nat.zero_add]
 have hlast := hix (n - 1) (by omega)
 have hle := eq_true (show n - 1 + 1 ≤ L.length by omega)
 simp (disch := first | omega | exact tr_i rfl | (simp only [qaa, qab]; done) | (simp only [qaa, qab]; omega)) only [go_sem, Nat.reduceAdd, Nat.reduceMul, Nat.reduceSub, Nat.reduceLeDiff, Nat.reduceEqDiff, Nat.reduceShiftRight, Nat.reduceAnd, hlast, t2, hle, if_true]
 obtain ⟨H4, hH4⟩ : ∃ H4, H4 = (qaq H3 (qac 0 [.str 1 98, .str 0 0, .str 1 97, .str 1 120])).put b (qac q (setL L (n - 1) [.sl H3.nx 0 2 2 true])) := ⟨_, rfl⟩
 rw [← hH4]
 have f14 : Fm (fun c => c = b) H1 H4 := by rw [hH4]; exact ((f13.trans fp3).mono fun _ _ h => h.elim).put _ _ fun _ => rfl
 have k4 : H4.get b = qac q (setL L (n - 1) [.sl H3.nx 0 2 2 true]) := by rw [hH4]; exact qar _ _ _
 have n4 : H4.nx = H3.nx + 1 := by rw [hH4]; simp only [qab, qaa]
 have hbl : b < H3.nx := by
  obtain ⟨_, _, _, _, _, _, _, _, h⟩ := hTV.ex
  exact Nat.lt_of_lt_of_le h f13.nx
 have u4 : H4.get H3.nx = qac 0 [.str 1 98, .str 0 0, .str 1 97, .str 1 120] := by
  rw [hH4, qbz _ _ _ _ (by omega)]; exact qby _ _
 have f04 : Fm (fun c => c = b) H H4 := ((fp.mono fun _ _ h => h.elim).then f1 fun _ _ h => h).then f14 fun _ _ h => h
 have fn4 : Fm No Hn H4 := fn.then f04 fun c hc h => by omega
 have hsl : (setL L (n - 1) [.sl H3.nx 0 2 2 true]).length = L.length := qkq _ _ _ (by simp; omega)
 have hget : ∀ i, i < n - 1 → (setL L (n - 1) [AV.sl H3.nx 0 2 2 true])[i]? = ws[i]? := fun i hi => by
  unfold setL
  rw [List.append_assoc, List.getElem?_append_left (by simp; omega), List.getElem?_take, if_pos hi, ← t4, List.getElem?_take, if_pos (by omega)]
 have hgl : (setL L (n - 1) [AV.sl H3.nx 0 2 2 true])[n - 1]? = some (.sl H3.nx 0 2 2 true) := by
  unfold setL
  rw [List.append_assoc, List.getElem?_append_right (by simp; omega)]
  simp [Nat.min_eq_left (show n - 1 ≤ L.length by omega)]
 refine Ok.ve (q5a hC hN (k := j) hj (ps := ps.take (n - 1)) (b := b) (o := n - 1) (ub := H3.nx) (ht.fm fn4) hF ?_ (by rw [List.length_take]; omega) (by rw [List.length_take]; omega) (fun i h => ?_) ?_ (by omega) ?_ u4 (by omega)) ?_
 ·rw [List.length_take, Nat.min_eq_left (by omega), Nat.sub_add_cancel hn1, ← hwl]; rfl
 ·have hi : i < n - 1 := by rw [List.length_take] at h; omega
  obtain ⟨o1, o2, o3⟩ := hok i (by omega) (by omega)
  have eps : (ps.take (n - 1))[i] = ps[i]'(by omega) := List.getElem_take
  refine ⟨b, i, ws[i]'(by omega), hix i (by omega), by omega, ?_, ?_, ?_⟩
  ·rw [k4, qiq, hget i hi, List.getElem?_eq_getElem (by omega)]
  ·rw [eps]
   exact ⟨o1.len, fun h0 => (o1.gl h0).fm f04 fun c hc => o3 c hc, o1.lt⟩
  ·rw [eps]
   exact o2.fm f04 fun c hc => o3 c hc
 ·rw [List.length_take, Nat.min_eq_left (by omega)]; exact hlast
 ·rw [k4, qiq, hgl]
 ·rintro _ H5 ⟨rfl, f5⟩
  have hl := hlive H5
  simp (disch := first | omega | exact tr_i rfl | (simp only [qaa, qab]; done) | (simp only [qaa, qab]; omega)) only [go_sem, Nat.reduceAdd, Nat.reduceMul, Nat.reduceSub, Nat.reduceLeDiff, Nat.reduceEqDiff, Nat.reduceShiftRight, Nat.reduceAnd, hl]
  exact Ok.ret rfl
end Go.Di
end
noncomputable section
namespace Go.Di
open Go.Ev
theorem q2t {H : Hp} {b n : Nat} {ws : List AV} {x : AV} (hg : H.get b = qac 1 ws) (hn : ws.length = n) (hn2 : n ≤ 1000) :
  qbb 1 24 H (.sl b 0 n n true) (some ⟨1, [x]⟩) = .ok (.sl H.nx 0 (n + 1) (n + 1) false) (qaq H (qac 1 (ws ++ [x]))) := by
 have e0 : Nat.ble (n + 1) n = false := by rw [ble_eq, decide_eq_false (by omega)]
 have bk : Nat.ble ((n + 1) * 24) bigB = true := Nat.ble_eq_true_of_le (by show _ ≤ 1099511627776; omega)
 have bk2 : Nat.ble (n + 1) bigB = true := Nat.ble_eq_true_of_le (by show _ ≤ 1099511627776; omega)
 have rd : qd6 (H.get b) 0 (Nat.mul n 1) = some ws := by
  rw [hg, qmj, if_pos (by show 0 + n * 1 ≤ _; omega), List.drop_zero, List.take_of_length_le (by show _ ≤ n * 1; omega)]
 show (bif Nat.ble (n + 1) n then _ else bif Nat.ble (Nat.mul (n + 1) 24) bigB && Nat.ble (n + 1) bigB then (match qd6 (H.get b) 0 (Nat.mul n 1) with | none => R1.bad | some old => bif true then grow 1 H old ⟨1, [x]⟩ (n + 1) else _) else R1.bad) = _
 rw [e0, show Nat.mul (n + 1) 24 = (n + 1) * 24 from rfl, bk, bk2, rd]
 rfl
theorem q45 {H : Hp} {b n : Nat} {ws : List AV} {x y : AV} (hg : H.get b = qac 1 (ws ++ [y])) (hn : ws.length = n) :
  qbb 1 24 H (.sl b 0 n (n + 1) false) (some ⟨1, [x]⟩) = .ok (.sl b 0 (n + 1) (n + 1) false) (H.put b (qac 1 (setL (ws ++ [y]) n [x]))) := by
 have e0 : Nat.ble (n + 1) (n + 1) = true := Nat.ble_eq_true_of_le (Nat.le_refl _)
 have hs := qp1 H b n [x] (.sl b 0 (n + 1) (n + 1) false) 1 (ws ++ [y]) hg (by simp [hn])
 show (bif Nat.ble (n + 1) (n + 1) then storeAt H b (0 + n * 1) [x] (.sl b 0 (n + 1) (n + 1) false) else _) = _
 rw [e0, Nat.mul_one, Nat.zero_add]
 exact hs
theorem LR.put8 {d N : Nat} {ι : Im} {L : TT AV d} {tmps : Array Value} (h : LR ι d N L tmps) {i : Nat} (hi : i < N) {v : AV} (hv : Rep ι v (tmps.getD i Go.undef)) : LR ι d N ((setter d i).f L v) tmps := by
 refine ⟨h.size, h.fits, fun j hj => ?_⟩
 rw [qhg _ _ _ _ _ (Nat.lt_trans hj h.fits) (Nat.lt_trans hi h.fits)]
 by_cases e : j = i
 ·subst e; rw [if_pos rfl]; exact hv
 ·rw [if_neg e]; exact h.get j hj
theorem q06 {d N : Nat} (hN8 : 8 < N) {ι : Im} {H : Hp} {w : World} {L : TT AV d} {tmps : Array Value} (hH : HR ι H w) (hL : LR ι d N L tmps) {n : Nat} (hM : Mid H (G L 6) n (G L 8)) :
  ∃ ι2 L2 H2, HR ι2 H2 w ∧ LR ι2 d N L2 tmps ∧ Fr ι ι2 H H2 w w ∧ (qap d N).f L2 = (qap d N).f L ∧ G L2 6 = G L 6 ∧ G L2 7 = G L 7 ∧ Tl H2 (G L2 6) n (G L2 8) := by
 obtain ⟨f, F, es, Hn, ws, ps, ht, hF, hV, hwn, hnl, hn1, hn2⟩ := hM.ex
 have hfits := hL.fits
 rcases hV.sh with ⟨_, h0⟩ | ⟨b, hw, hg, hbl, hbn⟩
 ·subst h0; simp at hwn; omega
 rw [hwn] at hw
 have h8 := hL.get 8 hN8
 have h8' : Rep ι (G L 8) (tmps.getD 8 Go.undef) := h8
 rw [hw] at h8'
 simp only [Rep] at h8'
 obtain ⟨_, loc, hloc, hval⟩ := h8'
 have g6 : ∀ v, G ((setter d 8).f L v) 6 = G L 6 := fun v => by
  show (qap d 6).f _ = _
  rw [qhg _ _ _ _ _ (by omega) (by omega), if_neg (by omega)]; rfl
 have g7 : ∀ v, G ((setter d 8).f L v) 7 = G L 7 := fun v => by
  show (qap d 7).f _ = _
  rw [qhg _ _ _ _ _ (by omega) (by omega), if_neg (by omega)]; rfl
 have g8 : ∀ v, G ((setter d 8).f L v) 8 = v := fun v => by
  show (qap d 8).f _ = _
  rw [qhg _ _ _ _ _ (by omega) (by omega), if_pos rfl]
 have gN : ∀ v, (qap d N).f ((setter d 8).f L v) = (qap d N).f L := fun v => by
  rw [qhg _ _ _ _ _ hfits (by omega), if_neg (by omega)]
 have hrd : qd6 (H.get b) 0 ws.length = some ws := by
  rw [hg, qmj, if_pos (by omega), List.drop_zero, List.take_of_length_le (Nat.le_refl _)]
 have hpl : ps.length = n := by rw [← hV.ln]; exact hwn
 have hnb : ∀ i (h : i < ws.length) (h' : i < ps.length) c, In ws[i] c → c ≠ b := fun i h h' c hc he => (hV.ok i h h').2.2 c hc |>.2 (by rw [hw]; exact he ▸ ⟨_, _, _, _, rfl⟩)
 rcases q3c hH hloc hg hrd with hx | ⟨u, loc', l1, l2, l3, hH2, hF2⟩
 ·refine ⟨ι, (setter d 8).f L (.sl b 0 n n true), H, hH, LR.put8 hL hN8 ?_, Fr.refl _ _ _, gN _, g6 _, g7 _, ?_⟩
  ·simp only [Rep]
   refine ⟨Nat.le_refl _, loc, hloc, ?_⟩
   rw [hval, hx]; rfl
  ·rw [g6, g8]
   have hg' : (qaq H (qac 0 [.nilsl])).get b = qac 1 ws := by rw [qhi _ _ _ hbl]; exact hg
   refine ⟨f, F, es, Hn, ws, ps, b, ht, hF, hV.fm, hbn, hwn, hnl, hn1, hn2, hpl, fun i h h' => ⟨(hV.ok i h h').1, (hV.ok i h h').2.1, hnb i h h'⟩, _, _, q2t hg' hwn (by omega), rfl, ⟨n, true, 1, ws, by rw [hwn], ?_, Nat.le_refl _, List.take_of_length_le (Nat.le_refl _), by simp only [qaa]; omega⟩, (Fm.refl _ _).push _⟩
   rw [qhi _ _ _ (by rw [qaa]; omega)]; exact hg'
 ·refine ⟨_, (setter d 8).f L (.sl H.nx 0 n (n + 1) false), _, hH2, LR.put8 (hL.mono hF2.le) hN8 ?_, hF2, gN _, g6 _, g7 _, ?_⟩
  ·simp only [Rep]
   refine ⟨Nat.le_succ _, loc', Im.set_same _ _ _, ?_⟩
   rw [hval, l1, l2]
   simp only [Bool.false_eq_true, if_false]
   congr 1
   omega
  ·rw [g6, g8]
   obtain ⟨H2, hH2e⟩ : ∃ H2, H2 = qaq (H.put b .dead) (qac 1 (ws ++ [.lit u])) := ⟨_, rfl⟩
   rw [← hH2e]
   have f2 : Fm (fun c => c = b) H H2 := by rw [hH2e]; exact ((Fm.refl (fun c => c = b) H).put _ _ fun _ => rfl).push _
   have k2 : H2.get H.nx = qac 1 (ws ++ [.lit u]) := by rw [hH2e]; exact qby _ _
   have n2 : H2.nx = H.nx + 1 := by rw [hH2e]; simp only [qaa, qab]
   have hg' : (qaq H2 (qac 0 [.nilsl])).get H.nx = qac 1 (ws ++ [.lit u]) := by rw [qhi _ _ _ (by omega)]; exact k2
   have n0 := hV.fm.nx
   refine ⟨f, F, es, Hn, ws, ps, H.nx, ht, hF, hV.fm.then f2 fun c hc h => by omega, n0, hwn, hnl, hn1, hn2, hpl, fun i h h' => ?_, _, _, q45 hg' hwn, rfl, ⟨n + 1, false, 1, _, by rw [hwn], qar _ _ _, ?_, ?_, by simp only [qab, qaa]; omega⟩, (Fm.refl _ _).put _ _ fun _ => rfl⟩
   ·obtain ⟨o1, o2, o3⟩ := hV.ok i h h'
    have o2' := o2.fm f2 fun c hc => hnb i h h' c hc
    exact ⟨⟨o1.len, fun h0 => (o1.gl h0).fm f2 fun c hc => hnb i h h' c hc, o1.lt⟩, o2', fun c hc => by have := o2.lt hc; omega⟩
   ·rw [qkq _ _ _ (by simp [hwn])]; simp
   ·unfold setL
    rw [List.append_assoc, List.take_append_of_le_length (by simp [hwn]), List.take_take, Nat.min_eq_left (by omega), List.take_append_of_le_length (by omega), List.take_of_length_le (by omega)]
end Go.Di
end
noncomputable section
namespace Go.Di
open Go.Ev
def qsg (l : List AV) : Blk := .cells (qan l.length) l.length (cellsOf l) true 0
theorem qum (l : List AV) (o : Nat) : qbt (qsg l) o = match l[o]? with | some v => .val v | none => .bad := by
 show (bif Nat.blt o l.length then R0.val ((qap _ o).f (cellsOf l)) else .bad) = _
 rw [qor]
 by_cases h : o < l.length
 ·rw [decide_eq_true h, qif _ _ (Nat.lt_of_lt_of_le h (qfv _))]
  simp [h]
 ·rw [decide_eq_false h]
  simp [Nat.le_of_not_lt h]
theorem qpq (b : Nat) : Hp.empty.get b = .dead := by
 show (bif Nat.blt b 2097152 then (qap HD b).f (same Blk.dead HD) else Blk.dead) = Blk.dead
 rw [qoh]; cases Nat.blt b 2097152 <;> rfl
theorem add_add (a : Addr) (x y : Nat) : (a.add x).add y = a.add (x + y) := by
 unfold Addr.add
 by_cases hx : x = 0
 ·subst hx; simp
 ·by_cases hy : y = 0
  ·subst hy; simp
  ·simp [hx, hy, Nat.add_assoc]
theorem q48 {a : Addr} (h : a.spot = none) (x : Nat) : a.add x = ⟨a.block, a.off + x, none⟩ := by
 obtain ⟨ab, ao, az⟩ := a
 cases h
 unfold Addr.add
 by_cases hx : x = 0
 ·subst hx; simp
 ·simp [hx]
theorem qs4 {w : World} {a : Addr} {v : Value} (h : w.cell? (a.add 0) = some v) : a.spot = none ∧ a.block < w.heap.size := by
 have h : w.cell? a = some v := h
 unfold World.cell? at h
 rcases hx : w.heap[a.block]? with _ | o
 ·rw [hx] at h; cases h
 ·refine ⟨?_, (Array.getElem?_eq_some_iff.1 hx).1⟩
  rw [hx] at h
  cases o with
  | cells c e z =>
   rcases hs : a.spot with _ | s
   ·rfl
   ·rw [hs] at h; cases h
  | _ => cases h
structure Ro where
 l : List AV
 (b o : Nat)
def qyi (ks : List Ro) : Hp := ks.foldl (fun H k => qaq H (qsg k.l)) Hp.empty
def roIm (ks : List Ro) : Im := fun b => (ks[b]?).map fun k => ⟨k.b, k.o, 0, 0⟩
theorem qul : ∀ (ks : List Ro) (H : Hp), (∀ b, H.nx ≤ b → H.get b = .dead) →
  (ks.foldl (fun H k => qaq H (qsg k.l)) H).nx = H.nx + ks.length ∧ ∀ b, (ks.foldl (fun H k => qaq H (qsg k.l)) H).get b = if b < H.nx then H.get b else match ks[b - H.nx]? with | some k => qsg k.l | none => .dead
 | [], H, h => ⟨rfl, fun b => by
  by_cases hb : b < H.nx
  ·rw [if_pos hb]; rfl
  ·rw [if_neg hb]; exact h b (by omega)⟩
 | k :: ks, H, h => by
  obtain ⟨h1, h2⟩ := qul ks (qaq H (qsg k.l)) (fun b hb => by
   have : H.nx + 1 ≤ b := hb
   rw [qpo, if_neg (by omega)]; exact h b (by omega))
  have hx : (qaq H (qsg k.l)).nx = H.nx + 1 := rfl
  rw [List.foldl_cons]
  refine ⟨by rw [h1, hx, List.length_cons]; omega, fun b => ?_⟩
  rw [h2, hx, qpo]
  by_cases hb : b < H.nx
  ·rw [if_pos (by omega), if_neg (by omega), if_pos hb]
  ·by_cases hb2 : b = H.nx
   ·subst hb2
    rw [if_pos (Nat.lt_succ_self _), if_pos rfl, if_neg (Nat.lt_irrefl _), Nat.sub_self]; rfl
   ·rw [if_neg (by omega), if_neg hb, show b - H.nx = (b - (H.nx + 1)) + 1 by omega, List.getElem?_cons_succ]
theorem qio (ks : List Ro) : (qyi ks).nx = ks.length ∧ ∀ b, (qyi ks).get b = match ks[b]? with | some k => qsg k.l | none => .dead := by
 obtain ⟨h1, h2⟩ := qul ks Hp.empty fun b _ => qpq b
 refine ⟨by show (ks.foldl _ Hp.empty).nx = _; rw [h1]; exact Nat.zero_add _, fun b => ?_⟩
 show (ks.foldl _ Hp.empty).get b = _
 rw [h2, if_neg (show ¬ b < Hp.empty.nx from Nat.not_lt_zero b)]; rfl
theorem zbi {w : World} {ks : List Ro} (h : ∀ i (hi : i < ks.length), ks[i].b < w.heap.size ∧ ∀ j (hj : j < ks[i].l.length), ∃ V, w.cell? ⟨ks[i].b, ks[i].o + j, none⟩ = some V ∧ Rep (roIm ks) ks[i].l[j] V ∧ V.oneCell = true) :
  HR (roIm ks) (qyi ks) w ∧ ∀ b, ((qyi ks).get b).wr = false := by
 have hw : ∀ b, ((qyi ks).get b).wr = false := fun b => by
  rw [(qio ks).2]
  split <;> rfl
 refine ⟨⟨inH, fun b _ => ?_, fun b m _ hd hm => ?_, fun b c m m' _ _ h => ?_, fun b h => ?_, fun b h _ => ?_⟩, hw⟩
 ·rw [(qio ks).2]
  by_cases hb : b < ks.length
  ·rw [List.getElem?_eq_getElem hb]
   refine ⟨⟨ks[b].b, ks[b].o, 0, 0⟩, by unfold roIm; rw [List.getElem?_eq_getElem hb]; rfl, ⟨qfv _, rfl⟩, fun i hi => ?_, fun h => by cases h⟩
   obtain ⟨V, h1, h2, h3⟩ := (h b hb).2 i hi
   refine ⟨V, h1, ?_, h3, fun h => by cases h⟩
   rw [qif _ _ (Nat.lt_of_lt_of_le hi (qfv _))]
   simpa [hi] using h2
  ·rw [List.getElem?_eq_none (by omega)]; trivial
 ·unfold roIm at hm
  by_cases hb : b < ks.length
  ·rw [List.getElem?_eq_getElem hb] at hm
   cases hm
   exact (h b hb).1
  ·rw [List.getElem?_eq_none (by omega)] at hm; cases hm
 ·rw [hw b] at h; cases h
 ·rw [(qio ks).1] at h
  unfold roIm; rw [List.getElem?_eq_none h]; rfl
 ·rw [(qio ks).1] at h
  rw [(qio ks).2, List.getElem?_eq_none h]
structure Inr (w : World) (v : Value) (k : Nat) (x : AV) (l : List Nat) (r : Ro) : Prop where
 one : v.oneCell = true
 rep : ∀ ι : Im, ι k = some ⟨r.b, r.o, 0, 0⟩ → Rep ι x v
 lt : ∀ y ∈ l, y < 256
 eq : r.l = u8s l
 len : lenSl x = .val (.int .i64 (.ofNat l.length))
 at' : ∀ j, j < l.length → idxS 1 x (.int .i64 (.ofNat j)) = .val (.ptr k j)
 cell : ∀ j (h : j < l.length), w.cell? ⟨r.b, r.o + j, none⟩ = some (.int .u8 (.ofNat l[j]))
 low : r.b < w.heap.size
theorem inner {Hd : Type} {enc : TypeId × Value → Hd} {P : Program} {w : World} {fuel : Nat} {e u : TypeId} {cs : List Value} {x : DataW Hd × List MemPlace} (he : P.underlying e = some (.slice u)) (hu : P.underlying u = some (.int .u8)) (hcu : P.cellsOf u = 1) {b0 : Nat} (hb0 : b0 < w.heap.size)
  (h : DataW.trod enc P w 0 (fun _ => true) true fuel e cs = some x) (k : Nat) : ∃ v y l r, cs = [v] ∧ Inr w v k y l r := by
 rcases DataW.trod_slice he h with ⟨h0, _⟩ | ⟨a, len, cap, elems, rest, n, _, hcs, _, _, hl, _, hlen, hel, _⟩
 ·exact ⟨_, .nilsl, [], ⟨[], b0, 0⟩, h0, rfl, fun _ _ => by simp only [Rep], by simp, rfl, rfl, fun j hj => by simp at hj, fun j hj => by simp at hj, hb0⟩
 ·have cell : ∀ i, i < len → ∃ y : Nat, y < 256 ∧ w.cell? (a.add i) = some (.int .u8 (.ofNat y)) := by
   intro i hi
   have h1 := hel i hi
   rw [List.getElem?_eq_getElem (by omega), hcu, Option.bind_eq_some_iff] at h1
   obtain ⟨cs', h2, h3⟩ := h1
   obtain ⟨y, h5, _, h6⟩ := DataW.trod_int hu h3
   have h7 := (World.cells?_some h2).2.2 0 (by omega)
   rw [h5] at h7
   simp only [Lit.wf, Bool.and_eq_true, decide_eq_true_eq] at h6
   have h9 : 0 ≤ y ∧ y ≤ 255 := ⟨h6.1, h6.2⟩
   refine ⟨y.toNat, by omega, ?_⟩
   have h10 : (a.add (i * 1)).add 0 = a.add i := by rw [add_add, Nat.mul_one]; rfl
   rw [← h10, h7]
   show some (Value.int .u8 y) = _
   congr 2
   show y = ((y.toNat : Nat) : Int)
   omega
  rcases Nat.eq_zero_or_pos len with hz | hz
  ·subst hz
   exact ⟨_, .sle, [], ⟨[], b0, 0⟩, hcs, rfl, fun _ _ => by simp only [Rep]; exact ⟨_, _, rfl⟩, by simp, rfl, rfl, fun j hj => by simp at hj, fun j hj => by simp at hj, hb0⟩
  ·obtain ⟨y0, _, hc0⟩ := cell 0 hz
   obtain ⟨hspot, hblk⟩ := qs4 hc0
   obtain ⟨g, hg⟩ : ∃ g : Nat → Nat, ∀ i, i < len → g i < 256 ∧ w.cell? ⟨a.block, a.off + i, none⟩ = some (.int .u8 (.ofNat (g i))) := by
    refine ⟨fun i => if h : i < len then Classical.choose (cell i h) else 0, fun i hi => ?_⟩
    simp only [hi, dif_pos]
    rw [← q48 hspot]
    exact Classical.choose_spec (cell i hi)
   refine ⟨_, .sl k 0 len cap true, (List.range len).map g, ⟨u8s ((List.range len).map g), a.block, a.off⟩, hcs, rfl, fun ι hι => ?_, fun y hy => ?_, rfl, by rw [List.length_map, List.length_range]; rfl, fun j hj => ?_, fun j hj => ?_, hblk⟩
   ·simp only [Rep]
    refine ⟨hl, _, hι, ?_⟩
    obtain ⟨ab, ao, az⟩ := a
    cases hspot
    rfl
   ·obtain ⟨i, hi, rfl⟩ := List.mem_map.1 hy
    exact (hg i (List.mem_range.1 hi)).1
   ·have hj' : j < len := by simpa using hj
    rw [qqk _ _ _ _ _ _ _ _ hj', Nat.zero_add, Nat.mul_one]
   ·have hj' : j < len := by simpa using hj
    rw [(hg j hj').2]; simp
theorem qqm {y z : AV} (h : lenSl y = .val z) : qh2 y = some [y] := by
 cases y <;> first | rfl | cases h
theorem q5r {Hd : Type} {enc : TypeId × Value → Hd} {P : Program} {w : World} {fuel : Nat} {e u : TypeId} {cs : List Value} {x : DataW Hd × List MemPlace} (he : P.underlying e = some (.slice u)) (hcu : P.cellsOf u = 1) (hsz : w.heap.size = 0)
  (h : DataW.trod enc P w 0 (fun _ => true) true fuel e cs = some x) : ∃ v y, cs = [v] ∧ v.oneCell = true ∧ (∀ ι : Im, Rep ι y v) ∧ lenSl y = .val (.int .i64 (.ofNat 0)) := by
 rcases DataW.trod_slice he h with ⟨h0, _⟩ | ⟨a, len, cap, elems, rest, n, _, hcs, _, _, hl, _, hlen, hel, _⟩
 ·exact ⟨_, .nilsl, h0, rfl, fun _ => by simp only [Rep], rfl⟩
 ·rcases Nat.eq_zero_or_pos len with hz | hz
  ·subst hz
   exact ⟨_, .sle, hcs, rfl, fun _ => by simp only [Rep]; exact ⟨_, _, rfl⟩, rfl⟩
  ·have h1 := hel 0 hz
   rw [List.getElem?_eq_getElem (by omega), hcu, Option.bind_eq_some_iff] at h1
   obtain ⟨cs', h2, _⟩ := h1
   have h7 := (World.cells?_some h2).2.2 0 (by omega)
   have hl1 := (World.cells?_some h2).2.1
   rw [add_add] at h7
   rw [List.getElem?_eq_getElem (by omega)] at h7
   have := (qs4 h7).2
   omega
theorem zat {Hd : Type} {enc : TypeId × Value → Hd} {P : Program} {w : World} {n1 n2 : Nat} {e u : TypeId} {c1 c2 : List Value} {x1 x2 : DataW Hd × List MemPlace} (he : P.underlying e = some (.slice u)) (hu : P.underlying u = some (.int .u8)) (hcu : P.cellsOf u = 1)
  (h1 : DataW.trod enc P w 0 (fun _ => true) true n1 e c1 = some x1) (h2 : DataW.trod enc P w 0 (fun _ => true) true n2 e c2 = some x2) :
  ∃ ι H v1 v2 y1 y2 L1 L2, c1 = [v1] ∧ c2 = [v2] ∧ v1.oneCell = true ∧ HR ι H w ∧ Rep ι y1 v1 ∧ Rep ι y2 v2 ∧ Rl H y1 (u8s L1) ∧ Rl H y2 (u8s L2) ∧ (∀ x ∈ L1, x < 256) ∧ (∀ x ∈ L2, x < 256) ∧ qh2 y1 = some [y1] ∧ ∀ b, (H.get b).wr = false := by
 rcases Nat.eq_zero_or_pos w.heap.size with hz | hz
 ·obtain ⟨v1, y1, rfl, o1, r1, l1⟩ := q5r he hcu hz h1
  obtain ⟨v2, y2, rfl, o2, r2, l2⟩ := q5r he hcu hz h2
  exact ⟨_, _, v1, v2, y1, y2, [], [], rfl, rfl, o1, HR.empty, r1 _, r2 _, ⟨l1, fun i hi => by simp [u8s] at hi⟩, ⟨l2, fun i hi => by simp [u8s] at hi⟩, by simp, by simp, qqm l1, fun b => by rw [qpq]; rfl⟩
 ·obtain ⟨v1, y1, L1, r1, rfl, i1⟩ := inner he hu hcu hz h1 0
  obtain ⟨v2, y2, L2, r2, rfl, i2⟩ := inner he hu hcu hz h2 1
  have hce : ∀ (l : List Nat) (z : List AV) (hz : z = u8s l) (j : Nat) (hzj : j < z.length) (hj : j < l.length), z[j] = .int .u8 (.ofNat l[j]) := fun l z hz j hzj hj => by subst hz; simp [u8s]
  obtain ⟨hHR, hwr⟩ := zbi (w := w) (ks := [r1, r2]) (fun i hi => by
   match i, hi with
   | 0, _ =>
    refine ⟨i1.low, fun j hj => ?_⟩
    have hj' : j < L1.length := by have := hj; rw [show ([r1, r2] : List Ro)[0] = r1 from rfl, i1.eq] at this; simpa [u8s] using this
    refine ⟨_, i1.cell j hj', ?_, rfl⟩
    show Rep _ r1.l[j] _
    rw [hce L1 r1.l i1.eq j hj hj']
    simp only [Rep]
   | 1, _ =>
    refine ⟨i2.low, fun j hj => ?_⟩
    have hj' : j < L2.length := by have := hj; rw [show ([r1, r2] : List Ro)[1] = r2 from rfl, i2.eq] at this; simpa [u8s] using this
    refine ⟨_, i2.cell j hj', ?_, rfl⟩
    show Rep _ r2.l[j] _
    rw [hce L2 r2.l i2.eq j hj hj']
    simp only [Rep])
  have hnx : (qyi [r1, r2]).nx = 2 := (qio [r1, r2]).1
  refine ⟨_, _, v1, v2, y1, y2, L1, L2, rfl, rfl, i1.one, hHR, i1.rep _ rfl, i2.rep _ rfl, ⟨by rw [i1.len]; simp [u8s], fun j hj => ?_⟩, ⟨by rw [i2.len]; simp [u8s], fun j hj => ?_⟩, i1.lt, i2.lt, qqm i1.len, hwr⟩
  ·have hj' : j < L1.length := by simpa [u8s] using hj
   refine ⟨0, j, i1.at' j hj', by omega, ?_⟩
   rw [(qio [r1, r2]).2]
   show qbt (qsg r1.l) j = _
   rw [qum, i1.eq, List.getElem?_eq_getElem hj]
  ·have hj' : j < L2.length := by simpa [u8s] using hj
   refine ⟨1, j, i2.at' j hj', by omega, ?_⟩
   rw [(qio [r1, r2]).2]
   show qbt (qsg r2.l) j = _
   rw [qum, i2.eq, List.getElem?_eq_getElem hj]
end Go.Di
end
