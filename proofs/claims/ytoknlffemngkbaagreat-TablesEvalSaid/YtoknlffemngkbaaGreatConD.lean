/-
 For TablesEval: functions in direct style, their contracts, and the plain mathematics, part 4 of 5. No conditions beyond those that each theorem states.
-/
import Derived.Test.YtoknlffemngkbaaGreatConC
set_option linter.unusedSimpArgs false
set_option linter.unusedVariables false
section
namespace Go.Di
open Go.Ev
variable {C : Nat → Ev.Call}
theorem q90 : qjn true (qml (.bool true) (.bool (decide (0 < 1)))) = .val (.bool false) := id rfl
theorem q5n : qjn true (qml (.bool false) (.bool (decide (0 < 0)))) = .val (.bool false) := id rfl
theorem qs3 (hC : qbi C) (hN : qhj C) {j : Nat} (hj : 15 ≤ j) {v : AV} {es : List TE} {f : Fo} {Hb : Hp} (ht : TbR Hb v es f) (hr : f.Rt Nm) (hn : es.length ≤ 32) {qr : AV → Hp → R1} {q : Hp → R1} {Q : AV → Hp → Prop} (hq : ∀ H, Fm No Hb H → Ok (q H) Q) :
  ∀ (k i : Nat) (H : Hp), i ≤ es.length → es.length - i < k → Fm No Hb H → Ok (qba (C j) qr q v (.int .i64 (.ofNat es.length)) k (.int .i64 (.ofNat (cntK ((f.kys 0).take i)))) (.int .i64 (.ofNat i)) H) Q
 | 0, i, _, _, h, _ => by omega
 | k + 1, i, H, hi, hk, hf => by
  show Ok (qko (C j) _ _ _ _ (qba (C j) _ _ _ _ k) _ _ H) Q
  unfold qko
  by_cases hlt : i < es.length
  ·simp (disch := first | omega | exact tr_i rfl | (simp only [qaa, qab]; done) | (simp only [qaa, qab]; omega)) only [go_sem, Nat.reduceAdd, Nat.reduceMul, Nat.reduceSub, Nat.reduceLeDiff, Nat.reduceEqDiff, Nat.reduceShiftRight, Nat.reduceAnd, hlt]
   obtain ⟨hkl, b, o, e, he, hok, e1, e2, e3⟩ := (ht.fm hf).node hr hlt
   have hcn : cntK ((f.kys 0).take i) ≤ 1000 := Nat.le_trans List.countP_le_length (by simp; omega)
   have ih := fun H' h' => qs3 hC hN hj ht hr hn (qr := qr) hq k (i + 1) H' (by omega) (by omega) h'
   rw [qvf _ _ hkl] at ih
   have hsp := hok.sp
   rw [he] at hsp
   simp only at hsp
   by_cases h4 : (f.kys 0)[i].1 < 4
   ·rw [if_pos h4] at e3 ih
    unfold qn1 at e3
    have h4t := eq_true (show (f.kys 0)[i].1 ≤ 3 by omega)
    simp (disch := first | omega | exact tr_i rfl | (simp only [qaa, qab]; done) | (simp only [qaa, qab]; omega)) only [go_sem, Nat.reduceAdd, Nat.reduceMul, Nat.reduceSub, Nat.reduceLeDiff, Nat.reduceEqDiff, Nat.reduceShiftRight, Nat.reduceAnd, e1, e3, h4t]
    rcases hsp with ⟨h3, hg⟩ | ⟨h3, hg⟩
    ·have h3t := eq_true h3
     have hl := hg.lenV
     simp (disch := first | omega | exact tr_i rfl | (simp only [qaa, qab]; done) | (simp only [qaa, qab]; omega)) only [go_sem, Nat.reduceAdd, Nat.reduceMul, Nat.reduceSub, Nat.reduceLeDiff, Nat.reduceEqDiff, Nat.reduceShiftRight, Nat.reduceAnd, h3t, hl, q90]
     have fx : Fm No H ((qaq H (qac 0 [.int .u8 (.ofNat 0), .str 0 0, .str 0 0, .nilsl, .nilsl, .int .i64 (.ofNat 0)])).put H.nx (qac 0 [.int .u8 (.ofNat (f.kys 0)[i].1), .str (f.kys 0)[i].2.1.n (f.kys 0)[i].2.1.a, .str (f.kys 0)[i].2.2.1.n (f.kys 0)[i].2.2.1.a, e.sp, e.av, .int .i64 (.ofNat (cntK ((f.kys 0).take i)))])) := by (repeat (first | exact Fm.refl _ _ | assumption | refine Fm.push ?_ _ | refine Fm.up2 ?_ (by (first | omega | (simp only [qaa, qab]; omega))) | refine Fm.put_new ?_ _ _ (by (first | omega | (simp only [qaa, qab]; omega)))))
     refine Ok.ve (q0e hC hN (k := j) hj (hg.no fx)) ?_
     rintro _ H2 ⟨rfl, f2⟩
     simp (disch := first | omega | exact tr_i rfl | (simp only [qaa, qab]; done) | (simp only [qaa, qab]; omega)) only [go_sem, Nat.reduceAdd, Nat.reduceMul, Nat.reduceSub, Nat.reduceLeDiff, Nat.reduceEqDiff, Nat.reduceShiftRight, Nat.reduceAnd]
     exact ih _ ((hf.trans fx).trans f2)
    ·rw [hg]
     simp (disch := first | omega | exact tr_i rfl | (simp only [qaa, qab]; done) | (simp only [qaa, qab]; omega)) only [go_sem, Nat.reduceAdd, Nat.reduceMul, Nat.reduceSub, Nat.reduceLeDiff, Nat.reduceEqDiff, Nat.reduceShiftRight, Nat.reduceAnd, h3, q5n]
     exact ih _ (hf.trans (by (repeat (first | exact Fm.refl _ _ | assumption | refine Fm.push ?_ _ | refine Fm.up2 ?_ (by (first | omega | (simp only [qaa, qab]; omega))) | refine Fm.put_new ?_ _ _ (by (first | omega | (simp only [qaa, qab]; omega)))))))
   ·rw [if_neg h4] at e3 ih
    unfold qn1 at e3
    have h4f : ¬ (f.kys 0)[i].1 ≤ 3 := by omega
    have h3 : ¬ (f.kys 0)[i].1 = 3 := by omega
    have hz : intV (qad .neq).f (.int .i64 (.negSucc 0)) (.int .i64 (.negSucc 0)) = .val (.bool false) := rfl
    simp (disch := first | omega | exact tr_i rfl | (simp only [qaa, qab]; done) | (simp only [qaa, qab]; omega)) only [go_sem, Nat.reduceAdd, Nat.reduceMul, Nat.reduceSub, Nat.reduceLeDiff, Nat.reduceEqDiff, Nat.reduceShiftRight, Nat.reduceAnd, e1, e3, h4f]
    rcases hsp with ⟨h3', hg⟩ | ⟨_, hg⟩
    ·exact absurd h3' h3
    ·rw [hg]
     simp (disch := first | omega | exact tr_i rfl | (simp only [qaa, qab]; done) | (simp only [qaa, qab]; omega)) only [go_sem, Nat.reduceAdd, Nat.reduceMul, Nat.reduceSub, Nat.reduceLeDiff, Nat.reduceEqDiff, Nat.reduceShiftRight, Nat.reduceAnd, h3, q5n, hz]
     exact ih _ (hf.trans (by (repeat (first | exact Fm.refl _ _ | assumption | refine Fm.push ?_ _ | refine Fm.up2 ?_ (by (first | omega | (simp only [qaa, qab]; omega))) | refine Fm.put_new ?_ _ _ (by (first | omega | (simp only [qaa, qab]; omega)))))))
  ·simp (disch := first | omega | exact tr_i rfl | (simp only [qaa, qab]; done) | (simp only [qaa, qab]; omega)) only [go_sem, Nat.reduceAdd, Nat.reduceMul, Nat.reduceSub, Nat.reduceLeDiff, Nat.reduceEqDiff, Nat.reduceShiftRight, Nat.reduceAnd, hlt]
   exact hq H hf
theorem qpv (hC : qbi C) (hN : qhj C) {k : Nat} (hk : 16 ≤ k) {H : Hp} {v : AV} {es : List TE} {f : Fo} (ht : TbR H v es f) (hf : f.Ok1) (hfl : f.isFl) :
  Ok (C k (.f qgf) [v] H) fun w H' => w = .int .i64 (.ofNat 0) ∧ Fm No H H' := by
 obtain ⟨j, rfl⟩ : ∃ j, k = j + 1 := ⟨k - 1, by omega⟩
 rw [(hC j).tables_Check]
 unfold tables_Check qli
 have hone := hf.one
 have hr := hf.rt
 have hd := hf.dp
 have hs := hf.sz
 have hls : es.length = f.size := by
  have := congrArg List.length ht.is
  rwa [List.length_map, Fo.nds_len] at this
 obtain ⟨kd, rl, to, a, hfe⟩ : ∃ kd rl to a, f = .cons kd rl to a .nil := by
  cases f with
  | nil => cases hone
  | cons k rl to a r =>
   cases r with
   | nil => exact ⟨_, _, _, _, rfl⟩
   | cons _ _ _ _ _ => simp [Fo.len] at hone
 have hk4 : kd < 4 → a = .nil := fun h4 => by
  subst hfe
  rcases hr.1 with h | h | h | h | h | h
  ·exact h.2.2.2
  ·exact h.2.2.2
  ·exact h.2.2.2
  ·omega
  ·omega
  ·omega
 have hsz : f.size = 1 + a.size := by rw [hfe]; simp only [Fo.size]; omega
 have hdp : a.depth + 1 ≤ 8 := by rw [hfe] at hd; simp only [Fo.depth] at hd; omega
 have hra : a.Rt Nm := by rw [hfe] at hr; exact hr.2.1
 obtain ⟨i, rfl⟩ : ∃ i, j = i + 1 := ⟨j - 1, by omega⟩
 refine Ok.ve (qz0 hC (q6c hC a) (j := i) (by omega) ht (by omega) (kd := kd) (p := 0) (c := 0) (rl := rl) (to := to) (pre := []) (post := []) (by rw [hfe]; simp) rfl hra hk4) ?_
 rintro _ H1 ⟨cs, rfl, c1, f1⟩
 rw [← hfe] at c1
 have c1' := c1
 obtain ⟨kd', rl', to', a', av, ca, hfe', rfl, g1, g2, g3⟩ := c1.one hone
 have hl := (ht.fm f1).gl.lenV
 have e0 : 0 + 1 + a.size = es.length := by omega
 rw [e0]
 simp (disch := first | omega | exact tr_i rfl | (simp only [qaa, qab]; done) | (simp only [qaa, qab]; omega)) only [go_sem, Nat.reduceAdd, Nat.reduceMul, Nat.reduceSub, Nat.reduceLeDiff, Nat.reduceEqDiff, Nat.reduceShiftRight, Nat.reduceAnd, hl]
 have fx : Fm No H1 ((qaq H1 (qac 0 [.int .u8 (.ofNat 0), .str 0 0, .str 0 0, .nilsl])).put H1.nx (qac 0 [.int .u8 (.ofNat kd'), .str rl'.n rl'.a, .str to'.n to'.a, av])) := by (repeat (first | exact Fm.refl _ _ | assumption | refine Fm.push ?_ _ | refine Fm.up2 ?_ (by (first | omega | (simp only [qaa, qab]; omega))) | refine Fm.put_new ?_ _ _ (by (first | omega | (simp only [qaa, qab]; omega)))))
 refine Ok.ve (qqg hC hN (k := i + 1) (by omega) (c1'.fm fx) hf) ?_
 rintro _ H2 ⟨rfl, f2⟩
 simp (disch := first | omega | exact tr_i rfl | (simp only [qaa, qab]; done) | (simp only [qaa, qab]; omega)) only [go_sem, Nat.reduceAdd, Nat.reduceMul, Nat.reduceSub, Nat.reduceLeDiff, Nat.reduceEqDiff, Nat.reduceShiftRight, Nat.reduceAnd]
 have k2 : H2.get H1.nx = qac 0 [.int .u8 (.ofNat kd'), .str rl'.n rl'.a, .str to'.n to'.a, av] := (f2.keep (by (first | omega | (simp only [qaa, qab]; omega)))).trans (qar _ _ _)
 have fA := fx.trans f2
 simp (disch := first | omega | exact tr_i rfl | (simp only [qaa, qab]; done) | (simp only [qaa, qab]; omega)) only [go_sem, Nat.reduceAdd, Nat.reduceMul, Nat.reduceSub, Nat.reduceLeDiff, Nat.reduceEqDiff, Nat.reduceShiftRight, Nat.reduceAnd, k2]
 refine Ok.ve (q8o hC hN (k := i + 1) (by omega) ((c1'.fm fA).mono fun _ _ _ => trivial) hf) ?_
 rintro _ H3 ⟨ds, rfl, c3, f3⟩
 rw [Fo.flat_flat f hfl] at c3
 have n2 := f2.nx
 have n3 := f3.nx
 simp only [qaa, qab] at n2
 have k3 := (f3.keep (show H1.nx < H2.nx by omega)).trans k2
 have c3' := c3
 obtain ⟨kd3, rl3, to3, a3, av3, ca3, hfe3, rfl, _, _, _⟩ := c3.one hone
 simp (disch := first | omega | exact tr_i rfl | (simp only [qaa, qab]; done) | (simp only [qaa, qab]; omega)) only [go_sem, Nat.reduceAdd, Nat.reduceMul, Nat.reduceSub, Nat.reduceLeDiff, Nat.reduceEqDiff, Nat.reduceShiftRight, Nat.reduceAnd, k3]
 have fy : Fm No H3 ((qaq H3 (qac 0 [.int .u8 (.ofNat 0), .str 0 0, .str 0 0, .nilsl])).put H3.nx (qac 0 [.int .u8 (.ofNat kd3), .str rl3.n rl3.a, .str to3.n to3.a, av3])) := by (repeat (first | exact Fm.refl _ _ | assumption | refine Fm.push ?_ _ | refine Fm.up2 ?_ (by (first | omega | (simp only [qaa, qab]; omega))) | refine Fm.put_new ?_ _ _ (by (first | omega | (simp only [qaa, qab]; omega)))))
 refine Ok.ve (q8m hC hN (k := i + 1) (by omega) (c3'.fm fy) (c1'.fm ((fA.trans f3).trans fy)) hf hf rfl) ?_
 rintro _ H4 ⟨rfl, f4⟩
 simp (disch := first | omega | exact tr_i rfl | (simp only [qaa, qab]; done) | (simp only [qaa, qab]; omega)) only [go_sem, Nat.reduceAdd, Nat.reduceMul, Nat.reduceSub, Nat.reduceLeDiff, Nat.reduceEqDiff, Nat.reduceShiftRight, Nat.reduceAnd]
 have f14 := ((((f1.trans fA).trans f3).trans fy).trans f4)
 have hl4 := (ht.fm f14).gl.lenV
 unfold qkp
 rw [qbc]
 refine qs3 hC hN (j := i + 1) (by omega) (ht.fm f14) hr (by omega) (fun H5 f5 => ?_) qaz 0 H4 (Nat.zero_le _) (by rw [qas]; omega) (Fm.refl _ _)
 exact Ok.ret ⟨rfl, f14.trans f5⟩
end Go.Di
end
section
namespace Go.Di
open Go.Ev
variable {C : Nat → Ev.Call}
def intz (l : List Int) : List AV := l.map (fun n => .int .i64 n)
theorem q38 (l : List Int) (i : Nat) (h : i < l.length) : (intz l)[i]? = some (.int .i64 l[i]) := by simp [intz, h]
def orI : List Int → Int
 | [] => 0
 | x :: l => if x = 0 then orI l else x
theorem q2x {call : Ev.Call} {H : Hp} {b m : Nat} {e : Bool} {q : Nat} {l : List Int} (h0 : H.get b = qac q (intz l)) (hl : l.length < 1000000) :
  ∀ (k i : Nat), i ≤ l.length → l.length - i < k → qgn call (fun x2 H => .ok x2 H) (fun H => qfg call (.int .i64 (.ofNat 0)) H) (.int .i64 (.ofNat 0)) (.sl b 0 l.length m e) (.int .i64 (.ofNat l.length)) k (.int .i64 (.ofNat i)) H = .ok (.int .i64 (orI (l.drop i))) H
 | 0, i, _, h => by omega
 | k + 1, i, hi, hk => by
  show qm8 call _ _ _ _ _ (qgn call _ _ _ _ _ k) _ H = _
  unfold qm8
  by_cases hlt : i < l.length
  ·simp (disch := omega) only [go_sem, hlt]
   unfold qm6
   have hd : l.drop i = l[i] :: l.drop (i + 1) := List.drop_eq_getElem_cons hlt
   simp (disch := omega) only [go_sem, h0, q38 _ _ hlt]
   rw [hd]
   show _ = R1.ok (.int .i64 (if l[i] = 0 then orI (l.drop (i + 1)) else l[i])) H
   by_cases hz : l[i] = Int.ofNat 0
   ·have hz' : l[i] = 0 := hz
    simp only [hz', go_sem]
    unfold qm7
    simp (disch := omega) only [go_sem]
    exact q2x h0 hl k (i + 1) (by omega) (by omega)
   ·have hz' : ¬ l[i] = 0 := hz
    simp only [hz, hz', go_sem]
  ·have hd : l.drop i = [] := List.drop_eq_nil_of_le (by omega)
   simp (disch := omega) only [go_sem, hlt]
   rw [hd]; rfl
theorem zbg (hC : qbi C) {k : Nat} (hk : 1 ≤ k) {H : Hp} {b m : Nat} {e : Bool} {q n : Nat} {l : List Int} (hn : l.length = n) (h0 : H.get b = qac q (intz l)) (hl : l.length < 1000000) :
  C k (.f qjx) [.sl b 0 n m e] H = .ok (.int .i64 (orI l)) H := by
 obtain ⟨j, rfl⟩ : ∃ j, k = j + 1 := ⟨k - 1, by omega⟩
 subst hn
 rw [(hC j).cmp_Or_int]
 unfold cmp_Or_int qn7 qm9
 simp only [go_sem]
 rw [qbc]
 exact q2x h0 hl _ 0 (Nat.zero_le _) (by rw [qas]; omega)
def obC (x : Nat) : List AV := [.str 1 (97 + x / 4), .str 1 (97 + x % 4)]
theorem qtr (x : Nat) : (obC x).length = 2 := rfl
def cN (x y : Nat) : Int := if x < y then .negSucc 0 else if y < x then .ofNat 1 else .ofNat 0
theorem q6i : ∀ (a b : Nat), a < 4 → b < 4 → strV (qh3 .lss).f (.str 1 (97 + a)) (.str 1 (97 + b)) = .val (.bool (decide (a < b))) := by
 intro a b ha hb
 match a, b, ha, hb with
 | 0, 0, _, _ | 0, 1, _, _ | 0, 2, _, _ | 0, 3, _, _ | 1, 0, _, _ | 1, 1, _, _ | 1, 2, _, _ | 1, 3, _, _ | 2, 0, _, _ | 2, 1, _, _ | 2, 2, _, _ | 2, 3, _, _ | 3, 0, _, _ | 3, 1, _, _ | 3, 2, _, _ | 3, 3, _, _ => rfl
theorem s_gtr : ∀ (a b : Nat), a < 4 → b < 4 → strV (qh3 .gtr).f (.str 1 (97 + a)) (.str 1 (97 + b)) = .val (.bool (decide (b < a))) := by
 intro a b ha hb
 match a, b, ha, hb with
 | 0, 0, _, _ | 0, 1, _, _ | 0, 2, _, _ | 0, 3, _, _ | 1, 0, _, _ | 1, 1, _, _ | 1, 2, _, _ | 1, 3, _, _ | 2, 0, _, _ | 2, 1, _, _ | 2, 2, _, _ | 2, 3, _, _ | 3, 0, _, _ | 3, 1, _, _ | 3, 2, _, _ | 3, 3, _, _ => rfl
theorem qwo (hC : qbi C) {k : Nat} (hk : 2 ≤ k) {a b : Nat} (ha : a < 4) (hb : b < 4) (H : Hp) : C k (.f qci) [.str 1 (97 + a), .str 1 (97 + b)] H = .ok (.int .i64 (cN a b)) H := by
 obtain ⟨j, rfl⟩ : ∃ j, k = j + 1 + 1 := ⟨k - 2, by omega⟩
 rw [(hC (j + 1)).cmp_Compare_string]
 unfold cmp_Compare_string qe3
 have h1 : ∀ x H, C (j + 1) (.f qbx) [.str 1 x] H = .ok (.bool false) H := fun x H => by
  rw [(hC j).cmp_isNaN_string]
  unfold cmp_isNaN_string qfy
  simp (disch := first | omega | exact tr_i rfl | (simp only [qaa, qab]; done) | (simp only [qaa, qab]; omega)) only [go_sem, Nat.reduceAdd, Nat.reduceMul, Nat.reduceSub, Nat.reduceLeDiff, Nat.reduceEqDiff, Nat.reduceShiftRight, Nat.reduceAnd]
  simp
 rw [h1]
 show ve (C (j + 1) (.f qbx) [.str 1 (97 + b)] H) _ = _
 rw [h1]
 simp (disch := first | omega | exact tr_i rfl | (simp only [qaa, qab]; done) | (simp only [qaa, qab]; omega)) only [go_sem, Nat.reduceAdd, Nat.reduceMul, Nat.reduceSub, Nat.reduceLeDiff, Nat.reduceEqDiff, Nat.reduceShiftRight, Nat.reduceAnd]
 unfold qes qet qeu qev
 have e1 := q6i a b ha hb
 have e2 := s_gtr a b ha hb
 unfold cN
 by_cases hl : a < b
 ·have hlt := eq_true hl
  simp (disch := first | omega | exact tr_i rfl | (simp only [qaa, qab]; done) | (simp only [qaa, qab]; omega)) only [go_sem, Nat.reduceAdd, Nat.reduceMul, Nat.reduceSub, Nat.reduceLeDiff, Nat.reduceEqDiff, Nat.reduceShiftRight, Nat.reduceAnd, e1, hlt, if_true]
 ·by_cases hg : b < a
  ·have hgt := eq_true hg
   simp (disch := first | omega | exact tr_i rfl | (simp only [qaa, qab]; done) | (simp only [qaa, qab]; omega)) only [go_sem, Nat.reduceAdd, Nat.reduceMul, Nat.reduceSub, Nat.reduceLeDiff, Nat.reduceEqDiff, Nat.reduceShiftRight, Nat.reduceAnd, e1, e2, hl, hgt, if_true, if_false]
  ·simp (disch := first | omega | exact tr_i rfl | (simp only [qaa, qab]; done) | (simp only [qaa, qab]; omega)) only [go_sem, Nat.reduceAdd, Nat.reduceMul, Nat.reduceSub, Nat.reduceLeDiff, Nat.reduceEqDiff, Nat.reduceShiftRight, Nat.reduceAnd, e1, e2, hl, hg, if_false]
theorem q9s (x y : Nat) (hx : x < 8) (hy : y < 8) : orI [cN (x / 4) (y / 4), cN (x % 4) (y % 4)] = cN x y := by
 unfold orI orI orI cN
 have e1 := Nat.div_add_mod x 4
 have e2 := Nat.div_add_mod y 4
 by_cases h1 : x / 4 < y / 4
 ·rw [if_pos h1, if_pos (show x < y by omega)]; rfl
 ·by_cases h2 : y / 4 < x / 4
  ·rw [if_neg h1, if_pos h2, if_neg (show ¬ x < y by omega), if_pos (show y < x by omega)]; rfl
  ·rw [if_neg h1, if_neg h2]
   by_cases h3 : x % 4 < y % 4
   ·rw [if_pos h3, if_pos (show x < y by omega)]; rfl
   ·by_cases h4 : y % 4 < x % 4
    ·rw [if_neg h3, if_pos h4, if_neg (show ¬ x < y by omega), if_pos (show y < x by omega)]; rfl
    ·rw [if_neg h3, if_neg h4, if_neg (show ¬ x < y by omega), if_neg (show ¬ y < x by omega)]; rfl
theorem q5y (hC : qbi C) {k : Nat} (hk : 3 ≤ k) {x y : Nat} (hx : x < 8) (hy : y < 8) (H : Hp) : Ok (C k (.f qd9) [.agg (obC x), .agg (obC y)] H) fun v H' => v = .int .i64 (cN x y) ∧ Fm No H H' := by
 obtain ⟨j, rfl⟩ : ∃ j, k = j + 1 := ⟨k - 1, by omega⟩
 rw [(hC j).tables_compare]
 unfold tables_compare qg9 obC
 have c1 := fun H => qwo hC (k := j) (by omega) (a := x / 4) (b := y / 4) (by omega) (by omega) H
 have c2 := fun H => qwo hC (k := j) (by omega) (a := x % 4) (b := y % 4) (by omega) (by omega) H
 simp (disch := first | omega | exact tr_i rfl | (simp only [qaa, qab]; done) | (simp only [qaa, qab]; omega)) only [go_sem, Nat.reduceAdd, Nat.reduceMul, Nat.reduceSub, Nat.reduceLeDiff, Nat.reduceEqDiff, Nat.reduceShiftRight, Nat.reduceAnd, c1, c2]
 refine Ok.deE (zbg hC (show 1 ≤ j by omega) (l := [cN (x / 4) (y / 4), cN (x % 4) (y % 4)]) rfl (qar _ _ _) (by simp)) ?_
 rw [q9s x y hx hy]
 simp (disch := first | omega | exact tr_i rfl | (simp only [qaa, qab]; done) | (simp only [qaa, qab]; omega)) only [go_sem, Nat.reduceAdd, Nat.reduceMul, Nat.reduceSub, Nat.reduceLeDiff, Nat.reduceEqDiff, Nat.reduceShiftRight, Nat.reduceAnd]
 exact Ok.ret ⟨rfl, by (repeat (first | exact Fm.refl _ _ | assumption | refine Fm.push ?_ _ | refine Fm.up2 ?_ (by (first | omega | (simp only [qaa, qab]; omega))) | refine Fm.put_new ?_ _ _ (by (first | omega | (simp only [qaa, qab]; omega)))))⟩
end Go.Di
end
section
namespace Go.Di
open Go.Ev
variable {C : Nat → Ev.Call}
structure Ob (H : Hp) (v : AV) (l : List Nat) : Prop where
 len : lenSl v = .val (.int .i64 (.ofNat l.length))
 gl : 0 < l.length → Gl 2 H v l.length (l.flatMap obC)
 lt : ∀ x ∈ l, x < 8
theorem Ob.fm {H H' : Hp} {v : AV} {l : List Nat} (h : Ob H v l) (f : Fm No H H') : Ob H' v l := ⟨h.len, fun h0 => (h.gl h0).no f, h.lt⟩
theorem Ob.nil (H : Hp) : Ob H .nilsl [] := ⟨rfl, fun h => absurd h (Nat.lt_irrefl 0), fun x hx => by cases hx⟩
theorem Ob.head {H : Hp} {v : AV} {x : Nat} {l : List Nat} (h : Ob H v (x :: l)) : ∃ b o, idxS 2 v (.int .i64 (.ofNat 0)) = .val (.ptr b o) ∧ b < H.nx ∧ qd6 (H.get b) o 2 = some [.str 1 (97 + x / 4), .str 1 (97 + x % 4)] := by
 obtain ⟨b, o, e1, e2, _, e3, _⟩ := ((h.gl (by simp)).rs qtr).at' 0 (by simp)
 exact ⟨b, o, e1, e2, e3⟩
theorem Ob.tail {H : Hp} {v : AV} {x : Nat} {l : List Nat} (h : Ob H v (x :: l)) : ∃ w, qfc 2 v (some (.int .i64 (.ofNat 1))) none none = .val w ∧ Ob H w l := by
 have hg := h.gl (by simp)
 have hl := hg.len
 have hlt : ∀ y ∈ l, y < 8 := fun y hy => h.lt y (List.mem_cons_of_mem _ hy)
 rcases hg.is with ⟨rfl, h0⟩ | ⟨b, o, e, q, L, hv, h1, h2, h3, h4, h5⟩
 ·simp at h0
 ·simp only [List.length_cons] at hv
  subst hv
  have e1 : qfc 2 (.sl b o (l.length + 1) (l.length + 1) e) (some (.int .i64 (.ofNat 1))) none none = mkSl b o 2 ⟨1, l.length + 1, l.length + 1⟩ e := by
   show (match bounds (l.length + 1) (l.length + 1) (some (.int .i64 (.ofNat 1))) none none with | some bd => mkSl b o 2 bd e | none => R0.bad) = _
   have : bounds (l.length + 1) (l.length + 1) (some (.int .i64 (.ofNat 1))) none none = some ⟨1, l.length + 1, l.length + 1⟩ := by
    show (match (bif Nat.ble 1 (l.length + 1) then some 1 else none) with | none => none | some m => some (Bd.mk m (l.length + 1) (l.length + 1))) = _
    rw [ble_eq, decide_eq_true (by omega)]; rfl
   rw [this]
  rw [e1]
  unfold mkSl
  simp only [beq_eq]
  by_cases hn : l.length = 0
  ·have hnl : l = [] := List.length_eq_zero_iff.1 hn
   subst hnl
   cases e with
   | true => exact ⟨_, rfl, rfl, fun h => absurd h (Nat.lt_irrefl 0), hlt⟩
   | false => exact ⟨_, rfl, rfl, fun h => absurd h (Nat.lt_irrefl 0), hlt⟩
  ·have hd : decide (l.length + 1 = 1) = false := by simp; exact fun h => hn (by simp [h])
   rw [hd]
   refine ⟨.sl b (o + 2) l.length l.length e, by show R0.val (.sl b (o + 1 * 2) (l.length + 1 - 1) (l.length + 1 - 1) e) = _; rw [Nat.add_sub_cancel, Nat.one_mul], rfl, fun _ => ⟨?_, .inr ⟨b, o + 2, e, q, L, rfl, h1, ?_, ?_, h4, h5⟩⟩, hlt⟩
   ·simp only [List.flatMap_cons, List.length_append, qtr, List.length_cons] at hl; omega
   ·have := congrArg List.length h3
    simp only [List.length_drop, List.flatMap_cons, List.length_append, qtr] at this
    omega
   ·rw [← List.drop_drop, h3]; rfl
theorem q79 {j : Nat} {g : AV → AV → AV → Hp → R1} {Q : AV → Hp → Prop} {f : Bool → Bool → Bool} {fid : FuncId} (hF : ∀ p q H, C j (.f fid) [.bool p, .bool q] H = .ok (.bool (f p q)) H) {H0 H : Hp} {fb nb x : Nat} {w : AV} {out : List Nat} {x0 x1 : AV} {c : Int} (hw : Ac 2 obC H0 H w out) (hfb : H.get fb = qac 0 [.fn fid [] []]) (hnb : H.get nb = qac 0 (obC x)) (hol : out.length ≤ 1000)
  (hg : ∀ w' H', Ac 2 obC H0 H' w' (out ++ if f (decide (c ≤ .ofNat 0)) (decide (.ofNat 0 ≤ c)) then [x] else []) → Ok (g x0 x1 w' H') Q) :
  Ok (qcw (C j) g x0 x1 (.ptr fb 0) w (.int .i64 c) (.ptr nb 0) H) Q := by
 unfold qcw
 unfold obC at hnb
 simp (disch := first | omega | exact tr_i rfl | (simp only [qaa, qab]; done) | (simp only [qaa, qab]; omega)) only [go_sem, Nat.reduceAdd, Nat.reduceMul, Nat.reduceSub, Nat.reduceLeDiff, Nat.reduceEqDiff, Nat.reduceShiftRight, Nat.reduceAnd, hfb, hF]
 cases hf : f (decide (c ≤ Int.ofNat 0)) (decide (Int.ofNat 0 ≤ c))
 ·rw [hf] at hg
  simp (disch := first | omega | exact tr_i rfl | (simp only [qaa, qab]; done) | (simp only [qaa, qab]; omega)) only [go_sem, Nat.reduceAdd, Nat.reduceMul, Nat.reduceSub, Nat.reduceLeDiff, Nat.reduceEqDiff, Nat.reduceShiftRight, Nat.reduceAnd]
  exact hg w H (by simpa using hw)
 ·rw [hf] at hg
  simp (disch := first | omega | exact tr_i rfl | (simp only [qaa, qab]; done) | (simp only [qaa, qab]; omega)) only [go_sem, Nat.reduceAdd, Nat.reduceMul, Nat.reduceSub, Nat.reduceLeDiff, Nat.reduceEqDiff, Nat.reduceShiftRight, Nat.reduceAnd, hnb]
  refine Ok.ve ((hw.no ((Fm.refl No H).push (qac 0 (obC x)))).add x 32 rfl (by omega) (by omega)) ?_
  intro w' H' hw'
  exact hg w' H' hw'
theorem qx0 (hC : qbi C) {j : Nat} (hj : 3 ≤ j) {f : Bool → Bool → Bool} {fid : FuncId} (hF : ∀ p q H, C j (.f fid) [.bool p, .bool q] H = .ok (.bool (f p q)) H) {H0 : Hp} {fb : Nat} (hfb : H0.get fb = qac 0 [.fn fid [] []]) (hfl : fb < H0.nx) {q : AV → Hp → R1} {Q : AV → Hp → Prop} {R : List Nat}
  (hq : ∀ w H, Ac 2 obC H0 H w R → Ok (q w H) Q) :
  ∀ (k : Nat) (la lb out : List Nat) (v0 v1 w : AV) (H : Hp), la.length + lb.length < k → la.length ≤ 100 → lb.length ≤ 100 → out.length + la.length + lb.length ≤ 1000 → Ob H0 v0 la → Ob H0 v1 lb → Ac 2 obC H0 H w out → out ++ mrg f la lb = R →
   Ok (qbr (C j) q (.ptr fb 0) k v0 v1 w H) Q
 | 0, la, lb, _, _, _, _, _, h, _, _, _, _, _, _, _ => by omega
 | k + 1, la, lb, out, v0, v1, w, H, hk, ha, hb, ho, h0, h1, hw, hR => by
  show Ok (qho (C j) _ _ (qbr (C j) _ _ k) _ _ _ H) Q
  unfold qho
  have l0 := h0.len
  have l1 := h1.len
  have n0 := hw.fm.nx
  have hfb' := (hw.fm.keep hfl).trans hfb
  have step : ∀ (la' lb' : List Nat) (u0 u1 : AV) (x nb : Nat) (c : Int) (HH : Hp), Fm No H HH → HH.get nb = qac 0 (obC x) → la'.length + lb'.length < k → la'.length ≤ 100 → lb'.length ≤ 100 → out.length + la'.length + lb'.length + 1 ≤ 1000 → Ob H0 u0 la' → Ob H0 u1 lb' →
    (out ++ (if f (decide (c ≤ .ofNat 0)) (decide (.ofNat 0 ≤ c)) then [x] else [])) ++ mrg f la' lb' = R → Ok (qcw (C j) (qbr (C j) q (.ptr fb 0) k) u0 u1 (.ptr fb 0) w (.int .i64 c) (.ptr nb 0) HH) Q := by
   intro la' lb' u0 u1 x nb c HH fH kH k1 k2 k3 k4 o0 o1 hr
   refine q79 hF (hw.no fH) ((fH.keep (by omega)).trans hfb') kH (by omega) fun w' H' hw' => ?_
   refine qx0 hC hj hF hfb hfl hq k la' lb' _ u0 u1 w' H' k1 k2 k3 ?_ o0 o1 hw' hr
   rw [List.length_append]
   split <;> simp <;> omega
  have fx : ∀ y, Fm No H ((qaq H (qac 0 [.str 0 0, .str 0 0])).put H.nx y) := fun y => by (repeat (first | exact Fm.refl _ _ | assumption | refine Fm.push ?_ _ | refine Fm.up2 ?_ (by (first | omega | (simp only [qaa, qab]; omega))) | refine Fm.put_new ?_ _ _ (by (first | omega | (simp only [qaa, qab]; omega)))))
  have fx0 : Fm No H (qaq H (qac 0 [.str 0 0, .str 0 0])) := by (repeat (first | exact Fm.refl _ _ | assumption | refine Fm.push ?_ _ | refine Fm.up2 ?_ (by (first | omega | (simp only [qaa, qab]; omega))) | refine Fm.put_new ?_ _ _ (by (first | omega | (simp only [qaa, qab]; omega)))))
  cases la with
  | nil =>
   cases lb with
   | nil =>
    simp only [List.length_nil] at l0 l1
    simp (disch := first | omega | exact tr_i rfl | (simp only [qaa, qab]; done) | (simp only [qaa, qab]; omega)) only [go_sem, Nat.reduceAdd, Nat.reduceMul, Nat.reduceSub, Nat.reduceLeDiff, Nat.reduceEqDiff, Nat.reduceShiftRight, Nat.reduceAnd, l0, l1]
    rw [mrg, List.append_nil] at hR
    exact hq w H (hR ▸ hw)
   | cons y lb =>
    simp only [List.length_cons, List.length_nil] at l0 l1 hk hb ho ha
    obtain ⟨b, o, e1, e2, e3⟩ := (h1.fm hw.fm).head
    obtain ⟨u, e4, e5⟩ := h1.tail
    simp (disch := first | omega | exact tr_i rfl | (simp only [qaa, qab]; done) | (simp only [qaa, qab]; omega)) only [go_sem, Nat.reduceAdd, Nat.reduceMul, Nat.reduceSub, Nat.reduceLeDiff, Nat.reduceEqDiff, Nat.reduceShiftRight, Nat.reduceAnd, l0, l1]
    unfold qea
    simp (disch := first | omega | exact tr_i rfl | (simp only [qaa, qab]; done) | (simp only [qaa, qab]; omega)) only [go_sem, Nat.reduceAdd, Nat.reduceMul, Nat.reduceSub, Nat.reduceLeDiff, Nat.reduceEqDiff, Nat.reduceShiftRight, Nat.reduceAnd, l0]
    unfold qbk
    have c1 : ¬ Int.ofNat 1 ≤ Int.ofNat 0 := by decide
    have c2 := eq_true (show Int.ofNat 0 ≤ Int.ofNat 1 by decide)
    simp (disch := first | omega | exact tr_i rfl | (simp only [qaa, qab]; done) | (simp only [qaa, qab]; omega)) only [go_sem, Nat.reduceAdd, Nat.reduceMul, Nat.reduceSub, Nat.reduceLeDiff, Nat.reduceEqDiff, Nat.reduceShiftRight, Nat.reduceAnd]
    unfold qbv
    simp (disch := first | omega | exact tr_i rfl | (simp only [qaa, qab]; done) | (simp only [qaa, qab]; omega)) only [go_sem, Nat.reduceAdd, Nat.reduceMul, Nat.reduceSub, Nat.reduceLeDiff, Nat.reduceEqDiff, Nat.reduceShiftRight, Nat.reduceAnd, e1, e3, e4]
    refine step [] lb v0 u y _ (.ofNat 1) _ (fx _) (qar _ _ _) (by simp; omega) (by simp) (by omega) (by simp; omega) h0 e5 ?_
    rw [← hR, mrg, List.append_assoc]; rfl
  | cons x la =>
   cases lb with
   | nil =>
    simp only [List.length_cons, List.length_nil] at l0 l1 hk hb ho ha
    obtain ⟨b, o, e1, e2, e3⟩ := (h0.fm hw.fm).head
    obtain ⟨u, e4, e5⟩ := h0.tail
    simp (disch := first | omega | exact tr_i rfl | (simp only [qaa, qab]; done) | (simp only [qaa, qab]; omega)) only [go_sem, Nat.reduceAdd, Nat.reduceMul, Nat.reduceSub, Nat.reduceLeDiff, Nat.reduceEqDiff, Nat.reduceShiftRight, Nat.reduceAnd, l0, l1]
    unfold qea
    simp (disch := first | omega | exact tr_i rfl | (simp only [qaa, qab]; done) | (simp only [qaa, qab]; omega)) only [go_sem, Nat.reduceAdd, Nat.reduceMul, Nat.reduceSub, Nat.reduceLeDiff, Nat.reduceEqDiff, Nat.reduceShiftRight, Nat.reduceAnd, l0, l1]
    unfold qbk
    have d1 : intV (qad .leq).f (.int .i64 (.negSucc 0)) (.int .i64 (.ofNat 0)) = .val (.bool true) := rfl
    have d2 : intV (qad .geq).f (.int .i64 (.negSucc 0)) (.int .i64 (.ofNat 0)) = .val (.bool false) := rfl
    have d3 : decide (Int.negSucc 0 ≤ Int.ofNat 0) = true := rfl
    have d4 : decide (Int.ofNat 0 ≤ Int.negSucc 0) = false := rfl
    simp (disch := first | omega | exact tr_i rfl | (simp only [qaa, qab]; done) | (simp only [qaa, qab]; omega)) only [go_sem, Nat.reduceAdd, Nat.reduceMul, Nat.reduceSub, Nat.reduceLeDiff, Nat.reduceEqDiff, Nat.reduceShiftRight, Nat.reduceAnd, e1, e3, e4, d3]
    unfold qbv
    simp (disch := first | omega | exact tr_i rfl | (simp only [qaa, qab]; done) | (simp only [qaa, qab]; omega)) only [go_sem, Nat.reduceAdd, Nat.reduceMul, Nat.reduceSub, Nat.reduceLeDiff, Nat.reduceEqDiff, Nat.reduceShiftRight, Nat.reduceAnd, d4]
    refine step la [] u v1 x _ (.negSucc 0) _ (fx _) (qar _ _ _) (by simp; omega) (by omega) (by simp) (by simp; omega) e5 h1 ?_
    rw [← hR, mrg, List.append_assoc]; rfl
   | cons y lb =>
    simp only [List.length_cons] at l0 l1 hk hb ho ha
    obtain ⟨b, o, e1, e2, e3⟩ := (h0.fm hw.fm).head
    obtain ⟨u, e4, e5⟩ := h0.tail
    obtain ⟨b', o', g1, g2, g3⟩ := (h1.fm hw.fm).head
    obtain ⟨u', g4, g5⟩ := h1.tail
    have hx := h0.lt x List.mem_cons_self
    have hy := h1.lt y List.mem_cons_self
    simp (disch := first | omega | exact tr_i rfl | (simp only [qaa, qab]; done) | (simp only [qaa, qab]; omega)) only [go_sem, Nat.reduceAdd, Nat.reduceMul, Nat.reduceSub, Nat.reduceLeDiff, Nat.reduceEqDiff, Nat.reduceShiftRight, Nat.reduceAnd, l0, l1]
    unfold qea
    simp (disch := first | omega | exact tr_i rfl | (simp only [qaa, qab]; done) | (simp only [qaa, qab]; omega)) only [go_sem, Nat.reduceAdd, Nat.reduceMul, Nat.reduceSub, Nat.reduceLeDiff, Nat.reduceEqDiff, Nat.reduceShiftRight, Nat.reduceAnd, l0, l1, e1, e3, g1, g3]
    refine Ok.deO (q5y hC (k := j) hj hx hy H) ?_
    rintro _ H2 ⟨rfl, f2⟩
    have n2 := f2.nx
    have e3' : qd6 (H2.get b) o 2 = some [.str 1 (97 + x / 4), .str 1 (97 + x % 4)] := by rw [f2.keep e2]; exact e3
    have g3' : qd6 (H2.get b') o' 2 = some [.str 1 (97 + y / 4), .str 1 (97 + y % 4)] := by rw [f2.keep g2]; exact g3
    have fy : ∀ z, Fm No H ((qaq H2 (qac 0 [.str 0 0, .str 0 0])).put H2.nx z) := fun z => (f2.push _).put_new _ _ n2
    have fy2 : ∀ z z', Fm No H (((qaq H2 (qac 0 [.str 0 0, .str 0 0])).put H2.nx z).put H2.nx z') := fun z z' => (fy z).put_new _ _ n2
    have d3 : decide (Int.negSucc 0 ≤ Int.ofNat 0) = true := rfl
    have d4 : decide (Int.ofNat 0 ≤ Int.negSucc 0) = false := rfl
    unfold cN
    by_cases hxy : x < y
    ·rw [if_pos hxy]
     simp (disch := first | omega | exact tr_i rfl | (simp only [qaa, qab]; done) | (simp only [qaa, qab]; omega)) only [go_sem, Nat.reduceAdd, Nat.reduceMul, Nat.reduceSub, Nat.reduceLeDiff, Nat.reduceEqDiff, Nat.reduceShiftRight, Nat.reduceAnd]
     unfold qbk
     simp (disch := first | omega | exact tr_i rfl | (simp only [qaa, qab]; done) | (simp only [qaa, qab]; omega)) only [go_sem, Nat.reduceAdd, Nat.reduceMul, Nat.reduceSub, Nat.reduceLeDiff, Nat.reduceEqDiff, Nat.reduceShiftRight, Nat.reduceAnd, e1, e3', e4, d3]
     unfold qbv
     simp (disch := first | omega | exact tr_i rfl | (simp only [qaa, qab]; done) | (simp only [qaa, qab]; omega)) only [go_sem, Nat.reduceAdd, Nat.reduceMul, Nat.reduceSub, Nat.reduceLeDiff, Nat.reduceEqDiff, Nat.reduceShiftRight, Nat.reduceAnd, d4]
     refine step la (y :: lb) u v1 x _ (.negSucc 0) _ (fy _) (qar _ _ _) (by simp; omega) (by omega) (by simp; omega) (by simp; omega) e5 h1 ?_
     rw [← hR, mrg, if_pos hxy, List.append_assoc]; rfl
    ·by_cases hyx : y < x
     ·rw [if_neg hxy, if_pos hyx]
      simp (disch := first | omega | exact tr_i rfl | (simp only [qaa, qab]; done) | (simp only [qaa, qab]; omega)) only [go_sem, Nat.reduceAdd, Nat.reduceMul, Nat.reduceSub, Nat.reduceLeDiff, Nat.reduceEqDiff, Nat.reduceShiftRight, Nat.reduceAnd]
      unfold qbk
      simp (disch := first | omega | exact tr_i rfl | (simp only [qaa, qab]; done) | (simp only [qaa, qab]; omega)) only [go_sem, Nat.reduceAdd, Nat.reduceMul, Nat.reduceSub, Nat.reduceLeDiff, Nat.reduceEqDiff, Nat.reduceShiftRight, Nat.reduceAnd]
      unfold qbv
      simp (disch := first | omega | exact tr_i rfl | (simp only [qaa, qab]; done) | (simp only [qaa, qab]; omega)) only [go_sem, Nat.reduceAdd, Nat.reduceMul, Nat.reduceSub, Nat.reduceLeDiff, Nat.reduceEqDiff, Nat.reduceShiftRight, Nat.reduceAnd, g1, g3', g4]
      refine step (x :: la) lb v0 u' y _ (.ofNat 1) _ (fy _) (qar _ _ _) (by simp; omega) (by simp; omega) (by omega) (by simp; omega) h0 g5 ?_
      rw [← hR, mrg, if_neg hxy, if_pos hyx, List.append_assoc]; rfl
     ·have hxe : x = y := by omega
      subst hxe
      rw [if_neg hxy, if_neg hyx]
      simp (disch := first | omega | exact tr_i rfl | (simp only [qaa, qab]; done) | (simp only [qaa, qab]; omega)) only [go_sem, Nat.reduceAdd, Nat.reduceMul, Nat.reduceSub, Nat.reduceLeDiff, Nat.reduceEqDiff, Nat.reduceShiftRight, Nat.reduceAnd]
      unfold qbk
      simp (disch := first | omega | exact tr_i rfl | (simp only [qaa, qab]; done) | (simp only [qaa, qab]; omega)) only [go_sem, Nat.reduceAdd, Nat.reduceMul, Nat.reduceSub, Nat.reduceLeDiff, Nat.reduceEqDiff, Nat.reduceShiftRight, Nat.reduceAnd, e1, e3', e4]
      unfold qbv
      simp (disch := first | omega | exact tr_i rfl | (simp only [qaa, qab]; done) | (simp only [qaa, qab]; omega)) only [go_sem, Nat.reduceAdd, Nat.reduceMul, Nat.reduceSub, Nat.reduceLeDiff, Nat.reduceEqDiff, Nat.reduceShiftRight, Nat.reduceAnd, g1, g3', g4]
      refine step la lb u u' x _ (.ofNat 0) _ (fy2 _ _) (qar _ _ _) (by omega) (by omega) (by omega) (by omega) e5 g5 ?_
      rw [← hR, mrg, if_neg hxy, if_neg hyx, List.append_assoc]; rfl
theorem za4 (hC : qbi C) {k : Nat} (hk : 4 ≤ k) {f : Bool → Bool → Bool} {fid : FuncId} (hF : ∀ j p q H, C (j + 1) (.f fid) [.bool p, .bool q] H = .ok (.bool (f p q)) H) {H : Hp} {fb : Nat} (hfb : H.get fb = qac 0 [.fn fid [] []]) (hfl : fb < H.nx) {la lb : List Nat} {v0 v1 : AV} (h0 : Ob H v0 la) (h1 : Ob H v1 lb) (ha : la.length ≤ 100) (hb : lb.length ≤ 100) (hlt : ∀ x ∈ mrg f la lb, x < 8) :
  Ok (C k (.f qb6) [v0, v1, .ptr fb 0] H) fun w H' => Ob H' w (mrg f la lb) ∧ Fm No H H' ∧ Gl 2 H' w (mrg f la lb).length ((mrg f la lb).flatMap obC) ∧ ∀ b, In w b → H.nx ≤ b := by
 obtain ⟨j, rfl⟩ : ∃ j, k = j + 1 + 1 := ⟨k - 2, by omega⟩
 rw [(hC (j + 1)).tables_chosen_1]
 unfold tables_chosen_1 qh6 qhp
 rw [qbc]
 refine qx0 hC (j := j + 1) (by omega) (hF j) hfb hfl (R := mrg f la lb) (fun w H' hw => ?_) qaz la lb [] v0 v1 .nilsl H (by rw [qas]; omega) ha hb (by simp; omega) h0 h1 (Ac.nil _ _ (Fm.refl _ _)) rfl
 unfold qbs
 exact Ok.ret ⟨⟨hw.lenV, fun _ => hw.gl, hlt⟩, hw.fm, hw.gl, hw.nw⟩
end Go.Di
end
section
namespace Go.Di
open Go.Ev
variable {C : Nat → Ev.Call}
def fB (k : Nat) (a b : Bool) : Bool := if k = 4 then a || b else if k = 5 then a && b else a && !b
theorem fB0 (k : Nat) : fB k false false = false := by unfold fB; split <;> (try split) <;> rfl
theorem qsb (k : Nat) : ∀ (l : List Bool) (x : Bool), Fo.cmb k (x :: l) = l.foldl (fB k) x
 | [], x => by
  show (if k = 4 then x || [].any id else if k = 5 then x && [].all id else x && ![].any id) = x
  simp
 | y :: l, x => by
  rw [List.foldl_cons, ← qsb k l]
  show (if k = 4 then x || (y :: l).any id else if k = 5 then x && (y :: l).all id else x && !(y :: l).any id) = (if k = 4 then fB k x y || l.any id else if k = 5 then fB k x y && l.all id else fB k x y && !l.any id)
  unfold fB
  by_cases h4 : k = 4
  ·simp [h4, Bool.or_assoc]
  ·by_cases h5 : k = 5
   ·simp [h5, Bool.and_assoc]
   ·simp [h4, h5, Bool.and_assoc]
theorem q2l (f : FuncId) (x y : List AV) : qh2 (.fn f x y) = some [.fn f x y] := id rfl
attribute [go_sem] q2l
def tvl (V : Nat → Nat → Bool) (k : Nat) (a : Fo) (c x : Nat) : Bool := if k < 4 then V c x else Fo.cmb k (a.vals (fun i => V i x) c)
structure VlR (R : Hp → AV → (Nat → Bool) → Prop) : Prop where
 fm : ∀ {H H' v p}, R H v p → Fm No H H' → R H' v p
 eq : ∀ {H v p q}, R H v p → (∀ x, p x = q x) → R H v q
variable {R : Hp → AV → (Nat → Bool) → Prop}
structure OpR (R : Hp → AV → (Nat → Bool) → Prop) (C : Nat → Ev.Call) (H0 : Hp) (gs : Nat → AV) : Prop where
 fn : ∀ k, 4 ≤ k → k ≤ 6 → ∃ f c, gs k = .fn f [] c ∧ eqF 64 (.fn f [] c) (.fn f [] c) = true
 op : ∀ k, 4 ≤ k → k ≤ 6 → ∀ j, 5 ≤ j → ∀ H u v p q, Fm No H0 H → R H u p → R H v q → Ok (qom (C j) (gs k) [u, v] H) fun w H' => R H' w (fun x => fB k (p x) (q x)) ∧ Fm No H H'
def FolH (R : Hp → AV → (Nat → Bool) → Prop) (C : Nat → Ev.Call) (kd : Nat) (a : Fo) : Prop :=
 ∀ (j : Nat), a.depth + 9 ≤ j → ∀ (F : Fo) (v vv : AV) (es : List TE) (H0 H : Hp) (p c n : Nat) (rl to : SS) (pre post : List TN) (V : Nat → Nat → Bool) (gs : Nat → AV), TbR H v es F → es.length ≤ 32 → F.nds 0 0 = pre ++ (Fo.cons kd rl to a .nil).nds p c ++ post → pre.length = p → (Fo.cons kd rl to a .nil).Rt Nm → OpR R C H0 gs → Fm No H0 H →
  (∀ i, i < n → ∃ b o w, idxS 1 vv (.int .i64 (.ofNat i)) = .val (.ptr b o) ∧ b < H0.nx ∧ qbt (H0.get b) o = .val w ∧ R H0 w (V i)) → c + (Fo.cons kd rl to a .nil).lv ≤ n →
  Ok (C j (.f qbo) [v, .int .i64 (.ofNat p), vv, .agg [gs 4, gs 5, gs 6]] H) fun w H' => R H' w (tvl V kd a c) ∧ Fm No H H'
def FolL (R : Hp → AV → (Nat → Bool) → Prop) (C : Nat → Ev.Call) (f : Fo) : Prop :=
 ∀ (j : Nat), f.depth + 8 ≤ j → ∀ (F : Fo) (v vv u sp av lf : AV) (es : List TE) (H0 H1 H : Hp) (p c n m i kd xb gb : Nat) (rl to : SS) (pre post : List TN) (V : Nat → Nat → Bool) (gs : Nat → AV) (w : AV) (pw : Nat → Bool) (d : List Nat) (q : AV → Hp → R1) (Q : AV → Hp → Prop) (k : Nat), TbR H1 v es F → es.length ≤ 32 → F.nds 0 0 = pre ++ f.nds p c ++ post → pre.length = p → f.Rt Nm → OpR R C H0 gs → Fm No H0 H1 → Fm No H1 H →
  (∀ i, i < n → ∃ b o w, idxS 1 vv (.int .i64 (.ofNat i)) = .val (.ptr b o) ∧ b < H0.nx ∧ qbt (H0.get b) o = .val w ∧ R H0 w (V i)) → c + f.lv ≤ n → m - i < k → m = i + f.len → d.length = i → m ≤ 1000 → 4 ≤ kd → kd ≤ 6 → (0 < m → Gl 1 H1 u m (ints (d ++ f.ixs p))) →
  H1.get xb = qac 0 [.int .u8 (.ofNat kd), .str rl.n rl.a, .str to.n to.a, sp, av, lf] → H1.get gb = qac 0 [gs 4, gs 5, gs 6] → xb < H1.nx → gb < H1.nx → R H w pw →
  (∀ w H, Fm No H1 H → R H w (fun x => (f.vals (fun i => V i x) c).foldl (fB kd) (pw x)) → Ok (q w H) Q) →
  Ok (qa4 (C j) q v vv (.ptr gb 0) (.ptr xb 0) u (.int .i64 (.ofNat m)) k w (.int .i64 (.ofNat i)) H) Q
theorem q4f (hR : VlR R) {k1 : Nat} {r1 t1 : SS} {a r : Fo} (hH : FolH R C k1 a) (hL : FolL R C r) : FolL R C (.cons k1 r1 t1 a r) := by
 intro j hj F v vv u sp av lf es H0 H1 H p c n m i kd xb gb rl to pre post V gs w pw d q Q k ht hes hF hp hr hO f01 f1 hV hc hk hm hd hmm h4 h6 hu hx hg hxl hgl hw hq
 obtain ⟨k, rfl⟩ : ∃ m, k = m + 1 := ⟨k - 1, by omega⟩
 show Ok (qb1 (C j) _ _ _ _ _ _ _ (qa4 (C j) _ _ _ _ _ _ _ k) _ _ H) Q
 unfold qb1
 simp only [Fo.len] at hm
 simp only [Fo.depth] at hj
 have hlt : i < m := by omega
 obtain ⟨b, o, e1, e2, _, e3⟩ := ((hu (by omega)).no f1).at (i := i) (x := .int .i64 (.ofNat p)) (by simp [ints, Fo.ixs, ← hd])
 obtain ⟨f4, c4, g4, q4⟩ := hO.fn 4 (by omega) (by omega)
 obtain ⟨f5, c5, g5, q5⟩ := hO.fn 5 (by omega) (by omega)
 obtain ⟨f6, c6, g6, q6⟩ := hO.fn 6 (by omega) (by omega)
 have hx' := (f1.keep hxl).trans hx
 have hg' := (f1.keep hgl).trans hg
 rw [g4, g5, g6] at hg'
 simp (disch := first | omega | exact tr_i rfl | (simp only [qaa, qab]; done) | (simp only [qaa, qab]; omega)) only [go_sem, Nat.reduceAdd, Nat.reduceMul, Nat.reduceSub, Nat.reduceLeDiff, Nat.reduceEqDiff, Nat.reduceShiftRight, Nat.reduceAnd, hlt]
 unfold qel
 have call := hH j (by omega) F v vv es H0 H p c n r1 t1 pre (r.nds (p + 1 + a.size) (c + if k1 < 4 then 1 else a.lv) ++ post) V gs (ht.fm f1) hes (by rw [hF, Fo.nds, Fo.nds, Fo.nds]; simp) hp ⟨hr.1, hr.2.1, trivial⟩ hO (f01.trans f1) hV (by simp only [Fo.lv] at hc ⊢; omega)
 rw [g4, g5, g6] at call
 have hkd : kd = 4 ∨ kd = 5 ∨ kd = 6 := by omega
 have s4 : intV (qad .sub).f (.int .u8 (.ofNat 4)) (.int .u8 (.ofNat 4)) = .val (.int .u8 (.ofNat 0)) := rfl
 have s5 : intV (qad .sub).f (.int .u8 (.ofNat 5)) (.int .u8 (.ofNat 4)) = .val (.int .u8 (.ofNat 1)) := rfl
 have s6 : intV (qad .sub).f (.int .u8 (.ofNat 6)) (.int .u8 (.ofNat 4)) = .val (.int .u8 (.ofNat 2)) := rfl
 have fin : ∀ (w3 : AV) (H3 : Hp), R H3 w3 (fun x => fB kd (pw x) (tvl V k1 a c x)) → Fm No H H3 → Ok (qa4 (C j) q v vv (.ptr gb 0) (.ptr xb 0) u (.int .i64 (.ofNat m)) k w3 (.int .i64 (.ofNat (i + 1))) H3) Q := by
  intro w3 H3 r3 f3
  have e9 : d ++ (Fo.cons k1 r1 t1 a r).ixs p = (d ++ [p]) ++ r.ixs (p + 1 + a.size) := by simp [Fo.ixs]
  rw [e9] at hu
  refine hL j (by omega) F v vv u sp av lf es H0 H1 H3 (p + 1 + a.size) (c + if k1 < 4 then 1 else a.lv) n m (i + 1) kd xb gb rl to (pre ++ (Fo.cons k1 r1 t1 a .nil).nds p c) post V gs w3 _ (d ++ [p]) q Q k ht hes (by rw [hF, Fo.nds, Fo.nds, Fo.nds]; simp) (by rw [List.length_append, Fo.nds_len, hp]; simp only [Fo.size]; omega) hr.2.2 hO f01 (f1.trans f3) hV (by simp only [Fo.lv] at hc; omega) (by omega) (by omega) (by simp [hd]) hmm h4 h6 hu hx hg hxl hgl r3 fun w4 H4 f4 r4 => hq w4 H4 f4 (hR.eq r4 fun x => ?_)
  rw [Fo.vals, List.foldl_cons]; rfl
 have n1 := f1.nx
 rcases hkd with rfl | rfl | rfl
 ·simp (disch := first | omega | exact tr_i rfl | (simp only [qaa, qab]; done) | (simp only [qaa, qab]; omega)) only [go_sem, Nat.reduceAdd, Nat.reduceMul, Nat.reduceSub, Nat.reduceLeDiff, Nat.reduceEqDiff, Nat.reduceShiftRight, Nat.reduceAnd, e1, e3, hx', hg', s4]
  refine Ok.deO call ?_
  rintro w2 H2 ⟨r2, f2⟩
  have hx2 := (f2.keep (show xb < H.nx by omega)).trans hx'
  have hg2 := (f2.keep (show gb < H.nx by omega)).trans hg'
  have op := hO.op 4 (by omega) (by omega) j (by omega) H2 w w2 pw _ ((f01.trans f1).trans f2) (hR.fm hw f2) r2
  rw [g4] at op
  simp (disch := first | omega | exact tr_i rfl | (simp only [qaa, qab]; done) | (simp only [qaa, qab]; omega)) only [go_sem, Nat.reduceAdd, Nat.reduceMul, Nat.reduceSub, Nat.reduceLeDiff, Nat.reduceEqDiff, Nat.reduceShiftRight, Nat.reduceAnd, hx2, hg2, q4]
  refine Ok.deO op ?_
  rintro w3 H3 ⟨r3, f3⟩
  simp (disch := first | omega | exact tr_i rfl | (simp only [qaa, qab]; done) | (simp only [qaa, qab]; omega)) only [go_sem, Nat.reduceAdd, Nat.reduceMul, Nat.reduceSub, Nat.reduceLeDiff, Nat.reduceEqDiff, Nat.reduceShiftRight, Nat.reduceAnd]
  unfold qb0
  simp (disch := first | omega | exact tr_i rfl | (simp only [qaa, qab]; done) | (simp only [qaa, qab]; omega)) only [go_sem, Nat.reduceAdd, Nat.reduceMul, Nat.reduceSub, Nat.reduceLeDiff, Nat.reduceEqDiff, Nat.reduceShiftRight, Nat.reduceAnd]
  exact fin w3 H3 r3 (f2.trans f3)
 ·simp (disch := first | omega | exact tr_i rfl | (simp only [qaa, qab]; done) | (simp only [qaa, qab]; omega)) only [go_sem, Nat.reduceAdd, Nat.reduceMul, Nat.reduceSub, Nat.reduceLeDiff, Nat.reduceEqDiff, Nat.reduceShiftRight, Nat.reduceAnd, e1, e3, hx', hg', s5]
  refine Ok.deO call ?_
  rintro w2 H2 ⟨r2, f2⟩
  have hx2 := (f2.keep (show xb < H.nx by omega)).trans hx'
  have hg2 := (f2.keep (show gb < H.nx by omega)).trans hg'
  have op := hO.op 5 (by omega) (by omega) j (by omega) H2 w w2 pw _ ((f01.trans f1).trans f2) (hR.fm hw f2) r2
  rw [g5] at op
  simp (disch := first | omega | exact tr_i rfl | (simp only [qaa, qab]; done) | (simp only [qaa, qab]; omega)) only [go_sem, Nat.reduceAdd, Nat.reduceMul, Nat.reduceSub, Nat.reduceLeDiff, Nat.reduceEqDiff, Nat.reduceShiftRight, Nat.reduceAnd, hx2, hg2, q5]
  refine Ok.deO op ?_
  rintro w3 H3 ⟨r3, f3⟩
  simp (disch := first | omega | exact tr_i rfl | (simp only [qaa, qab]; done) | (simp only [qaa, qab]; omega)) only [go_sem, Nat.reduceAdd, Nat.reduceMul, Nat.reduceSub, Nat.reduceLeDiff, Nat.reduceEqDiff, Nat.reduceShiftRight, Nat.reduceAnd]
  unfold qb0
  simp (disch := first | omega | exact tr_i rfl | (simp only [qaa, qab]; done) | (simp only [qaa, qab]; omega)) only [go_sem, Nat.reduceAdd, Nat.reduceMul, Nat.reduceSub, Nat.reduceLeDiff, Nat.reduceEqDiff, Nat.reduceShiftRight, Nat.reduceAnd]
  exact fin w3 H3 r3 (f2.trans f3)
 ·simp (disch := first | omega | exact tr_i rfl | (simp only [qaa, qab]; done) | (simp only [qaa, qab]; omega)) only [go_sem, Nat.reduceAdd, Nat.reduceMul, Nat.reduceSub, Nat.reduceLeDiff, Nat.reduceEqDiff, Nat.reduceShiftRight, Nat.reduceAnd, e1, e3, hx', hg', s6]
  refine Ok.deO call ?_
  rintro w2 H2 ⟨r2, f2⟩
  have hx2 := (f2.keep (show xb < H.nx by omega)).trans hx'
  have hg2 := (f2.keep (show gb < H.nx by omega)).trans hg'
  have op := hO.op 6 (by omega) (by omega) j (by omega) H2 w w2 pw _ ((f01.trans f1).trans f2) (hR.fm hw f2) r2
  rw [g6] at op
  simp (disch := first | omega | exact tr_i rfl | (simp only [qaa, qab]; done) | (simp only [qaa, qab]; omega)) only [go_sem, Nat.reduceAdd, Nat.reduceMul, Nat.reduceSub, Nat.reduceLeDiff, Nat.reduceEqDiff, Nat.reduceShiftRight, Nat.reduceAnd, hx2, hg2, q6]
  refine Ok.deO op ?_
  rintro w3 H3 ⟨r3, f3⟩
  simp (disch := first | omega | exact tr_i rfl | (simp only [qaa, qab]; done) | (simp only [qaa, qab]; omega)) only [go_sem, Nat.reduceAdd, Nat.reduceMul, Nat.reduceSub, Nat.reduceLeDiff, Nat.reduceEqDiff, Nat.reduceShiftRight, Nat.reduceAnd]
  unfold qb0
  simp (disch := first | omega | exact tr_i rfl | (simp only [qaa, qab]; done) | (simp only [qaa, qab]; omega)) only [go_sem, Nat.reduceAdd, Nat.reduceMul, Nat.reduceSub, Nat.reduceLeDiff, Nat.reduceEqDiff, Nat.reduceShiftRight, Nat.reduceAnd]
  exact fin w3 H3 r3 (f2.trans f3)
theorem q7k : FolL R C .nil := by
 intro j hj F v vv u sp av lf es H0 H1 H p c n m i kd xb gb rl to pre post V gs w pw d q Q k ht hes hF hp hr hO f01 f1 hV hc hk hm hd hmm h4 h6 hu hx hg hxl hgl hw hq
 obtain ⟨k, rfl⟩ : ∃ m, k = m + 1 := ⟨k - 1, by omega⟩
 show Ok (qb1 (C j) _ _ _ _ _ _ _ (qa4 (C j) _ _ _ _ _ _ _ k) _ _ H) Q
 unfold qb1
 simp only [Fo.len] at hm
 have hlt : ¬ i < m := by omega
 simp (disch := first | omega | exact tr_i rfl | (simp only [qaa, qab]; done) | (simp only [qaa, qab]; omega)) only [go_sem, Nat.reduceAdd, Nat.reduceMul, Nat.reduceSub, Nat.reduceLeDiff, Nat.reduceEqDiff, Nat.reduceShiftRight, Nat.reduceAnd, hlt]
 exact hq w H f1 hw
theorem geqN (c : Nat) : intV (qad .geq).f (.int .i64 (.ofNat c)) (.int .i64 (.ofNat 0)) = .val (.bool true) := by
 show R0.val (.bool (!ltI (.ofNat c) (.ofNat 0))) = _
 rw [qnb, decide_eq_false (by simp)]; rfl
theorem qxq (hC : qbi C) (hR : VlR R) {kd : Nat} {a : Fo} (hH : ∀ k1 r1 t1 a1 r, a = .cons k1 r1 t1 a1 r → FolH R C k1 a1 ∧ FolL R C r) : FolH R C kd a := by
 intro j hj F v vv es H0 H p c n rl to pre post V gs ht hes hF hp hr hO f01 hV hc
 obtain ⟨j, rfl⟩ : ∃ m, j = m + 1 := ⟨j - 1, by omega⟩
 rw [(hC j).tables_fold_api_Object]
 unfold tables_fold_api_Object qe4
 have hat : (F.nds 0 0)[p]? = some ⟨kd, rl, to, a.ixs (p + 1), if kd < 4 then some c else none⟩ := by
  rw [hF, List.append_assoc, List.getElem?_append_right (by omega), hp, Nat.sub_self]; rfl
 obtain ⟨b, o, e, hi, he, hok, e1, e2, e3⟩ := ht.at hat
 have hgl := hok.gl
 rw [he, Fo.ixs_len] at hgl
 simp only at hgl e3
 obtain ⟨f4, c4, g4, q4⟩ := hO.fn 4 (by omega) (by omega)
 obtain ⟨f5, c5, g5, q5⟩ := hO.fn 5 (by omega) (by omega)
 obtain ⟨f6, c6, g6, q6⟩ := hO.fn 6 (by omega) (by omega)
 have hO' := hO
 rw [g4, g5, g6]
 by_cases hk : kd < 4
 ·rw [if_pos hk] at e3
  have hcn : c < n := by simp only [Fo.lv, if_pos hk] at hc; omega
  obtain ⟨b1, o1, w, v1, v2, v3, v4⟩ := hV c hcn
  have v3' : qbt (H.get b1) o1 = .val w := by rw [f01.keep v2]; exact v3
  have n0 := f01.nx
  unfold qn1 at e3
  simp (disch := first | omega | exact tr_i rfl | (simp only [qaa, qab]; done) | (simp only [qaa, qab]; omega)) only [go_sem, Nat.reduceAdd, Nat.reduceMul, Nat.reduceSub, Nat.reduceLeDiff, Nat.reduceEqDiff, Nat.reduceShiftRight, Nat.reduceAnd, e1, e3, geqN, v1, v3']
  refine Ok.ret ⟨hR.eq (hR.fm v4 (f01.trans (by (repeat (first | exact Fm.refl _ _ | assumption | refine Fm.push ?_ _ | refine Fm.up2 ?_ (by (first | omega | (simp only [qaa, qab]; omega))) | refine Fm.put_new ?_ _ _ (by (first | omega | (simp only [qaa, qab]; omega)))))))) fun x => ?_, by (repeat (first | exact Fm.refl _ _ | assumption | refine Fm.push ?_ _ | refine Fm.up2 ?_ (by (first | omega | (simp only [qaa, qab]; omega))) | refine Fm.put_new ?_ _ _ (by (first | omega | (simp only [qaa, qab]; omega)))))⟩
  unfold tvl
  rw [if_pos hk]
 ·rw [if_neg hk] at e3
  unfold qn1 at e3
  have hgn : intV (qad .geq).f (.int .i64 (.negSucc 0)) (.int .i64 (.ofNat 0)) = .val (.bool false) := rfl
  have h46 : 4 ≤ kd ∧ kd ≤ 6 ∧ 2 ≤ a.len := by rcases hr.1 with h | h | h | h | h | h <;> omega
  obtain ⟨k1, r1, t1, a1, r, hae⟩ : ∃ k1 r1 t1 a1 r, a = .cons k1 r1 t1 a1 r := by
   cases a with
   | nil => simp [Fo.len] at h46
   | cons k rl to a r => exact ⟨_, _, _, _, _, rfl⟩
  obtain ⟨h1, h2⟩ := hH k1 r1 t1 a1 r hae
  subst hae
  simp only [Fo.depth] at hj
  have hsz : p + 1 + r.size ≤ 32 := by
   have := congrArg List.length hF
   rw [show (F.nds 0 0).length = es.length by rw [← ht.is, List.length_map], List.length_append, List.length_append, Fo.nds_len, hp] at this
   simp only [Fo.size] at this
   omega
  have hra := hr.2.1
  have hal : (Fo.cons k1 r1 t1 a1 r).len = r.len + 1 := rfl
  simp (disch := first | omega | exact tr_i rfl | (simp only [qaa, qab]; done) | (simp only [qaa, qab]; omega)) only [go_sem, Nat.reduceAdd, Nat.reduceMul, Nat.reduceSub, Nat.reduceLeDiff, Nat.reduceEqDiff, Nat.reduceShiftRight, Nat.reduceAnd, e1, e3, hgn]
  unfold qek
  obtain ⟨HB, hHB⟩ : ∃ HB, HB = ((qaq (qaq H (qac 0 [.fn f4 [] c4, .fn f5 [] c5, .fn f6 [] c6])) (qac 0 [.int .u8 (.ofNat 0), .str 0 0, .str 0 0, .nilsl, .nilsl, .int .i64 (.ofNat 0)])).put (H.nx + 1) (qac 0 [.int .u8 (.ofNat kd), .str rl.n rl.a, .str to.n to.a, e.sp, e.av, .int .i64 (.negSucc 0)])) := ⟨_, rfl⟩
  rw [← hHB]
  have fB : Fm No H HB := by rw [hHB]; (repeat (first | exact Fm.refl _ _ | assumption | refine Fm.push ?_ _ | refine Fm.up2 ?_ (by (first | omega | (simp only [qaa, qab]; omega))) | refine Fm.put_new ?_ _ _ (by (first | omega | (simp only [qaa, qab]; omega)))))
  have nB : HB.nx = H.nx + 1 + 1 := by rw [hHB]; simp only [qab, qaa]
  have kx : HB.get (H.nx + 1) = qac 0 [.int .u8 (.ofNat kd), .str rl.n rl.a, .str to.n to.a, e.sp, e.av, .int .i64 (.negSucc 0)] := by rw [hHB]; exact qar _ _ _
  have kg : HB.get H.nx = qac 0 [.fn f4 [] c4, .fn f5 [] c5, .fn f6 [] c6] := by rw [hHB]; simp (disch := first | omega | exact tr_i rfl | (simp only [qaa, qab]; done) | (simp only [qaa, qab]; omega)) only [go_sem, Nat.reduceAdd, Nat.reduceMul, Nat.reduceSub, Nat.reduceLeDiff, Nat.reduceEqDiff, Nat.reduceShiftRight, Nat.reduceAnd]
  have hix : (ints ((Fo.cons k1 r1 t1 a1 r).ixs (p + 1))) = .int .i64 (.ofNat (p + 1)) :: ints (r.ixs (p + 1 + 1 + a1.size)) := rfl
  rw [hix, hal] at hgl
  obtain ⟨b2, o2, i1, i2, _, i3⟩ := (hgl.no fB).head
  have call := h1 (j) (by omega) F v vv es H0 HB (p + 1) c n r1 t1 (pre ++ [⟨kd, rl, to, (Fo.cons k1 r1 t1 a1 r).ixs (p + 1), none⟩]) (r.nds (p + 1 + 1 + a1.size) (c + if k1 < 4 then 1 else a1.lv) ++ post) V gs (ht.fm fB) hes (by rw [hF]; simp [Fo.nds, hk]) (by simp [hp]) ⟨hra.1, hra.2.1, trivial⟩ hO (f01.trans fB) hV (by simp only [Fo.lv, if_neg hk] at hc ⊢; omega)
  rw [g4, g5, g6] at call
  simp (disch := first | omega | exact tr_i rfl | (simp only [qaa, qab]; done) | (simp only [qaa, qab]; omega)) only [go_sem, Nat.reduceAdd, Nat.reduceMul, Nat.reduceSub, Nat.reduceLeDiff, Nat.reduceEqDiff, Nat.reduceShiftRight, Nat.reduceAnd, kx, kg, i1, i3]
  refine Ok.deO call ?_
  rintro w2 H2 ⟨r2, f2⟩
  have kx2 := (f2.keep (show H.nx + 1 < HB.nx by omega)).trans kx
  have kg2 := (f2.keep (show H.nx < HB.nx by omega)).trans kg
  have hgl2 := (hgl.no (fB.trans f2))
  obtain ⟨u, j1, j2, j3, _⟩ := hgl2.tail
  simp (disch := first | omega | exact tr_i rfl | (simp only [qaa, qab]; done) | (simp only [qaa, qab]; omega)) only [go_sem, Nat.reduceAdd, Nat.reduceMul, Nat.reduceSub, Nat.reduceLeDiff, Nat.reduceEqDiff, Nat.reduceShiftRight, Nat.reduceAnd, kx2, j1, j2]
  unfold qem
  rw [qbc]
  refine h2 j (by omega) F v vv u e.sp e.av (.int .i64 (.negSucc 0)) es H0 H2 H2 (p + 1 + 1 + a1.size) (c + if k1 < 4 then 1 else a1.lv) n r.len 0 kd (H.nx + 1) H.nx rl to (pre ++ [⟨kd, rl, to, (Fo.cons k1 r1 t1 a1 r).ixs (p + 1), none⟩] ++ (Fo.cons k1 r1 t1 a1 .nil).nds (p + 1) c) post V gs w2 _ [] _ _ qaz (ht.fm (fB.trans f2)) hes (by rw [hF]; simp [Fo.nds, hk]) (by simp [hp, Fo.nds_len, Fo.size]; omega) hra.2.2 hO (f01.trans (fB.trans f2)) (Fm.refl _ _) hV (by simp only [Fo.lv, if_neg hk] at hc; omega) (by have := Fo.len_size r; rw [qas]; omega) (by omega) rfl (by have := Fo.len_size r; omega) h46.1 h46.2.1 (fun h0 => j3 h0) kx2 (by rw [kg2, g4, g5, g6]) (by have := f2.nx; omega) (by have := f2.nx; omega) r2 fun w4 H4 f5 r4 => ?_
  unfold qa9
  refine Ok.ret ⟨hR.eq r4 fun x => ?_, (fB.trans f2).trans f5⟩
  unfold tvl
  rw [if_neg hk, Fo.vals, qsb]
theorem q7l (hC : qbi C) (hR : VlR R) : ∀ f : Fo, (∀ k1 r1 t1 a1 r, f = .cons k1 r1 t1 a1 r → FolH R C k1 a1 ∧ FolL R C r) ∧ FolL R C f := by
 intro f
 induction f with
 | nil => exact ⟨fun _ _ _ _ _ h => (by cases h), q7k⟩
 | cons k rl to a r iha ihr =>
  have h1 : FolH R C k a := qxq hC hR iha.1
  exact ⟨fun k1 r1 t1 a1 r' h => by cases h; exact ⟨h1, ihr.2⟩, q4f hR h1 ihr.2⟩
end Go.Di
end
section
namespace Go.Di
open Go.Ev
variable {C : Nat → Ev.Call}
variable {R : Hp → AV → (Nat → Bool) → Prop}
def FblH (R : Hp → AV → (Nat → Bool) → Prop) (C : Nat → Ev.Call) (kd : Nat) (a : Fo) : Prop :=
 ∀ (j : Nat), a.depth + 9 ≤ j → ∀ (F : Fo) (v vv : AV) (es : List TE) (H0 H : Hp) (p c n : Nat) (rl to : SS) (pre post : List TN) (V : Nat → Nat → Bool) (gs : Nat → AV), TbR H v es F → es.length ≤ 32 → F.nds 0 0 = pre ++ (Fo.cons kd rl to a .nil).nds p c ++ post → pre.length = p → (Fo.cons kd rl to a .nil).Rt Nm → OpR R C H0 gs → Fm No H0 H →
  (∀ i, i < n → ∃ b o w, idxS 1 vv (.int .i64 (.ofNat i)) = .val (.ptr b o) ∧ b < H0.nx ∧ qbt (H0.get b) o = .val w ∧ R H0 w (V i)) → c + (Fo.cons kd rl to a .nil).lv ≤ n →
  Ok (C j (.f qde) [v, .int .i64 (.ofNat p), vv, .agg [gs 4, gs 5, gs 6]] H) fun w H' => R H' w (tvl V kd a c) ∧ Fm No H H'
def FblL (R : Hp → AV → (Nat → Bool) → Prop) (C : Nat → Ev.Call) (f : Fo) : Prop :=
 ∀ (j : Nat), f.depth + 8 ≤ j → ∀ (F : Fo) (v vv u sp av lf : AV) (es : List TE) (H0 H1 H : Hp) (p c n m i kd xb gb : Nat) (rl to : SS) (pre post : List TN) (V : Nat → Nat → Bool) (gs : Nat → AV) (w : AV) (pw : Nat → Bool) (d : List Nat) (q : AV → Hp → R1) (Q : AV → Hp → Prop) (k : Nat), TbR H1 v es F → es.length ≤ 32 → F.nds 0 0 = pre ++ f.nds p c ++ post → pre.length = p → f.Rt Nm → OpR R C H0 gs → Fm No H0 H1 → Fm No H1 H →
  (∀ i, i < n → ∃ b o w, idxS 1 vv (.int .i64 (.ofNat i)) = .val (.ptr b o) ∧ b < H0.nx ∧ qbt (H0.get b) o = .val w ∧ R H0 w (V i)) → c + f.lv ≤ n → m - i < k → m = i + f.len → d.length = i → m ≤ 1000 → 4 ≤ kd → kd ≤ 6 → (0 < m → Gl 1 H1 u m (ints (d ++ f.ixs p))) →
  H1.get xb = qac 0 [.int .u8 (.ofNat kd), .str rl.n rl.a, .str to.n to.a, sp, av, lf] → H1.get gb = qac 0 [gs 4, gs 5, gs 6] → xb < H1.nx → gb < H1.nx → R H w pw →
  (∀ w H, Fm No H1 H → R H w (fun x => (f.vals (fun i => V i x) c).foldl (fB kd) (pw x)) → Ok (q w H) Q) →
  Ok (qbp (C j) q v vv (.ptr gb 0) (.ptr xb 0) u (.int .i64 (.ofNat m)) k w (.int .i64 (.ofNat i)) H) Q
theorem q4h (hR : VlR R) {k1 : Nat} {r1 t1 : SS} {a r : Fo} (hH : FblH R C k1 a) (hL : FblL R C r) : FblL R C (.cons k1 r1 t1 a r) := by
 intro j hj F v vv u sp av lf es H0 H1 H p c n m i kd xb gb rl to pre post V gs w pw d q Q k ht hes hF hp hr hO f01 f1 hV hc hk hm hd hmm h4 h6 hu hx hg hxl hgl hw hq
 obtain ⟨k, rfl⟩ : ∃ m, k = m + 1 := ⟨k - 1, by omega⟩
 show Ok (qdz (C j) _ _ _ _ _ _ _ (qbp (C j) _ _ _ _ _ _ _ k) _ _ H) Q
 unfold qdz
 simp only [Fo.len] at hm
 simp only [Fo.depth] at hj
 have hlt : i < m := by omega
 obtain ⟨b, o, e1, e2, _, e3⟩ := ((hu (by omega)).no f1).at (i := i) (x := .int .i64 (.ofNat p)) (by simp [ints, Fo.ixs, ← hd])
 obtain ⟨f4, c4, g4, q4⟩ := hO.fn 4 (by omega) (by omega)
 obtain ⟨f5, c5, g5, q5⟩ := hO.fn 5 (by omega) (by omega)
 obtain ⟨f6, c6, g6, q6⟩ := hO.fn 6 (by omega) (by omega)
 have hx' := (f1.keep hxl).trans hx
 have hg' := (f1.keep hgl).trans hg
 rw [g4, g5, g6] at hg'
 simp (disch := first | omega | exact tr_i rfl | (simp only [qaa, qab]; done) | (simp only [qaa, qab]; omega)) only [go_sem, Nat.reduceAdd, Nat.reduceMul, Nat.reduceSub, Nat.reduceLeDiff, Nat.reduceEqDiff, Nat.reduceShiftRight, Nat.reduceAnd, hlt]
 unfold qgp
 have call := hH j (by omega) F v vv es H0 H p c n r1 t1 pre (r.nds (p + 1 + a.size) (c + if k1 < 4 then 1 else a.lv) ++ post) V gs (ht.fm f1) hes (by rw [hF, Fo.nds, Fo.nds, Fo.nds]; simp) hp ⟨hr.1, hr.2.1, trivial⟩ hO (f01.trans f1) hV (by simp only [Fo.lv] at hc ⊢; omega)
 rw [g4, g5, g6] at call
 have hkd : kd = 4 ∨ kd = 5 ∨ kd = 6 := by omega
 have s4 : intV (qad .sub).f (.int .u8 (.ofNat 4)) (.int .u8 (.ofNat 4)) = .val (.int .u8 (.ofNat 0)) := rfl
 have s5 : intV (qad .sub).f (.int .u8 (.ofNat 5)) (.int .u8 (.ofNat 4)) = .val (.int .u8 (.ofNat 1)) := rfl
 have s6 : intV (qad .sub).f (.int .u8 (.ofNat 6)) (.int .u8 (.ofNat 4)) = .val (.int .u8 (.ofNat 2)) := rfl
 have fin : ∀ (w3 : AV) (H3 : Hp), R H3 w3 (fun x => fB kd (pw x) (tvl V k1 a c x)) → Fm No H H3 → Ok (qbp (C j) q v vv (.ptr gb 0) (.ptr xb 0) u (.int .i64 (.ofNat m)) k w3 (.int .i64 (.ofNat (i + 1))) H3) Q := by
  intro w3 H3 r3 f3
  have e9 : d ++ (Fo.cons k1 r1 t1 a r).ixs p = (d ++ [p]) ++ r.ixs (p + 1 + a.size) := by simp [Fo.ixs]
  rw [e9] at hu
  refine hL j (by omega) F v vv u sp av lf es H0 H1 H3 (p + 1 + a.size) (c + if k1 < 4 then 1 else a.lv) n m (i + 1) kd xb gb rl to (pre ++ (Fo.cons k1 r1 t1 a .nil).nds p c) post V gs w3 _ (d ++ [p]) q Q k ht hes (by rw [hF, Fo.nds, Fo.nds, Fo.nds]; simp) (by rw [List.length_append, Fo.nds_len, hp]; simp only [Fo.size]; omega) hr.2.2 hO f01 (f1.trans f3) hV (by simp only [Fo.lv] at hc; omega) (by omega) (by omega) (by simp [hd]) hmm h4 h6 hu hx hg hxl hgl r3 fun w4 H4 f4 r4 => hq w4 H4 f4 (hR.eq r4 fun x => ?_)
  rw [Fo.vals, List.foldl_cons]; rfl
 have n1 := f1.nx
 rcases hkd with rfl | rfl | rfl
 ·simp (disch := first | omega | exact tr_i rfl | (simp only [qaa, qab]; done) | (simp only [qaa, qab]; omega)) only [go_sem, Nat.reduceAdd, Nat.reduceMul, Nat.reduceSub, Nat.reduceLeDiff, Nat.reduceEqDiff, Nat.reduceShiftRight, Nat.reduceAnd, e1, e3, hx', hg', s4]
  refine Ok.deO call ?_
  rintro w2 H2 ⟨r2, f2⟩
  have hx2 := (f2.keep (show xb < H.nx by omega)).trans hx'
  have hg2 := (f2.keep (show gb < H.nx by omega)).trans hg'
  have op := hO.op 4 (by omega) (by omega) j (by omega) H2 w w2 pw _ ((f01.trans f1).trans f2) (hR.fm hw f2) r2
  rw [g4] at op
  simp (disch := first | omega | exact tr_i rfl | (simp only [qaa, qab]; done) | (simp only [qaa, qab]; omega)) only [go_sem, Nat.reduceAdd, Nat.reduceMul, Nat.reduceSub, Nat.reduceLeDiff, Nat.reduceEqDiff, Nat.reduceShiftRight, Nat.reduceAnd, hx2, hg2, q4]
  refine Ok.deO op ?_
  rintro w3 H3 ⟨r3, f3⟩
  simp (disch := first | omega | exact tr_i rfl | (simp only [qaa, qab]; done) | (simp only [qaa, qab]; omega)) only [go_sem, Nat.reduceAdd, Nat.reduceMul, Nat.reduceSub, Nat.reduceLeDiff, Nat.reduceEqDiff, Nat.reduceShiftRight, Nat.reduceAnd]
  unfold qdy
  simp (disch := first | omega | exact tr_i rfl | (simp only [qaa, qab]; done) | (simp only [qaa, qab]; omega)) only [go_sem, Nat.reduceAdd, Nat.reduceMul, Nat.reduceSub, Nat.reduceLeDiff, Nat.reduceEqDiff, Nat.reduceShiftRight, Nat.reduceAnd]
  exact fin w3 H3 r3 (f2.trans f3)
 ·simp (disch := first | omega | exact tr_i rfl | (simp only [qaa, qab]; done) | (simp only [qaa, qab]; omega)) only [go_sem, Nat.reduceAdd, Nat.reduceMul, Nat.reduceSub, Nat.reduceLeDiff, Nat.reduceEqDiff, Nat.reduceShiftRight, Nat.reduceAnd, e1, e3, hx', hg', s5]
  refine Ok.deO call ?_
  rintro w2 H2 ⟨r2, f2⟩
  have hx2 := (f2.keep (show xb < H.nx by omega)).trans hx'
  have hg2 := (f2.keep (show gb < H.nx by omega)).trans hg'
  have op := hO.op 5 (by omega) (by omega) j (by omega) H2 w w2 pw _ ((f01.trans f1).trans f2) (hR.fm hw f2) r2
  rw [g5] at op
  simp (disch := first | omega | exact tr_i rfl | (simp only [qaa, qab]; done) | (simp only [qaa, qab]; omega)) only [go_sem, Nat.reduceAdd, Nat.reduceMul, Nat.reduceSub, Nat.reduceLeDiff, Nat.reduceEqDiff, Nat.reduceShiftRight, Nat.reduceAnd, hx2, hg2, q5]
  refine Ok.deO op ?_
  rintro w3 H3 ⟨r3, f3⟩
  simp (disch := first | omega | exact tr_i rfl | (simp only [qaa, qab]; done) | (simp only [qaa, qab]; omega)) only [go_sem, Nat.reduceAdd, Nat.reduceMul, Nat.reduceSub, Nat.reduceLeDiff, Nat.reduceEqDiff, Nat.reduceShiftRight, Nat.reduceAnd]
  unfold qdy
  simp (disch := first | omega | exact tr_i rfl | (simp only [qaa, qab]; done) | (simp only [qaa, qab]; omega)) only [go_sem, Nat.reduceAdd, Nat.reduceMul, Nat.reduceSub, Nat.reduceLeDiff, Nat.reduceEqDiff, Nat.reduceShiftRight, Nat.reduceAnd]
  exact fin w3 H3 r3 (f2.trans f3)
 ·simp (disch := first | omega | exact tr_i rfl | (simp only [qaa, qab]; done) | (simp only [qaa, qab]; omega)) only [go_sem, Nat.reduceAdd, Nat.reduceMul, Nat.reduceSub, Nat.reduceLeDiff, Nat.reduceEqDiff, Nat.reduceShiftRight, Nat.reduceAnd, e1, e3, hx', hg', s6]
  refine Ok.deO call ?_
  rintro w2 H2 ⟨r2, f2⟩
  have hx2 := (f2.keep (show xb < H.nx by omega)).trans hx'
  have hg2 := (f2.keep (show gb < H.nx by omega)).trans hg'
  have op := hO.op 6 (by omega) (by omega) j (by omega) H2 w w2 pw _ ((f01.trans f1).trans f2) (hR.fm hw f2) r2
  rw [g6] at op
  simp (disch := first | omega | exact tr_i rfl | (simp only [qaa, qab]; done) | (simp only [qaa, qab]; omega)) only [go_sem, Nat.reduceAdd, Nat.reduceMul, Nat.reduceSub, Nat.reduceLeDiff, Nat.reduceEqDiff, Nat.reduceShiftRight, Nat.reduceAnd, hx2, hg2, q6]
  refine Ok.deO op ?_
  rintro w3 H3 ⟨r3, f3⟩
  simp (disch := first | omega | exact tr_i rfl | (simp only [qaa, qab]; done) | (simp only [qaa, qab]; omega)) only [go_sem, Nat.reduceAdd, Nat.reduceMul, Nat.reduceSub, Nat.reduceLeDiff, Nat.reduceEqDiff, Nat.reduceShiftRight, Nat.reduceAnd]
  unfold qdy
  simp (disch := first | omega | exact tr_i rfl | (simp only [qaa, qab]; done) | (simp only [qaa, qab]; omega)) only [go_sem, Nat.reduceAdd, Nat.reduceMul, Nat.reduceSub, Nat.reduceLeDiff, Nat.reduceEqDiff, Nat.reduceShiftRight, Nat.reduceAnd]
  exact fin w3 H3 r3 (f2.trans f3)
theorem q7m : FblL R C .nil := by
 intro j hj F v vv u sp av lf es H0 H1 H p c n m i kd xb gb rl to pre post V gs w pw d q Q k ht hes hF hp hr hO f01 f1 hV hc hk hm hd hmm h4 h6 hu hx hg hxl hgl hw hq
 obtain ⟨k, rfl⟩ : ∃ m, k = m + 1 := ⟨k - 1, by omega⟩
 show Ok (qdz (C j) _ _ _ _ _ _ _ (qbp (C j) _ _ _ _ _ _ _ k) _ _ H) Q
 unfold qdz
 simp only [Fo.len] at hm
 have hlt : ¬ i < m := by omega
 simp (disch := first | omega | exact tr_i rfl | (simp only [qaa, qab]; done) | (simp only [qaa, qab]; omega)) only [go_sem, Nat.reduceAdd, Nat.reduceMul, Nat.reduceSub, Nat.reduceLeDiff, Nat.reduceEqDiff, Nat.reduceShiftRight, Nat.reduceAnd, hlt]
 exact hq w H f1 hw
theorem qxv (hC : qbi C) (hR : VlR R) {kd : Nat} {a : Fo} (hH : ∀ k1 r1 t1 a1 r, a = .cons k1 r1 t1 a1 r → FblH R C k1 a1 ∧ FblL R C r) : FblH R C kd a := by
 intro j hj F v vv es H0 H p c n rl to pre post V gs ht hes hF hp hr hO f01 hV hc
 obtain ⟨j, rfl⟩ : ∃ m, j = m + 1 := ⟨j - 1, by omega⟩
 rw [(hC j).tables_fold_bool]
 unfold tables_fold_bool qhn
 have hat : (F.nds 0 0)[p]? = some ⟨kd, rl, to, a.ixs (p + 1), if kd < 4 then some c else none⟩ := by
  rw [hF, List.append_assoc, List.getElem?_append_right (by omega), hp, Nat.sub_self]; rfl
 obtain ⟨b, o, e, hi, he, hok, e1, e2, e3⟩ := ht.at hat
 have hgl := hok.gl
 rw [he, Fo.ixs_len] at hgl
 simp only at hgl e3
 obtain ⟨f4, c4, g4, q4⟩ := hO.fn 4 (by omega) (by omega)
 obtain ⟨f5, c5, g5, q5⟩ := hO.fn 5 (by omega) (by omega)
 obtain ⟨f6, c6, g6, q6⟩ := hO.fn 6 (by omega) (by omega)
 have hO' := hO
 rw [g4, g5, g6]
 by_cases hk : kd < 4
 ·rw [if_pos hk] at e3
  have hcn : c < n := by simp only [Fo.lv, if_pos hk] at hc; omega
  obtain ⟨b1, o1, w, v1, v2, v3, v4⟩ := hV c hcn
  have v3' : qbt (H.get b1) o1 = .val w := by rw [f01.keep v2]; exact v3
  have n0 := f01.nx
  unfold qn1 at e3
  simp (disch := first | omega | exact tr_i rfl | (simp only [qaa, qab]; done) | (simp only [qaa, qab]; omega)) only [go_sem, Nat.reduceAdd, Nat.reduceMul, Nat.reduceSub, Nat.reduceLeDiff, Nat.reduceEqDiff, Nat.reduceShiftRight, Nat.reduceAnd, e1, e3, geqN, v1, v3']
  refine Ok.ret ⟨hR.eq (hR.fm v4 (f01.trans (by (repeat (first | exact Fm.refl _ _ | assumption | refine Fm.push ?_ _ | refine Fm.up2 ?_ (by (first | omega | (simp only [qaa, qab]; omega))) | refine Fm.put_new ?_ _ _ (by (first | omega | (simp only [qaa, qab]; omega)))))))) fun x => ?_, by (repeat (first | exact Fm.refl _ _ | assumption | refine Fm.push ?_ _ | refine Fm.up2 ?_ (by (first | omega | (simp only [qaa, qab]; omega))) | refine Fm.put_new ?_ _ _ (by (first | omega | (simp only [qaa, qab]; omega)))))⟩
  unfold tvl
  rw [if_pos hk]
 ·rw [if_neg hk] at e3
  unfold qn1 at e3
  have hgn : intV (qad .geq).f (.int .i64 (.negSucc 0)) (.int .i64 (.ofNat 0)) = .val (.bool false) := rfl
  have h46 : 4 ≤ kd ∧ kd ≤ 6 ∧ 2 ≤ a.len := by rcases hr.1 with h | h | h | h | h | h <;> omega
  obtain ⟨k1, r1, t1, a1, r, hae⟩ : ∃ k1 r1 t1 a1 r, a = .cons k1 r1 t1 a1 r := by
   cases a with
   | nil => simp [Fo.len] at h46
   | cons k rl to a r => exact ⟨_, _, _, _, _, rfl⟩
  obtain ⟨h1, h2⟩ := hH k1 r1 t1 a1 r hae
  subst hae
  simp only [Fo.depth] at hj
  have hsz : p + 1 + r.size ≤ 32 := by
   have := congrArg List.length hF
   rw [show (F.nds 0 0).length = es.length by rw [← ht.is, List.length_map], List.length_append, List.length_append, Fo.nds_len, hp] at this
   simp only [Fo.size] at this
   omega
  have hra := hr.2.1
  have hal : (Fo.cons k1 r1 t1 a1 r).len = r.len + 1 := rfl
  simp (disch := first | omega | exact tr_i rfl | (simp only [qaa, qab]; done) | (simp only [qaa, qab]; omega)) only [go_sem, Nat.reduceAdd, Nat.reduceMul, Nat.reduceSub, Nat.reduceLeDiff, Nat.reduceEqDiff, Nat.reduceShiftRight, Nat.reduceAnd, e1, e3, hgn]
  unfold qgo
  obtain ⟨HB, hHB⟩ : ∃ HB, HB = ((qaq (qaq H (qac 0 [.fn f4 [] c4, .fn f5 [] c5, .fn f6 [] c6])) (qac 0 [.int .u8 (.ofNat 0), .str 0 0, .str 0 0, .nilsl, .nilsl, .int .i64 (.ofNat 0)])).put (H.nx + 1) (qac 0 [.int .u8 (.ofNat kd), .str rl.n rl.a, .str to.n to.a, e.sp, e.av, .int .i64 (.negSucc 0)])) := ⟨_, rfl⟩
  rw [← hHB]
  have fB : Fm No H HB := by rw [hHB]; (repeat (first | exact Fm.refl _ _ | assumption | refine Fm.push ?_ _ | refine Fm.up2 ?_ (by (first | omega | (simp only [qaa, qab]; omega))) | refine Fm.put_new ?_ _ _ (by (first | omega | (simp only [qaa, qab]; omega)))))
  have nB : HB.nx = H.nx + 1 + 1 := by rw [hHB]; simp only [qab, qaa]
  have kx : HB.get (H.nx + 1) = qac 0 [.int .u8 (.ofNat kd), .str rl.n rl.a, .str to.n to.a, e.sp, e.av, .int .i64 (.negSucc 0)] := by rw [hHB]; exact qar _ _ _
  have kg : HB.get H.nx = qac 0 [.fn f4 [] c4, .fn f5 [] c5, .fn f6 [] c6] := by rw [hHB]; simp (disch := first | omega | exact tr_i rfl | (simp only [qaa, qab]; done) | (simp only [qaa, qab]; omega)) only [go_sem, Nat.reduceAdd, Nat.reduceMul, Nat.reduceSub, Nat.reduceLeDiff, Nat.reduceEqDiff, Nat.reduceShiftRight, Nat.reduceAnd]
  have hix : (ints ((Fo.cons k1 r1 t1 a1 r).ixs (p + 1))) = .int .i64 (.ofNat (p + 1)) :: ints (r.ixs (p + 1 + 1 + a1.size)) := rfl
  rw [hix, hal] at hgl
  obtain ⟨b2, o2, i1, i2, _, i3⟩ := (hgl.no fB).head
  have call := h1 (j) (by omega) F v vv es H0 HB (p + 1) c n r1 t1 (pre ++ [⟨kd, rl, to, (Fo.cons k1 r1 t1 a1 r).ixs (p + 1), none⟩]) (r.nds (p + 1 + 1 + a1.size) (c + if k1 < 4 then 1 else a1.lv) ++ post) V gs (ht.fm fB) hes (by rw [hF]; simp [Fo.nds, hk]) (by simp [hp]) ⟨hra.1, hra.2.1, trivial⟩ hO (f01.trans fB) hV (by simp only [Fo.lv, if_neg hk] at hc ⊢; omega)
  rw [g4, g5, g6] at call
  simp (disch := first | omega | exact tr_i rfl | (simp only [qaa, qab]; done) | (simp only [qaa, qab]; omega)) only [go_sem, Nat.reduceAdd, Nat.reduceMul, Nat.reduceSub, Nat.reduceLeDiff, Nat.reduceEqDiff, Nat.reduceShiftRight, Nat.reduceAnd, kx, kg, i1, i3]
  refine Ok.deO call ?_
  rintro w2 H2 ⟨r2, f2⟩
  have kx2 := (f2.keep (show H.nx + 1 < HB.nx by omega)).trans kx
  have kg2 := (f2.keep (show H.nx < HB.nx by omega)).trans kg
  have hgl2 := (hgl.no (fB.trans f2))
  obtain ⟨u, j1, j2, j3, _⟩ := hgl2.tail
  simp (disch := first | omega | exact tr_i rfl | (simp only [qaa, qab]; done) | (simp only [qaa, qab]; omega)) only [go_sem, Nat.reduceAdd, Nat.reduceMul, Nat.reduceSub, Nat.reduceLeDiff, Nat.reduceEqDiff, Nat.reduceShiftRight, Nat.reduceAnd, kx2, j1, j2]
  unfold qgq
  rw [qbc]
  refine h2 j (by omega) F v vv u e.sp e.av (.int .i64 (.negSucc 0)) es H0 H2 H2 (p + 1 + 1 + a1.size) (c + if k1 < 4 then 1 else a1.lv) n r.len 0 kd (H.nx + 1) H.nx rl to (pre ++ [⟨kd, rl, to, (Fo.cons k1 r1 t1 a1 r).ixs (p + 1), none⟩] ++ (Fo.cons k1 r1 t1 a1 .nil).nds (p + 1) c) post V gs w2 _ [] _ _ qaz (ht.fm (fB.trans f2)) hes (by rw [hF]; simp [Fo.nds, hk]) (by simp [hp, Fo.nds_len, Fo.size]; omega) hra.2.2 hO (f01.trans (fB.trans f2)) (Fm.refl _ _) hV (by simp only [Fo.lv, if_neg hk] at hc; omega) (by have := Fo.len_size r; rw [qas]; omega) (by omega) rfl (by have := Fo.len_size r; omega) h46.1 h46.2.1 (fun h0 => j3 h0) kx2 (by rw [kg2, g4, g5, g6]) (by have := f2.nx; omega) (by have := f2.nx; omega) r2 fun w4 H4 f5 r4 => ?_
  unfold qb2
  refine Ok.ret ⟨hR.eq r4 fun x => ?_, (fB.trans f2).trans f5⟩
  unfold tvl
  rw [if_neg hk, Fo.vals, qsb]
theorem q7n (hC : qbi C) (hR : VlR R) : ∀ f : Fo, (∀ k1 r1 t1 a1 r, f = .cons k1 r1 t1 a1 r → FblH R C k1 a1 ∧ FblL R C r) ∧ FblL R C f := by
 intro f
 induction f with
 | nil => exact ⟨fun _ _ _ _ _ h => (by cases h), q7m⟩
 | cons k rl to a r iha ihr =>
  have h1 : FblH R C k a := qxv hC hR iha.1
  exact ⟨fun k1 r1 t1 a1 r' h => by cases h; exact ⟨h1, ihr.2⟩, q4h hR h1 ihr.2⟩
end Go.Di
end
section
namespace Go.Di
open Go.Ev
variable {C : Nat → Ev.Call}
structure Bl (H : Hp) (v : AV) (n : Nat) (t : Nat → Bool) : Prop where
 len : lenSl v = .val (.int .i64 (.ofNat n))
 at' : ∀ i, i < n → ∃ b o, idxS 1 v (.int .i64 (.ofNat i)) = .val (.ptr b o) ∧ b < H.nx ∧ qbt (H.get b) o = .val (.bool (t i))
theorem Bl.fm {H H' : Hp} {v : AV} {n : Nat} {t : Nat → Bool} (h : Bl H v n t) (f : Fm No H H') : Bl H' v n t := ⟨h.len, fun i hi => by
 obtain ⟨b, o, h1, h2, h3⟩ := h.at' i hi
 exact ⟨b, o, h1, Nat.lt_of_lt_of_le h2 f.nx, by rw [f.keep h2]; exact h3⟩⟩
def EvaC (C : Nat → Ev.Call) (kd : Nat) (a : Fo) : Prop :=
 ∀ (j : Nat), a.depth + 1 ≤ j → ∀ (H : Hp) (c n : Nat) (rl to : SS) (av vv : AV) (ca : List AV) (t : Nat → Bool), (Fo.cons kd rl to a .nil).Rt Nm → Gl 4 H av a.len ca → FoC (fun _ => True) H a ca → Bl H vv n t → c + (Fo.cons kd rl to a .nil).lv ≤ n → a.size ≤ 900 → n ≤ 1000 →
  Ok (C j (.f qff) [.agg [.int .u8 (.ofNat kd), .str rl.n rl.a, .str to.n to.a, av], vv, .int .i64 (.ofNat c)] H) fun r H' => r = .tup [.bool (tvl (fun i _ => t i) kd a c 0), .int .i64 (.ofNat (c + (Fo.cons kd rl to a .nil).lv))] ∧ Fm No H H'
def EvaL (C : Nat → Ev.Call) (f : Fo) : Prop :=
 ∀ (j : Nat), f.depth ≤ j → ∀ (H0 H : Hp) (c n m i ib kd : Nat) (rl to : SS) (av vv : AV) (pre rest : List AV) (t : Nat → Bool) (l : List Bool) (q : AV → AV → AV → AV → AV → Hp → R1) (Q : AV → Hp → Prop) (k : Nat), f.Rt Nm → Gl 4 H0 av m (pre ++ rest) → pre.length = i * 4 → FoC (fun _ => True) H0 f rest → Bl H0 vv n t → c + f.lv ≤ n → f.size ≤ 900 → n ≤ 1000 → m ≤ 1000 → m - i < k → m = i + f.len → l.length = i → H0.get ib = qac 0 [.int .u8 (.ofNat kd), .str rl.n rl.a, .str to.n to.a, av] → ib < H0.nx → Fm No H0 H →
  (∀ H', Fm No H0 H' → Ok (q (.int .i64 (.ofNat (c + f.lv))) (.bool ((l ++ f.vals t c).any id)) (.bool ((l ++ f.vals t c).all id)) (.bool ((l ++ f.vals t c).getLastD false)) (.bool ((l ++ f.vals t c).headD false)) H') Q) →
  Ok (qe0 (C j) q vv (.ptr ib 0) k (.int .i64 (.ofNat c)) (.bool (l.any id)) (.bool (l.all id)) (.bool (l.getLastD false)) (.bool (l.headD false)) (.int .i64 (.ofNat i)) H) Q
theorem q1y (hC : qbi C) {kd : Nat} {a : Fo} (hL : EvaL C a) : EvaC C kd a := by
 intro j hj H c n rl to av vv ca t hr hg hc hv hcn hs hn
 obtain ⟨j, rfl⟩ : ∃ m, j = m + 1 := ⟨j - 1, by omega⟩
 rw [(hC j).ref13_Eval]
 unfold ref13_Eval qnv
 have fx : Fm No H (qaq H (qac 0 [.int .u8 (.ofNat kd), .str rl.n rl.a, .str to.n to.a, av])) := by (repeat (first | exact Fm.refl _ _ | assumption | refine Fm.push ?_ _ | refine Fm.up2 ?_ (by (first | omega | (simp only [qaa, qab]; omega))) | refine Fm.put_new ?_ _ _ (by (first | omega | (simp only [qaa, qab]; omega)))))
 by_cases hk : kd < 4
 ·have hkt := eq_true hk
  simp only [Fo.lv, if_pos hk] at hcn
  obtain ⟨b, o, e1, e2, e3⟩ := (hv.fm fx).at' c (by omega)
  simp (disch := first | omega | exact tr_i rfl | (simp only [qaa, qab]; done) | (simp only [qaa, qab]; omega)) only [go_sem, Nat.reduceAdd, Nat.reduceMul, Nat.reduceSub, Nat.reduceLeDiff, Nat.reduceEqDiff, Nat.reduceShiftRight, Nat.reduceAnd, hkt, e1, e3]
  refine Ok.ret ⟨?_, fx⟩
  unfold tvl
  simp only [Fo.lv, if_pos hk]
 ·simp (disch := first | omega | exact tr_i rfl | (simp only [qaa, qab]; done) | (simp only [qaa, qab]; omega)) only [go_sem, Nat.reduceAdd, Nat.reduceMul, Nat.reduceSub, Nat.reduceLeDiff, Nat.reduceEqDiff, Nat.reduceShiftRight, Nat.reduceAnd, hk]
  unfold ql5 ql7
  rw [qbc]
  simp only [Fo.lv, if_neg hk, Nat.add_zero] at hcn ⊢
  have hal := Fo.len_size a
  have hl : (a.vals t c).length = a.len := Fo.vals_len t a c
  refine hL j (by omega) _ _ c n a.len 0 H.nx kd rl to av vv [] ca t [] _ _ qaz hr.2.1 (hg.no fx) rfl (hc.fm fx) (hv.fm fx) hcn hs hn (by omega) (by rw [qas]; omega) (by omega) rfl (qby _ _) (by rw [qaa]; omega) (Fm.refl _ _) fun H' f' => ?_
  have k0 : H'.get H.nx = qac 0 [.int .u8 (.ofNat kd), .str rl.n rl.a, .str to.n to.a, av] := (f'.keep (by (first | omega | (simp only [qaa, qab]; omega)))).trans (qby _ _)
  rw [List.nil_append]
  unfold tvl
  rw [if_neg hk]
  unfold qe1
  rcases hr.1 with h | h | h | ⟨rfl, h⟩ | ⟨rfl, h⟩ | ⟨rfl, h⟩
  ·omega
  ·omega
  ·omega
  ·simp (disch := first | omega | exact tr_i rfl | (simp only [qaa, qab]; done) | (simp only [qaa, qab]; omega)) only [go_sem, Nat.reduceAdd, Nat.reduceMul, Nat.reduceSub, Nat.reduceLeDiff, Nat.reduceEqDiff, Nat.reduceShiftRight, Nat.reduceAnd, k0]
   exact Ok.ret ⟨by rw [Fo.cmb4], fx.trans f'⟩
  ·simp (disch := first | omega | exact tr_i rfl | (simp only [qaa, qab]; done) | (simp only [qaa, qab]; omega)) only [go_sem, Nat.reduceAdd, Nat.reduceMul, Nat.reduceSub, Nat.reduceLeDiff, Nat.reduceEqDiff, Nat.reduceShiftRight, Nat.reduceAnd, k0]
   unfold qjq
   simp (disch := first | omega | exact tr_i rfl | (simp only [qaa, qab]; done) | (simp only [qaa, qab]; omega)) only [go_sem, Nat.reduceAdd, Nat.reduceMul, Nat.reduceSub, Nat.reduceLeDiff, Nat.reduceEqDiff, Nat.reduceShiftRight, Nat.reduceAnd, k0]
   refine Ok.ret ⟨by rw [Fo.cmb5 _ (fun e => by rw [e] at hl; simp at hl; omega)], fx.trans f'⟩
  ·simp (disch := first | omega | exact tr_i rfl | (simp only [qaa, qab]; done) | (simp only [qaa, qab]; omega)) only [go_sem, Nat.reduceAdd, Nat.reduceMul, Nat.reduceSub, Nat.reduceLeDiff, Nat.reduceEqDiff, Nat.reduceShiftRight, Nat.reduceAnd, k0]
   unfold qjq
   simp (disch := first | omega | exact tr_i rfl | (simp only [qaa, qab]; done) | (simp only [qaa, qab]; omega)) only [go_sem, Nat.reduceAdd, Nat.reduceMul, Nat.reduceSub, Nat.reduceLeDiff, Nat.reduceEqDiff, Nat.reduceShiftRight, Nat.reduceAnd, k0]
   unfold qm0
   obtain ⟨x, y, hxy⟩ : ∃ x y, a.vals t c = [x, y] := by
    match hv : a.vals t c with
    | [] => rw [hv] at hl; simp at hl; omega
    | [x] => rw [hv] at hl; simp at hl; omega
    | [x, y] => exact ⟨x, y, rfl⟩
    | x :: y :: z :: l => rw [hv] at hl; simp at hl; omega
   rw [hxy]
   cases x <;> cases y <;> (simp (disch := first | omega | exact tr_i rfl | (simp only [qaa, qab]; done) | (simp only [qaa, qab]; omega)) only [go_sem, Nat.reduceAdd, Nat.reduceMul, Nat.reduceSub, Nat.reduceLeDiff, Nat.reduceEqDiff, Nat.reduceShiftRight, Nat.reduceAnd, List.getLastD, List.headD]; exact Ok.ret ⟨rfl, fx.trans f'⟩)
theorem q7p (hC : qbi C) : ∀ f : Fo, EvaL C f := by
 intro f
 induction f with
 | nil =>
  intro j hj H0 H c n m i ib kd rl to av vv pre rest t l q Q k hr hg hp hc hv hcn hs hn hm hk hmi hl hib hlt hf hq
  obtain ⟨k, rfl⟩ : ∃ m, k = m + 1 := ⟨k - 1, by omega⟩
  show Ok (qg6 (C j) _ _ _ (qe0 (C j) _ _ _ k) _ _ _ _ _ _ H) Q
  unfold qg6
  simp only [Fo.len] at hmi
  have hlt' : ¬ i < m := by omega
  have k0 := (hf.keep hlt).trans hib
  have hlv := hg.lenV
  simp (disch := first | omega | exact tr_i rfl | (simp only [qaa, qab]; done) | (simp only [qaa, qab]; omega)) only [go_sem, Nat.reduceAdd, Nat.reduceMul, Nat.reduceSub, Nat.reduceLeDiff, Nat.reduceEqDiff, Nat.reduceShiftRight, Nat.reduceAnd, k0, hlv, hlt']
  have := hq H hf
  simpa [Fo.vals, Fo.lv] using this
 | cons k1 r1 t1 a r iha ihr =>
  intro j hj H0 H c n m i ib kd rl to av vv pre rest t l q Q k hr hg hp hc hv hcn hs hn hm hk hmi hl hib hlt hf hq
  obtain ⟨k, rfl⟩ : ∃ m, k = m + 1 := ⟨k - 1, by omega⟩
  show Ok (qg6 (C j) _ _ _ (qe0 (C j) _ _ _ k) _ _ _ _ _ _ H) Q
  unfold qg6
  simp only [Fo.len] at hmi
  simp only [Fo.depth] at hj
  simp only [Fo.size] at hs
  have hlt' : i < m := by omega
  have k0 := (hf.keep hlt).trans hib
  have hlv := hg.lenV
  obtain ⟨_, b, o, av1, ca, cr, e1, e2, e3, e4, _, e5, g1, g2, g3, g4, _⟩ := (hg.no hf).rule hp (hc.fm hf)
  simp (disch := first | omega | exact tr_i rfl | (simp only [qaa, qab]; done) | (simp only [qaa, qab]; omega)) only [go_sem, Nat.reduceAdd, Nat.reduceMul, Nat.reduceSub, Nat.reduceLeDiff, Nat.reduceEqDiff, Nat.reduceShiftRight, Nat.reduceAnd, k0, hlv, hlt']
  unfold ql6
  simp (disch := first | omega | exact tr_i rfl | (simp only [qaa, qab]; done) | (simp only [qaa, qab]; omega)) only [go_sem, Nat.reduceAdd, Nat.reduceMul, Nat.reduceSub, Nat.reduceLeDiff, Nat.reduceEqDiff, Nat.reduceShiftRight, Nat.reduceAnd, k0, e1, e4]
  refine Ok.ve (q1y hC iha j (by omega) H c n r1 t1 av1 vv ca t ⟨hr.1, hr.2.1, trivial⟩ g1 g3 (hv.fm hf) (by simp only [Fo.lv] at hcn ⊢; omega) (by omega) hn) ?_
  rintro _ H2 ⟨rfl, f2⟩
  have hcl : c + (Fo.cons k1 r1 t1 a r).lv = c + (Fo.cons k1 r1 t1 a .nil).lv + r.lv := by simp only [Fo.lv]; omega
  have hvl : (Fo.cons k1 r1 t1 a r).vals t c = tvl (fun i _ => t i) k1 a c 0 :: r.vals t (c + (Fo.cons k1 r1 t1 a .nil).lv) := by
   rw [Fo.vals]; simp only [Fo.lv, Nat.add_zero]; rfl
  have e5' : pre ++ rest = (pre ++ [.int .u8 (.ofNat k1), r1.v, t1.v, av1]) ++ cr := by rw [e5]; simp
  have ih := ihr j (by omega) H0 H2 (c + (Fo.cons k1 r1 t1 a .nil).lv) n m (i + 1) ib kd rl to av vv (pre ++ [.int .u8 (.ofNat k1), r1.v, t1.v, av1]) cr t (l ++ [tvl (fun i _ => t i) k1 a c 0]) q Q k hr.2.2 (e5' ▸ hg) (by simp [hp]; omega) (by
   obtain ⟨_, _, cr', d1, _, _, _, d5⟩ := hc
   rw [e5] at d1
   simp only [List.cons.injEq] at d1
   rw [d1.2.2.2.2]; exact d5) hv (by rw [← hcl]; exact hcn) (by omega) hn hm (by omega) (by omega) (by simp [hl]) hib hlt (hf.trans f2) (fun H' f' => by
   have := hq H' f'
   rw [hcl, hvl] at this
   simpa using this)
  generalize htv : tvl (fun i _ => t i) k1 a c 0 = b0 at ih ⊢
  rw [List.any_append, List.all_append, List.getLastD_concat] at ih
  have hsing : [b0].any id = b0 ∧ [b0].all id = b0 := by cases b0 <;> exact ⟨rfl, rfl⟩
  rw [hsing.1, hsing.2] at ih
  by_cases hi0 : i = 0
  ·have hl0 : l = [] := List.length_eq_zero_iff.1 (by omega)
   subst hl0
   subst hi0
   have ea : ([] : List Bool).any id = false := rfl
   have eb : ([] : List Bool).all id = true := rfl
   rw [ea, eb] at ih ⊢
   simp (disch := first | omega | exact tr_i rfl | (simp only [qaa, qab]; done) | (simp only [qaa, qab]; omega)) only [go_sem, Nat.reduceAdd, Nat.reduceMul, Nat.reduceSub, Nat.reduceLeDiff, Nat.reduceEqDiff, Nat.reduceShiftRight, Nat.reduceAnd]
   unfold qg5
   simp (disch := first | omega | exact tr_i rfl | (simp only [qaa, qab]; done) | (simp only [qaa, qab]; omega)) only [go_sem, Nat.reduceAdd, Nat.reduceMul, Nat.reduceSub, Nat.reduceLeDiff, Nat.reduceEqDiff, Nat.reduceShiftRight, Nat.reduceAnd]
   exact ih
  ·have hh : (l ++ [b0]).headD false = l.headD false := by
    cases l with
    | nil => exact absurd (by simpa using hl.symm) hi0
    | cons y l => rfl
   rw [hh] at ih
   cases ha : l.any id <;> cases hb : l.all id <;> (
    rw [ha, hb] at ih
    simp (disch := first | omega | exact tr_i rfl | (simp only [qaa, qab]; done) | (simp only [qaa, qab]; omega)) only [go_sem, Nat.reduceAdd, Nat.reduceMul, Nat.reduceSub, Nat.reduceLeDiff, Nat.reduceEqDiff, Nat.reduceShiftRight, Nat.reduceAnd, hi0]
    unfold qg5
    simp (disch := first | omega | exact tr_i rfl | (simp only [qaa, qab]; done) | (simp only [qaa, qab]; omega)) only [go_sem, Nat.reduceAdd, Nat.reduceMul, Nat.reduceSub, Nat.reduceLeDiff, Nat.reduceEqDiff, Nat.reduceShiftRight, Nat.reduceAnd]
    exact ih)
end Go.Di
end
section
namespace Go.Di
open Go.Ev
variable {C : Nat → Ev.Call}
theorem q82 (n j : Nat) (k : IntKind) (h : j ≤ 8) : qud (qpe .shr).f (.int .u8 (.ofNat n)) (.int k (.ofNat j)) = .val (.int .u8 (.ofNat (n / 2 ^ j))) := by
 show (bif ltI (.ofNat j) 0 then R0.bad else .val (.int .u8 ((Int.ofNat n).fdiv (2 ^ (min j 8))))) = _
 rw [qnb, Nat.min_eq_left h]
 have h0 : decide ((Int.ofNat j) < 0) = false := by simp
 rw [h0]
 show R0.val (.int .u8 ((Int.ofNat n).fdiv (2 ^ j))) = _
 congr 2
 have h2 : ((2 : Int) ^ j) = Int.ofNat (2 ^ j) := by simp
 rw [h2]
 show Int.fdiv (n : Int) ((2 ^ j : Nat) : Int) = ((n / 2 ^ j : Nat) : Int)
 rw [Int.fdiv_eq_ediv_of_nonneg _ (Int.natCast_nonneg _)]
 rfl
theorem at4 (n : Nat) (h : n < 4) : [AV.str 1 97, AV.str 1 98, AV.str 1 99, AV.str 1 100][n]? = some (.str 1 (97 + n)) := by
 match n, h with
 | 0, _ | 1, _ | 2, _ | 3, _ => rfl
theorem q89 (x : List AV) : reps x 4 = x ++ (x ++ (x ++ x)) := id (by show x ++ (x ++ (x ++ (x ++ []))) = _; rw [List.append_nil])
attribute [go_sem] q82 q89
def bt (n x : Nat) : Bool := decide (n / 2 ^ x % 2 = 1)
theorem qxj {call : Ev.Call} {n nb : Nat} {H0 : Hp} (hn : n < 256) (hb : H0.get nb = qac 0 [.str 1 97, .str 1 98, .str 1 99, .str 1 100]) (hl : nb < H0.nx) {q : AV → Hp → R1} {Q : AV → Hp → Prop} (hq : ∀ w H, Ac 2 obC H0 H w (dom (bt n)) → Ok (q w H) Q) :
  ∀ (k i : Nat) (w : AV) (H : Hp), i ≤ 8 → 8 - i < k → Ac 2 obC H0 H w ((List.range' 0 i).filter (bt n)) → Ok (qeq call q (.int .u8 (.ofNat n)) (.sl nb 0 4 4 true) k w (.int .i64 (.ofNat i)) H) Q
 | 0, i, _, _, _, h, _ => by omega
 | k + 1, i, w, H, hi, hk, hw => by
  show Ok (qjl call _ _ _ (qeq call _ _ _ k) _ _ H) Q
  unfold qjl
  by_cases hlt : i < 8
  ·simp (disch := first | omega | exact tr_i rfl | (simp only [qaa, qab]; done) | (simp only [qaa, qab]; omega)) only [go_sem, Nat.reduceAdd, Nat.reduceMul, Nat.reduceSub, Nat.reduceLeDiff, Nat.reduceEqDiff, Nat.reduceShiftRight, Nat.reduceAnd, hlt]
   unfold qic
   have hs : (List.range' 0 (i + 1)).filter (bt n) = (List.range' 0 i).filter (bt n) ++ if bt n i then [i] else [] := by
    rw [List.range'_1_concat, List.filter_append, List.filter_cons, Nat.zero_add]
    cases bt n i <;> simp
   have ih := qxj (call := call) hn hb hl hq k (i + 1)
   rw [hs] at ih
   have hll : ((List.range' 0 i).filter (bt n)).length ≤ 8 := Nat.le_trans (List.length_filter_le _ _) (by simp; omega)
   by_cases hb1 : n / 2 ^ i % 2 = 1
   ·have hbt : bt n i = true := decide_eq_true hb1
    have hb1t := eq_true hb1
    have k0 := (hw.fm.keep hl).trans hb
    simp (disch := first | omega | exact tr_i rfl | (simp only [qaa, qab]; done) | (simp only [qaa, qab]; omega)) only [go_sem, Nat.reduceAdd, Nat.reduceMul, Nat.reduceSub, Nat.reduceLeDiff, Nat.reduceEqDiff, Nat.reduceShiftRight, Nat.reduceAnd, hb1t, k0, at4]
    have n0 := hw.fm.nx
    have hwl : ∀ c, In w c → c < H.nx := fun c hc => hw.gl.lt hc
    have fB : ∀ x, Fm No H ((Hp.mk H.t (H.nx + 15)).put (H.nx + 12) x) := fun x => by (repeat (first | exact Fm.refl _ _ | assumption | refine Fm.push ?_ _ | refine Fm.up2 ?_ (by (first | omega | (simp only [qaa, qab]; omega))) | refine Fm.put_new ?_ _ _ (by (first | omega | (simp only [qaa, qab]; omega)))))
    obtain ⟨w', H', e, hw'⟩ := (hw.no (fB (qac 0 (obC i)))).add i 32 rfl (by omega) (by omega)
    refine Ok.deE e ?_
    rw [hbt] at ih
    simp (disch := first | omega | exact tr_i rfl | (simp only [qaa, qab]; done) | (simp only [qaa, qab]; omega)) only [go_sem, Nat.reduceAdd, Nat.reduceMul, Nat.reduceSub, Nat.reduceLeDiff, Nat.reduceEqDiff, Nat.reduceShiftRight, Nat.reduceAnd]
    unfold qfn
    simp (disch := first | omega | exact tr_i rfl | (simp only [qaa, qab]; done) | (simp only [qaa, qab]; omega)) only [go_sem, Nat.reduceAdd, Nat.reduceMul, Nat.reduceSub, Nat.reduceLeDiff, Nat.reduceEqDiff, Nat.reduceShiftRight, Nat.reduceAnd]
    exact ih w' H' (by omega) (by omega) hw'
   ·have hbt : bt n i = false := decide_eq_false hb1
    simp (disch := first | omega | exact tr_i rfl | (simp only [qaa, qab]; done) | (simp only [qaa, qab]; omega)) only [go_sem, Nat.reduceAdd, Nat.reduceMul, Nat.reduceSub, Nat.reduceLeDiff, Nat.reduceEqDiff, Nat.reduceShiftRight, Nat.reduceAnd, hb1]
    unfold qfn
    simp (disch := first | omega | exact tr_i rfl | (simp only [qaa, qab]; done) | (simp only [qaa, qab]; omega)) only [go_sem, Nat.reduceAdd, Nat.reduceMul, Nat.reduceSub, Nat.reduceLeDiff, Nat.reduceEqDiff, Nat.reduceShiftRight, Nat.reduceAnd]
    rw [hbt] at ih
    exact ih w H (by omega) (by omega) (by simpa using hw)
  ·simp (disch := first | omega | exact tr_i rfl | (simp only [qaa, qab]; done) | (simp only [qaa, qab]; omega)) only [go_sem, Nat.reduceAdd, Nat.reduceMul, Nat.reduceSub, Nat.reduceLeDiff, Nat.reduceEqDiff, Nat.reduceShiftRight, Nat.reduceAnd, hlt]
   have he : i = 8 := by omega
   subst he
   exact hq w H hw
theorem qs9 (hC : qbi C) {k : Nat} (hk : 1 ≤ k) {n : Nat} (hn : n < 256) (H : Hp) : Ok (C k (.f qfq) [.int .u8 (.ofNat n)] H) fun w H' => Ac 2 obC H H' w (dom (bt n)) := by
 obtain ⟨j, rfl⟩ : ∃ j, k = j + 1 := ⟨k - 1, by omega⟩
 rw [(hC j).law19_Objects]
 unfold law19_Objects qkx qjm
 simp (disch := first | omega | exact tr_i rfl | (simp only [qaa, qab]; done) | (simp only [qaa, qab]; omega)) only [go_sem, Nat.reduceAdd, Nat.reduceMul, Nat.reduceSub, Nat.reduceLeDiff, Nat.reduceEqDiff, Nat.reduceShiftRight, Nat.reduceAnd]
 rw [qbc]
 have fx : Fm No H (qaq H (qac 0 [.str 1 97, .str 1 98, .str 1 99, .str 1 100])) := by (repeat (first | exact Fm.refl _ _ | assumption | refine Fm.push ?_ _ | refine Fm.up2 ?_ (by (first | omega | (simp only [qaa, qab]; omega))) | refine Fm.put_new ?_ _ _ (by (first | omega | (simp only [qaa, qab]; omega)))))
 refine qxj hn (qby _ _) (by rw [qaa]; omega) (fun w H' hw => ?_) qaz 0 .nilsl _ (Nat.zero_le _) (by rw [qas]; omega) (Ac.nil _ _ (Fm.refl _ _))
 unfold qds
 exact Ok.ret ⟨hw.gl, fx.trans hw.fm, fun b hb => by have := hw.nw b hb; rw [qaa] at this; omega⟩
theorem Ac.ob {H0 H : Hp} {w : AV} {p : Nat → Bool} (h : Ac 2 obC H0 H w (dom p)) : Ob H w (dom p) := ⟨h.lenV, fun _ => h.gl, fun x hx => (qia.1 hx).1⟩
theorem zar (x y : Nat) (hx : x < 8) (hy : y < 8) : qol (eqFields [(p1, ⟨qjy⟩, 0), (p1, ⟨qjy⟩, 1)]) (.agg [.str 1 (97 + x / 4), .str 1 (97 + x % 4)]) (.agg [.str 1 (97 + y / 4), .str 1 (97 + y % 4)]) = some (decide (x = y)) := by
 have e1 : qjy (.str 1 (97 + x / 4)) (.str 1 (97 + y / 4)) = some (decide ((⟨1, 97 + x / 4⟩ : SS) = ⟨1, 97 + y / 4⟩)) := qq0 ⟨1, 97 + x / 4⟩ ⟨1, 97 + y / 4⟩
 have e2 : qjy (.str 1 (97 + x % 4)) (.str 1 (97 + y % 4)) = some (decide ((⟨1, 97 + x % 4⟩ : SS) = ⟨1, 97 + y % 4⟩)) := qq0 ⟨1, 97 + x % 4⟩ ⟨1, 97 + y % 4⟩
 show andThen (qjy (.str 1 (97 + x / 4)) (.str 1 (97 + y / 4))) (andThen (qjy (.str 1 (97 + x % 4)) (.str 1 (97 + y % 4))) (some true)) = _
 rw [e1, e2]
 have h1 := Nat.div_add_mod x 4
 have h2 := Nat.div_add_mod y 4
 by_cases h3 : x / 4 = y / 4
 ·by_cases h4 : x % 4 = y % 4
  ·have : x = y := by omega
   subst this
   simp [andThen]
  ·have hne : ¬ x = y := fun h => h4 (by rw [h])
   have a1 : decide ((⟨1, 97 + x / 4⟩ : SS) = ⟨1, 97 + y / 4⟩) = true := by simp [h3]
   have a2 : decide ((⟨1, 97 + x % 4⟩ : SS) = ⟨1, 97 + y % 4⟩) = false := by simp; exact h4
   rw [a1, a2, decide_eq_false hne]; rfl
 ·have hne : ¬ x = y := fun h => h3 (by rw [h])
  have a1 : decide ((⟨1, 97 + x / 4⟩ : SS) = ⟨1, 97 + y / 4⟩) = false := by simp; exact h3
  rw [a1, decide_eq_false hne]; rfl
theorem Ob.at {H : Hp} {v : AV} {l : List Nat} (h : Ob H v l) {i : Nat} (hi : i < l.length) : l[i] < 8 ∧ ∃ b o, idxS 2 v (.int .i64 (.ofNat i)) = .val (.ptr b o) ∧ b < H.nx ∧ qd6 (H.get b) o 2 = some [.str 1 (97 + l[i] / 4), .str 1 (97 + l[i] % 4)] := by
 obtain ⟨b, o, e1, e2, _, e3, _⟩ := ((h.gl (by omega)).rs qtr).at' i hi
 exact ⟨h.lt _ (List.getElem_mem hi), b, o, e1, e2, e3⟩
theorem q63 (hC : qbi C) {k : Nat} (hk : 1 ≤ k) {H : Hp} {u v : AV} {l : List Nat} (hu : Ob H u l) (hc : capV u = .val (.int .i64 (.ofNat l.length))) (hv : Ob H v l) (hl : l.length ≤ 1000) :
  C k (.f qhe) [u, v] H = .ok (.bool true) H := by
 obtain ⟨j, rfl⟩ : ∃ j, k = j + 1 := ⟨k - 1, by omega⟩
 rw [(hC j).law19_objects]
 unfold law19_objects qkw
 have l1 := hu.len
 have l2 := hv.len
 simp (disch := first | omega | exact tr_i rfl | (simp only [qaa, qab]; done) | (simp only [qaa, qab]; omega)) only [go_sem, Nat.reduceAdd, Nat.reduceMul, Nat.reduceSub, Nat.reduceLeDiff, Nat.reduceEqDiff, Nat.reduceShiftRight, Nat.reduceAnd, l1, l2, hc]
 unfold qib qjj
 rw [qbc]
 have main : ∀ (k i : Nat), i ≤ l.length → l.length - i < k → qep (C j) (fun x4 H => .ok x4 H) (fun H => qdr (C j) H) u v k (.int .i64 (.ofNat i)) H = .ok (.bool true) H := by
  intro k
  induction k with
  | zero => intro i _ h; omega
  | succ k ih =>
   intro i hi hk
   show qji (C j) _ _ _ _ (qep (C j) _ _ _ _ k) _ H = _
   unfold qji
   by_cases hlt : i < l.length
   ·simp (disch := first | omega | exact tr_i rfl | (simp only [qaa, qab]; done) | (simp only [qaa, qab]; omega)) only [go_sem, Nat.reduceAdd, Nat.reduceMul, Nat.reduceSub, Nat.reduceLeDiff, Nat.reduceEqDiff, Nat.reduceShiftRight, Nat.reduceAnd, l2, hlt]
    unfold qjg
    obtain ⟨h8, b, o, e1, _, e3⟩ := hu.at hlt
    obtain ⟨_, b', o', g1, _, g3⟩ := hv.at hlt
    have hf : qjn true (qol (eqFields [(p1, ⟨qjy⟩, 0), (p1, ⟨qjy⟩, 1)]) (.agg [.str 1 (97 + l[i] / 4), .str 1 (97 + l[i] % 4)]) (.agg [.str 1 (97 + l[i] / 4), .str 1 (97 + l[i] % 4)])) = .val (.bool false) := by
     rw [zar _ _ h8 h8, decide_eq_true rfl]; rfl
    simp (disch := first | omega | exact tr_i rfl | (simp only [qaa, qab]; done) | (simp only [qaa, qab]; omega)) only [go_sem, Nat.reduceAdd, Nat.reduceMul, Nat.reduceSub, Nat.reduceLeDiff, Nat.reduceEqDiff, Nat.reduceShiftRight, Nat.reduceAnd, e1, e3, g1, g3, hf]
    unfold qjh
    simp (disch := first | omega | exact tr_i rfl | (simp only [qaa, qab]; done) | (simp only [qaa, qab]; omega)) only [go_sem, Nat.reduceAdd, Nat.reduceMul, Nat.reduceSub, Nat.reduceLeDiff, Nat.reduceEqDiff, Nat.reduceShiftRight, Nat.reduceAnd]
    exact ih (i + 1) (by omega) (by omega)
   ·simp (disch := first | omega | exact tr_i rfl | (simp only [qaa, qab]; done) | (simp only [qaa, qab]; omega)) only [go_sem, Nat.reduceAdd, Nat.reduceMul, Nat.reduceSub, Nat.reduceLeDiff, Nat.reduceEqDiff, Nat.reduceShiftRight, Nat.reduceAnd, l2, hlt]
    rfl
 exact main qaz 0 (Nat.zero_le _) (by rw [qas]; omega)
theorem q4c (hC : qbi C) {j : Nat} {H : Hp} {v : AV} {l : List Nat} (hv : Ob H v l) {x xb : Nat} (hx : x < 8) (hb : H.get xb = qac 0 [.str 1 (97 + x / 4), .str 1 (97 + x % 4)]) (hl : l.length ≤ 1000) :
  ∀ (k i : Nat), i ≤ l.length → l.length - i < k → qhh (C j) (fun x4 H => .ok x4 H) (fun H => qfb (C j) H) v (.ptr xb 0) k (.int .i64 (.ofNat i)) H = .ok (.bool (decide (x ∈ l.drop i))) H := by
 have l1 := hv.len
 intro k
 induction k with
 | zero => intro i _ h; omega
 | succ k ih =>
  intro i hi hk
  show qns (C j) _ _ _ _ (qhh (C j) _ _ _ _ k) _ H = _
  unfold qns
  by_cases hlt : i < l.length
  ·simp (disch := first | omega | exact tr_i rfl | (simp only [qaa, qab]; done) | (simp only [qaa, qab]; omega)) only [go_sem, Nat.reduceAdd, Nat.reduceMul, Nat.reduceSub, Nat.reduceLeDiff, Nat.reduceEqDiff, Nat.reduceShiftRight, Nat.reduceAnd, l1, hlt]
   unfold qnq
   obtain ⟨h8, b, o, e1, _, e3⟩ := hv.at hlt
   have hd : l.drop i = l[i] :: l.drop (i + 1) := List.drop_eq_getElem_cons hlt
   have hf : qjn false (qol (eqFields [(p1, ⟨qjy⟩, 0), (p1, ⟨qjy⟩, 1)]) (.agg [.str 1 (97 + l[i] / 4), .str 1 (97 + l[i] % 4)]) (.agg [.str 1 (97 + x / 4), .str 1 (97 + x % 4)])) = .val (.bool (decide (l[i] = x))) := by
    rw [zar _ _ h8 hx]; rfl
   rw [hd]
   by_cases he : l[i] = x
   ·have het := eq_true he
    simp (disch := first | omega | exact tr_i rfl | (simp only [qaa, qab]; done) | (simp only [qaa, qab]; omega)) only [go_sem, Nat.reduceAdd, Nat.reduceMul, Nat.reduceSub, Nat.reduceLeDiff, Nat.reduceEqDiff, Nat.reduceShiftRight, Nat.reduceAnd, e1, e3, hb, hf, het]
    simp [he]
   ·simp (disch := first | omega | exact tr_i rfl | (simp only [qaa, qab]; done) | (simp only [qaa, qab]; omega)) only [go_sem, Nat.reduceAdd, Nat.reduceMul, Nat.reduceSub, Nat.reduceLeDiff, Nat.reduceEqDiff, Nat.reduceShiftRight, Nat.reduceAnd, e1, e3, hb, hf, he]
    unfold qnr
    simp (disch := first | omega | exact tr_i rfl | (simp only [qaa, qab]; done) | (simp only [qaa, qab]; omega)) only [go_sem, Nat.reduceAdd, Nat.reduceMul, Nat.reduceSub, Nat.reduceLeDiff, Nat.reduceEqDiff, Nat.reduceShiftRight, Nat.reduceAnd]
    rw [ih (i + 1) (by omega) (by omega)]
    have : (x ∈ l[i] :: l.drop (i + 1)) ↔ x ∈ l.drop (i + 1) := by
     rw [List.mem_cons]
     exact ⟨fun h => h.elim (fun h => absurd h.symm he) id, .inr⟩
    simp only [this]
  ·simp (disch := first | omega | exact tr_i rfl | (simp only [qaa, qab]; done) | (simp only [qaa, qab]; omega)) only [go_sem, Nat.reduceAdd, Nat.reduceMul, Nat.reduceSub, Nat.reduceLeDiff, Nat.reduceEqDiff, Nat.reduceShiftRight, Nat.reduceAnd, l1, hlt]
   rw [List.drop_eq_nil_of_le (by omega)]
   unfold qfb
   simp
theorem qx4 (hC : qbi C) {k : Nat} (hk : 1 ≤ k) {H : Hp} {v : AV} {l : List Nat} (hv : Ob H v l) {x : Nat} (hx : x < 8) (hl : l.length ≤ 1000) :
  C k (.f qgg) [v, .agg (obC x)] H = .ok (.bool (decide (x ∈ l))) (qaq H (qac 0 (obC x))) := by
 obtain ⟨j, rfl⟩ : ∃ j, k = j + 1 := ⟨k - 1, by omega⟩
 rw [(hC j).ref19_Has]
 unfold ref19_Has qox qnt obC
 simp (disch := first | omega | exact tr_i rfl | (simp only [qaa, qab]; done) | (simp only [qaa, qab]; omega)) only [go_sem, Nat.reduceAdd, Nat.reduceMul, Nat.reduceSub, Nat.reduceLeDiff, Nat.reduceEqDiff, Nat.reduceShiftRight, Nat.reduceAnd]
 rw [qbc]
 have fx : Fm No H (qaq H (qac 0 [.str 1 (97 + x / 4), .str 1 (97 + x % 4)])) := by (repeat (first | exact Fm.refl _ _ | assumption | refine Fm.push ?_ _ | refine Fm.up2 ?_ (by (first | omega | (simp only [qaa, qab]; omega))) | refine Fm.put_new ?_ _ _ (by (first | omega | (simp only [qaa, qab]; omega)))))
 exact q4c hC (hv.fm fx) hx (qby _ _) hl qaz 0 (Nat.zero_le _) (by rw [qas]; omega)
end Go.Di
end
section
namespace Go.Di
open Go.Ev
variable {C : Nat → Ev.Call}
theorem q8n (hC : qbi C) {k : Nat} (hk : 1 ≤ k) {x y : Nat} (hx : x < 8) (hy : y < 8) (H : Hp) : Ok (C k (.f qjv) [.agg (obC x), .agg (obC y)] H) fun r H' => r = .bool (decide (x < y)) ∧ Fm No H H' := by
 obtain ⟨j, rfl⟩ : ∃ j, k = j + 1 := ⟨k - 1, by omega⟩
 rw [(hC j).ref19_Less]
 unfold ref19_Less qnp obC
 have e1 := q6i (x / 4) (y / 4) (by omega) (by omega)
 have e2 := q6i (x % 4) (y % 4) (by omega) (by omega)
 have h1 := Nat.div_add_mod x 4
 have h2 := Nat.div_add_mod y 4
 by_cases hl : x / 4 < y / 4
 ·have hlt := eq_true hl
  have hxy := eq_true (show x < y by omega)
  simp (disch := first | omega | exact tr_i rfl | (simp only [qaa, qab]; done) | (simp only [qaa, qab]; omega)) only [go_sem, Nat.reduceAdd, Nat.reduceMul, Nat.reduceSub, Nat.reduceLeDiff, Nat.reduceEqDiff, Nat.reduceShiftRight, Nat.reduceAnd, e1, hlt]
  exact Ok.ret ⟨by rw [decide_eq_true (show x < y by omega)], by (repeat (first | exact Fm.refl _ _ | assumption | refine Fm.push ?_ _ | refine Fm.up2 ?_ (by (first | omega | (simp only [qaa, qab]; omega))) | refine Fm.put_new ?_ _ _ (by (first | omega | (simp only [qaa, qab]; omega)))))⟩
 ·by_cases he : x / 4 = y / 4
  ·have het := eq_true (show 97 + x / 4 = 97 + y / 4 by rw [he])
   have hm : decide (x % 4 < y % 4) = decide (x < y) := decide_eq_decide.2 (by omega)
   simp (disch := first | omega | exact tr_i rfl | (simp only [qaa, qab]; done) | (simp only [qaa, qab]; omega)) only [go_sem, Nat.reduceAdd, Nat.reduceMul, Nat.reduceSub, Nat.reduceLeDiff, Nat.reduceEqDiff, Nat.reduceShiftRight, Nat.reduceAnd, e1, hl, het, e2, and_self]
   exact Ok.ret ⟨by rw [hm], by (repeat (first | exact Fm.refl _ _ | assumption | refine Fm.push ?_ _ | refine Fm.up2 ?_ (by (first | omega | (simp only [qaa, qab]; omega))) | refine Fm.put_new ?_ _ _ (by (first | omega | (simp only [qaa, qab]; omega)))))⟩
  ·have hne : ¬ (97 + x / 4 = 97 + y / 4) := fun h => he (by omega)
   simp (disch := first | omega | exact tr_i rfl | (simp only [qaa, qab]; done) | (simp only [qaa, qab]; omega)) only [go_sem, Nat.reduceAdd, Nat.reduceMul, Nat.reduceSub, Nat.reduceLeDiff, Nat.reduceEqDiff, Nat.reduceShiftRight, Nat.reduceAnd, e1, hl, hne, and_false]
   exact Ok.ret ⟨by rw [decide_eq_false (show ¬ x < y by omega)], by (repeat (first | exact Fm.refl _ _ | assumption | refine Fm.push ?_ _ | refine Fm.up2 ?_ (by (first | omega | (simp only [qaa, qab]; omega))) | refine Fm.put_new ?_ _ _ (by (first | omega | (simp only [qaa, qab]; omega)))))⟩
def rp (x : Nat) (put : Bool) (r : List Nat) : List Nat := if put then r else insL x r
theorem qxc (hC : qbi C) {j : Nat} (hj : 1 ≤ j) {H0 : Hp} {v : AV} {l : List Nat} (hv : Ob H0 v l) {x xb : Nat} (hx : x < 8) (hb : H0.get xb = qac 0 [.str 1 (97 + x / 4), .str 1 (97 + x % 4)]) (hxl : xb < H0.nx) (hl : l.length ≤ 100) {q : AV → AV → Hp → R1} {Q : AV → Hp → Prop}
  (hq : ∀ w put out H, Ac 2 obC H0 H w out → out ++ rp x put [] = insL x l → out.length ≤ 500 → Ok (q w (.bool put) H) Q) :
  ∀ (k i : Nat) (put : Bool) (w : AV) (out : List Nat) (H : Hp), i ≤ l.length → l.length - i < k → out.length = i + put.toNat → Ac 2 obC H0 H w out → out ++ rp x put (l.drop i) = insL x l →
   Ok (qe9 (C j) q v (.ptr xb 0) k w (.bool put) (.int .i64 (.ofNat i)) H) Q
 | 0, i, _, _, _, _, _, h, _, _, _ => by omega
 | k + 1, i, put, w, out, H, hi, hk, hol, hw, hR => by
  show Ok (qnn (C j) _ _ _ (qe9 (C j) _ _ _ k) _ _ _ H) Q
  unfold qnn
  have l1 := hv.len
  by_cases hlt : i < l.length
  ·simp (disch := first | omega | exact tr_i rfl | (simp only [qaa, qab]; done) | (simp only [qaa, qab]; omega)) only [go_sem, Nat.reduceAdd, Nat.reduceMul, Nat.reduceSub, Nat.reduceLeDiff, Nat.reduceEqDiff, Nat.reduceShiftRight, Nat.reduceAnd, l1, hlt]
   unfold qmy
   obtain ⟨h8, b, o, e1, e2, e3⟩ := (hv.fm hw.fm).at hlt
   have kx := (hw.fm.keep hxl).trans hb
   have hd : l.drop i = l[i] :: l.drop (i + 1) := List.drop_eq_getElem_cons hlt
   rw [hd] at hR
   have j14 : ∀ (p : Bool) (w1 : AV) (out1 : List Nat) (H1 : Hp), Fm No H0 H1 → out1.length = i + p.toNat → Ac 2 obC H0 H1 w1 out1 → out1 ++ l[i] :: rp x p (l.drop (i + 1)) = insL x l → Ok (qhw (C j) (qe9 (C j) q v (.ptr xb 0) k) v w1 (.bool p) (.int .i64 (.ofNat i)) H1) Q := by
    intro p w1 out1 H1 f1 ho1 hw1 hR1
    have hp1 := Bool.toNat_le p
    unfold qhw
    obtain ⟨_, b, o, e1, e2, e3⟩ := (hv.fm f1).at hlt
    simp (disch := first | omega | exact tr_i rfl | (simp only [qaa, qab]; done) | (simp only [qaa, qab]; omega)) only [go_sem, Nat.reduceAdd, Nat.reduceMul, Nat.reduceSub, Nat.reduceLeDiff, Nat.reduceEqDiff, Nat.reduceShiftRight, Nat.reduceAnd, e1, e3]
    refine Ok.ve ((hw1.no ((Fm.refl No H1).push (qac 0 (obC l[i])))).add l[i] 32 rfl (by omega) (by omega)) ?_
    intro w2 H2 hw2
    unfold qnm
    simp (disch := first | omega | exact tr_i rfl | (simp only [qaa, qab]; done) | (simp only [qaa, qab]; omega)) only [go_sem, Nat.reduceAdd, Nat.reduceMul, Nat.reduceSub, Nat.reduceLeDiff, Nat.reduceEqDiff, Nat.reduceShiftRight, Nat.reduceAnd]
    exact qxc hC hj hv hx hb hxl hl hq k (i + 1) p w2 _ H2 (by omega) (by omega) (by simp; omega) hw2 (by rw [← hR1]; simp)
   have hp0 := Bool.toNat_le put
   have hol100 : out.length ≤ 101 := by omega
   cases put
   ·simp (disch := first | omega | exact tr_i rfl | (simp only [qaa, qab]; done) | (simp only [qaa, qab]; omega)) only [go_sem, Nat.reduceAdd, Nat.reduceMul, Nat.reduceSub, Nat.reduceLeDiff, Nat.reduceEqDiff, Nat.reduceShiftRight, Nat.reduceAnd, kx, e1, e3]
    refine Ok.deO (q8n hC (k := j) hj hx h8 H) ?_
    rintro _ H2 ⟨rfl, f2⟩
    have kx2 := (f2.keep (show xb < H.nx by have := hw.fm.nx; omega)).trans kx
    have hw2 := hw.no f2
    by_cases hxy : x < l[i]
    ·have hxt := eq_true hxy
     simp (disch := first | omega | exact tr_i rfl | (simp only [qaa, qab]; done) | (simp only [qaa, qab]; omega)) only [go_sem, Nat.reduceAdd, Nat.reduceMul, Nat.reduceSub, Nat.reduceLeDiff, Nat.reduceEqDiff, Nat.reduceShiftRight, Nat.reduceAnd, hxt, kx2]
     refine Ok.ve ((hw2.no ((Fm.refl No H2).push (qac 0 (obC x)))).add x 32 rfl (by omega) (by omega)) ?_
     intro w3 H3 hw3
     have hR' : (out ++ [x]) ++ l[i] :: rp x true (l.drop (i + 1)) = insL x l := by
      rw [← hR]; simp [rp, insL, hxy]
     exact j14 true w3 _ H3 hw3.fm (by simp at hol ⊢; omega) hw3 hR'
    ·simp (disch := first | omega | exact tr_i rfl | (simp only [qaa, qab]; done) | (simp only [qaa, qab]; omega)) only [go_sem, Nat.reduceAdd, Nat.reduceMul, Nat.reduceSub, Nat.reduceLeDiff, Nat.reduceEqDiff, Nat.reduceShiftRight, Nat.reduceAnd, hxy]
     exact j14 false w out H2 hw2.fm hol hw2 (by rw [← hR]; simp [rp, insL, hxy])
   ·simp (disch := first | omega | exact tr_i rfl | (simp only [qaa, qab]; done) | (simp only [qaa, qab]; omega)) only [go_sem, Nat.reduceAdd, Nat.reduceMul, Nat.reduceSub, Nat.reduceLeDiff, Nat.reduceEqDiff, Nat.reduceShiftRight, Nat.reduceAnd]
    exact j14 true w out H hw.fm hol hw (by rw [← hR]; simp [rp])
  ·simp (disch := first | omega | exact tr_i rfl | (simp only [qaa, qab]; done) | (simp only [qaa, qab]; omega)) only [go_sem, Nat.reduceAdd, Nat.reduceMul, Nat.reduceSub, Nat.reduceLeDiff, Nat.reduceEqDiff, Nat.reduceShiftRight, Nat.reduceAnd, l1, hlt]
   rw [List.drop_eq_nil_of_le (by omega)] at hR
   exact hq w put out H hw hR (by have := Bool.toNat_le put; omega)
theorem q1o (x : Nat) : ∀ l : List Nat, x < 8 → (∀ y ∈ l, y < 8) → ∀ y ∈ insL x l, y < 8
 | [], hx, _, y, hy => by rw [insL, List.mem_singleton] at hy; omega
 | z :: l, hx, h, y, hy => by
  rw [insL] at hy
  split at hy
  ·rcases List.mem_cons.1 hy with rfl | hy
   ·exact hx
   ·exact h y hy
  ·rcases List.mem_cons.1 hy with rfl | hy
   ·exact h _ List.mem_cons_self
   ·exact q1o x l hx (fun y hy => h y (List.mem_cons_of_mem _ hy)) y hy
theorem zbe (hC : qbi C) {k : Nat} (hk : 2 ≤ k) {H : Hp} {v : AV} {l : List Nat} (hv : Ob H v l) {x : Nat} (hx : x < 8) (hl : l.length ≤ 100) :
  Ok (C k (.f qlb) [v, .agg (obC x)] H) fun w H' => Ob H' w (putL l x) ∧ Fm No H H' := by
 obtain ⟨j, rfl⟩ : ∃ j, k = j + 1 := ⟨k - 1, by omega⟩
 rw [(hC j).ref19_Put]
 unfold ref19_Put qow
 have fx : Fm No H (qaq H (qac 0 (obC x))) := by (repeat (first | exact Fm.refl _ _ | assumption | refine Fm.push ?_ _ | refine Fm.up2 ?_ (by (first | omega | (simp only [qaa, qab]; omega))) | refine Fm.put_new ?_ _ _ (by (first | omega | (simp only [qaa, qab]; omega)))))
 have call := qx4 hC (k := j) (by omega) (hv.fm fx) hx (by omega)
 unfold obC at call ⊢
 simp (disch := first | omega | exact tr_i rfl | (simp only [qaa, qab]; done) | (simp only [qaa, qab]; omega)) only [go_sem, Nat.reduceAdd, Nat.reduceMul, Nat.reduceSub, Nat.reduceLeDiff, Nat.reduceEqDiff, Nat.reduceShiftRight, Nat.reduceAnd, call]
 unfold putL
 have fy : Fm No H (qaq (qaq H (qac 0 (obC x))) (qac 0 (obC x))) := by (repeat (first | exact Fm.refl _ _ | assumption | refine Fm.push ?_ _ | refine Fm.up2 ?_ (by (first | omega | (simp only [qaa, qab]; omega))) | refine Fm.put_new ?_ _ _ (by (first | omega | (simp only [qaa, qab]; omega)))))
 by_cases hin : x ∈ l
 ·have hint := eq_true hin
  rw [if_pos hin]
  simp (disch := first | omega | exact tr_i rfl | (simp only [qaa, qab]; done) | (simp only [qaa, qab]; omega)) only [go_sem, Nat.reduceAdd, Nat.reduceMul, Nat.reduceSub, Nat.reduceLeDiff, Nat.reduceEqDiff, Nat.reduceShiftRight, Nat.reduceAnd, hint]
  exact Ok.ret ⟨hv.fm fy, fy⟩
 ·rw [if_neg hin]
  simp (disch := first | omega | exact tr_i rfl | (simp only [qaa, qab]; done) | (simp only [qaa, qab]; omega)) only [go_sem, Nat.reduceAdd, Nat.reduceMul, Nat.reduceSub, Nat.reduceLeDiff, Nat.reduceEqDiff, Nat.reduceShiftRight, Nat.reduceAnd, hin]
  unfold qmx qno
  rw [qbc]
  refine qxc hC (j := j) (by omega) (hv.fm fy) hx (xb := H.nx) (by unfold obC; simp (disch := first | omega | exact tr_i rfl | (simp only [qaa, qab]; done) | (simp only [qaa, qab]; omega)) only [go_sem, Nat.reduceAdd, Nat.reduceMul, Nat.reduceSub, Nat.reduceLeDiff, Nat.reduceEqDiff, Nat.reduceShiftRight, Nat.reduceAnd]) (by (first | omega | (simp only [qaa, qab]; omega))) hl (fun w put out H2 hw hR hol => ?_) qaz 0 false .nilsl [] _ (Nat.zero_le _) (by rw [qas]; omega) rfl (Ac.nil _ _ (Fm.refl _ _)) (by simp [rp])
  unfold qfa
  have hlt := q1o x l hx hv.lt
  have kx : H2.get H.nx = qac 0 [.str 1 (97 + x / 4), .str 1 (97 + x % 4)] := (hw.fm.keep (by (first | omega | (simp only [qaa, qab]; omega)))).trans (by unfold obC; simp (disch := first | omega | exact tr_i rfl | (simp only [qaa, qab]; done) | (simp only [qaa, qab]; omega)) only [go_sem, Nat.reduceAdd, Nat.reduceMul, Nat.reduceSub, Nat.reduceLeDiff, Nat.reduceEqDiff, Nat.reduceShiftRight, Nat.reduceAnd])
  cases put
  ·simp (disch := first | omega | exact tr_i rfl | (simp only [qaa, qab]; done) | (simp only [qaa, qab]; omega)) only [go_sem, Nat.reduceAdd, Nat.reduceMul, Nat.reduceSub, Nat.reduceLeDiff, Nat.reduceEqDiff, Nat.reduceShiftRight, Nat.reduceAnd, kx]
   refine Ok.ve ((hw.no ((Fm.refl No H2).push (qac 0 (obC x)))).add x 32 rfl (by omega) (by omega)) ?_
   intro w2 H3 hw2
   unfold qip
   have e : out ++ [x] = insL x l := by rw [← hR]; simp [rp, insL]
   rw [e] at hw2
   exact Ok.ret ⟨⟨hw2.lenV, fun _ => hw2.gl, hlt⟩, fy.trans hw2.fm⟩
  ·simp (disch := first | omega | exact tr_i rfl | (simp only [qaa, qab]; done) | (simp only [qaa, qab]; omega)) only [go_sem, Nat.reduceAdd, Nat.reduceMul, Nat.reduceSub, Nat.reduceLeDiff, Nat.reduceEqDiff, Nat.reduceShiftRight, Nat.reduceAnd]
   unfold qip
   have e : out = insL x l := by rw [← hR]; simp [rp]
   rw [e] at hw
   exact Ok.ret ⟨⟨hw.lenV, fun _ => hw.gl, hlt⟩, fy.trans hw.fm⟩
structure Vals (H : Hp) (v : AV) (ps : List (Nat → Bool)) : Prop where
 len : lenSl v = .val (.int .i64 (.ofNat ps.length))
 at' : ∀ i (h : i < ps.length), ∃ b o w, idxS 1 v (.int .i64 (.ofNat i)) = .val (.ptr b o) ∧ b < H.nx ∧ qbt (H.get b) o = .val w ∧ Ob H w (dom ps[i]) ∧ Gl 2 H w (dom ps[i]).length ((dom ps[i]).flatMap obC)
theorem Vals.fm {H H' : Hp} {v : AV} {ps : List (Nat → Bool)} (h : Vals H v ps) (f : Fm No H H') : Vals H' v ps := ⟨h.len, fun i hi => by
 obtain ⟨b, o, w, h1, h2, h3, h4, h5⟩ := h.at' i hi
 exact ⟨b, o, w, h1, Nat.lt_of_lt_of_le h2 f.nx, by rw [f.keep h2]; exact h3, h4.fm f, h5.no f⟩⟩
def qqe (n i : Nat) (t : Nat → Bool) : List AV := (List.range n).map fun k => .bool (decide (k < i) && t k)
theorem qvp (n i : Nat) (t : Nat → Bool) : (qqe n i t).length = n := by simp [qqe]
theorem q2p (n : Nat) (t : Nat → Bool) : reps [.bool false] n = qqe n 0 t := by
 induction n with
 | zero => rfl
 | succ n ih =>
  have e : reps [.bool false] (n + 1) = [.bool false] ++ reps [.bool false] n := rfl
  rw [e, ih]
  unfold qqe
  apply List.ext_getElem
  ·simp [Nat.add_comm]
  ·intro i h1 h2
   simp only [List.getElem_map, Nat.not_lt_zero, decide_false, Bool.false_and]
   rw [List.getElem_append]
   split <;> simp
theorem qvo (n i : Nat) (t : Nat → Bool) (h : i < n) : setL (qqe n i t) i [.bool (t i)] = qqe n (i + 1) t := by
 unfold setL qqe
 apply List.ext_getElem
 ·simp; omega
 ·intro j h1 h2
  simp at h2
  simp only [List.getElem_map, List.getElem_range]
  rw [List.getElem_append]
  split
  ·next hj =>
   rw [List.getElem_append]
   split
   ·next hj' =>
    simp at hj'
    have a1 : decide (j < i) = true := decide_eq_true (by omega)
    have a2 : decide (j < i + 1) = true := decide_eq_true (by omega)
    simp [a1, a2]
   ·next hj' =>
    simp at hj hj'
    have : j = i := by omega
    subst this
    simp
  ·next hj =>
   simp at hj
   have a1 : ¬ j < i := by omega
   have a2 : ¬ j < i + 1 := by omega
   simp only [List.getElem_drop, List.getElem_map, List.getElem_range, List.length_append, List.length_take, List.length_map, List.length_range, List.length_cons, List.length_nil]
   have : (i + (0 + 1) + (j - (min i n + (0 + 1)))) = j := by omega
   rw [this, decide_eq_false a1, decide_eq_false a2]
theorem q2o {H : Hp} {bb n : Nat} {t : Nat → Bool} (h : H.get bb = qac 0 (qqe n n t)) (hb : bb < H.nx) : Bl H (.sl bb 0 n n true) n t := ⟨rfl, fun i hi => by
 refine ⟨bb, 0 + i * 1, qqk _ _ _ _ _ _ _ _ hi, hb, ?_⟩
 rw [h, qiq, Nat.mul_one, Nat.zero_add]
 unfold qqe
 rw [List.getElem?_map, List.getElem?_range hi]
 simp [hi]⟩
end Go.Di
end
section
namespace Go.Di
open Go.Ev
variable {C : Nat → Ev.Call}
theorem qvn (hC : qbi C) {j : Nat} (hj : 1 ≤ j) {Hb : Hp} {vv au : AV} {ps : List (Nat → Bool)} {A : List Nat} (hv : Vals Hb vv ps) (hA : Ob Hb au A) {i bb : Nat} (hi : i < A.length) (hb : Hb.nx ≤ bb) (hn : ps.length ≤ 100) {q : Hp → R1} {Q : AV → Hp → Prop}
  (hq : ∀ H, Fm No Hb H → H.get bb = qac 0 (qqe ps.length ps.length fun k => (ps.getD k fun _ => false) A[i]) → bb < H.nx → Ok (q H) Q) :
  ∀ (k m : Nat) (H : Hp), m ≤ ps.length → ps.length - m < k → Fm No Hb H → bb < H.nx → H.get bb = qac 0 (qqe ps.length m fun k => (ps.getD k fun _ => false) A[i]) →
   Ok (qfs (C j) q vv au (.int .i64 (.ofNat i)) (.sl bb 0 ps.length ps.length true) k (.int .i64 (.ofNat m)) H) Q
 | 0, m, _, _, h, _, _, _ => by omega
 | k + 1, m, H, hm, hk, hf, hbl, hbb => by
  show Ok (qly (C j) _ _ _ _ _ (qfs (C j) _ _ _ _ _ k) _ H) Q
  unfold qly
  have l1 := hv.len
  by_cases hlt : m < ps.length
  ·simp (disch := first | omega | exact tr_i rfl | (simp only [qaa, qab]; done) | (simp only [qaa, qab]; omega)) only [go_sem, Nat.reduceAdd, Nat.reduceMul, Nat.reduceSub, Nat.reduceLeDiff, Nat.reduceEqDiff, Nat.reduceShiftRight, Nat.reduceAnd, l1, hlt]
   unfold qlu
   obtain ⟨b, o, w, e1, e2, e3, e4, e5⟩ := (hv.fm hf).at' m hlt
   obtain ⟨h8, b', o', g1, g2, g3⟩ := (hA.fm hf).at hi
   have e6 := qhf (Gl.flat e5) 63
   have call := qx4 hC (k := j) hj e4 h8 (Nat.le_trans (qie _) (by omega))
   unfold obC at call
   simp (disch := first | omega | exact tr_i rfl | (simp only [qaa, qab]; done) | (simp only [qaa, qab]; omega)) only [go_sem, Nat.reduceAdd, Nat.reduceMul, Nat.reduceSub, Nat.reduceLeDiff, Nat.reduceEqDiff, Nat.reduceShiftRight, Nat.reduceAnd, e1, e3, g1, g3]
   refine Ok.deE call ?_
   have gd : ps.getD m (fun _ => false) = ps[m] := by rw [List.getD_eq_getElem?_getD, List.getElem?_eq_getElem hlt]; rfl
   have hmem : decide (A[i] ∈ dom ps[m]) = (ps.getD m fun _ => false) A[i] := by
    rw [gd]
    cases hp : ps[m] A[i]
    ·exact decide_eq_false fun h => by rw [(qia.1 h).2] at hp; cases hp
    ·exact decide_eq_true (qia.2 ⟨h8, hp⟩)
   rw [hmem]
   have gb : b < H.nx := e2
   have hset := qvo ps.length m (fun k => (ps.getD k fun _ => false) A[i]) hlt
   have hle := eq_true (show m + 1 ≤ ps.length by omega)
   simp (disch := first | omega | exact tr_i rfl | (simp only [qaa, qab]; done) | (simp only [qaa, qab]; omega)) only [go_sem, Nat.reduceAdd, Nat.reduceMul, Nat.reduceSub, Nat.reduceLeDiff, Nat.reduceEqDiff, Nat.reduceShiftRight, Nat.reduceAnd, e1, e3, g1, g3, hbb, qvp, hle, if_true, hset]
   unfold qlv
   simp (disch := first | omega | exact tr_i rfl | (simp only [qaa, qab]; done) | (simp only [qaa, qab]; omega)) only [go_sem, Nat.reduceAdd, Nat.reduceMul, Nat.reduceSub, Nat.reduceLeDiff, Nat.reduceEqDiff, Nat.reduceShiftRight, Nat.reduceAnd]
   have n0 := hf.nx
   refine qvn hC hj hv hA hi hb hn hq k (m + 1) _ (by omega) (by omega) ((hf.push _).put_new _ _ hb) (by simp only [qab, qaa]; omega) ?_
   exact qar _ _ _
  ·simp (disch := first | omega | exact tr_i rfl | (simp only [qaa, qab]; done) | (simp only [qaa, qab]; omega)) only [go_sem, Nat.reduceAdd, Nat.reduceMul, Nat.reduceSub, Nat.reduceLeDiff, Nat.reduceEqDiff, Nat.reduceShiftRight, Nat.reduceAnd, l1, hlt]
   have he : m = ps.length := by omega
   subst he
   exact hq H hf hbb hbl
theorem q7q {t : Nat → Bool} {kd : Nat} {rl to : SS} {a : Fo} : evB t (.cons kd rl to a .nil) = tvl (fun i _ => t i) kd a 0 0 := rfl
theorem q20 (hC : qbi C) {k : Nat} (hk : 9 ≤ k) {H : Hp} {f : Fo} {cs : List AV} {vv : AV} {n : Nat} {t : Nat → Bool} (hc : FoC (fun _ => True) H f cs) (hf : f.Ok1) (hv : Bl H vv n t) (hn : f.lv ≤ n) (hn2 : n ≤ 1000) :
  Ok (C k (.f qff) [.agg cs, vv, .int .i64 (.ofNat 0)] H) fun r H' => ∃ x, r = .tup [.bool (evB t f), x] ∧ Fm No H H' := by
 have hd := hf.dp
 have hs := hf.sz
 have hr := hf.rt
 obtain ⟨kd, rl, to, a, av, ca, rfl, rfl, g1, g2, g3⟩ := hc.one hf.one
 simp only [Fo.depth, Fo.size] at hd hs
 refine (q1y hC (q7p hC a) k (by omega) H 0 n rl to av vv ca t hr g1 g3 hv (by omega) (by omega) hn2).mono ?_
 rintro r H' ⟨rfl, f'⟩
 exact ⟨_, by rw [q7q], f'⟩
theorem qu4 (hC : qbi C) {j : Nat} (hj : 9 ≤ j) {Hb : Hp} {vv au : AV} {ps : List (Nat → Bool)} {A : List Nat} (hv : Vals Hb vv ps) (hA : Ob Hb au A) (hn : ps.length ≤ 100) (hAl : A.length ≤ 100) {f : Fo} {cs : List AV} {rb : Nat} (hc : FoC (fun _ => True) Hb f cs) (hf1 : f.Ok1) (hrb : Hb.get rb = qac 0 cs) (hrl : rb < Hb.nx) (hlv : f.lv ≤ ps.length) {q : AV → Hp → R1} {Q : AV → Hp → Prop}
  (hq : ∀ w H, Ac 2 obC Hb H w (A.filter fun x => evB (fun k => (ps.getD k fun _ => false) x) f) → Ok (q w H) Q) :
  ∀ (k i : Nat) (w : AV) (H : Hp), i ≤ A.length → A.length - i < k → Ac 2 obC Hb H w ((A.take i).filter fun x => evB (fun k => (ps.getD k fun _ => false) x) f) → Ok (qco (C j) q vv (.ptr rb 0) au k w (.int .i64 (.ofNat i)) H) Q
 | 0, i, _, _, _, h, _ => by omega
 | k + 1, i, w, H, hi, hk, hw => by
  show Ok (qmv (C j) _ _ _ _ (qco (C j) _ _ _ _ k) _ _ H) Q
  unfold qmv
  have l1 := hA.len
  have l2 := hv.len
  by_cases hlt : i < A.length
  ·simp (disch := first | omega | exact tr_i rfl | (simp only [qaa, qab]; done) | (simp only [qaa, qab]; omega)) only [go_sem, Nat.reduceAdd, Nat.reduceMul, Nat.reduceSub, Nat.reduceLeDiff, Nat.reduceEqDiff, Nat.reduceShiftRight, Nat.reduceAnd, l1, hlt]
   unfold qlt
   have mk := qrx [.bool false] 1 H.nx ps.length (by omega) (by omega)
   simp (disch := first | omega | exact tr_i rfl | (simp only [qaa, qab]; done) | (simp only [qaa, qab]; omega)) only [go_sem, Nat.reduceAdd, Nat.reduceMul, Nat.reduceSub, Nat.reduceLeDiff, Nat.reduceEqDiff, Nat.reduceShiftRight, Nat.reduceAnd, l2, mk]
   unfold ql1
   rw [qbc, q2p ps.length fun k => (ps.getD k fun _ => false) A[i]]
   have n0 := hw.fm.nx
   refine qvn hC (j := j) (by omega) (hv.fm hw.fm) (hA.fm hw.fm) hlt (Nat.le_refl H.nx) hn (fun H2 f2 k2 b2 => ?_) qaz 0 _ (Nat.zero_le _) (by rw [qas]; omega) ((Fm.refl No H).push _) (by rw [qaa]; omega) (qby _ _)
   unfold qey
   have w2 := hw.no f2
   have hbl := q2o k2 b2
   have kr := (w2.fm.keep hrl).trans hrb
   have hc2 := hc.fm w2.fm
   have call := q20 hC (k := j) hj hc2 hf1 hbl hlv (by omega)
   have ih := qu4 hC hj hv hA hn hAl hc hf1 hrb hrl hlv hq k (i + 1)
   have hcut : (A.take (i + 1)).filter (fun x => evB (fun k => (ps.getD k fun _ => false) x) f) = (A.take i).filter (fun x => evB (fun k => (ps.getD k fun _ => false) x) f) ++ if evB (fun k => (ps.getD k fun _ => false) A[i]) f then [A[i]] else [] := by
    rw [List.take_succ_eq_append_getElem hlt, List.filter_append, List.filter_cons, List.filter_nil]
   rw [hcut] at ih
   have hol : ((A.take i).filter fun x => evB (fun k => (ps.getD k fun _ => false) x) f).length ≤ 100 := Nat.le_trans (List.length_filter_le _ _) (by simp; omega)
   obtain ⟨kd, rl, to, a, av, ca, hfe, hcs, _⟩ := hc.one hf1.one
   subst hcs
   simp (disch := first | omega | exact tr_i rfl | (simp only [qaa, qab]; done) | (simp only [qaa, qab]; omega)) only [go_sem, Nat.reduceAdd, Nat.reduceMul, Nat.reduceSub, Nat.reduceLeDiff, Nat.reduceEqDiff, Nat.reduceShiftRight, Nat.reduceAnd, kr]
   refine Ok.ve call ?_
   rintro _ H3 ⟨x3, rfl, f3⟩
   have w3 := w2.no f3
   cases hev : evB (fun k => (ps.getD k fun _ => false) A[i]) f
   ·rw [hev] at ih
    simp (disch := first | omega | exact tr_i rfl | (simp only [qaa, qab]; done) | (simp only [qaa, qab]; omega)) only [go_sem, Nat.reduceAdd, Nat.reduceMul, Nat.reduceSub, Nat.reduceLeDiff, Nat.reduceEqDiff, Nat.reduceShiftRight, Nat.reduceAnd]
    unfold qhv
    simp (disch := first | omega | exact tr_i rfl | (simp only [qaa, qab]; done) | (simp only [qaa, qab]; omega)) only [go_sem, Nat.reduceAdd, Nat.reduceMul, Nat.reduceSub, Nat.reduceLeDiff, Nat.reduceEqDiff, Nat.reduceShiftRight, Nat.reduceAnd]
    exact ih w H3 (by omega) (by omega) (by simpa using w3)
   ·rw [hev] at ih
    obtain ⟨h8, b', o', g1, g2, g3⟩ := (hA.fm w3.fm).at hlt
    simp (disch := first | omega | exact tr_i rfl | (simp only [qaa, qab]; done) | (simp only [qaa, qab]; omega)) only [go_sem, Nat.reduceAdd, Nat.reduceMul, Nat.reduceSub, Nat.reduceLeDiff, Nat.reduceEqDiff, Nat.reduceShiftRight, Nat.reduceAnd, g1, g3]
    refine Ok.ve ((w3.no ((Fm.refl No H3).push (qac 0 (obC A[i])))).add A[i] 32 rfl (by omega) (by omega)) ?_
    intro w4 H4 hw4
    unfold qhv
    simp (disch := first | omega | exact tr_i rfl | (simp only [qaa, qab]; done) | (simp only [qaa, qab]; omega)) only [go_sem, Nat.reduceAdd, Nat.reduceMul, Nat.reduceSub, Nat.reduceLeDiff, Nat.reduceEqDiff, Nat.reduceShiftRight, Nat.reduceAnd]
    exact ih w4 H4 (by omega) (by omega) (by simpa using hw4)
  ·simp (disch := first | omega | exact tr_i rfl | (simp only [qaa, qab]; done) | (simp only [qaa, qab]; omega)) only [go_sem, Nat.reduceAdd, Nat.reduceMul, Nat.reduceSub, Nat.reduceLeDiff, Nat.reduceEqDiff, Nat.reduceShiftRight, Nat.reduceAnd, l1, hlt]
   have he : i = A.length := by omega
   subst he
   rw [List.take_length] at hw
   exact hq w H hw
theorem qtf (l : List Nat) (i : Nat) (h : i < l.length) (y : Nat) : y ∈ l.take (i + 1) ↔ y ∈ l.take i ∨ y = l[i] := by
 rw [List.take_succ_eq_append_getElem h, List.mem_append, List.mem_singleton]
theorem quq (hC : qbi C) {j : Nat} (hj : 2 ≤ j) {Hb : Hp} {vv : AV} {ps : List (Nat → Bool)} (hv : Vals Hb vv ps) {i : Nat} (hi : i < ps.length) (hn : ps.length ≤ 100) {p : Nat → Bool} {q : AV → Hp → R1} {Q : AV → Hp → Prop}
  (hq : ∀ w H, Fm No Hb H → Ob H w (dom fun y => p y || ps[i] y) → Ok (q w H) Q) :
  ∀ (k m : Nat) (w : AV) (H : Hp), m ≤ (dom ps[i]).length → (dom ps[i]).length - m < k → Fm No Hb H → Ob H w (dom fun y => p y || decide (y ∈ (dom ps[i]).take m)) → Ok (qfr (C j) q vv (.int .i64 (.ofNat i)) k w (.int .i64 (.ofNat m)) H) Q
 | 0, m, _, _, _, h, _, _ => by omega
 | k + 1, m, w, H, hm, hk, hf, hw => by
  show Ok (qlw (C j) _ _ _ (qfr (C j) _ _ _ k) _ _ H) Q
  unfold qlw
  obtain ⟨b, o, u, e1, e2, e3, e4, _⟩ := (hv.fm hf).at' i hi
  have l1 := e4.len
  have hd8 := qie ps[i]
  by_cases hlt : m < (dom ps[i]).length
  ·simp (disch := first | omega | exact tr_i rfl | (simp only [qaa, qab]; done) | (simp only [qaa, qab]; omega)) only [go_sem, Nat.reduceAdd, Nat.reduceMul, Nat.reduceSub, Nat.reduceLeDiff, Nat.reduceEqDiff, Nat.reduceShiftRight, Nat.reduceAnd, e1, e3, l1, hlt]
   unfold qlr
   obtain ⟨h8, b', o', g1, g2, g3⟩ := e4.at hlt
   have call := zbe hC (k := j) hj hw h8 (Nat.le_trans (qie _) (by omega))
   unfold obC at call
   simp (disch := first | omega | exact tr_i rfl | (simp only [qaa, qab]; done) | (simp only [qaa, qab]; omega)) only [go_sem, Nat.reduceAdd, Nat.reduceMul, Nat.reduceSub, Nat.reduceLeDiff, Nat.reduceEqDiff, Nat.reduceShiftRight, Nat.reduceAnd, e1, e3, g1, g3]
   refine Ok.ve call ?_
   rintro w2 H2 ⟨h2, f2⟩
   unfold qls
   simp (disch := first | omega | exact tr_i rfl | (simp only [qaa, qab]; done) | (simp only [qaa, qab]; omega)) only [go_sem, Nat.reduceAdd, Nat.reduceMul, Nat.reduceSub, Nat.reduceLeDiff, Nat.reduceEqDiff, Nat.reduceShiftRight, Nat.reduceAnd]
   refine quq hC hj hv hi hn hq k (m + 1) w2 H2 (by omega) (by omega) (hf.trans f2) ?_
   rw [q3r _ _ h8] at h2
   rw [qit (q := fun y => (p y || decide (y ∈ (dom ps[i]).take m)) || decide (y = (dom ps[i])[m])) fun y _ => by
    rw [Bool.or_assoc, ← Bool.decide_or]
    congr 1
    exact decide_eq_decide.2 (qtf _ m hlt y)]
   exact h2
  ·simp (disch := first | omega | exact tr_i rfl | (simp only [qaa, qab]; done) | (simp only [qaa, qab]; omega)) only [go_sem, Nat.reduceAdd, Nat.reduceMul, Nat.reduceSub, Nat.reduceLeDiff, Nat.reduceEqDiff, Nat.reduceShiftRight, Nat.reduceAnd, e1, e3, l1, hlt]
   have he : m = (dom ps[i]).length := by omega
   subst he
   rw [List.take_length] at hw
   refine hq w H hf ?_
   rw [qit (q := fun y => p y || decide (y ∈ dom ps[i])) fun y hy => by
    congr 1
    cases hp : ps[i] y
    ·exact (decide_eq_false fun h => by rw [(qia.1 h).2] at hp; cases hp).symm
    ·exact (decide_eq_true (qia.2 ⟨hy, hp⟩)).symm]
   exact hw
theorem qst (hC : qbi C) {j : Nat} (hj : 2 ≤ j) {Hb : Hp} {vv : AV} {ps : List (Nat → Bool)} (hv : Vals Hb vv ps) (hn : ps.length ≤ 100) {q : AV → Hp → R1} {Q : AV → Hp → Prop}
  (hq : ∀ w H, Fm No Hb H → Ob H w (dom (qqp ps)) → Ok (q w H) Q) :
  ∀ (k i : Nat) (w : AV) (H : Hp), i ≤ ps.length → ps.length - i < k → Fm No Hb H → Ob H w (dom (qqp (ps.take i))) → Ok (qcm (C j) q vv k w (.int .i64 (.ofNat i)) H) Q
 | 0, i, _, _, _, h, _, _ => by omega
 | k + 1, i, w, H, hi, hk, hf, hw => by
  show Ok (qlx (C j) _ _ (qcm (C j) _ _ k) _ _ H) Q
  unfold qlx
  have l1 := hv.len
  by_cases hlt : i < ps.length
  ·simp (disch := first | omega | exact tr_i rfl | (simp only [qaa, qab]; done) | (simp only [qaa, qab]; omega)) only [go_sem, Nat.reduceAdd, Nat.reduceMul, Nat.reduceSub, Nat.reduceLeDiff, Nat.reduceEqDiff, Nat.reduceShiftRight, Nat.reduceAnd, l1, hlt]
   unfold qlq qlz
   rw [qbc]
   have hd8 := qie ps[i]
   refine quq hC hj hv hlt hn (p := qqp (ps.take i)) (fun w2 H2 f2 h2 => ?_) qaz 0 w H (Nat.zero_le _) (by rw [qas]; omega) hf ?_
   ·unfold qex
    simp (disch := first | omega | exact tr_i rfl | (simp only [qaa, qab]; done) | (simp only [qaa, qab]; omega)) only [go_sem, Nat.reduceAdd, Nat.reduceMul, Nat.reduceSub, Nat.reduceLeDiff, Nat.reduceEqDiff, Nat.reduceShiftRight, Nat.reduceAnd]
    refine qst hC hj hv hn hq k (i + 1) w2 H2 (by omega) (by omega) f2 ?_
    rw [qit (q := fun y => qqp (ps.take i) y || ps[i] y) fun y _ => by
     unfold qqp
     rw [List.take_succ_eq_append_getElem hlt, List.any_append]
     simp]
    exact h2
   ·rw [qit (q := qqp (ps.take i)) fun y _ => by simp]
    exact hw
  ·simp (disch := first | omega | exact tr_i rfl | (simp only [qaa, qab]; done) | (simp only [qaa, qab]; omega)) only [go_sem, Nat.reduceAdd, Nat.reduceMul, Nat.reduceSub, Nat.reduceLeDiff, Nat.reduceEqDiff, Nat.reduceShiftRight, Nat.reduceAnd, l1, hlt]
   have he : i = ps.length := by omega
   subst he
   rw [List.take_length] at hw
   exact hq w H hf hw
theorem q5d (hC : qbi C) {k : Nat} (hk : 11 ≤ k) {H : Hp} {f : Fo} {cs : List AV} {vv : AV} {ps : List (Nat → Bool)} (hc : FoC (fun _ => True) H f cs) (hf : f.Ok1) (hv : Vals H vv ps) (hn : ps.length = f.lv) (hn2 : ps.length ≤ 100) :
  Ok (C k (.f qju) [.agg cs, vv] H) fun w H' => Ob H' w (dom fun x => evB (fun k => (ps.getD k fun _ => false) x) f) ∧ Fm No H H' := by
 obtain ⟨j, rfl⟩ : ∃ j, k = j + 1 := ⟨k - 1, by omega⟩
 rw [(hC j).ref19_Sets]
 unfold ref19_Sets qnl ql0
 have fx : Fm No H (qaq H (qac 0 cs)) := by (repeat (first | exact Fm.refl _ _ | assumption | refine Fm.push ?_ _ | refine Fm.up2 ?_ (by (first | omega | (simp only [qaa, qab]; omega))) | refine Fm.put_new ?_ _ _ (by (first | omega | (simp only [qaa, qab]; omega)))))
 obtain ⟨H1, hH1⟩ : ∃ H1, H1 = qaq H (qac 0 cs) := ⟨_, rfl⟩
 rw [← hH1] at fx
 have k1 : H1.get H.nx = qac 0 cs := by rw [hH1]; exact qby _ _
 have n1 : H1.nx = H.nx + 1 := by rw [hH1]; exact qaa _ _
 obtain ⟨kd, rl, to, a, av, ca, hfe, hcs, _⟩ := hc.one hf.one
 have hb : boxA 4 H.nx (.agg cs) = .new (.ptr H.nx 0) (qac 0 cs) := by subst hcs; rfl
 simp (disch := first | omega | exact tr_i rfl | (simp only [qaa, qab]; done) | (simp only [qaa, qab]; omega)) only [go_sem, Nat.reduceAdd, Nat.reduceMul, Nat.reduceSub, Nat.reduceLeDiff, Nat.reduceEqDiff, Nat.reduceShiftRight, Nat.reduceAnd, hb]
 rw [← hH1, qbc]
 refine qst hC (j := j) (by omega) (hv.fm fx) hn2 (fun w H2 f2 h2 => ?_) qaz 0 .nilsl H1 (Nat.zero_le _) (by rw [qas]; omega) (Fm.refl _ _) ?_
 ·unfold qb9 qmw
  rw [qbc]
  have h8 := qie (qqp ps)
  refine qu4 hC (j := j) (by omega) ((hv.fm fx).fm f2) h2 hn2 (by omega) ((hc.fm fx).fm f2) hf ((f2.keep (by omega)).trans k1) (by have := f2.nx; omega) (by omega) (fun w3 H3 hw3 => ?_) qaz 0 .nilsl H2 (Nat.zero_le _) (by rw [qas]; omega) (Ac.nil _ _ (Fm.refl _ _))
  unfold qce
  rw [q8h hf.rt ps hn] at hw3
  exact Ok.ret ⟨hw3.ob, (fx.trans f2).trans hw3.fm⟩
 ·have : dom (qqp (ps.take 0)) = [] := by
   rw [qit (q := fun _ => false) fun y _ => by simp [qqp]]
   simp [dom]
  rw [this]
  exact Ob.nil _
end Go.Di
end
