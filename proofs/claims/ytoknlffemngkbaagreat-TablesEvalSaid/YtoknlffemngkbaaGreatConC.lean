/-
 For TablesEval: functions in direct style, their contracts, and the plain mathematics, part 3 of 5. No conditions beyond those that each theorem states.
-/
import Derived.Test.YtoknlffemngkbaaGreatConB
set_option linter.unusedSimpArgs false
set_option linter.unusedVariables false
section
namespace Go.Di
open Go.Ev
variable {C : Nat → Ev.Call}
theorem Gl.flat {z n : Nat} {H : Hp} {v : AV} {l : List AV} (h : Gl z H v n l) : qt1 v = true := by
 rcases h.is with ⟨rfl, rfl⟩ | ⟨b, o, e, q, L, rfl, _⟩ <;> rfl
theorem FoC.flat {P : Nat → Prop} {H : Hp} : ∀ {g : Fo} {cs : List AV}, FoC P H g cs → cs.all qt1 = true
 | .nil, _, h => by rw [show _ = _ from h]; rfl
 | .cons _ _ _ _ _, _, ⟨av, ca, cr, h1, h2, _, _, h5⟩ => by
  rw [h1]
  simp only [List.all_cons, FoC.flat h5, Gl.flat h2]; rfl
theorem q3y (hC : qbi C) : ∀ f : Fo, NodL C f := by
 intro f
 induction f with
 | nil =>
  intro j hj S0 H0 ib kd n i rl to av w xa lo ln done pre rest neg H q Q k hk hn hdn hnn hsz hg hp hav hc hI hq
  obtain ⟨k, rfl⟩ : ∃ m, k = m + 1 := ⟨k - 1, by omega⟩
  show Ok (qf7 (C j) _ _ _ (qdh (C j) _ _ _ k) _ _ _ H) Q
  unfold qf7
  simp only [Fo.len] at hn
  have hlt : ¬ i < n := by omega
  have hl := hg.lenV
  have h1 := hI.bx.2.2
  simp (disch := first | omega | exact tr_i rfl | (simp only [qaa, qab]; done) | (simp only [qaa, qab]; omega)) only [go_sem, Nat.reduceAdd, Nat.reduceMul, Nat.reduceSub, Nat.reduceLeDiff, Nat.reduceEqDiff, Nat.reduceShiftRight, Nat.reduceAnd, h1, hl, hlt]
  exact hq w xa H [] (by simpa [Fo.ixs] using hI) rfl
 | cons k1 r1 t1 a r iha ihr =>
  intro j hj S0 H0 ib kd n i rl to av w xa lo ln done pre rest neg H q Q k hk hn hdn hnn hsz hg hp hav hc hI hq
  obtain ⟨k, rfl⟩ : ∃ m, k = m + 1 := ⟨k - 1, by omega⟩
  show Ok (qf7 (C j) _ _ _ (qdh (C j) _ _ _ k) _ _ _ H) Q
  unfold qf7
  simp only [Fo.len] at hn
  simp only [Fo.depth] at hj
  simp only [Fo.size] at hsz
  have hlt : i < n := by omega
  have hl := hg.lenV
  have h1 := hI.bx.2.2
  simp (disch := first | omega | exact tr_i rfl | (simp only [qaa, qab]; done) | (simp only [qaa, qab]; omega)) only [go_sem, Nat.reduceAdd, Nat.reduceMul, Nat.reduceSub, Nat.reduceLeDiff, Nat.reduceEqDiff, Nat.reduceShiftRight, Nat.reduceAnd, h1, hl, hlt]
  unfold qkt
  have hlw := hI.gl.lenV
  simp (disch := first | omega | exact tr_i rfl | (simp only [qaa, qab]; done) | (simp only [qaa, qab]; omega)) only [go_sem, Nat.reduceAdd, Nat.reduceMul, Nat.reduceSub, Nat.reduceLeDiff, Nat.reduceEqDiff, Nat.reduceShiftRight, Nat.reduceAnd, hlw]
  obtain ⟨j, rfl⟩ : ∃ m, j = m + 1 := ⟨j - 1, by omega⟩
  have fp : Fm No H (qaq H (qac 0 [.int .i64 (.ofNat (lo ++ ln).length)])) := by (repeat (first | exact Fm.refl _ _ | assumption | refine Fm.push ?_ _ | refine Fm.up2 ?_ (by (first | omega | (simp only [qaa, qab]; omega))) | refine Fm.put_new ?_ _ _ (by (first | omega | (simp only [qaa, qab]; omega)))))
  obtain ⟨H2, e2, g2, q2, f2, n2⟩ := (hI.xl.no fp).append (k := 1) (w := 8) (x := [.int .i64 (.ofNat (lo ++ ln).length)]) (by omega) rfl (by omega) (by omega)
  simp only [qaa] at n2
  rw [hdn] at e2 g2
  refine Ok.veE e2 ?_
  have n0 := hI.fm.nx
  have hib := hI.bx
  have fA : Fm (In xa) H H2 := (fp.mono (T := In xa) (fun _ _ h => absurd h id)).then f2 fun _ _ h => h
  have f02 : Fm S0 H0 H2 := hI.fm.then fA fun c hc h => by have := (hI.xw c h).1; omega
  have k2 : H2.get ib = qac 0 [.int .u8 (.ofNat kd), .str rl.n rl.a, .str to.n to.a, av] := (fA.get ib hib.2.1 fun h => (hI.xw ib h).2.1 rfl).trans h1
  have g02 : Gl 4 H2 av n (pre ++ rest) := hg.fm f02 hav
  have c02 : FoC (fun b => ¬ S0 b ∧ b < H0.nx) H2 (.cons k1 r1 t1 a r) rest := (hc.mono (Q := fun b => ¬ S0 b ∧ b < H0.nx) fun b h1 h2 => ⟨h2, h1⟩).fmS f02 fun b h => h.1
  obtain ⟨_, b, o, av1, ca, cr, i1, i2, i3, i4, _, i5, c1, c2, c3, c4, _⟩ := g02.rule hp c02
  have hbw : ¬ In w b := fun h => by
   have h5 := (hI.nw b h).1
   have := hg.lt i3
   omega
  have hwk : Gl 5 H2 w (lo ++ ln).length ((lo ++ ln).flatMap neC) := hI.gl.fm fA fun b hb h => (hI.xw b h).2.2 hb
  have nlt : ∀ b, b < H0.nx → ¬ In w b := fun b hb h => by have := (hI.nw b h).1; omega
  have call : ∀ ng : Bool, Ok (C (j + 1) (.f qd8) [w, .agg [.int .u8 (.ofNat k1), .str r1.n r1.a, .str t1.n t1.a, av1], .bool ng] H2) _ := fun ng => qxk hC iha (j := j) (by omega) (kd := k1) (rl := r1) (to := t1) (neg := ng) hwk c1 (fun b hb => nlt b (c2 b hb).2) (c3.mono fun b _ hb => nlt b hb.2) (by omega)
  have fin : ∀ (w3 : AV) (H3 : Hp) (ln2 : List NE), Gl 5 H3 w3 (lo ++ ln ++ ln2).length ((lo ++ ln ++ ln2).flatMap neC) → ln2.map NE.key = (Fo.cons k1 r1 t1 a .nil).kys (lo ++ ln).length → (∀ e ∈ ln2, e.Ar (fun b => H2.nx ≤ b ∧ ¬ In w3 b) H3) → Fm (In w) H2 H3 → (∀ b, In w3 b → H2.nx ≤ b) →
    Ok (qdh (C (j + 1)) q (.bool neg) (.ptr ib 0) k w3 (.sl (qaq H (qac 0 [.int .i64 (.ofNat (lo ++ ln).length)])).nx 0 (i + 1) (i + 1) false) (.int .i64 (.ofNat (i + 1))) H3) Q := by
   intro w3 H3 ln2 g3 hk3 ha3 f3 hw3
   have hx3 : ∀ b, In (.sl (qaq H (qac 0 [.int .i64 (.ofNat (lo ++ ln).length)])).nx 0 (i + 1) (i + 1) false) b → b = H.nx + 1 := fun b h => by
    obtain ⟨_, _, _, _, h⟩ := h
    injection h with h
    rw [← h]; simp only [qaa]
   have l3 : ln2.length = 1 + a.size := by
    have := congrArg List.length hk3
    rw [List.length_map, Fo.kys_len] at this
    rw [this]; simp only [Fo.size]; omega
   refine ihr (j + 1) (by omega) S0 H0 ib kd n (i + 1) rl to av w3 _ lo (ln ++ ln2) (done ++ [(lo ++ ln).length]) (pre ++ [.int .u8 (.ofNat k1), r1.v, t1.v, av1]) cr neg H3 q Q k (by omega) (by omega) (by simp [hdn]) hnn (by simp at hsz ⊢; omega) (by rw [i5] at hg; simpa using hg) (by simp [hp]; omega) hav ?_ ⟨f02.then f3 fun c hc h => absurd h (nlt c hc), ⟨hib.1, by have := f3.nx; omega, ?_⟩, by rw [← List.append_assoc]; exact g3, fun b hb => ?_, ?_, fun b hb => ?_, fun e he => ?_⟩ fun w4 xa4 H4 ln4 hI4 hk4 => ?_
   ·obtain ⟨_, _, cr', d1, _, _, _, d5⟩ := hc
    rw [i5] at d1
    simp only [List.cons.injEq] at d1
    rw [d1.2.2.2.2]; exact d5
   ·exact (f3.get ib (by omega) fun h => (hI.nw ib h).2 rfl).trans k2
   ·have := hw3 b hb; omega
   ·have : (done ++ [(lo ++ ln).length]).length = i + 1 := by simp [hdn]
    rw [this]
    have e : ints (done ++ [(lo ++ ln).length]) = ints done ++ [.int .i64 (.ofNat (lo ++ ln).length)] := by simp [ints]
    rw [e]
    exact g2.fm f3 fun b hb h => by
     have := hx3 b hb
     have := hI.gl.lt h
     omega
   ·have := hx3 b hb
    exact ⟨by omega, by omega, fun h => by have := hw3 b h; omega⟩
   ·rcases List.mem_append.1 he with he | he
    ·refine ((hI.ar e he).fm fA (Q := fun b => H0.nx ≤ b ∧ b ≠ ib ∧ ¬ In w b ∧ b < H.nx) (fun b _ h => h.2.2.2) fun b hb h => ⟨h.1, h.2.1, h.2.2.1, hb⟩).fm f3 (fun b _ h => h.2.2.1) fun b _ h => ⟨h.1, h.2.1, fun h' => ?_, fun h' => ?_⟩
     ·have := hw3 b h'; have := h.2.2.2; omega
     ·have := hx3 b h'; have := h.2.2.2; omega
    ·refine (ha3 e he).fm (Fm.refl No H3) (fun b _ _ h => h) fun b _ h => ⟨by omega, by omega, h.2, fun h' => ?_⟩
     have := hx3 b h'; omega
   ·have l4 : (lo ++ (ln ++ ln2)).length = (lo ++ ln).length + 1 + a.size := by simp [l3]; omega
    rw [l4] at hI4 hk4
    refine hq w4 xa4 H4 (ln2 ++ ln4) ?_ ?_
    ·have : (done ++ [(lo ++ ln).length]) ++ r.ixs ((lo ++ ln).length + 1 + a.size) = done ++ (Fo.cons k1 r1 t1 a r).ixs (lo ++ ln).length := by simp [Fo.ixs]
     rw [← this, ← List.append_assoc]; exact hI4
    ·rw [List.map_append, hk3, hk4]; simp [Fo.kys]
  have hcf : eqF 64 (.agg [.int .u8 (.ofNat k1), .str r1.n r1.a, .str t1.n t1.a, av1]) (.agg [.int .u8 (.ofNat k1), .str r1.n r1.a, .str t1.n t1.a, av1]) = true := by
   refine q15 _ ?_
   unfold Tr
   simp only [List.all_cons, Gl.flat c1]; rfl
  have hfl := qhf (Gl.flat hg) 63
  have aft : ∀ (_ : AV) (H3 : Hp), Fm (In w) H2 H3 → H3.get ib = qac 0 [.int .u8 (.ofNat kd), .str rl.n rl.a, .str to.n to.a, av] ∧ qd6 (H3.get b) o 4 = some [.int .u8 (.ofNat k1), .str r1.n r1.a, .str t1.n t1.a, av1] := fun _ H3 f3 =>
   ⟨(f3.get ib (by omega) fun h => (hI.nw ib h).2 rfl).trans k2, by rw [f3.get b i2 hbw]; exact i4⟩
  cases neg
  ·by_cases h6 : kd = 6
   ·subst h6
    simp (disch := first | omega | exact tr_i rfl | (simp only [qaa, qab]; done) | (simp only [qaa, qab]; omega)) only [go_sem, Nat.reduceAdd, Nat.reduceMul, Nat.reduceSub, Nat.reduceLeDiff, Nat.reduceEqDiff, Nat.reduceShiftRight, Nat.reduceAnd, k2, i1, i4]
    refine Ok.deO (call (decide (i = 1))) ?_
    rintro w3 H3 ⟨ln2, g3, hk3, ha3, f3, hw3⟩
    obtain ⟨k3, r3⟩ := aft w3 H3 f3
    simp (disch := first | omega | exact tr_i rfl | (simp only [qaa, qab]; done) | (simp only [qaa, qab]; omega)) only [go_sem, Nat.reduceAdd, Nat.reduceMul, Nat.reduceSub, Nat.reduceLeDiff, Nat.reduceEqDiff, Nat.reduceShiftRight, Nat.reduceAnd, k3, r3, hcf, hfl]
    unfold qf6
    simp (disch := first | omega | exact tr_i rfl | (simp only [qaa, qab]; done) | (simp only [qaa, qab]; omega)) only [go_sem, Nat.reduceAdd, Nat.reduceMul, Nat.reduceSub, Nat.reduceLeDiff, Nat.reduceEqDiff, Nat.reduceShiftRight, Nat.reduceAnd]
    exact fin w3 H3 ln2 g3 hk3 ha3 f3 hw3
   ·simp (disch := first | omega | exact tr_i rfl | (simp only [qaa, qab]; done) | (simp only [qaa, qab]; omega)) only [go_sem, Nat.reduceAdd, Nat.reduceMul, Nat.reduceSub, Nat.reduceLeDiff, Nat.reduceEqDiff, Nat.reduceShiftRight, Nat.reduceAnd, k2, i1, i4, h6]
    refine Ok.deO (call false) ?_
    rintro w3 H3 ⟨ln2, g3, hk3, ha3, f3, hw3⟩
    obtain ⟨k3, r3⟩ := aft w3 H3 f3
    simp (disch := first | omega | exact tr_i rfl | (simp only [qaa, qab]; done) | (simp only [qaa, qab]; omega)) only [go_sem, Nat.reduceAdd, Nat.reduceMul, Nat.reduceSub, Nat.reduceLeDiff, Nat.reduceEqDiff, Nat.reduceShiftRight, Nat.reduceAnd, k3, r3, hcf, hfl]
    unfold qf6
    simp (disch := first | omega | exact tr_i rfl | (simp only [qaa, qab]; done) | (simp only [qaa, qab]; omega)) only [go_sem, Nat.reduceAdd, Nat.reduceMul, Nat.reduceSub, Nat.reduceLeDiff, Nat.reduceEqDiff, Nat.reduceShiftRight, Nat.reduceAnd]
    exact fin w3 H3 ln2 g3 hk3 ha3 f3 hw3
  ·simp (disch := first | omega | exact tr_i rfl | (simp only [qaa, qab]; done) | (simp only [qaa, qab]; omega)) only [go_sem, Nat.reduceAdd, Nat.reduceMul, Nat.reduceSub, Nat.reduceLeDiff, Nat.reduceEqDiff, Nat.reduceShiftRight, Nat.reduceAnd, k2, i1, i4]
   refine Ok.deO (call true) ?_
   rintro w3 H3 ⟨ln2, g3, hk3, ha3, f3, hw3⟩
   obtain ⟨k3, r3⟩ := aft w3 H3 f3
   simp (disch := first | omega | exact tr_i rfl | (simp only [qaa, qab]; done) | (simp only [qaa, qab]; omega)) only [go_sem, Nat.reduceAdd, Nat.reduceMul, Nat.reduceSub, Nat.reduceLeDiff, Nat.reduceEqDiff, Nat.reduceShiftRight, Nat.reduceAnd, k3, r3, hcf, hfl]
   unfold qf6
   simp (disch := first | omega | exact tr_i rfl | (simp only [qaa, qab]; done) | (simp only [qaa, qab]; omega)) only [go_sem, Nat.reduceAdd, Nat.reduceMul, Nat.reduceSub, Nat.reduceLeDiff, Nat.reduceEqDiff, Nat.reduceShiftRight, Nat.reduceAnd]
   exact fin w3 H3 ln2 g3 hk3 ha3 f3 hw3
theorem qx3 (hC : qbi C) {k : Nat} {f : Fo} (hk : f.depth ≤ k) (hl : f.len = 1) (hs : f.size ≤ 900) {cs : List AV} {H : Hp} {P : Nat → Prop} (hc : FoC P H f cs) :
  Ok (C k (.f qd8) [.nilsl, .agg cs, .bool false] H) fun w' H' => ∃ ln : List NE, Gl 5 H' w' ln.length (ln.flatMap neC) ∧ ln.map NE.key = f.kys 0 ∧ (∀ e ∈ ln, e.Ar (fun b => H.nx ≤ b ∧ ¬ In w' b) H') ∧ Fm No H H' ∧ ∀ b, In w' b → H.nx ≤ b := by
 obtain ⟨kd, rl, to, a, av, ca, rfl, rfl, g, g2, g3⟩ := hc.one hl
 simp only [Fo.depth, Fo.size] at hk hs
 obtain ⟨j, rfl⟩ : ∃ m, k = m + 1 := ⟨k - 1, by omega⟩
 refine (qxk hC (q3y hC a) (j := j) (by omega) (lo := []) (neg := false) (Gl.nil 5 H) g (fun b _ => notNil b) (g3.mono fun b _ _ => notNil b) (by simp; omega)).mono ?_
 rintro w' H' ⟨ln, h1, h2, h3, h4, h5⟩
 exact ⟨ln, by simpa using h1, h2, h3, h4.mono fun b _ h => notNil b h, h5⟩
end Go.Di
end
section
namespace Go.Di
open Go.Ev
variable {C : Nat → Ev.Call}
theorem zao (n a m b : Nat) : strV (qh3 .eql).f (.str n a) (.str m b) = .val (.bool (decide (n = m ∧ a = b))) := by
 show R0.val (.bool (Nat.beq n m && Nat.beq a b)) = _
 rw [beq_eq, beq_eq, Bool.decide_and]
theorem q9y (n a m b : Nat) : strV (qh3 .neq).f (.str n a) (.str m b) = .val (.bool (!decide (n = m ∧ a = b))) := by
 show R0.val (.bool (!(Nat.beq n m && Nat.beq a b))) = _
 rw [beq_eq, beq_eq, Bool.decide_and]
theorem q7u (n a : Nat) : eqF 64 (.str n a) (.str n a) = true := by
 show (Nat.beq n n && Nat.beq a a) = true
 rw [beq_eq, beq_eq]; simp
attribute [go_sem] zao q9y q7u
theorem Gl.at {n : Nat} {H : Hp} {v : AV} {l : List AV} (h : Gl 1 H v n l) {i : Nat} {x : AV} (hx : l[i]? = some x) : ∃ b o, idxS 1 v (.int .i64 (.ofNat i)) = .val (.ptr b o) ∧ b < H.nx ∧ In v b ∧ qbt (H.get b) o = .val x := by
 have hl := h.len
 have hi : i < l.length := by
  rcases Nat.lt_or_ge i l.length with h | h
  ·exact h
  ·rw [List.getElem?_eq_none h] at hx; cases hx
 rcases h.is with ⟨rfl, rfl⟩ | ⟨b, o, e, q, L, rfl, h1, h2, h3, h4, h5⟩
 ·omega
 ·refine ⟨b, o + i, ?_, h5, ⟨_, _, _, _, rfl⟩, ?_⟩
  ·rw [qqk _ _ _ _ _ _ _ _ (by omega), Nat.mul_one]
  ·have : L[o + i]? = some x := by rw [← List.getElem?_drop, h3]; exact hx
   rw [h1, qiq, this]
theorem Gl.clip {z n : Nat} {H : Hp} {v : AV} {l : List AV} (h : Gl z H v n l) : ∃ w, qfc z v none (some (.int .i64 (.ofNat n))) (some (.int .i64 (.ofNat n))) = .val w ∧ Gl z H w n l ∧ capV w = .val (.int .i64 (.ofNat n)) ∧ (∀ b, In w b → In v b) := by
 rcases h.is with ⟨rfl, rfl⟩ | ⟨b, o, e, q, L, rfl, h1, h2, h3, h4, h5⟩
 ·exact ⟨.nilsl, rfl, h, rfl, fun b h => h⟩
 ·have e1 : qfc z (.sl b o n n e) none (some (.int .i64 (.ofNat n))) (some (.int .i64 (.ofNat n))) = mkSl b o z ⟨0, n, n⟩ true := by
   show (match bounds n n none (some (.int .i64 (.ofNat n))) (some (.int .i64 (.ofNat n))) with | some bd => mkSl b o z bd true | none => R0.bad) = _
   have : bounds n n none (some (.int .i64 (.ofNat n))) (some (.int .i64 (.ofNat n))) = some ⟨0, n, n⟩ := by
    show (match (bif Nat.ble n n then some n else none) with | none => none | some m => match (bif Nat.ble n m then some n else none) with | none => none | some h => match (some 0 : Option Nat) with | none => none | some l => some (Bd.mk l h m)) = _
    rw [ble_eq, decide_eq_true (Nat.le_refl n)]; simp only [cond_true, ble_eq, decide_eq_true (Nat.le_refl n)]
   rw [this]
  rw [e1]
  unfold mkSl
  simp only [beq_eq]
  by_cases hn : n = 0
  ·subst hn
   exact ⟨.sl b o 0 0 true, rfl, ⟨h.len, .inr ⟨b, o, true, q, L, rfl, h1, h2, h3, .inl rfl, h5⟩⟩, rfl, fun c hc => by obtain ⟨_, _, _, _, h'⟩ := hc; cases h'; exact ⟨_, _, _, _, rfl⟩⟩
  ·rw [decide_eq_false hn]
   refine ⟨.sl b o n n true, ?_, ⟨h.len, .inr ⟨b, o, true, q, L, rfl, h1, h2, h3, .inl rfl, h5⟩⟩, rfl, fun c hc => by obtain ⟨_, _, _, _, h'⟩ := hc; cases h'; exact ⟨_, _, _, _, rfl⟩⟩
   show R0.val (.sl b (o + 0 * z) (n - 0) (n - 0) true) = _
   rw [Nat.zero_mul, Nat.add_zero, Nat.sub_zero]
theorem q8q (hC : qbi C) {k : Nat} (hk : 1 ≤ k) {n : Nat} {H : Hp} {v : AV} {l : List AV} (h : Gl 1 H v n l) :
  ∃ w, C k (.f qej) [v] H = .ok w H ∧ Gl 1 H w n l ∧ capV w = .val (.int .i64 (.ofNat n)) ∧ (∀ b, In w b → In v b) := by
 obtain ⟨j, rfl⟩ : ∃ j, k = j + 1 := ⟨k - 1, by omega⟩
 obtain ⟨w, e, h1, h2, h3⟩ := h.clip
 refine ⟨w, ?_, h1, h2, h3⟩
 rw [(hC j).slices_Clip_int_int]
 unfold slices_Clip_int_int qf2
 simp (disch := first | omega | exact tr_i rfl | (simp only [qaa, qab]; done) | (simp only [qaa, qab]; omega)) only [go_sem, Nat.reduceAdd, Nat.reduceMul, Nat.reduceSub, Nat.reduceLeDiff, Nat.reduceEqDiff, Nat.reduceShiftRight, Nat.reduceAnd, h.lenV, e]
theorem q5g (hC : qbi C) {k : Nat} (hk : 1 ≤ k) {n : Nat} {H : Hp} {v : AV} {l : List AV} (h : Gl 5 H v n l) :
  ∃ w, C k (.f qbg) [v] H = .ok w H ∧ Gl 5 H w n l ∧ capV w = .val (.int .i64 (.ofNat n)) ∧ (∀ b, In w b → In v b) := by
 obtain ⟨j, rfl⟩ : ∃ j, k = j + 1 := ⟨k - 1, by omega⟩
 obtain ⟨w, e, h1, h2, h3⟩ := h.clip
 refine ⟨w, ?_, h1, h2, h3⟩
 rw [(hC j).slices_Clip_rules_Node_rules_Node]
 unfold slices_Clip_rules_Node_rules_Node qcf
 simp (disch := first | omega | exact tr_i rfl | (simp only [qaa, qab]; done) | (simp only [qaa, qab]; omega)) only [go_sem, Nat.reduceAdd, Nat.reduceMul, Nat.reduceSub, Nat.reduceLeDiff, Nat.reduceEqDiff, Nat.reduceShiftRight, Nat.reduceAnd, h.lenV, e]
theorem qx5 (hC : qbi C) {k : Nat} (hk : 1 ≤ k) {n : Nat} {H : Hp} {v : AV} {l : List AV} (h : Gl 4 H v n l) :
  ∃ w, C k (.f qbd) [v] H = .ok w H ∧ Gl 4 H w n l ∧ capV w = .val (.int .i64 (.ofNat n)) ∧ (∀ b, In w b → In v b) := by
 obtain ⟨j, rfl⟩ : ∃ j, k = j + 1 := ⟨k - 1, by omega⟩
 obtain ⟨w, e, h1, h2, h3⟩ := h.clip
 refine ⟨w, ?_, h1, h2, h3⟩
 rw [(hC j).slices_Clip_api_Rule_api_Rule]
 unfold slices_Clip_api_Rule_api_Rule qdd
 simp (disch := first | omega | exact tr_i rfl | (simp only [qaa, qab]; done) | (simp only [qaa, qab]; omega)) only [go_sem, Nat.reduceAdd, Nat.reduceMul, Nat.reduceSub, Nat.reduceLeDiff, Nat.reduceEqDiff, Nat.reduceShiftRight, Nat.reduceAnd, h.lenV, e]
theorem Nm.ne {s : SS} (h : Nm s) : ¬ (s.n = 0 ∧ s.a = 0) := by
 have : ∀ s ∈ nmL, ¬ (s.n = 0 ∧ s.a = 0) := by decide
 exact this s h
structure LnkN (c : Ev.Call) : Prop where
 r : ∀ s, Nm s → ∀ H, c (.f qm2) [s.v] H = .ok (.bool true) H
abbrev qhj (C : Nat → Ev.Call) : Prop := ∀ k, LnkN (C (k + 1))
theorem qpp (a b c d : Bool) : qjn true (qol (fun xs ys => qme p1 ⟨qml⟩ 1 xs ys 2 0) (.agg [.bool a, .bool b]) (.agg [.bool c, .bool d])) = .val (.bool (!(a == c && b == d))) := by
 cases a <;> cases b <;> cases c <;> cases d <;> rfl
structure At4 (H : Hp) (b o : Nat) (cs : List AV) : Prop where
 lt : b < H.nx
 at' : ∀ j (h : j < cs.length), qbt (H.get b) (o + j) = .val cs[j]
theorem At4.keep {H H' : Hp} {b o : Nat} {cs : List AV} (h : At4 H b o cs) (hn : H.nx ≤ H'.nx) (e : H'.get b = H.get b) : At4 H' b o cs := ⟨Nat.lt_of_lt_of_le h.lt hn, fun j hj => by rw [e]; exact h.at' j hj⟩
theorem At4.fm {H H' : Hp} {b o : Nat} {cs : List AV} (h : At4 H b o cs) (f : Fm No H H') : At4 H' b o cs := h.keep f.nx (f.keep h.lt)
def OneR (k : Nat) (rl to : SS) (m : Nat) : Prop := (k = 1 ∧ rl = sE ∧ to = sE ∧ m = 0) ∨ (k = 2 ∧ Nm rl ∧ to = sE ∧ m = 0) ∨ (k = 3 ∧ Nm rl ∧ Nm to ∧ m = 0) ∨ ((k = 4 ∨ k = 5) ∧ rl = sE ∧ to = sE ∧ 2 ≤ m) ∨ (k = 6 ∧ rl = sE ∧ to = sE ∧ m = 2)
theorem Fo.Rt.one {k : Nat} {rl to : SS} {a r : Fo} (h : (Fo.cons k rl to a r).Rt Nm) : OneR k rl to a.len := by
 rcases h.1 with ⟨h1, h2, h3, rfl⟩ | ⟨h1, h2, h3, rfl⟩ | ⟨h1, h2, h3, rfl⟩ | ⟨h1, h2, h3, h4⟩ | ⟨h1, h2, h3, h4⟩ | ⟨h1, h2, h3, h4⟩
 ·exact .inl ⟨h1, h2, h3, rfl⟩
 ·exact .inr (.inl ⟨h1, h2, h3, rfl⟩)
 ·exact .inr (.inr (.inl ⟨h1, h2, h3, rfl⟩))
 ·exact .inr (.inr (.inr (.inl ⟨.inl h1, h2, h3, h4⟩)))
 ·exact .inr (.inr (.inr (.inl ⟨.inr h1, h2, h3, h4⟩)))
 ·exact .inr (.inr (.inr (.inr ⟨h1, h2, h3, h4⟩)))
theorem q46 (hC : qbi C) (hN : qhj C) {k : Nat} (hk : 2 ≤ k) {H : Hp} {b o kd m : Nat} {rl to : SS} {av : AV} (h4 : At4 H b o [.int .u8 (.ofNat kd), .str rl.n rl.a, .str to.n to.a, av]) (hl : lenSl av = .val (.int .i64 (.ofNat m))) (hf : OneR kd rl to m) :
  Ok (C k (.f qik) [.ptr b o] H) fun v H' => v = .int .i64 (.ofNat 0) ∧ Fm No H H' := by
 obtain ⟨j, rfl⟩ : ∃ j, k = j + 1 + 1 := ⟨k - 2, by omega⟩
 rw [(hC (j + 1)).rules_alone]
 unfold rules_alone qms
 have hlt := h4.lt
 have r0 : qbt (H.get b) o = .val (.int .u8 (.ofNat kd)) := h4.at' 0 (by simp)
 have r1 : qbt (H.get b) (o + 1) = .val (.str rl.n rl.a) := h4.at' 1 (by simp)
 have r2 : qbt (H.get b) (o + 2) = .val (.str to.n to.a) := h4.at' 2 (by simp)
 have r3 : qbt (H.get b) (o + 3) = .val av := h4.at' 3 (by simp)
 rcases hf with ⟨rfl, rfl, rfl, rfl⟩ | ⟨rfl, h1, rfl, rfl⟩ | ⟨rfl, h1, h2, rfl⟩ | ⟨hk4, rfl, rfl, hm⟩ | ⟨rfl, rfl, rfl, rfl⟩
 ·unfold sE at r1 r2
  simp (disch := first | omega | exact tr_i rfl | (simp only [qaa, qab]; done) | (simp only [qaa, qab]; omega)) only [go_sem, Nat.reduceAdd, Nat.reduceMul, Nat.reduceSub, Nat.reduceLeDiff, Nat.reduceEqDiff, Nat.reduceShiftRight, Nat.reduceAnd, r0, r1, r2, r3, hl, and_self]
  unfold qbw
  simp (disch := first | omega | exact tr_i rfl | (simp only [qaa, qab]; done) | (simp only [qaa, qab]; omega)) only [go_sem, Nat.reduceAdd, Nat.reduceMul, Nat.reduceSub, Nat.reduceLeDiff, Nat.reduceEqDiff, Nat.reduceShiftRight, Nat.reduceAnd, r0, qpp, and_self]
  unfold qdg qed
  simp (disch := first | omega | exact tr_i rfl | (simp only [qaa, qab]; done) | (simp only [qaa, qab]; omega)) only [go_sem, Nat.reduceAdd, Nat.reduceMul, Nat.reduceSub, Nat.reduceLeDiff, Nat.reduceEqDiff, Nat.reduceShiftRight, Nat.reduceAnd]
  exact Ok.ret ⟨rfl, by (repeat (first | exact Fm.refl _ _ | assumption | refine Fm.push ?_ _ | refine Fm.up2 ?_ (by (first | omega | (simp only [qaa, qab]; omega))) | refine Fm.put_new ?_ _ _ (by (first | omega | (simp only [qaa, qab]; omega)))))⟩
 ·have n1 := h1.ne
  unfold sE at r2
  have e1 := (hN j).r rl h1
  unfold SS.v at e1
  simp (disch := first | omega | exact tr_i rfl | (simp only [qaa, qab]; done) | (simp only [qaa, qab]; omega)) only [go_sem, Nat.reduceAdd, Nat.reduceMul, Nat.reduceSub, Nat.reduceLeDiff, Nat.reduceEqDiff, Nat.reduceShiftRight, Nat.reduceAnd, r0, r1, r2, r3, hl, n1, and_self]
  unfold qbw
  simp (disch := first | omega | exact tr_i rfl | (simp only [qaa, qab]; done) | (simp only [qaa, qab]; omega)) only [go_sem, Nat.reduceAdd, Nat.reduceMul, Nat.reduceSub, Nat.reduceLeDiff, Nat.reduceEqDiff, Nat.reduceShiftRight, Nat.reduceAnd, r0, r1, qpp, e1]
  unfold qdg qed
  simp (disch := first | omega | exact tr_i rfl | (simp only [qaa, qab]; done) | (simp only [qaa, qab]; omega)) only [go_sem, Nat.reduceAdd, Nat.reduceMul, Nat.reduceSub, Nat.reduceLeDiff, Nat.reduceEqDiff, Nat.reduceShiftRight, Nat.reduceAnd]
  exact Ok.ret ⟨rfl, by (repeat (first | exact Fm.refl _ _ | assumption | refine Fm.push ?_ _ | refine Fm.up2 ?_ (by (first | omega | (simp only [qaa, qab]; omega))) | refine Fm.put_new ?_ _ _ (by (first | omega | (simp only [qaa, qab]; omega)))))⟩
 ·have n1 := h1.ne
  have n2 := h2.ne
  have e1 := (hN j).r rl h1
  have e2 := (hN j).r to h2
  unfold SS.v at e1 e2
  simp (disch := first | omega | exact tr_i rfl | (simp only [qaa, qab]; done) | (simp only [qaa, qab]; omega)) only [go_sem, Nat.reduceAdd, Nat.reduceMul, Nat.reduceSub, Nat.reduceLeDiff, Nat.reduceEqDiff, Nat.reduceShiftRight, Nat.reduceAnd, r0, r1, r2, r3, hl, n1, n2]
  unfold qbw
  simp (disch := first | omega | exact tr_i rfl | (simp only [qaa, qab]; done) | (simp only [qaa, qab]; omega)) only [go_sem, Nat.reduceAdd, Nat.reduceMul, Nat.reduceSub, Nat.reduceLeDiff, Nat.reduceEqDiff, Nat.reduceShiftRight, Nat.reduceAnd, r0, r1, r2, qpp, e1, e2]
  unfold qdg qed
  simp (disch := first | omega | exact tr_i rfl | (simp only [qaa, qab]; done) | (simp only [qaa, qab]; omega)) only [go_sem, Nat.reduceAdd, Nat.reduceMul, Nat.reduceSub, Nat.reduceLeDiff, Nat.reduceEqDiff, Nat.reduceShiftRight, Nat.reduceAnd]
  exact Ok.ret ⟨rfl, by (repeat (first | exact Fm.refl _ _ | assumption | refine Fm.push ?_ _ | refine Fm.up2 ?_ (by (first | omega | (simp only [qaa, qab]; omega))) | refine Fm.put_new ?_ _ _ (by (first | omega | (simp only [qaa, qab]; omega)))))⟩
 ·unfold sE at r1 r2
  have hm' := eq_true hm
  rcases hk4 with rfl | rfl <;> (
   simp (disch := first | omega | exact tr_i rfl | (simp only [qaa, qab]; done) | (simp only [qaa, qab]; omega)) only [go_sem, Nat.reduceAdd, Nat.reduceMul, Nat.reduceSub, Nat.reduceLeDiff, Nat.reduceEqDiff, Nat.reduceShiftRight, Nat.reduceAnd, r0, r1, r2, r3, hl, and_self]
   unfold qf3
   simp (disch := first | omega | exact tr_i rfl | (simp only [qaa, qab]; done) | (simp only [qaa, qab]; omega)) only [go_sem, Nat.reduceAdd, Nat.reduceMul, Nat.reduceSub, Nat.reduceLeDiff, Nat.reduceEqDiff, Nat.reduceShiftRight, Nat.reduceAnd, hm']
   unfold qbw
   simp (disch := first | omega | exact tr_i rfl | (simp only [qaa, qab]; done) | (simp only [qaa, qab]; omega)) only [go_sem, Nat.reduceAdd, Nat.reduceMul, Nat.reduceSub, Nat.reduceLeDiff, Nat.reduceEqDiff, Nat.reduceShiftRight, Nat.reduceAnd, r0, qpp, and_self]
   unfold qdg qed
   simp (disch := first | omega | exact tr_i rfl | (simp only [qaa, qab]; done) | (simp only [qaa, qab]; omega)) only [go_sem, Nat.reduceAdd, Nat.reduceMul, Nat.reduceSub, Nat.reduceLeDiff, Nat.reduceEqDiff, Nat.reduceShiftRight, Nat.reduceAnd]
   exact Ok.ret ⟨rfl, by (repeat (first | exact Fm.refl _ _ | assumption | refine Fm.push ?_ _ | refine Fm.up2 ?_ (by (first | omega | (simp only [qaa, qab]; omega))) | refine Fm.put_new ?_ _ _ (by (first | omega | (simp only [qaa, qab]; omega)))))⟩)
 ·unfold sE at r1 r2
  simp (disch := first | omega | exact tr_i rfl | (simp only [qaa, qab]; done) | (simp only [qaa, qab]; omega)) only [go_sem, Nat.reduceAdd, Nat.reduceMul, Nat.reduceSub, Nat.reduceLeDiff, Nat.reduceEqDiff, Nat.reduceShiftRight, Nat.reduceAnd, r0, r1, r2, r3, hl, and_self]
  unfold qf3
  simp (disch := first | omega | exact tr_i rfl | (simp only [qaa, qab]; done) | (simp only [qaa, qab]; omega)) only [go_sem, Nat.reduceAdd, Nat.reduceMul, Nat.reduceSub, Nat.reduceLeDiff, Nat.reduceEqDiff, Nat.reduceShiftRight, Nat.reduceAnd]
  unfold qbw
  simp (disch := first | omega | exact tr_i rfl | (simp only [qaa, qab]; done) | (simp only [qaa, qab]; omega)) only [go_sem, Nat.reduceAdd, Nat.reduceMul, Nat.reduceSub, Nat.reduceLeDiff, Nat.reduceEqDiff, Nat.reduceShiftRight, Nat.reduceAnd, r0, qpp, and_self]
  unfold qdg qed
  simp (disch := first | omega | exact tr_i rfl | (simp only [qaa, qab]; done) | (simp only [qaa, qab]; omega)) only [go_sem, Nat.reduceAdd, Nat.reduceMul, Nat.reduceSub, Nat.reduceLeDiff, Nat.reduceEqDiff, Nat.reduceShiftRight, Nat.reduceAnd]
  exact Ok.ret ⟨rfl, by (repeat (first | exact Fm.refl _ _ | assumption | refine Fm.push ?_ _ | refine Fm.up2 ?_ (by (first | omega | (simp only [qaa, qab]; omega))) | refine Fm.put_new ?_ _ _ (by (first | omega | (simp only [qaa, qab]; omega)))))⟩
end Go.Di
end
section
namespace Go.Di
open Go.Ev
variable {C : Nat → Ev.Call}
structure WkI (H : Hp) (nb db fb vb : Nat) (l : List NE) (nv : AV) (d : Nat) : Prop where
 n : H.get nb = qac 0 [nv]
 d : H.get db = qac 0 [.int .i64 (.ofNat d)]
 f : H.get fb = qac 0 [.int .i64 (.ofNat 0)]
 v : H.get vb = qac 0 [.fn qdj [] [.ptr nb 0, .ptr db 0, .ptr fb 0, .ptr vb 0]]
 o : nb < db ∧ db < fb ∧ fb < vb ∧ vb < H.nx
 gl : Gl 5 H nv l.length (l.flatMap neC)
 nin : ∀ c, In nv c → vb < c
def WkS (nb db fb : Nat) (nv : AV) (c : Nat) : Prop := c = nb ∨ c = db ∨ c = fb ∨ In nv c
def Lns (l : List NE) : Prop := ∀ e ∈ l, lenSl e.av = .val (.int .i64 (.ofNat e.args.length)) ∧ qt1 e.av = true
def VisC (C : Nat → Ev.Call) (a : Fo) (k : Nat) : Prop :=
 ∀ (b o lv kd : Nat) (rl to : SS) (av : AV) (neg : Bool) (H : Hp) (nb db fb vb : Nat) (lo : List NE) (nv : AV) (d : Nat) (ca : List AV), WkI H nb db fb vb lo nv d → At4 H b o [.int .u8 (.ofNat kd), .str rl.n rl.a, .str to.n to.a, av] → b < nb → Gl 4 H av a.len ca → (∀ b, In av b → b < nb) → FoC (· < nb) H a ca →
  OneR kd rl to a.len → a.Rt Nm → lv + a.depth ≤ 8 → lo.length + a.size < 32 → d ≤ 8 →
  Ok (C k (.f qdj) [.ptr b o, .int .i64 (.ofNat lv), .bool neg, .ptr nb 0, .ptr db 0, .ptr fb 0, .ptr vb 0] H) fun v H' => v = .bool true ∧ ∃ ln nv' d', WkI H' nb db fb vb (lo ++ ln) nv' d' ∧ ln.map NE.key = (Fo.cons kd rl to a .nil).kys lo.length ∧ Lns ln ∧ d' ≤ 8 ∧ Fm (WkS nb db fb nv) H H' ∧ ∀ c, In nv' c → H.nx ≤ c
theorem qvv (hC : qbi C) (hN : qhj C) {j : Nat} (hj : 2 ≤ j) {b o lv : Nat} {neg : Bool} {H : Hp} {nb db fb vb : Nat} {l : List NE} {nv : AV} {d : Nat} {kd m : Nat} {rl to : SS} {av : AV} (hI : WkI H nb db fb vb l nv d)
  (h4 : At4 H b o [.int .u8 (.ofNat kd), .str rl.n rl.a, .str to.n to.a, av]) (hla : lenSl av = .val (.int .i64 (.ofNat m))) (hf : OneR kd rl to m) (hb : b < nb) (hlv : lv ≤ 8) (hll : l.length < 32) (hd : d ≤ 8) {Q : AV → Hp → Prop}
  (hg : ∀ H' w d', WkI H' nb db fb vb (l ++ [⟨kd, rl, to, [], .nilsl, neg⟩]) w d' → d' ≤ 8 → Fm (WkS nb db fb nv) H H' → (∀ c, In w c → H.nx ≤ c) →
   Ok (qhc (C j) (fun x10 H => .ok x10 H) (fun x12 H => qcd (C j) (.ptr nb 0) (.int .i64 (.ofNat l.length)) x12 H) (.ptr b o) (.int .i64 (.ofNat lv)) (.bool neg) (.ptr nb 0) (.ptr vb 0) (.int .i64 (.ofNat m)) .nilsl (.int .i64 (.ofNat 0)) H') Q) :
  Ok (qij (C j) (.ptr b o) (.int .i64 (.ofNat lv)) (.bool neg) (.ptr nb 0) (.ptr db 0) (.ptr fb 0) (.ptr vb 0) H) Q := by
 unfold qij
 obtain ⟨o1, o2, o3, o4⟩ := hI.o
 have e0 := hI.n
 have ed := hI.d
 have ef := hI.f
 have hl := hI.gl.lenV
 have h32 : ¬ l.length = 32 := by omega
 have h8 : ¬ 8 < lv := by omega
 have nn : ∀ c, c ≤ vb → ¬ In nv c := fun c hc h => by have := hI.nin c h; omega
 simp (disch := first | omega | exact tr_i rfl | (simp only [qaa, qab]; done) | (simp only [qaa, qab]; omega)) only [go_sem, Nat.reduceAdd, Nat.reduceMul, Nat.reduceSub, Nat.reduceLeDiff, Nat.reduceEqDiff, Nat.reduceShiftRight, Nat.reduceAnd, e0, hl, h32, h8]
 unfold qjd
 simp (disch := first | omega | exact tr_i rfl | (simp only [qaa, qab]; done) | (simp only [qaa, qab]; omega)) only [go_sem, Nat.reduceAdd, Nat.reduceMul, Nat.reduceSub, Nat.reduceLeDiff, Nat.reduceEqDiff, Nat.reduceShiftRight, Nat.reduceAnd, ed, ef]
 have f1 : Fm (fun c => c = db) H (H.put db (qac 0 [.int .i64 (.ofNat (max d lv))])) := (Fm.refl _ _).put _ _ fun _ => rfl
 refine Ok.ve (q46 hC hN (k := j) hj (h4.keep f1.nx (f1.get _ (by omega) (by omega))) hla hf) ?_
 rintro _ H2 ⟨rfl, f2⟩
 have n2 : H.nx ≤ H2.nx := f2.nx
 have d2 : H2.get db = qac 0 [.int .i64 (.ofNat (max d lv))] := (f2.keep (show db < H.nx by omega)).trans (qar _ _ _)
 have kp2 : ∀ c, c < H.nx → c ≠ db → H2.get c = H.get c := fun c h1 h2 => (f2.keep (show c < H.nx by omega)).trans (qbz _ _ _ _ h2)
 have f22 := (kp2 fb (by omega) (by omega)).trans ef
 simp (disch := first | omega | exact tr_i rfl | (simp only [qaa, qab]; done) | (simp only [qaa, qab]; omega)) only [go_sem, Nat.reduceAdd, Nat.reduceMul, Nat.reduceSub, Nat.reduceLeDiff, Nat.reduceEqDiff, Nat.reduceShiftRight, Nat.reduceAnd, f22]
 unfold qhb
 have n22 := (kp2 nb (by omega) (by omega)).trans e0
 have v22 := (kp2 vb (by omega) (by omega)).trans hI.v
 have hb2 := kp2 b (by omega) (by omega)
 have r0 : qbt (H2.get b) o = .val (.int .u8 (.ofNat kd)) := by rw [hb2]; exact h4.at' 0 (by simp)
 have r1 : qbt (H2.get b) (o + 1) = .val (.str rl.n rl.a) := by rw [hb2]; exact h4.at' 1 (by simp)
 have r2 : qbt (H2.get b) (o + 2) = .val (.str to.n to.a) := by rw [hb2]; exact h4.at' 2 (by simp)
 have r3 : qbt (H2.get b) (o + 3) = .val av := by rw [hb2]; exact h4.at' 3 (by simp)
 simp (disch := first | omega | exact tr_i rfl | (simp only [qaa, qab]; done) | (simp only [qaa, qab]; omega)) only [go_sem, Nat.reduceAdd, Nat.reduceMul, Nat.reduceSub, Nat.reduceLeDiff, Nat.reduceEqDiff, Nat.reduceShiftRight, Nat.reduceAnd, n22, hl, r0, r1, r2]
 have hlt : ∀ c, In nv c → c < H.nx := fun c hc => hI.gl.lt hc
 have g2 : Gl 5 ((Hp.mk (H2.put fb (qac 0 [.int .i64 (.ofNat 0)])).t (H2.nx + 18)).put (H2.nx + 15) (qac 0 [.int .u8 (.ofNat kd), .str rl.n rl.a, .str to.n to.a, .nilsl, .bool neg])) nv l.length (l.flatMap neC) := by
  refine hI.gl.keep (show H.nx ≤ H2.nx + 18 by omega) fun c hc hl => ?_
  have := hI.nin c hc
  rw [qbz _ _ _ _ (by omega)]
  show (H2.put fb _).get c = _
  rw [qbz _ _ _ _ (by omega)]
  exact kp2 c hl (by omega)
 obtain ⟨H3, e3, g3, q3, f3, n3⟩ := g2.append (k := 1) (w := 72) (x := [.int .u8 (.ofNat kd), .str rl.n rl.a, .str to.n to.a, .nilsl, .bool neg]) (by omega) rfl (by omega) (by omega)
 simp only [qab] at e3 g3 q3 n3 f3
 refine Ok.deE e3 ?_
 have kp3 : ∀ c, c < H2.nx → c ≠ fb → ¬ In nv c → H3.get c = H2.get c := fun c h1 h2 h3 => by
  refine (f3.get c (show c < H2.nx + 18 by omega) h3).trans ?_
  rw [qbz _ _ _ _ (by omega)]
  show (H2.put fb _).get c = _
  rw [qbz _ _ _ _ h2]
 have f33 : H3.get fb = qac 0 [.int .i64 (.ofNat 0)] := by
  refine (f3.get fb (show fb < H2.nx + 18 by omega) (nn _ (by omega))).trans ?_
  rw [qbz _ _ _ _ (by omega)]
  exact qar _ _ _
 have n33 := (kp3 nb (by omega) (by omega) (nn _ (by omega))).trans n22
 have d33 := (kp3 db (by omega) (by omega) (nn _ (by omega))).trans d2
 have v33 := (kp3 vb (by omega) (by omega) (nn _ (by omega))).trans v22
 have hb3 := kp3 b (by omega) (by omega) (nn _ (by omega))
 have r33 : qbt (H3.get b) (o + 3) = .val av := by rw [hb3]; exact r3
 simp (disch := first | omega | exact tr_i rfl | (simp only [qaa, qab]; done) | (simp only [qaa, qab]; omega)) only [go_sem, Nat.reduceAdd, Nat.reduceMul, Nat.reduceSub, Nat.reduceLeDiff, Nat.reduceEqDiff, Nat.reduceShiftRight, Nat.reduceAnd, n33, r33, hla]
 refine hg _ _ (max d lv) ⟨qar _ _ _, ?_, ?_, ?_, ⟨o1, o2, o3, show vb < H3.nx by omega⟩, ?_, ?_⟩ (by omega) ⟨show H.nx ≤ H3.nx by omega, fun c hc hs => ?_⟩ ?_
 ·rw [qbz _ _ _ _ (by omega)]; exact d33
 ·rw [qbz _ _ _ _ (by omega)]; exact f33
 ·rw [qbz _ _ _ _ (by omega)]; exact v33
 ·rw [List.length_append, List.flatMap_append, List.flatMap_singleton]
  exact g3.keep (Nat.le_refl _) fun c hc _ => by
   obtain ⟨_, _, _, _, hc⟩ := hc
   injection hc with hc
   rw [qbz _ _ _ _ (by omega)]
 ·rintro c ⟨_, _, _, _, hc⟩
  injection hc with hc
  omega
 ·unfold WkS at hs
  rw [qbz _ _ _ _ (fun h => hs (.inl h))]
  exact (kp3 c (by omega) (fun h => hs (.inr (.inr (.inl h)))) fun h => hs (.inr (.inr (.inr h)))).trans (kp2 c hc fun h => hs (.inr (.inl h)))
 ·rintro c ⟨_, _, _, _, hc⟩
  injection hc with hc
  omega
theorem qzu (hC : qbi C) {j : Nat} (hj : 1 ≤ j) {H : Hp} {nb db fb vb : Nat} {lo ln : List NE} {nv : AV} {d : Nat} {kd : Nat} {rl to : SS} {neg : Bool} (hI : WkI H nb db fb vb (lo ++ [⟨kd, rl, to, [], .nilsl, neg⟩] ++ ln) nv d) {x : AV} {xs : List Nat} (hx : Gl 1 H x xs.length (ints xs)) :
  Ok (qcd (C j) (.ptr nb 0) (.int .i64 (.ofNat lo.length)) x H) fun r H' => r = .bool true ∧ ∃ x', WkI H' nb db fb vb (lo ++ (⟨kd, rl, to, xs, x', neg⟩ :: ln)) nv d ∧ lenSl x' = .val (.int .i64 (.ofNat xs.length)) ∧ qt1 x' = true ∧ Fm (In nv) H H' := by
 unfold qcd
 obtain ⟨w, e, hw, _, _⟩ := q8q hC (k := j) hj hx
 have e0 := hI.n
 have ef := qhf (Gl.flat hI.gl) 63
 have hat : lo.length < (lo ++ [(⟨kd, rl, to, [], .nilsl, neg⟩ : NE)] ++ ln).length := by simp
 obtain ⟨b, o, H', i1, i2, g, f, nx⟩ := hI.gl.set1 hat (j := 3) (by omega) w
 rw [q05 w _ lo.length ⟨kd, rl, to, [], .nilsl, neg⟩ (by simp), set_mid] at g
 obtain ⟨o1, o2, o3, o4⟩ := hI.o
 have nn : ∀ c, c ≤ vb → ¬ In nv c := fun c hc h => by have := hI.nin c h; omega
 have fin : WkI H' nb db fb vb (lo ++ (⟨kd, rl, to, xs, w, neg⟩ :: ln)) nv d := by
  refine ⟨(f.get _ (by omega) (nn _ (by omega))).trans hI.n, (f.get _ (by omega) (nn _ (by omega))).trans hI.d, (f.get _ (by omega) (nn _ (by omega))).trans hI.f, (f.get _ (by omega) (nn _ (by omega))).trans hI.v, ⟨o1, o2, o3, by omega⟩, ?_, hI.nin⟩
  have : (lo ++ ([(⟨kd, rl, to, [], w, neg⟩ : NE)] ++ ln)).flatMap neC = (lo ++ (⟨kd, rl, to, xs, w, neg⟩ :: ln)).flatMap neC := by
   simp [neC]
  rw [← this]
  have hlen : (lo ++ (⟨kd, rl, to, xs, w, neg⟩ :: ln)).length = (lo ++ [(⟨kd, rl, to, [], .nilsl, neg⟩ : NE)] ++ ln).length := by simp
  rw [hlen]; exact g
 have hlw := hw.lenV
 have hfw := Gl.flat hw
 simp (disch := first | omega | exact tr_i rfl | (simp only [qaa, qab]; done) | (simp only [qaa, qab]; omega)) only [go_sem, Nat.reduceAdd, Nat.reduceMul, Nat.reduceSub, Nat.reduceLeDiff, Nat.reduceEqDiff, Nat.reduceShiftRight, Nat.reduceAnd, e0]
 refine Ok.deE e ?_
 rcases hw.is with ⟨h, _⟩ | ⟨_, _, _, _, _, h, _⟩
 ·subst h
  simp (disch := first | omega | exact tr_i rfl | (simp only [qaa, qab]; done) | (simp only [qaa, qab]; omega)) only [go_sem, Nat.reduceAdd, Nat.reduceMul, Nat.reduceSub, Nat.reduceLeDiff, Nat.reduceEqDiff, Nat.reduceShiftRight, Nat.reduceAnd, e0, ef, i1, i2]
  exact Ok.ret ⟨rfl, _, fin, hlw, hfw, f⟩
 ·subst h
  simp (disch := first | omega | exact tr_i rfl | (simp only [qaa, qab]; done) | (simp only [qaa, qab]; omega)) only [go_sem, Nat.reduceAdd, Nat.reduceMul, Nat.reduceSub, Nat.reduceLeDiff, Nat.reduceEqDiff, Nat.reduceShiftRight, Nat.reduceAnd, e0, ef, i1, i2]
  exact Ok.ret ⟨rfl, _, fin, hlw, hfw, f⟩
end Go.Di
end
section
namespace Go.Di
open Go.Ev
variable {C : Nat → Ev.Call}
structure VsI (nb db fb vb : Nat) (S0 : Nat → Prop) (H0 H : Hp) (nv xa : AV) (lo ln : List NE) (done : List Nat) (d : Nat) : Prop where
 wk : WkI H nb db fb vb (lo ++ ln) nv d
 fm : Fm S0 H0 H
 nw : ∀ c, In nv c → H0.nx ≤ c
 xl : Gl 1 H xa done.length (ints done)
 xw : ∀ c, In xa c → H0.nx ≤ c ∧ ¬ In nv c
 d8 : d ≤ 8
def VisL (C : Nat → Ev.Call) (f : Fo) : Prop :=
 ∀ (j : Nat), f.depth + 2 ≤ j → ∀ (nb db fb vb : Nat) (S0 : Nat → Prop) (H0 : Hp) (b o lv kd n i : Nat) (rl to : SS) (av : AV) (pre rest : List AV) (neg : Bool) (H : Hp) (nv xa : AV) (lo ln : List NE) (done : List Nat) (d : Nat) (qr : AV → Hp → R1) (q : AV → Hp → R1) (Q : AV → Hp → Prop) (k : Nat), n - i < k → n = i + f.len → done.length = i → n ≤ 1000 →
  (lo ++ ln).length + f.size ≤ 32 → lv + f.depth ≤ 8 → (∀ c, S0 c → nb ≤ c) → S0 nb → S0 db → S0 fb → vb < H0.nx → At4 H0 b o [.int .u8 (.ofNat kd), .str rl.n rl.a, .str to.n to.a, av] → b < nb → Gl 4 H0 av n (pre ++ rest) → pre.length = i * 4 → (∀ b, In av b → b < nb) → FoC (· < nb) H0 f rest → f.Rt Nm → VsI nb db fb vb S0 H0 H nv xa lo ln done d →
  (∀ nv' xa' H' ln' d', VsI nb db fb vb S0 H0 H' nv' xa' lo (ln ++ ln') (done ++ f.ixs (lo ++ ln).length) d' → ln'.map NE.key = f.kys (lo ++ ln).length → Lns ln' → Ok (q xa' H') Q) →
  Ok (qcs (C j) qr q (.ptr b o) (.int .i64 (.ofNat lv)) (.bool neg) (.ptr nb 0) (.ptr vb 0) (.int .i64 (.ofNat n)) k xa (.int .i64 (.ofNat i)) H) Q
theorem qsm (hC : qbi C) (hN : qhj C) {a : Fo} (hL : VisL C a) {k : Nat} (hk : a.depth + 3 ≤ k) : VisC C a k := by
 obtain ⟨j, rfl⟩ : ∃ m, k = m + 1 := ⟨k - 1, by omega⟩
 intro b o lv kd rl to av neg H nb db fb vb lo nv d ca hI h4 hb hg hav hc h1 hr hlv hll hd
 rw [(hC j).rules_walk_1]
 unfold rules_walk_1
 obtain ⟨o1, o2, o3, o4⟩ := hI.o
 have hal := Fo.len_size a
 refine qvv hC hN (by omega) hI h4 hg.lenV h1 hb (by omega) (by omega) hd fun H' w d' hI' hd' f' hw => ?_
 unfold qhc
 rw [qbc]
 refine hL j (by omega) nb db fb vb (WkS nb db fb nv) H b o lv kd a.len 0 rl to av [] ca neg H' w .nilsl (lo ++ [⟨kd, rl, to, [], .nilsl, neg⟩]) [] [] d' _ _ _ qaz (by rw [qas]; omega) (by omega) rfl (by omega) (by simp; omega) hlv (fun c h => ?_) (.inl rfl) (.inr (.inl rfl)) (.inr (.inr (.inl rfl))) o4 h4 hb hg rfl hav hc hr ⟨by rw [List.append_nil]; exact hI', f', hw, Gl.nil 1 H', fun c h => absurd h (notNil c), hd'⟩ fun nv2 xa2 H2 ln2 d2 hI2 hk2 hl2 => ?_
 ·rcases h with h | h | h | h
  ·omega
  ·omega
  ·omega
  ·have := hI.nin c h; omega
 ·simp only [List.nil_append, List.append_nil] at hI2 hk2
  have hlen : (lo ++ [(⟨kd, rl, to, [], .nilsl, neg⟩ : NE)]).length = lo.length + 1 := by simp
  rw [hlen] at hI2 hk2
  refine (qzu hC (j := j) (by omega) hI2.wk hI2.xl).mono ?_
  rintro r H3 ⟨rfl, x', hI3, e1, e2, f3⟩
  refine ⟨rfl, _, nv2, d2, hI3, ?_, ?_, hI2.d8, hI2.fm.then f3 fun c hc h => by have := hI2.nw c h; omega, hI2.nw⟩
  ·rw [List.map_cons, hk2]; simp [NE.key, Fo.kys]
  ·intro e he
   rcases List.mem_cons.1 he with rfl | he
   ·exact ⟨e1, e2⟩
   ·exact hl2 e he
theorem qx9 (hC : qbi C) (hN : qhj C) : ∀ f : Fo, VisL C f := by
 intro f
 induction f with
 | nil =>
  intro j hj nb db fb vb S0 H0 b o lv kd n i rl to av pre rest neg H nv xa lo ln done d qr q Q k hk hn hdn hnn hsz hlv s1 s2 s3 s4 hvb h4 hb hg hp hav hc hr hI hq
  obtain ⟨k, rfl⟩ : ∃ m, k = m + 1 := ⟨k - 1, by omega⟩
  show Ok (qfm (C j) _ _ _ _ _ _ _ _ (qcs (C j) _ _ _ _ _ _ _ _ k) _ _ H) Q
  unfold qfm
  simp only [Fo.len] at hn
  have hlt : ¬ i < n := by omega
  simp (disch := first | omega | exact tr_i rfl | (simp only [qaa, qab]; done) | (simp only [qaa, qab]; omega)) only [go_sem, Nat.reduceAdd, Nat.reduceMul, Nat.reduceSub, Nat.reduceLeDiff, Nat.reduceEqDiff, Nat.reduceShiftRight, Nat.reduceAnd, hlt]
  exact hq nv xa H [] d (by simpa [Fo.ixs] using hI) rfl fun e he => by cases he
 | cons k1 r1 t1 a r iha ihr =>
  intro j hj nb db fb vb S0 H0 b o lv kd n i rl to av pre rest neg H nv xa lo ln done d qr q Q k hk hn hdn hnn hsz hlv s1 s2 s3 s4 hvb h4 hb hg hp hav hc hr hI hq
  obtain ⟨k, rfl⟩ : ∃ m, k = m + 1 := ⟨k - 1, by omega⟩
  show Ok (qfm (C j) _ _ _ _ _ _ _ _ (qcs (C j) _ _ _ _ _ _ _ _ k) _ _ H) Q
  unfold qfm
  simp only [Fo.len] at hn
  simp only [Fo.depth] at hj hlv
  simp only [Fo.size] at hsz
  have hlt : i < n := by omega
  simp (disch := first | omega | exact tr_i rfl | (simp only [qaa, qab]; done) | (simp only [qaa, qab]; omega)) only [go_sem, Nat.reduceAdd, Nat.reduceMul, Nat.reduceSub, Nat.reduceLeDiff, Nat.reduceEqDiff, Nat.reduceShiftRight, Nat.reduceAnd, hlt]
  unfold qje
  have hW := hI.wk
  obtain ⟨o1, o2, o3, o4⟩ := hW.o
  have e0 := hW.n
  have hl := hW.gl.lenV
  simp (disch := first | omega | exact tr_i rfl | (simp only [qaa, qab]; done) | (simp only [qaa, qab]; omega)) only [go_sem, Nat.reduceAdd, Nat.reduceMul, Nat.reduceSub, Nat.reduceLeDiff, Nat.reduceEqDiff, Nat.reduceShiftRight, Nat.reduceAnd, e0, hl]
  have fp : Fm No H (qaq H (qac 0 [.int .i64 (.ofNat (lo ++ ln).length)])) := by (repeat (first | exact Fm.refl _ _ | assumption | refine Fm.push ?_ _ | refine Fm.up2 ?_ (by (first | omega | (simp only [qaa, qab]; omega))) | refine Fm.put_new ?_ _ _ (by (first | omega | (simp only [qaa, qab]; omega)))))
  obtain ⟨H2, e2, g2, q2, f2, n2⟩ := (hI.xl.no fp).append (k := 1) (w := 8) (x := [.int .i64 (.ofNat (lo ++ ln).length)]) (by omega) rfl (by omega) (by omega)
  simp only [qaa] at n2
  rw [hdn] at e2 g2
  refine Ok.veE e2 ?_
  have n0 := hI.fm.nx
  have fA : Fm (In xa) H H2 := (fp.mono (T := In xa) (fun _ _ h => absurd h id)).then f2 fun _ _ h => h
  have f02 : Fm S0 H0 H2 := hI.fm.then fA fun c hc h => by have := (hI.xw c h).1; omega
  have kx : ∀ c, c < H0.nx → H2.get c = H.get c := fun c hc => fA.get c (by omega) fun h => by have := (hI.xw c h).1; omega
  have h42 : At4 H2 b o [.int .u8 (.ofNat kd), .str rl.n rl.a, .str to.n to.a, av] := h4.keep f02.nx (f02.get b h4.lt fun h => by have := s1 b h; omega)
  have g02 : Gl 4 H2 av n (pre ++ rest) := hg.fm f02 fun c hc h => by have := s1 c h; have := hav c hc; omega
  have c02 : FoC (· < nb) H2 (.cons k1 r1 t1 a r) rest := hc.fmS f02 fun c hc h => by have := s1 c h; omega
  obtain ⟨_, b1, p1, av1, ca, cr, i1, i2, i3, i4, _, i5, c1, c2, c3, c4, i6⟩ := g02.rule hp c02
  have b1n := hav b1 i3
  have I2 : WkI H2 nb db fb vb (lo ++ ln) nv d := ⟨(kx _ (by omega)).trans hW.n, (kx _ (by omega)).trans hW.d, (kx _ (by omega)).trans hW.f, (kx _ (by omega)).trans hW.v, ⟨o1, o2, o3, by omega⟩, hW.gl.fm fA fun c hc h => (hI.xw c h).2 hc, hW.nin⟩
  have v2 := I2.v
  have r0 : qbt (H2.get b) o = .val (.int .u8 (.ofNat kd)) := h42.at' 0 (by simp)
  have r3 : qbt (H2.get b) (o + 3) = .val av := h42.at' 3 (by simp)
  have a4 : At4 H2 b1 p1 [.int .u8 (.ofNat k1), .str r1.n r1.a, .str t1.n t1.a, av1] := ⟨i2, fun m hm => i6 m _ (List.getElem?_eq_getElem hm)⟩
  have call : ∀ ng : Bool, Ok (C j (.f qdj) [.ptr b1 p1, .int .i64 (.ofNat (lv + 1)), .bool ng, .ptr nb 0, .ptr db 0, .ptr fb 0, .ptr vb 0] H2) _ := fun ng => qsm hC hN iha (k := j) (by omega) b1 p1 (lv + 1) k1 r1 t1 av1 ng H2 nb db fb vb (lo ++ ln) nv d ca I2 a4 b1n c1 c2 c3 hr.one hr.2.1 (by omega) (by omega) hI.d8
  have fin : ∀ (H3 : Hp) (ln2 : List NE) (nv3 : AV) (d3 : Nat), WkI H3 nb db fb vb (lo ++ ln ++ ln2) nv3 d3 → ln2.map NE.key = (Fo.cons k1 r1 t1 a .nil).kys (lo ++ ln).length → Lns ln2 → d3 ≤ 8 → Fm (WkS nb db fb nv) H2 H3 → (∀ c, In nv3 c → H2.nx ≤ c) →
    Ok (qcs (C j) qr q (.ptr b o) (.int .i64 (.ofNat lv)) (.bool neg) (.ptr nb 0) (.ptr vb 0) (.int .i64 (.ofNat n)) k (.sl (qaq H (qac 0 [.int .i64 (.ofNat (lo ++ ln).length)])).nx 0 (i + 1) (i + 1) false) (.int .i64 (.ofNat (i + 1))) H3) Q := by
   intro H3 ln2 nv3 d3 hI3 hk3 hl3 hd3 f3 hn3
   have hx3 : ∀ b, In (.sl (qaq H (qac 0 [.int .i64 (.ofNat (lo ++ ln).length)])).nx 0 (i + 1) (i + 1) false) b → b = H.nx + 1 := fun b h => by
    obtain ⟨_, _, _, _, h⟩ := h
    injection h with h
    rw [← h]; simp only [qaa]
   have l3 : ln2.length = 1 + a.size := by
    have := congrArg List.length hk3
    rw [List.length_map, Fo.kys_len] at this
    rw [this]; simp only [Fo.size]; omega
   refine ihr j (by omega) nb db fb vb S0 H0 b o lv kd n (i + 1) rl to av (pre ++ [.int .u8 (.ofNat k1), r1.v, t1.v, av1]) cr neg H3 nv3 _ lo (ln ++ ln2) (done ++ [(lo ++ ln).length]) d3 qr q Q k (by omega) (by omega) (by simp [hdn]) hnn (by simp at hsz ⊢; omega) (by omega) s1 s2 s3 s4 hvb h4 hb (by rw [i5] at hg; simpa using hg) (by simp [hp]; omega) hav ?_ hr.2.2 ⟨by rw [← List.append_assoc]; exact hI3, f02.then f3 fun c hc h => ?_, fun c h => by have := hn3 c h; omega, ?_, fun c h => ?_, hd3⟩ fun nv4 xa4 H4 ln4 d4 hI4 hk4 hl4 => ?_
   ·obtain ⟨_, _, cr', e1, _, _, _, e5⟩ := hc
    rw [i5] at e1
    simp only [List.cons.injEq] at e1
    rw [e1.2.2.2.2]; exact e5
   ·rcases h with h | h | h | h
    ·exact h ▸ s2
    ·exact h ▸ s3
    ·exact h ▸ s4
    ·have := hI.nw c h; omega
   ·have : (done ++ [(lo ++ ln).length]).length = i + 1 := by simp [hdn]
    rw [this]
    have e : ints (done ++ [(lo ++ ln).length]) = ints done ++ [.int .i64 (.ofNat (lo ++ ln).length)] := by simp [ints]
    rw [e]
    exact g2.fm f3 fun c hc h => by
     have := hx3 c hc
     rcases h with h | h | h | h
     ·omega
     ·omega
     ·omega
     ·have := hW.gl.lt h; omega
   ·have := hx3 c h
    exact ⟨by omega, fun h' => by have := hn3 c h'; omega⟩
   ·have l4 : (lo ++ (ln ++ ln2)).length = (lo ++ ln).length + 1 + a.size := by simp [l3]; omega
    rw [l4] at hI4 hk4
    refine hq nv4 xa4 H4 (ln2 ++ ln4) d4 ?_ ?_ fun e he => ?_
    ·have : (done ++ [(lo ++ ln).length]) ++ r.ixs ((lo ++ ln).length + 1 + a.size) = done ++ (Fo.cons k1 r1 t1 a r).ixs (lo ++ ln).length := by simp [Fo.ixs]
     rw [← this, ← List.append_assoc]; exact hI4
    ·rw [List.map_append, hk3, hk4]; simp [Fo.kys]
    ·rcases List.mem_append.1 he with he | he
     ·exact hl3 e he
     ·exact hl4 e he
  cases neg
  ·by_cases h6 : kd = 6
   ·have h6t := eq_true h6
    simp (disch := first | omega | exact tr_i rfl | (simp only [qaa, qab]; done) | (simp only [qaa, qab]; omega)) only [go_sem, Nat.reduceAdd, Nat.reduceMul, Nat.reduceSub, Nat.reduceLeDiff, Nat.reduceEqDiff, Nat.reduceShiftRight, Nat.reduceAnd, v2, r0, r3, h6t, i1]
    refine Ok.deO (call (decide (i = 1))) ?_
    rintro _ H3 ⟨rfl, ln2, nv3, d3, hI3, hk3, hl3, hd3, f3, hn3⟩
    simp (disch := first | omega | exact tr_i rfl | (simp only [qaa, qab]; done) | (simp only [qaa, qab]; omega)) only [go_sem, Nat.reduceAdd, Nat.reduceMul, Nat.reduceSub, Nat.reduceLeDiff, Nat.reduceEqDiff, Nat.reduceShiftRight, Nat.reduceAnd]
    unfold qfl
    simp (disch := first | omega | exact tr_i rfl | (simp only [qaa, qab]; done) | (simp only [qaa, qab]; omega)) only [go_sem, Nat.reduceAdd, Nat.reduceMul, Nat.reduceSub, Nat.reduceLeDiff, Nat.reduceEqDiff, Nat.reduceShiftRight, Nat.reduceAnd]
    exact fin H3 ln2 nv3 d3 hI3 hk3 hl3 hd3 f3 hn3
   ·simp (disch := first | omega | exact tr_i rfl | (simp only [qaa, qab]; done) | (simp only [qaa, qab]; omega)) only [go_sem, Nat.reduceAdd, Nat.reduceMul, Nat.reduceSub, Nat.reduceLeDiff, Nat.reduceEqDiff, Nat.reduceShiftRight, Nat.reduceAnd, v2, r0, r3, h6, i1]
    refine Ok.deO (call false) ?_
    rintro _ H3 ⟨rfl, ln2, nv3, d3, hI3, hk3, hl3, hd3, f3, hn3⟩
    simp (disch := first | omega | exact tr_i rfl | (simp only [qaa, qab]; done) | (simp only [qaa, qab]; omega)) only [go_sem, Nat.reduceAdd, Nat.reduceMul, Nat.reduceSub, Nat.reduceLeDiff, Nat.reduceEqDiff, Nat.reduceShiftRight, Nat.reduceAnd]
    unfold qfl
    simp (disch := first | omega | exact tr_i rfl | (simp only [qaa, qab]; done) | (simp only [qaa, qab]; omega)) only [go_sem, Nat.reduceAdd, Nat.reduceMul, Nat.reduceSub, Nat.reduceLeDiff, Nat.reduceEqDiff, Nat.reduceShiftRight, Nat.reduceAnd]
    exact fin H3 ln2 nv3 d3 hI3 hk3 hl3 hd3 f3 hn3
  ·simp (disch := first | omega | exact tr_i rfl | (simp only [qaa, qab]; done) | (simp only [qaa, qab]; omega)) only [go_sem, Nat.reduceAdd, Nat.reduceMul, Nat.reduceSub, Nat.reduceLeDiff, Nat.reduceEqDiff, Nat.reduceShiftRight, Nat.reduceAnd, v2, r0, r3, i1]
   refine Ok.deO (call true) ?_
   rintro _ H3 ⟨rfl, ln2, nv3, d3, hI3, hk3, hl3, hd3, f3, hn3⟩
   simp (disch := first | omega | exact tr_i rfl | (simp only [qaa, qab]; done) | (simp only [qaa, qab]; omega)) only [go_sem, Nat.reduceAdd, Nat.reduceMul, Nat.reduceSub, Nat.reduceLeDiff, Nat.reduceEqDiff, Nat.reduceShiftRight, Nat.reduceAnd]
   unfold qfl
   simp (disch := first | omega | exact tr_i rfl | (simp only [qaa, qab]; done) | (simp only [qaa, qab]; omega)) only [go_sem, Nat.reduceAdd, Nat.reduceMul, Nat.reduceSub, Nat.reduceLeDiff, Nat.reduceEqDiff, Nat.reduceShiftRight, Nat.reduceAnd]
   exact fin H3 ln2 nv3 d3 hI3 hk3 hl3 hd3 f3 hn3
end Go.Di
end
section
namespace Go.Di
open Go.Ev
variable {C : Nat → Ev.Call}
structure Fo.Ok1 (f : Fo) : Prop where
 one : f.len = 1
 rt : f.Rt Nm
 dp : f.depth ≤ 8
 sz : f.size ≤ 32
theorem qvu (hC : qbi C) (hN : qhj C) {k : Nat} (hk : 12 ≤ k) {H : Hp} {b : Nat} {f : Fo} {cs : List AV} {P : Nat → Prop} (h4 : At4 H b 0 cs) (hc : FoC P H f cs) (hf : f.Ok1) :
  Ok (C k (.f qgl) [.ptr b 0] H) fun v H' => ∃ nv ln d, v = .tup [nv, .int .i64 (.ofNat d), .int .i64 (.ofNat 0)] ∧ Gl 5 H' nv ln.length (ln.flatMap neC) ∧ ln.map NE.key = f.kys 0 ∧ Lns ln ∧ Fm No H H' := by
 obtain ⟨j, rfl⟩ : ∃ j, k = j + 1 := ⟨k - 1, by omega⟩
 rw [(hC j).rules_walk]
 unfold rules_walk qnh
 simp (disch := first | omega | exact tr_i rfl | (simp only [qaa, qab]; done) | (simp only [qaa, qab]; omega)) only [go_sem, Nat.reduceAdd, Nat.reduceMul, Nat.reduceSub, Nat.reduceLeDiff, Nat.reduceEqDiff, Nat.reduceShiftRight, Nat.reduceAnd]
 obtain ⟨kd, rl, to, a, av, ca, rfl, rfl, g1, g2, g3⟩ := hc.one hf.one
 generalize hH1 : (qaq ((qaq (qaq (qaq H (qac 0 [.nilsl])) (qac 0 [.int .i64 (.ofNat 0)])) (qac 0 [.int .i64 (.ofNat 0)])).put (H.nx + 1 + 1) (qac 0 [.int .i64 (.ofNat 0)])) (qac 0 [.nilfn])).put (H.nx + 1 + 1 + 1) (qac 0 [.fn qdj [] [.ptr H.nx 0, .ptr (H.nx + 1) 0, .ptr (H.nx + 1 + 1) 0, .ptr (H.nx + 1 + 1 + 1) 0]]) = H1
 have f1 : Fm No H H1 := by rw [← hH1]; (repeat (first | exact Fm.refl _ _ | assumption | refine Fm.push ?_ _ | refine Fm.up2 ?_ (by (first | omega | (simp only [qaa, qab]; omega))) | refine Fm.put_new ?_ _ _ (by (first | omega | (simp only [qaa, qab]; omega)))))
 have n1 : H1.nx = H.nx + 4 := by rw [← hH1]; rfl
 have k0 : H1.get H.nx = qac 0 [.nilsl] := by rw [← hH1]; simp (disch := first | omega | exact tr_i rfl | (simp only [qaa, qab]; done) | (simp only [qaa, qab]; omega)) only [go_sem, Nat.reduceAdd, Nat.reduceMul, Nat.reduceSub, Nat.reduceLeDiff, Nat.reduceEqDiff, Nat.reduceShiftRight, Nat.reduceAnd]
 have k1 : H1.get (H.nx + 1) = qac 0 [.int .i64 (.ofNat 0)] := by rw [← hH1]; simp (disch := first | omega | exact tr_i rfl | (simp only [qaa, qab]; done) | (simp only [qaa, qab]; omega)) only [go_sem, Nat.reduceAdd, Nat.reduceMul, Nat.reduceSub, Nat.reduceLeDiff, Nat.reduceEqDiff, Nat.reduceShiftRight, Nat.reduceAnd]
 have k2 : H1.get (H.nx + 1 + 1) = qac 0 [.int .i64 (.ofNat 0)] := by rw [← hH1]; simp (disch := first | omega | exact tr_i rfl | (simp only [qaa, qab]; done) | (simp only [qaa, qab]; omega)) only [go_sem, Nat.reduceAdd, Nat.reduceMul, Nat.reduceSub, Nat.reduceLeDiff, Nat.reduceEqDiff, Nat.reduceShiftRight, Nat.reduceAnd]
 have k3 : H1.get (H.nx + 1 + 1 + 1) = qac 0 [.fn qdj [] [.ptr H.nx 0, .ptr (H.nx + 1) 0, .ptr (H.nx + 1 + 1) 0, .ptr (H.nx + 1 + 1 + 1) 0]] := by rw [← hH1]; exact qar _ _ _
 have hI : WkI H1 H.nx (H.nx + 1) (H.nx + 1 + 1) (H.nx + 1 + 1 + 1) [] .nilsl 0 := ⟨k0, k1, k2, k3, ⟨by omega, by omega, by omega, by omega⟩, Gl.nil 5 _, fun c h => absurd h (notNil c)⟩
 have hd := hf.dp
 have hs := hf.sz
 simp only [Fo.depth, Fo.size] at hd hs
 refine Ok.ve (qsm hC hN (qx9 hC hN a) (k := j) (by omega) b 0 1 kd rl to av false H1 _ _ _ _ [] .nilsl 0 ca hI (h4.fm f1) h4.lt (g1.no f1) (fun c hc => g1.lt hc) ((g3.mono (Q := fun c => c < H.nx) fun c h _ => h).fm f1) hf.rt.one hf.rt.2.1 (by omega) (by simp; omega) (by omega)) ?_
 rintro _ H2 ⟨rfl, l, nv, d, hI2, hl2, hls, hd2, f2, hn2⟩
 simp only [List.nil_append, List.length_nil] at hI2 hl2
 have n2 := f2.nx
 have e0 := hI2.n
 have ed := hI2.d
 have ef := hI2.f
 simp (disch := first | omega | exact tr_i rfl | (simp only [qaa, qab]; done) | (simp only [qaa, qab]; omega)) only [go_sem, Nat.reduceAdd, Nat.reduceMul, Nat.reduceSub, Nat.reduceLeDiff, Nat.reduceEqDiff, Nat.reduceShiftRight, Nat.reduceAnd]
 unfold qll
 simp (disch := first | omega | exact tr_i rfl | (simp only [qaa, qab]; done) | (simp only [qaa, qab]; omega)) only [go_sem, Nat.reduceAdd, Nat.reduceMul, Nat.reduceSub, Nat.reduceLeDiff, Nat.reduceEqDiff, Nat.reduceShiftRight, Nat.reduceAnd, ef]
 unfold qlm
 obtain ⟨w, e, hw, _, hwi⟩ := q5g hC (k := j) (by omega) hI2.gl
 have hfl := qhf (Gl.flat hI2.gl) 63
 simp (disch := first | omega | exact tr_i rfl | (simp only [qaa, qab]; done) | (simp only [qaa, qab]; omega)) only [go_sem, Nat.reduceAdd, Nat.reduceMul, Nat.reduceSub, Nat.reduceLeDiff, Nat.reduceEqDiff, Nat.reduceShiftRight, Nat.reduceAnd, e0, ed]
 refine Ok.deE e ?_
 have fA : Fm No H H2 := f1.then f2 fun c hc h => by
  rcases h with h | h | h | ⟨_, _, _, _, h⟩
  ·omega
  ·omega
  ·omega
  ·cases h
 have inw : ∀ c, In w c → H.nx + 4 ≤ c := fun c hc => by have := hn2 c (hwi c hc); omega
 have gk : ∀ (x y : Blk), Gl 5 ((H2.put H.nx x).put (H.nx + 1) y) w l.length (l.flatMap neC) := fun x y => hw.keep (Nat.le_refl _) fun c hc _ => by
  have := inw c hc
  rw [qbz _ _ _ _ (by omega), qbz _ _ _ _ (by omega)]
 have fk : ∀ (x y : Blk), Fm No H ((H2.put H.nx x).put (H.nx + 1) y) := fun x y => (fA.put_new _ _ (by omega)).put_new _ _ (by omega)
 rcases hw.is with ⟨h, _⟩ | ⟨_, _, _, _, _, h, _⟩
 ·subst h
  simp (disch := first | omega | exact tr_i rfl | (simp only [qaa, qab]; done) | (simp only [qaa, qab]; omega)) only [go_sem, Nat.reduceAdd, Nat.reduceMul, Nat.reduceSub, Nat.reduceLeDiff, Nat.reduceEqDiff, Nat.reduceShiftRight, Nat.reduceAnd, e0, ed, hfl]
  exact Ok.ret ⟨_, l, d, rfl, gk _ _, hl2, hls, fk _ _⟩
 ·subst h
  simp (disch := first | omega | exact tr_i rfl | (simp only [qaa, qab]; done) | (simp only [qaa, qab]; omega)) only [go_sem, Nat.reduceAdd, Nat.reduceMul, Nat.reduceSub, Nat.reduceLeDiff, Nat.reduceEqDiff, Nat.reduceShiftRight, Nat.reduceAnd, e0, ed, hfl]
  exact Ok.ret ⟨_, l, d, rfl, gk _ _, hl2, hls, fk _ _⟩
theorem At4.push {H : Hp} {cs : List AV} : At4 (qaq H (qac 0 cs)) H.nx 0 cs := ⟨by rw [qaa]; omega, fun j h => by rw [qby, qiq, Nat.zero_add, List.getElem?_eq_getElem h]⟩
theorem qqg (hC : qbi C) (hN : qhj C) {k : Nat} (hk : 13 ≤ k) {H : Hp} {f : Fo} {cs : List AV} {P : Nat → Prop} (hc : FoC P H f cs) (hf : f.Ok1) :
  Ok (C k (.f qfu) [.agg cs] H) fun v H' => v = .int .i64 (.ofNat 0) ∧ Fm No H H' := by
 obtain ⟨j, rfl⟩ : ∃ j, k = j + 1 := ⟨k - 1, by omega⟩
 rw [(hC j).rules_Check]
 unfold rules_Check qmu
 obtain ⟨kd, rl, to, a, av, ca, hfe, hcs, _⟩ := hc.one hf.one
 have fx : Fm No H (qaq H (qac 0 cs)) := by (repeat (first | exact Fm.refl _ _ | assumption | refine Fm.push ?_ _ | refine Fm.up2 ?_ (by (first | omega | (simp only [qaa, qab]; omega))) | refine Fm.put_new ?_ _ _ (by (first | omega | (simp only [qaa, qab]; omega)))))
 have call := qvu hC hN (k := j) (by omega) (At4.push (H := H) (cs := cs)) (hc.fm fx) hf
 subst hcs
 simp (disch := first | omega | exact tr_i rfl | (simp only [qaa, qab]; done) | (simp only [qaa, qab]; omega)) only [go_sem, Nat.reduceAdd, Nat.reduceMul, Nat.reduceSub, Nat.reduceLeDiff, Nat.reduceEqDiff, Nat.reduceShiftRight, Nat.reduceAnd]
 refine Ok.ve call ?_
 rintro _ H1 ⟨nv, l, d, rfl, _, _, _, f1⟩
 simp (disch := first | omega | exact tr_i rfl | (simp only [qaa, qab]; done) | (simp only [qaa, qab]; omega)) only [go_sem, Nat.reduceAdd, Nat.reduceMul, Nat.reduceSub, Nat.reduceLeDiff, Nat.reduceEqDiff, Nat.reduceShiftRight, Nat.reduceAnd]
 exact Ok.ret ⟨rfl, fx.trans f1⟩
theorem qq0 (x y : SS) : qjy x.v y.v = some (decide (x = y)) := by
 show some (Nat.beq x.n y.n && Nat.beq x.a y.a) = _
 rw [beq_eq, beq_eq, ← Bool.decide_and]
 congr 1
 exact decide_eq_decide.2 (ss_eq x y).symm
theorem q7r (a b : SS) : qol (fun xs ys => qme p1 ⟨qjy⟩ 1 xs ys 2 0) (.agg [.str a.n a.a, .str b.n b.a]) (.agg [.str a.n a.a, .str b.n b.a]) = some true := by
 show andThen (qjy a.v a.v) (andThen (qjy b.v b.v) (some true)) = _
 rw [qq0, qq0]
 simp [andThen]
theorem q5c (hC : qbi C) {k : Nat} (hk : 1 ≤ k) {H : Hp} {x y : NE} (hxy : x.key = y.key) (hx : lenSl x.av = .val (.int .i64 (.ofNat x.args.length)) ∧ qt1 x.av = true) (hy : lenSl y.av = .val (.int .i64 (.ofNat y.args.length)) ∧ qt1 y.av = true) :
  Ok (C k (.f qe8) [.agg (neC x), .agg (neC y)] H) fun v H' => v = .bool true ∧ Fm No H H' := by
 obtain ⟨j, rfl⟩ : ∃ j, k = j + 1 := ⟨k - 1, by omega⟩
 rw [(hC j).rules_Same_1]
 unfold rules_Same_1 qlp neC SS.v
 obtain ⟨xk, xr, xt, xa, xv, xn⟩ := x
 obtain ⟨yk, yr, yt, ya, yv, yn⟩ := y
 simp only [NE.key, Prod.mk.injEq] at hxy
 obtain ⟨rfl, rfl, rfl, rfl⟩ := hxy
 have h1 := hx.1
 have h2 := hy.1
 simp only at h1 h2
 have e2 : qjn false (qol (fun xs ys => qme p1 ⟨qjy⟩ 1 xs ys 2 0) (.agg [.str xr.n xr.a, .str xt.n xt.a]) (.agg [.str xr.n xr.a, .str xt.n xt.a])) = .val (.bool true) := by rw [q7r]; rfl
 simp (disch := first | omega | exact tr_i rfl | (simp only [qaa, qab]; done) | (simp only [qaa, qab]; omega)) only [go_sem, Nat.reduceAdd, Nat.reduceMul, Nat.reduceSub, Nat.reduceLeDiff, Nat.reduceEqDiff, Nat.reduceShiftRight, Nat.reduceAnd, h1, h2, e2]
 exact Ok.ret ⟨rfl, by (repeat (first | exact Fm.refl _ _ | assumption | refine Fm.push ?_ _ | refine Fm.up2 ?_ (by (first | omega | (simp only [qaa, qab]; omega))) | refine Fm.put_new ?_ _ _ (by (first | omega | (simp only [qaa, qab]; omega)))))⟩
theorem qxw (hC : qbi C) {j : Nat} (hj : 1 ≤ j) {v u : AV} {l m : List NE} {Hb : Hp} (hv : Gl 5 Hb v l.length (l.flatMap neC)) (hu : Gl 5 Hb u m.length (m.flatMap neC)) (hk : l.map NE.key = m.map NE.key) (hl : Lns l) (hm : Lns m) (hn : l.length ≤ 1000) {qr : AV → Hp → R1} {q : Hp → R1} {Q : AV → Hp → Prop} (hq : ∀ H, Fm No Hb H → Ok (q H) Q) :
  ∀ (k i : Nat) (H : Hp), i ≤ l.length → l.length - i < k → Fm No Hb H → Ok (qag (C j) qr q u (.fn qe8 [] []) v (.int .i64 (.ofNat l.length)) k (.int .i64 (.ofNat i)) H) Q
 | 0, i, _, _, h, _ => by omega
 | k + 1, i, H, hi, hk', hf => by
  show Ok (qaw (C j) _ _ _ _ _ _ (qag (C j) _ _ _ _ _ _ k) _ H) Q
  unfold qaw
  have hlen : l.length = m.length := by simpa using congrArg List.length hk
  by_cases hlt : i < l.length
  ·simp (disch := first | omega | exact tr_i rfl | (simp only [qaa, qab]; done) | (simp only [qaa, qab]; omega)) only [go_sem, Nat.reduceAdd, Nat.reduceMul, Nat.reduceSub, Nat.reduceLeDiff, Nat.reduceEqDiff, Nat.reduceShiftRight, Nat.reduceAnd, hlt]
   unfold qau
   obtain ⟨b1, o1, a1, a2, _, a3, _⟩ := ((hv.no hf).rs ql9).at' i hlt
   obtain ⟨b2, o2, c1, c2, _, c3, _⟩ := ((hu.no hf).rs ql9).at' i (by omega)
   have e := congrArg (fun z => z[i]?) hk
   simp only [List.getElem?_map, List.getElem?_eq_getElem hlt, List.getElem?_eq_getElem (show i < m.length by omega), Option.map_some, Option.some.injEq] at e
   have call := fun H => q5c hC (k := j) hj (H := H) e (hl _ (List.getElem_mem hlt)) (hm _ (List.getElem_mem (by omega)))
   unfold neC SS.v at a3 c3 call
   have hnx := hf.nx
   simp (disch := first | omega | exact tr_i rfl | (simp only [qaa, qab]; done) | (simp only [qaa, qab]; omega)) only [go_sem, Nat.reduceAdd, Nat.reduceMul, Nat.reduceSub, Nat.reduceLeDiff, Nat.reduceEqDiff, Nat.reduceShiftRight, Nat.reduceAnd, a1, a3, c1, c3]
   refine Ok.ve (call _) ?_
   rintro _ H3 ⟨rfl, f3⟩
   simp (disch := first | omega | exact tr_i rfl | (simp only [qaa, qab]; done) | (simp only [qaa, qab]; omega)) only [go_sem, Nat.reduceAdd, Nat.reduceMul, Nat.reduceSub, Nat.reduceLeDiff, Nat.reduceEqDiff, Nat.reduceShiftRight, Nat.reduceAnd]
   unfold qav
   simp (disch := first | omega | exact tr_i rfl | (simp only [qaa, qab]; done) | (simp only [qaa, qab]; omega)) only [go_sem, Nat.reduceAdd, Nat.reduceMul, Nat.reduceSub, Nat.reduceLeDiff, Nat.reduceEqDiff, Nat.reduceShiftRight, Nat.reduceAnd]
   exact qxw hC hj hv hu hk hl hm hn hq k (i + 1) _ (by omega) (by omega) ((hf.trans (by (repeat (first | exact Fm.refl _ _ | assumption | refine Fm.push ?_ _ | refine Fm.up2 ?_ (by (first | omega | (simp only [qaa, qab]; omega))) | refine Fm.put_new ?_ _ _ (by (first | omega | (simp only [qaa, qab]; omega))))))).trans f3)
  ·simp (disch := first | omega | exact tr_i rfl | (simp only [qaa, qab]; done) | (simp only [qaa, qab]; omega)) only [go_sem, Nat.reduceAdd, Nat.reduceMul, Nat.reduceSub, Nat.reduceLeDiff, Nat.reduceEqDiff, Nat.reduceShiftRight, Nat.reduceAnd, hlt]
   exact hq H hf
theorem q8m (hC : qbi C) (hN : qhj C) {k : Nat} (hk : 13 ≤ k) {H : Hp} {f g : Fo} {cs ds : List AV} {P R : Nat → Prop} (hc : FoC P H f cs) (hd : FoC R H g ds) (hf : f.Ok1) (hg : g.Ok1) (hk2 : f.kys 0 = g.kys 0) :
  Ok (C k (.f qjs) [.agg cs, .agg ds] H) fun v H' => v = .bool true ∧ Fm No H H' := by
 obtain ⟨j, rfl⟩ : ∃ j, k = j + 1 := ⟨k - 1, by omega⟩
 rw [(hC j).rules_Same]
 unfold rules_Same qnj
 obtain ⟨kd, rl, to, a, av, ca, hfe, hcs, _⟩ := hc.one hf.one
 obtain ⟨kd2, rl2, to2, a2, av2, ca2, hge, hds, _⟩ := hd.one hg.one
 have f1 : Fm No H (qaq H (qac 0 cs)) := by (repeat (first | exact Fm.refl _ _ | assumption | refine Fm.push ?_ _ | refine Fm.up2 ?_ (by (first | omega | (simp only [qaa, qab]; omega))) | refine Fm.put_new ?_ _ _ (by (first | omega | (simp only [qaa, qab]; omega)))))
 have f2 : Fm No H (qaq (qaq H (qac 0 cs)) (qac 0 ds)) := by (repeat (first | exact Fm.refl _ _ | assumption | refine Fm.push ?_ _ | refine Fm.up2 ?_ (by (first | omega | (simp only [qaa, qab]; omega))) | refine Fm.put_new ?_ _ _ (by (first | omega | (simp only [qaa, qab]; omega)))))
 have c1 := qvu hC hN (k := j) (by omega) ((At4.push (H := H) (cs := cs)).fm ((Fm.refl No _).push (qac 0 ds))) (hc.fm f2) hf
 have hB : At4 (qaq (qaq H (qac 0 cs)) (qac 0 ds)) (qaq H (qac 0 cs)).nx 0 ds := At4.push
 have c2 := fun H' (h : Fm No (qaq (qaq H (qac 0 cs)) (qac 0 ds)) H') => qvu hC hN (k := j) (by omega) (hB.fm h) (hd.fm (f2.trans h)) hg
 simp only [qaa] at c2
 subst hcs
 subst hds
 simp (disch := first | omega | exact tr_i rfl | (simp only [qaa, qab]; done) | (simp only [qaa, qab]; omega)) only [go_sem, Nat.reduceAdd, Nat.reduceMul, Nat.reduceSub, Nat.reduceLeDiff, Nat.reduceEqDiff, Nat.reduceShiftRight, Nat.reduceAnd]
 refine Ok.ve c1 ?_
 rintro _ H1 ⟨nv, l, d, rfl, g1, k1, l1, h1⟩
 simp (disch := first | omega | exact tr_i rfl | (simp only [qaa, qab]; done) | (simp only [qaa, qab]; omega)) only [go_sem, Nat.reduceAdd, Nat.reduceMul, Nat.reduceSub, Nat.reduceLeDiff, Nat.reduceEqDiff, Nat.reduceShiftRight, Nat.reduceAnd]
 refine Ok.ve (c2 H1 h1) ?_
 rintro _ H2 ⟨nu, m, d2, rfl, g2, k2, l2, h2⟩
 simp (disch := first | omega | exact tr_i rfl | (simp only [qaa, qab]; done) | (simp only [qaa, qab]; omega)) only [go_sem, Nat.reduceAdd, Nat.reduceMul, Nat.reduceSub, Nat.reduceLeDiff, Nat.reduceEqDiff, Nat.reduceShiftRight, Nat.reduceAnd]
 obtain ⟨i, rfl⟩ : ∃ i, j = i + 1 := ⟨j - 1, by omega⟩
 have hlm : l.map NE.key = m.map NE.key := by rw [k1, k2, hk2]
 have hln : l.length = m.length := by simpa using congrArg List.length hlm
 have hl32 : l.length ≤ 32 := by
  have := congrArg List.length k1
  rw [List.length_map, Fo.kys_len] at this
  rw [this]; exact hf.sz
 have e : Ok (C (i + 1) (.f qam) [nv, nu, .fn qe8 [] []] H2) fun v H' => v = .bool true ∧ Fm No H2 H' := by
  rw [(hC i).slices_EqualFunc_rules_Node_rules_Node_rules_Node_rules_Node]
  unfold slices_EqualFunc_rules_Node_rules_Node_rules_Node_rules_Node qay
  have e1 := (g1.no h2).lenV
  have e2 := g2.lenV
  rw [← hln] at e2
  simp (disch := first | omega | exact tr_i rfl | (simp only [qaa, qab]; done) | (simp only [qaa, qab]; omega)) only [go_sem, Nat.reduceAdd, Nat.reduceMul, Nat.reduceSub, Nat.reduceLeDiff, Nat.reduceEqDiff, Nat.reduceShiftRight, Nat.reduceAnd, e1, e2]
  unfold qat qax
  simp (disch := first | omega | exact tr_i rfl | (simp only [qaa, qab]; done) | (simp only [qaa, qab]; omega)) only [go_sem, Nat.reduceAdd, Nat.reduceMul, Nat.reduceSub, Nat.reduceLeDiff, Nat.reduceEqDiff, Nat.reduceShiftRight, Nat.reduceAnd, e1]
  rw [qbc]
  refine qxw hC (by omega) (g1.no h2) g2 hlm l1 l2 (by omega) (fun H3 f3 => ?_) qaz 0 H2 (Nat.zero_le _) (by rw [qas]; omega) (Fm.refl _ _)
  unfold qae
  exact Ok.ret ⟨rfl, f3⟩
 refine Ok.ve e ?_
 rintro _ H3 ⟨rfl, f3⟩
 exact Ok.ret ⟨rfl, ((f2.trans h1).trans h2).trans f3⟩
end Go.Di
end
section
namespace Go.Di
open Go.Ev
variable {C : Nat → Ev.Call}
theorem qug (a b c d x : AV) : setL [a, b, c, d] 3 [x] = [a, b, c, x] := id rfl
def PflL (C : Nat → Ev.Call) (f : Fo) : Prop :=
 ∀ (j : Nat), f.depth + 1 ≤ j → ∀ (H0 : Hp) (ib kd n i : Nat) (rl to : SS) (av : AV) (pre rest : List AV) (w : AV) (g : Fo) (H : Hp) (q : AV → Hp → R1) (Q : AV → Hp → Prop) (k : Nat), n - i < k → n = i + f.len → f.Rt Nm → (kd = 4 ∨ kd = 5 ∨ (3 < kd → kd = 6)) → (kd < 4 → f = .nil) → g.len + f.size ≤ 1000 → n ≤ 1000 →
  Gl 4 H0 av n (pre ++ rest) → pre.length = i * 4 → FoC (fun _ => True) H0 f rest → H0.nx ≤ ib → ib + 1 < H.nx → H.get ib = qac 0 [.int .u8 (.ofNat kd), .str rl.n rl.a, .str to.n to.a, av] → H.get (ib + 1) = qac 0 [.int .u8 (.ofNat 0), .str 0 0, .str 0 0, .nilsl] → GrF (fun b => b = ib ∨ b = ib + 1) H0 H w g → Fm No H0 H →
  (∀ w H, GrF (fun b => b = ib ∨ b = ib + 1) H0 H w (g.app (Fo.spl kd f.flat)) → H.get ib = qac 0 [.int .u8 (.ofNat kd), .str rl.n rl.a, .str to.n to.a, av] → H.get (ib + 1) = qac 0 [.int .u8 (.ofNat 0), .str 0 0, .str 0 0, .nilsl] → ib + 1 < H.nx → Fm No H0 H → Ok (q w H) Q) →
  Ok (qd4 (C j) q (.ptr ib 0) av (.int .i64 (.ofNat n)) k w (.int .i64 (.ofNat i)) H) Q
theorem qxe (hC : qbi C) {a : Fo} (hL : PflL C a) {j : Nat} (hj : a.depth + 1 ≤ j) {kd : Nat} {rl to : SS} {av : AV} {ca : List AV} {H : Hp} (hg : Gl 4 H av a.len ca) (hc : FoC (fun _ => True) H a ca) (hr : (Fo.cons kd rl to a .nil).Rt Nm) (hs : a.size ≤ 1000) :
  Ok (C (j + 1) (.f qhz) [.agg [.int .u8 (.ofNat kd), .str rl.n rl.a, .str to.n to.a, av]] H) fun r H' => ∃ av2 ca2, r = .agg [.int .u8 (.ofNat kd), .str rl.n rl.a, .str to.n to.a, av2] ∧ Gl 4 H' av2 (Fo.spl kd a.flat).len ca2 ∧ (∀ b, In av2 b → H.nx ≤ b) ∧ FoC (fun b => H.nx ≤ b) H' (Fo.spl kd a.flat) ca2 ∧ Fm No H H' := by
 rw [(hC j).rules_flat]
 unfold rules_flat qni
 have hl := (hg.no ((Fm.refl No H).push (qac 0 [.int .u8 (.ofNat kd), .str rl.n rl.a, .str to.n to.a, av]))).lenV
 simp (disch := first | omega | exact tr_i rfl | (simp only [qaa, qab]; done) | (simp only [qaa, qab]; omega)) only [go_sem, Nat.reduceAdd, Nat.reduceMul, Nat.reduceSub, Nat.reduceLeDiff, Nat.reduceEqDiff, Nat.reduceShiftRight, Nat.reduceAnd, hl]
 unfold qlo
 rw [qbc]
 obtain ⟨H1, hH1⟩ : ∃ H1, H1 = (qaq (qaq H (qac 0 [.int .u8 (.ofNat kd), .str rl.n rl.a, .str to.n to.a, av])) (qac 0 [.int .u8 (.ofNat 0), .str 0 0, .str 0 0, .nilsl])) := ⟨_, rfl⟩
 rw [← hH1]
 have fX : Fm No H H1 := by rw [hH1]; (repeat (first | exact Fm.refl _ _ | assumption | refine Fm.push ?_ _ | refine Fm.up2 ?_ (by (first | omega | (simp only [qaa, qab]; omega))) | refine Fm.put_new ?_ _ _ (by (first | omega | (simp only [qaa, qab]; omega)))))
 have n1 : H1.nx = H.nx + 1 + 1 := by rw [hH1]; simp only [qaa]
 have hal := Fo.len_size a
 have r1 : H1.get (H.nx + 1) = qac 0 [.int .u8 (.ofNat 0), .str 0 0, .str 0 0, .nilsl] := by rw [hH1]; simp (disch := first | omega | exact tr_i rfl | (simp only [qaa, qab]; done) | (simp only [qaa, qab]; omega)) only [go_sem, Nat.reduceAdd, Nat.reduceMul, Nat.reduceSub, Nat.reduceLeDiff, Nat.reduceEqDiff, Nat.reduceShiftRight, Nat.reduceAnd]
 refine hL j hj H H.nx kd a.len 0 rl to av [] ca .nilsl .nil H1 _ _ qaz (by rw [qas]; omega) (by omega) hr.2.1 ?_ ?_ (by simp only [Fo.len]; omega) (by omega) hg rfl hc (Nat.le_refl _) (by omega) (by rw [hH1]; simp (disch := first | omega | exact tr_i rfl | (simp only [qaa, qab]; done) | (simp only [qaa, qab]; omega)) only [go_sem, Nat.reduceAdd, Nat.reduceMul, Nat.reduceSub, Nat.reduceLeDiff, Nat.reduceEqDiff, Nat.reduceShiftRight, Nat.reduceAnd]) r1 (GrF.nil _ _ _) fX fun w H2 w2 o2 r2 b2 f2 => ?_
 ·rcases hr.1 with h | h | h | h | h | h <;> omega
 ·intro h4
  rcases hr.1 with h | h | h | h | h | h
  ·exact h.2.2.2
  ·exact h.2.2.2
  ·exact h.2.2.2
  ·omega
  ·omega
  ·omega
 unfold qfd
 obtain ⟨cs, c1, c2⟩ := w2.ex
 obtain ⟨j, rfl⟩ : ∃ m, j = m + 1 := ⟨j - 1, by omega⟩
 obtain ⟨w', e, d1, _, d2⟩ := qx5 hC (k := j + 1) (by omega) c1
 refine Ok.veE e ?_
 have nw : ∀ b, In w' b → H.nx ≤ b ∧ ¬ (b = H.nx ∨ b = H.nx + 1) := fun b hb => w2.nw b (d2 b hb)
 have key : ∀ x y : Blk, ∃ av2 ca2, AV.agg [.int .u8 (.ofNat kd), .str rl.n rl.a, .str to.n to.a, w'] = .agg [.int .u8 (.ofNat kd), .str rl.n rl.a, .str to.n to.a, av2] ∧ Gl 4 ((H2.put H.nx x).put (H.nx + 1) y) av2 (Fo.spl kd a.flat).len ca2 ∧ (∀ b, In av2 b → H.nx ≤ b) ∧ FoC (fun b => H.nx ≤ b) ((H2.put H.nx x).put (H.nx + 1) y) (Fo.spl kd a.flat) ca2 ∧ Fm No H ((H2.put H.nx x).put (H.nx + 1) y) := fun x y => by
  have f5 : Fm (fun b => b = H.nx ∨ b = H.nx + 1) H2 ((H2.put H.nx x).put (H.nx + 1) y) := ((Fm.refl _ _).put _ _ fun _ => .inl rfl).put _ _ fun _ => .inr rfl
  exact ⟨w', cs, rfl, d1.fm f5 fun b hb he => (nw b hb).2 he, fun b hb => (nw b hb).1, (c2.fmS f5 fun b hb he => hb.2.2 he).mono fun b _ hb => hb.1, (f2.put_new _ _ (Nat.le_refl _)).put_new _ _ (by omega)⟩
 rcases d1.is with ⟨h, _⟩ | ⟨_, _, _, _, _, h, _⟩
 ·subst h
  simp (disch := first | omega | exact tr_i rfl | (simp only [qaa, qab]; done) | (simp only [qaa, qab]; omega)) only [go_sem, Nat.reduceAdd, Nat.reduceMul, Nat.reduceSub, Nat.reduceLeDiff, Nat.reduceEqDiff, Nat.reduceShiftRight, Nat.reduceAnd, o2, r2, qug]
  exact Ok.ret (key _ _)
 ·subst h
  simp (disch := first | omega | exact tr_i rfl | (simp only [qaa, qab]; done) | (simp only [qaa, qab]; omega)) only [go_sem, Nat.reduceAdd, Nat.reduceMul, Nat.reduceSub, Nat.reduceLeDiff, Nat.reduceEqDiff, Nat.reduceShiftRight, Nat.reduceAnd, o2, r2, qug]
  exact Ok.ret (key _ _)
theorem q3u (hC : qbi C) : ∀ f : Fo, PflL C f := by
 intro f
 induction f with
 | nil =>
  intro j hj H0 ib kd n i rl to av pre rest w g H q Q k hk hn hr hkd hk4 hsz hnn hg hp hc i1 b1 h1 h2 hw hf hq
  obtain ⟨k, rfl⟩ : ∃ m, k = m + 1 := ⟨k - 1, by omega⟩
  show Ok (qg2 (C j) _ _ _ _ (qd4 (C j) _ _ _ _ k) _ _ H) Q
  unfold qg2
  simp only [Fo.len] at hn
  have hlt : ¬ i < n := by omega
  simp (disch := first | omega | exact tr_i rfl | (simp only [qaa, qab]; done) | (simp only [qaa, qab]; omega)) only [go_sem, Nat.reduceAdd, Nat.reduceMul, Nat.reduceSub, Nat.reduceLeDiff, Nat.reduceEqDiff, Nat.reduceShiftRight, Nat.reduceAnd, hlt]
  refine hq w H ?_ h1 h2 b1 hf
  simp only [Fo.flat, Fo.spl, Fo.app_nil]
  exact hw
 | cons k1 r1 t1 a r iha ihr =>
  intro j hj H0 ib kd n i rl to av pre rest w g H q Q k hk hn hr hkd hk4 hsz hnn hg hp hc i1 b1 h1 h2 hw hf hq
  obtain ⟨k, rfl⟩ : ∃ m, k = m + 1 := ⟨k - 1, by omega⟩
  show Ok (qg2 (C j) _ _ _ _ (qd4 (C j) _ _ _ _ k) _ _ H) Q
  unfold qg2
  simp only [Fo.len] at hn
  simp only [Fo.depth] at hj
  simp only [Fo.size] at hsz
  have hlt : i < n := by omega
  obtain ⟨_, b, o, av1, ca, cr, e1, e2, e3, e4, _, e5, g1, g2, g3, g4, _⟩ := (hg.no hf).rule hp (hc.fm hf)
  simp (disch := first | omega | exact tr_i rfl | (simp only [qaa, qab]; done) | (simp only [qaa, qab]; omega)) only [go_sem, Nat.reduceAdd, Nat.reduceMul, Nat.reduceSub, Nat.reduceLeDiff, Nat.reduceEqDiff, Nat.reduceShiftRight, Nat.reduceAnd, hlt]
  unfold qln
  simp (disch := first | omega | exact tr_i rfl | (simp only [qaa, qab]; done) | (simp only [qaa, qab]; omega)) only [go_sem, Nat.reduceAdd, Nat.reduceMul, Nat.reduceSub, Nat.reduceLeDiff, Nat.reduceEqDiff, Nat.reduceShiftRight, Nat.reduceAnd, e1, e4]
  obtain ⟨j, rfl⟩ : ∃ m, j = m + 1 := ⟨j - 1, by omega⟩
  have fsz : (Fo.spl k1 a.flat).len ≤ a.size := Nat.le_trans (Fo.len_size _) (Nat.le_trans (Fo.spl_size _ _) (Fo.flat_size _))
  obtain ⟨HH, hHH⟩ : ∃ HH, HH = (qaq H (qac 0 [.int .u8 (.ofNat 0), .str 0 0, .str 0 0, .nilsl])).put H.nx (qac 0 [.int .u8 (.ofNat k1), .str r1.n r1.a, .str t1.n t1.a, av1]) := ⟨_, rfl⟩
  have fHH : Fm No H HH := by rw [hHH]; (repeat (first | exact Fm.refl _ _ | assumption | refine Fm.push ?_ _ | refine Fm.up2 ?_ (by (first | omega | (simp only [qaa, qab]; omega))) | refine Fm.put_new ?_ _ _ (by (first | omega | (simp only [qaa, qab]; omega)))))
  have nHH : HH.nx = H.nx + 1 := by rw [hHH]; simp only [qab, qaa]
  have kHH : HH.get H.nx = qac 0 [.int .u8 (.ofNat k1), .str r1.n r1.a, .str t1.n t1.a, av1] := by rw [hHH]; exact qar _ _ _
  rw [← hHH]
  refine Ok.ve (qxe hC iha (j := j) (by omega) (kd := k1) (g1.no fHH) (g3.fm fHH) ⟨hr.1, hr.2.1, trivial⟩ (by omega)) ?_
  rintro _ H2 ⟨av2, ca2, rfl, c1, c2, c3, f2⟩
  have n2 := f2.nx
  have n0 := hf.nx
  have q2 := (f2.keep (show ib < HH.nx by omega)).trans ((fHH.keep (show ib < H.nx by omega)).trans h1)
  have k2 := (f2.keep (show H.nx < HH.nx by omega)).trans kHH
  have fin : ∀ (ff : Fo) (cf : List AV) (HK : Hp), Fm No H HK → 0 < ff.len → FoC (fun b => H.nx ≤ b) HK ff cf → ff.app (Fo.spl kd r.flat) = Fo.spl kd (Fo.cons k1 r1 t1 a r).flat → ff.len ≤ a.size + 1 →
    Ok (ve (qbb 4 64 HK w (some ⟨ff.len, cf⟩)) fun a33 H => qg1 (C (j + 1)) (qd4 (C (j + 1)) q (.ptr ib 0) av (.int .i64 (.ofNat n)) k) a33 (.int .i64 (.ofNat i)) H) Q := by
   intro ff cf HK fA hl0 hff hap hln
   have hnw : ∀ b, In w b → b < H.nx := fun b hb => by
    obtain ⟨cs, d1, _⟩ := hw.ex
    exact d1.lt hb
   have nA := fA.nx
   refine Ok.ve ((hw.no fA).add (hff.mono fun b _ hb => ⟨by omega, fun hi => by have := hnw b hi; omega, by omega⟩) (fun b hb => by omega) (by omega) hl0 (by omega)) ?_
   rintro w' H4 ⟨w4, f4, n4, hw4⟩
   have kp : ∀ c, c < H.nx → (c = ib ∨ c = ib + 1) → H4.get c = H.get c := fun c hc hx => by
    rw [f4.get c (by omega) (fun hi => (hw.nw c hi).2 hx), fA.keep hc]
   subst hw4
   unfold qg1
   simp (disch := first | omega | exact tr_i rfl | (simp only [qaa, qab]; done) | (simp only [qaa, qab]; omega)) only [go_sem, Nat.reduceAdd, Nat.reduceMul, Nat.reduceSub, Nat.reduceLeDiff, Nat.reduceEqDiff, Nat.reduceShiftRight, Nat.reduceAnd]
   have f6 : Fm No H0 H4 := (hf.trans fA).then f4 fun c hc hi => by have := (hw.nw c hi).1; omega
   have e5' : pre ++ rest = (pre ++ [.int .u8 (.ofNat k1), r1.v, t1.v, av1]) ++ cr := by rw [e5]; simp
   refine ihr (j + 1) (by omega) H0 ib kd n (i + 1) rl to av (pre ++ [.int .u8 (.ofNat k1), r1.v, t1.v, av1]) cr _ (g.app ff) _ q Q k (by omega) (by omega) hr.2.2 hkd (fun h => by cases hk4 h) (by rw [Fo.app_len]; omega) hnn (e5' ▸ hg) (by simp [hp]; omega) ?_ i1 (by omega) ((kp ib (by omega) (.inl rfl)).trans h1) ((kp (ib + 1) b1 (.inr rfl)).trans h2) w4 f6 ?_
   ·obtain ⟨_, _, cr', d1, _, _, _, d5⟩ := hc
    rw [e5] at d1
    simp only [List.cons.injEq] at d1
    rw [d1.2.2.2.2]; exact d5
   ·rw [← hap, ← Fo.app_assoc] at hq
    exact hq
  have f3 : ∀ x, Fm (fun b => b = H.nx) H2 (H2.put H.nx x) := fun x => (Fm.refl _ _).put _ _ fun h => rfl
  have fA : ∀ x, Fm No H (H2.put H.nx x) := fun x => (fHH.trans f2).put_new _ _ (Nat.le_refl _)
  have c1' : ∀ x, Gl 4 (H2.put H.nx x) av2 (Fo.spl k1 a.flat).len ca2 := fun x => c1.fm (f3 x) fun b hb he => by have := c2 b hb; omega
  have c3' : ∀ x, FoC (fun b => H.nx ≤ b) (H2.put H.nx x) (Fo.spl k1 a.flat) ca2 := fun x => (c3.fmS (f3 x) fun b hb he => by omega).mono fun b _ hb => by omega
  have el : ∀ x, FoC (fun b => H.nx ≤ b) (qaq (H2.put H.nx x) (qac 0 [.int .u8 (.ofNat k1), .str r1.n r1.a, .str t1.n t1.a, av2])) (.cons k1 r1 t1 (Fo.spl k1 a.flat) .nil) [.int .u8 (.ofNat k1), .str r1.n r1.a, .str t1.n t1.a, av2] := fun x =>
   ⟨av2, ca2, [], rfl, (c1' x).no ((Fm.refl _ _).push _), fun b hb => by have := c2 b hb; omega, (c3' x).fm ((Fm.refl _ _).push _), rfl⟩
  have one : (Fo.cons k1 r1 t1 (Fo.spl k1 a.flat) .nil).len = 1 := rfl
  have hpos : k1 = 4 ∨ k1 = 5 → 0 < (Fo.spl k1 a.flat).len := fun h => by
   have h2 : 2 ≤ a.len := by rcases hr.1 with h' | h' | h' | h' | h' | h' <;> omega
   have := (Fo.spl_rt Nm k1 a.flat (Fo.flat_rt Nm a hr.2.1)).2
   rw [Fo.flat_len] at this
   omega
  simp (disch := first | omega | exact tr_i rfl | (simp only [qaa, qab]; done) | (simp only [qaa, qab]; omega)) only [go_sem, Nat.reduceAdd, Nat.reduceMul, Nat.reduceSub, Nat.reduceLeDiff, Nat.reduceEqDiff, Nat.reduceShiftRight, Nat.reduceAnd, k2, q2]
  have h4' : ¬ kd < 4 := fun h => by cases hk4 h
  by_cases hk1 : k1 = kd
  ·subst hk1
   by_cases h6 : k1 = 6
   ·subst h6
    simp (disch := first | omega | exact tr_i rfl | (simp only [qaa, qab]; done) | (simp only [qaa, qab]; omega)) only [go_sem, Nat.reduceAdd, Nat.reduceMul, Nat.reduceSub, Nat.reduceLeDiff, Nat.reduceEqDiff, Nat.reduceShiftRight, Nat.reduceAnd, k2, q2]
    exact fin _ _ _ ((fA _).push _) (Nat.lt_of_lt_of_eq Nat.one_pos one.symm) (el _) (by simp [Fo.flat, Fo.spl, Fo.app]) (by omega)
   ·simp (disch := first | omega | exact tr_i rfl | (simp only [qaa, qab]; done) | (simp only [qaa, qab]; omega)) only [go_sem, Nat.reduceAdd, Nat.reduceMul, Nat.reduceSub, Nat.reduceLeDiff, Nat.reduceEqDiff, Nat.reduceShiftRight, Nat.reduceAnd, k2, q2, h6, (c1' _).src]
    exact fin _ _ _ (fA _) (hpos (by omega)) (c3' _) (by simp [Fo.flat, Fo.spl]; omega) (by omega)
  ·simp (disch := first | omega | exact tr_i rfl | (simp only [qaa, qab]; done) | (simp only [qaa, qab]; omega)) only [go_sem, Nat.reduceAdd, Nat.reduceMul, Nat.reduceSub, Nat.reduceLeDiff, Nat.reduceEqDiff, Nat.reduceShiftRight, Nat.reduceAnd, k2, q2, hk1]
   exact fin _ _ _ ((fA _).push _) (Nat.lt_of_lt_of_eq Nat.one_pos one.symm) (el _) (by simp [Fo.flat, Fo.spl, hk1, Fo.app]) (by omega)
theorem q8o (hC : qbi C) (hN : qhj C) {k : Nat} (hk : 14 ≤ k) {H : Hp} {f : Fo} {cs : List AV} (hc : FoC (fun _ => True) H f cs) (hf : f.Ok1) :
  Ok (C k (.f qjt) [.agg cs] H) fun v H' => ∃ ds, v = .tup [.agg ds, .int .i64 (.ofNat 0)] ∧ FoC (fun b => H.nx ≤ b) H' f.flat ds ∧ Fm No H H' := by
 obtain ⟨j, rfl⟩ : ∃ j, k = j + 1 := ⟨k - 1, by omega⟩
 rw [(hC j).rules_Flat]
 unfold rules_Flat qnk
 have fx : Fm No H (qaq (qaq H (qac 0 cs)) (qac 0 [.int .u8 (.ofNat 0), .str 0 0, .str 0 0, .nilsl])) := by (repeat (first | exact Fm.refl _ _ | assumption | refine Fm.push ?_ _ | refine Fm.up2 ?_ (by (first | omega | (simp only [qaa, qab]; omega))) | refine Fm.put_new ?_ _ _ (by (first | omega | (simp only [qaa, qab]; omega)))))
 have call := qqg hC hN (k := j) (by omega) (hc.fm fx) hf
 obtain ⟨kd, rl, to, a, av, ca, rfl, rfl, g1, g2, g3⟩ := hc.one hf.one
 have hd := hf.dp
 have hs := hf.sz
 simp only [Fo.depth, Fo.size] at hd hs
 simp (disch := first | omega | exact tr_i rfl | (simp only [qaa, qab]; done) | (simp only [qaa, qab]; omega)) only [go_sem, Nat.reduceAdd, Nat.reduceMul, Nat.reduceSub, Nat.reduceLeDiff, Nat.reduceEqDiff, Nat.reduceShiftRight, Nat.reduceAnd]
 refine Ok.ve call ?_
 rintro _ H1 ⟨rfl, f1⟩
 simp (disch := first | omega | exact tr_i rfl | (simp only [qaa, qab]; done) | (simp only [qaa, qab]; omega)) only [go_sem, Nat.reduceAdd, Nat.reduceMul, Nat.reduceSub, Nat.reduceLeDiff, Nat.reduceEqDiff, Nat.reduceShiftRight, Nat.reduceAnd]
 unfold qmt
 have n1 := f1.nx
 simp only [qaa] at n1
 have k0 : H1.get H.nx = qac 0 [.int .u8 (.ofNat kd), .str rl.n rl.a, .str to.n to.a, av] := (f1.keep (by (first | omega | (simp only [qaa, qab]; omega)))).trans (by simp (disch := first | omega | exact tr_i rfl | (simp only [qaa, qab]; done) | (simp only [qaa, qab]; omega)) only [go_sem, Nat.reduceAdd, Nat.reduceMul, Nat.reduceSub, Nat.reduceLeDiff, Nat.reduceEqDiff, Nat.reduceShiftRight, Nat.reduceAnd])
 have k1 : H1.get (H.nx + 1) = qac 0 [.int .u8 (.ofNat 0), .str 0 0, .str 0 0, .nilsl] := (f1.keep (by (first | omega | (simp only [qaa, qab]; omega)))).trans (by simp (disch := first | omega | exact tr_i rfl | (simp only [qaa, qab]; done) | (simp only [qaa, qab]; omega)) only [go_sem, Nat.reduceAdd, Nat.reduceMul, Nat.reduceSub, Nat.reduceLeDiff, Nat.reduceEqDiff, Nat.reduceShiftRight, Nat.reduceAnd])
 simp (disch := first | omega | exact tr_i rfl | (simp only [qaa, qab]; done) | (simp only [qaa, qab]; omega)) only [go_sem, Nat.reduceAdd, Nat.reduceMul, Nat.reduceSub, Nat.reduceLeDiff, Nat.reduceEqDiff, Nat.reduceShiftRight, Nat.reduceAnd, k0]
 obtain ⟨i, rfl⟩ : ∃ i, j = i + 1 := ⟨j - 1, by omega⟩
 have fA := fx.trans f1
 refine Ok.ve (qxe hC (q3u hC a) (j := i) (by omega) (g1.no fA) (g3.fm fA) hf.rt (by omega)) ?_
 rintro _ H2 ⟨av2, ca2, rfl, c1, c2, c3, f2⟩
 have k2 := (f2.keep (show H.nx + 1 < H1.nx by omega)).trans k1
 simp (disch := first | omega | exact tr_i rfl | (simp only [qaa, qab]; done) | (simp only [qaa, qab]; omega)) only [go_sem, Nat.reduceAdd, Nat.reduceMul, Nat.reduceSub, Nat.reduceLeDiff, Nat.reduceEqDiff, Nat.reduceShiftRight, Nat.reduceAnd, k2]
 have f5 : Fm (fun b => b = H.nx + 1) H2 (H2.put (H.nx + 1) (qac 0 [.int .u8 (.ofNat kd), .str rl.n rl.a, .str to.n to.a, av2])) := (Fm.refl _ _).put _ _ fun _ => rfl
 exact Ok.ret ⟨_, rfl, ⟨av2, ca2, [], rfl, c1.fm f5 fun b hb he => by have := c2 b hb; omega, fun b hb => by have := c2 b hb; omega, (c3.fmS f5 fun b hb he => by omega).mono fun b _ hb => by omega, rfl⟩, (fA.trans f2).put_new _ _ (by omega)⟩
end Go.Di
end
section
namespace Go.Di
open Go.Ev
variable {C : Nat → Ev.Call}
def cntK (l : List Key) : Nat := l.countP fun x => decide (x.1 < 4)
def lvs : List Key → Nat → List TN
 | [], _ => []
 | (k, rl, to, as') :: l, c => ⟨k, rl, to, as', if k < 4 then some c else none⟩ :: lvs l (c + if k < 4 then 1 else 0)
theorem q07 : ∀ (l : List Key) (c : Nat), (lvs l c).length = l.length
 | [], _ => rfl
 | (k, rl, to, as') :: l, c => by rw [lvs, List.length_cons, q07 l, List.length_cons]
theorem qmm (x : Key) (l : List Key) : cntK (x :: l) = cntK l + if x.1 < 4 then 1 else 0 := by
 unfold cntK
 rw [List.countP_cons]
 simp only [decide_eq_true_eq]
theorem qq1 (l m : List Key) : cntK (l ++ m) = cntK l + cntK m := List.countP_append
theorem qv6 : ∀ (l m : List Key) (c : Nat), lvs (l ++ m) c = lvs l c ++ lvs m (c + cntK l)
 | [], m, c => by simp [lvs, cntK]
 | (k, rl, to, as') :: l, m, c => by
  rw [List.cons_append, lvs, qv6 l m, lvs, qmm, List.cons_append]
  congr 3
  simp only
  omega
theorem qr2 : ∀ (f : Fo) (p : Nat), f.Rt Nm → cntK (f.kys p) = f.lv
 | .nil, _, _ => rfl
 | .cons k rl to a r, p, ⟨h1, h2, h3⟩ => by
  rw [Fo.kys, qmm, qq1, qr2 a _ h2, qr2 r _ h3, Fo.lv]
  simp only
  by_cases hk : k < 4
  ·have : a = .nil := by
    rcases h1 with h | h | h | h | h | h
    ·exact h.2.2.2
    ·exact h.2.2.2
    ·exact h.2.2.2
    ·omega
    ·omega
    ·omega
   subst this
   rw [if_pos hk, if_pos hk]; simp only [Fo.lv]; omega
  ·rw [if_neg hk, if_neg hk]; omega
theorem qtw : ∀ (f : Fo) (p c : Nat), f.Rt Nm → lvs (f.kys p) c = f.nds p c
 | .nil, _, _, _ => rfl
 | .cons k rl to a r, p, c, ⟨h1, h2, h3⟩ => by
  rw [Fo.kys, lvs, qv6, qtw a _ _ h2, qtw r _ _ h3, qr2 a _ h2, Fo.nds]
  have e : c + (if k < 4 then 1 else 0) + a.lv = c + if k < 4 then 1 else a.lv := by
   by_cases hk : k < 4
   ·have : a = .nil := by
     rcases h1 with h | h | h | h | h | h
     ·exact h.2.2.2
     ·exact h.2.2.2
     ·exact h.2.2.2
     ·omega
     ·omega
     ·omega
    subst this
    simp [hk, Fo.lv]
   ·simp [hk]
  rw [e]
  by_cases hk : k < 4
  ·have : a = .nil := by
    rcases h1 with h | h | h | h | h | h
    ·exact h.2.2.2
    ·exact h.2.2.2
    ·exact h.2.2.2
    ·omega
    ·omega
    ·omega
   subst this; rfl
  ·simp [hk]
def qn1 : Option Nat → AV
 | some c => .int .i64 (.ofNat c)
 | none => .int .i64 (.negSucc 0)
structure TE where
 t : TN
 av : AV
 sp : AV
def teC (e : TE) : List AV := [.int .u8 (.ofNat e.t.k), e.t.rl.v, e.t.to.v, e.sp, e.av, qn1 e.t.leaf]
theorem q6b (e : TE) : (teC e).length = 6 := rfl
structure TE.Ok (H : Hp) (e : TE) : Prop where
 gl : Gl 1 H e.av e.t.args.length (ints e.t.args)
 sp : (e.t.k = 3 ∧ Gl 1 H e.sp 1 [.str 1 98]) ∨ (e.t.k ≠ 3 ∧ e.sp = .nilsl)
theorem TE.Ok.fm {H H' : Hp} {e : TE} (h : e.Ok H) (f : Fm No H H') : e.Ok H' := ⟨h.gl.no f, h.sp.imp (fun h => ⟨h.1, h.2.no f⟩) id⟩
structure TbR (H : Hp) (v : AV) (es : List TE) (f : Fo) : Prop where
 gl : Gl 6 H v es.length (es.flatMap teC)
 is : es.map TE.t = f.nds 0 0
 ok : ∀ e ∈ es, e.Ok H
theorem TbR.fm {H H' : Hp} {v : AV} {es : List TE} {f : Fo} (h : TbR H v es f) (a : Fm No H H') : TbR H' v es f := ⟨h.gl.no a, h.is, fun e he => (h.ok e he).fm a⟩
theorem Gl.cells {z n : Nat} {H : Hp} {v : AV} {l : List AV} (h : Gl z H v n l) : qh2 v = some [v] := by
 rcases h.is with ⟨rfl, rfl⟩ | ⟨b, o, e, q, L, rfl, _⟩ <;> rfl
theorem Ac.add2 {α : Type} {z : Nat} {f : α → List AV} {H0 H : Hp} {v : AV} {l : List α} (h : Ac z f H0 H v l) (x : α) (w : Nat) (hx : (f x).length = z) (hb : (l.length + 1) * w ≤ 1099511627776) (hb2 : l.length + 1 ≤ 1099511627776) :
  Ok (qbb z w H v (some ⟨1, f x⟩)) fun v' H' => Ac z f H0 H' v' (l ++ [x]) ∧ Fm (In v) H H' ∧ H'.nx = H.nx + 1 ∧ ∀ b, In v' b → b = H.nx := by
 obtain ⟨H', e, gl', _, fm', nx'⟩ := h.gl.append (k := 1) (w := w) (x := f x) (by omega) (by omega) hb hb2
 refine ⟨_, H', e, ⟨?_, h.fm.then fm' fun c hc hi => by have := h.nw c hi; omega, fun b hb => ?_⟩, fm', nx', fun b hb => ?_⟩
 ·rw [List.length_append, List.flatMap_append, List.flatMap_singleton]; exact gl'
 ·obtain ⟨_, _, _, _, h'⟩ := hb
  cases h'
  exact h.fm.nx
 ·obtain ⟨_, _, _, _, h'⟩ := hb
  cases h'
  rfl
theorem q84 (a b c d e f x : AV) : setL [a, b, c, d, e, f] 3 [x] = [a, b, c, x, e, f] := id rfl
theorem q83 (a b c d e f x : AV) : setL [a, b, c, d, e, f] 5 [x] = [a, b, c, d, e, x] := id rfl
theorem qwk (o : Option Nat) : qh2 (qn1 o) = some [qn1 o] := by cases o <;> rfl
theorem qru (hC : qbi C) {j : Nat} {nv : AV} {ln : List NE} {Hb : Hp} (hg : Gl 5 Hb nv ln.length (ln.flatMap neC)) (ha : ∀ e ∈ ln, e.Ar (fun _ => True) Hb) (hn : ln.length ≤ 1000) {q : AV → Hp → R1} {Q : AV → Hp → Prop}
  (hq : ∀ w es H, Ac 6 teC Hb H w es → es.map TE.t = lvs (ln.map NE.key) 0 → (∀ e ∈ es, e.Ok H) → Ok (q w H) Q) :
  ∀ (k i : Nat) (w : AV) (es : List TE) (H : Hp), i ≤ ln.length → ln.length - i < k → Ac 6 teC Hb H w es → es.map TE.t = lvs ((ln.take i).map NE.key) 0 → (∀ e ∈ es, e.Ok H ∧ ∀ b, In e.sp b ∨ In e.av b → ¬ In w b) →
   Ok (qcn (C j) q nv k w (.int .i64 (.ofNat (cntK ((ln.take i).map NE.key)))) (.int .i64 (.ofNat i)) H) Q
 | 0, i, _, _, _, _, h, _, _, _ => by omega
 | k + 1, i, w, es, H, hi, hk, hw, hes, hok => by
  show Ok (qmb (C j) _ _ (qcn (C j) _ _ k) _ _ _ H) Q
  unfold qmb
  have hl := (hg.no hw.fm).lenV
  by_cases hlt : i < ln.length
  ·simp (disch := first | omega | exact tr_i rfl | (simp only [qaa, qab]; done) | (simp only [qaa, qab]; omega)) only [go_sem, Nat.reduceAdd, Nat.reduceMul, Nat.reduceSub, Nat.reduceLeDiff, Nat.reduceEqDiff, Nat.reduceShiftRight, Nat.reduceAnd, hl, hlt]
   unfold qky
   obtain ⟨b1, o1, e1, e2, _, e3, e4⟩ := ((hg.no hw.fm).rs ql9).at' i hlt
   have r0 : qbt (H.get b1) o1 = .val (.int .u8 (.ofNat ln[i].k)) := e4 0 (by rw [ql9]; omega)
   have r1 : qbt (H.get b1) (o1 + 1) = .val (.str ln[i].rl.n ln[i].rl.a) := e4 1 (by rw [ql9]; omega)
   have r2 : qbt (H.get b1) (o1 + 2) = .val (.str ln[i].to.n ln[i].to.a) := e4 2 (by rw [ql9]; omega)
   have r3 : qbt (H.get b1) (o1 + 3) = .val ln[i].av := e4 3 (by rw [ql9]; omega)
   have hc := (ha _ (List.getElem_mem hlt)).gl.cells
   have hfl := qhf (Gl.flat (ha _ (List.getElem_mem hlt)).gl) 63
   have hcn : cntK ((ln.take i).map NE.key) ≤ 1000 := Nat.le_trans List.countP_le_length (by simp; omega)
   have hesl : es.length ≤ 1000 := by
    have := congrArg List.length hes
    rw [List.length_map, q07, List.length_map, List.length_take] at this
    omega
   have hwlt : ∀ b, In w b → b < H.nx := fun b hb => hw.gl.lt hb
   have hcut : (ln.take (i + 1)).map NE.key = (ln.take i).map NE.key ++ [ln[i].key] := by rw [List.take_succ_eq_append_getElem hlt, List.map_append]; rfl
   have hke : ln[i].key = (ln[i].k, ln[i].rl, ln[i].to, ln[i].args) := rfl
   have fin2 : ∀ (lf : Option Nat) (sp : AV) (H5 : Hp), lf = (if ln[i].k < 4 then some (cntK ((ln.take i).map NE.key)) else none) → Fm No H H5 → H.nx + 21 < H5.nx → H5.get (H.nx + 21) = qac 0 [.int .u8 (.ofNat ln[i].k), .str ln[i].rl.n ln[i].rl.a, .str ln[i].to.n ln[i].to.a, sp, ln[i].av, qn1 lf] →
     qh2 sp = some [sp] → ((ln[i].k = 3 ∧ Gl 1 H5 sp 1 [.str 1 98]) ∨ (ln[i].k ≠ 3 ∧ sp = .nilsl)) → (∀ b, In sp b → H.nx ≤ b ∧ b < H5.nx) →
     Ok (qgd (C j) (qcn (C j) q nv k) w (.int .i64 (.ofNat (cntK ((ln.take (i + 1)).map NE.key)))) (.int .i64 (.ofNat i)) (.ptr (H.nx + 21) 0) H5) Q := by
    intro lf sp H5 hlf f5 h5 k5 hcs hsp hspb
    unfold qgd
    simp (disch := first | omega | exact tr_i rfl | (simp only [qaa, qab]; done) | (simp only [qaa, qab]; omega)) only [go_sem, Nat.reduceAdd, Nat.reduceMul, Nat.reduceSub, Nat.reduceLeDiff, Nat.reduceEqDiff, Nat.reduceShiftRight, Nat.reduceAnd, k5, hc, hcs, qwk]
    have f6 : Fm No H (qaq H5 (qac 0 (teC ⟨⟨ln[i].k, ln[i].rl, ln[i].to, ln[i].args, lf⟩, ln[i].av, sp⟩))) := f5.push _
    have n5 := f5.nx
    refine Ok.ve ((hw.no f6).add2 ⟨⟨ln[i].k, ln[i].rl, ln[i].to, ln[i].args, lf⟩, ln[i].av, sp⟩ 96 rfl (by omega) (by omega)) ?_
    rintro w' H6 ⟨w6, f7, n7, hw7⟩
    unfold qma
    simp (disch := first | omega | exact tr_i rfl | (simp only [qaa, qab]; done) | (simp only [qaa, qab]; omega)) only [go_sem, Nat.reduceAdd, Nat.reduceMul, Nat.reduceSub, Nat.reduceLeDiff, Nat.reduceEqDiff, Nat.reduceShiftRight, Nat.reduceAnd]
    refine qru hC hg ha hn hq k (i + 1) w' _ H6 (by omega) (by omega) w6 ?_ fun e he => ?_
    ·rw [List.map_append, hes, hcut, qv6, hke, hlf, Nat.zero_add]; rfl
    ·rcases List.mem_append.1 he with he | he
     ·obtain ⟨o1, o2⟩ := hok e he
      have oe := o1.fm f6
      refine ⟨⟨oe.gl.fm f7 fun b hb => o2 b (.inr hb), oe.sp.imp (fun h => ⟨h.1, h.2.fm f7 fun b hb => o2 b (.inl hb)⟩) id⟩, fun b hb hi => ?_⟩
      have := hw7 b hi
      simp only [qaa] at this
      have hbl : b < H.nx := by
       rcases hb with hb | hb
       ·rcases o1.sp with h | h
        ·exact h.2.lt hb
        ·rw [h.2] at hb; exact absurd hb (notNil b)
       ·exact o1.gl.lt hb
      omega
     ·obtain rfl := List.mem_singleton.1 he
      have ae := (ha _ (List.getElem_mem hlt))
      have hAv : ∀ b, In ln[i].av b → b < Hb.nx := fun b hb => ae.gl.lt hb
      have hwn : ∀ b, In w b → Hb.nx ≤ b := fun b hb => hw.nw b hb
      refine ⟨⟨((ae.gl.no hw.fm).no f6).fm f7 fun b hb hi => by have := hAv b hb; have := hwn b hi; omega, hsp.imp (fun h => ⟨h.1, (h.2.no ((Fm.refl No H5).push _)).fm f7 fun b hb hi => by have := hspb b hb; have := hwlt b hi; omega⟩) id⟩, fun b hb hi => ?_⟩
      have := hw7 b hi
      simp only [qaa] at this
      rcases hb with hb | hb
      ·have := hspb b hb; omega
      ·have := hAv b hb; have := hw.fm.nx; omega
   have fin : ∀ (lf : Option Nat) (H4 : Hp), lf = (if ln[i].k < 4 then some (cntK ((ln.take i).map NE.key)) else none) → Fm No H H4 → H.nx + 21 < H4.nx → H4.get (H.nx + 21) = qac 0 [.int .u8 (.ofNat ln[i].k), .str ln[i].rl.n ln[i].rl.a, .str ln[i].to.n ln[i].to.a, .nilsl, ln[i].av, qn1 lf] →
     Ok (qgc (C j) (qcn (C j) q nv k) w (.int .i64 (.ofNat (cntK ((ln.take (i + 1)).map NE.key)))) (.int .i64 (.ofNat i)) (.ptr (H.nx + 21) 0) H4) Q := by
    intro lf H4 hlf f4 h4 k4
    unfold qgc
    have n4 := f4.nx
    by_cases h3 : ln[i].k = 3
    ·have h3t := eq_true h3
     simp (disch := first | omega | exact tr_i rfl | (simp only [qaa, qab]; done) | (simp only [qaa, qab]; omega)) only [go_sem, Nat.reduceAdd, Nat.reduceMul, Nat.reduceSub, Nat.reduceLeDiff, Nat.reduceEqDiff, Nat.reduceShiftRight, Nat.reduceAnd, k4, h3t, q84]
     have sq : Gl 1 (qaq H4 (qac 0 [.str 1 98])) (.sl H4.nx 0 1 1 true) 1 [.str 1 98] := ⟨rfl, .inr ⟨H4.nx, 0, true, 0, [.str 1 98], rfl, qby _ _, Nat.zero_le _, rfl, .inl rfl, by rw [qaa]; omega⟩⟩
     have f5 : Fm (fun b => b = H.nx + 21) (qaq H4 (qac 0 [.str 1 98])) ((qaq H4 (qac 0 [.str 1 98])).put (H.nx + 21) (qac 0 [.int .u8 (.ofNat ln[i].k), .str ln[i].rl.n ln[i].rl.a, .str ln[i].to.n ln[i].to.a, .sl H4.nx 0 1 1 true, ln[i].av, qn1 lf])) := (Fm.refl _ _).put _ _ fun _ => rfl
     have inb : ∀ b, In (.sl H4.nx 0 1 1 true) b → b = H4.nx := fun b hb => by
      obtain ⟨_, _, _, _, hb⟩ := hb
      injection hb with hb
      exact hb.symm
     exact fin2 lf (.sl H4.nx 0 1 1 true) _ hlf ((f4.push _).put_new _ _ (by omega)) (by simp only [qab, qaa]; omega) (qar _ _ _) rfl (.inl ⟨h3, sq.fm f5 fun b hb he => by have := inb b hb; omega⟩) fun b hb => by have := inb b hb; simp only [qab, qaa]; omega
    ·simp (disch := first | omega | exact tr_i rfl | (simp only [qaa, qab]; done) | (simp only [qaa, qab]; omega)) only [go_sem, Nat.reduceAdd, Nat.reduceMul, Nat.reduceSub, Nat.reduceLeDiff, Nat.reduceEqDiff, Nat.reduceShiftRight, Nat.reduceAnd, k4, h3]
     exact fin2 lf .nilsl H4 hlf f4 h4 k4 rfl (.inr ⟨h3, rfl⟩) fun b hb => absurd hb (notNil b)
   rw [hcut, qq1, qmm] at fin
   simp (disch := first | omega | exact tr_i rfl | (simp only [qaa, qab]; done) | (simp only [qaa, qab]; omega)) only [go_sem, Nat.reduceAdd, Nat.reduceMul, Nat.reduceSub, Nat.reduceLeDiff, Nat.reduceEqDiff, Nat.reduceShiftRight, Nat.reduceAnd, e1, r0, r1, r2, r3, hc, hfl]
   by_cases h4 : ln[i].k < 4
   ·have h4t := eq_true h4
    simp (disch := first | omega | exact tr_i rfl | (simp only [qaa, qab]; done) | (simp only [qaa, qab]; omega)) only [go_sem, Nat.reduceAdd, Nat.reduceMul, Nat.reduceSub, Nat.reduceLeDiff, Nat.reduceEqDiff, Nat.reduceShiftRight, Nat.reduceAnd, h4t, q83]
    have e5 : cntK ((ln.take i).map NE.key) + (cntK [] + if ln[i].key.1 < 4 then 1 else 0) = cntK ((ln.take i).map NE.key) + 1 := by
     show _ + (cntK [] + if ln[i].k < 4 then 1 else 0) = _
     rw [if_pos h4]; rfl
    rw [e5] at fin
    exact fin (some (cntK ((ln.take i).map NE.key))) _ (by rw [if_pos h4]) (by (repeat (first | exact Fm.refl _ _ | assumption | refine Fm.push ?_ _ | refine Fm.up2 ?_ (by (first | omega | (simp only [qaa, qab]; omega))) | refine Fm.put_new ?_ _ _ (by (first | omega | (simp only [qaa, qab]; omega)))))) (by (first | omega | (simp only [qaa, qab]; omega))) (qar _ _ _)
   ·simp (disch := first | omega | exact tr_i rfl | (simp only [qaa, qab]; done) | (simp only [qaa, qab]; omega)) only [go_sem, Nat.reduceAdd, Nat.reduceMul, Nat.reduceSub, Nat.reduceLeDiff, Nat.reduceEqDiff, Nat.reduceShiftRight, Nat.reduceAnd, h4]
    have e5 : cntK ((ln.take i).map NE.key) + (cntK [] + if ln[i].key.1 < 4 then 1 else 0) = cntK ((ln.take i).map NE.key) := by
     show _ + (cntK [] + if ln[i].k < 4 then 1 else 0) = _
     rw [if_neg h4]; rfl
    rw [e5] at fin
    exact fin none _ (by rw [if_neg h4]) (by (repeat (first | exact Fm.refl _ _ | assumption | refine Fm.push ?_ _ | refine Fm.up2 ?_ (by (first | omega | (simp only [qaa, qab]; omega))) | refine Fm.put_new ?_ _ _ (by (first | omega | (simp only [qaa, qab]; omega)))))) (by (first | omega | (simp only [qaa, qab]; omega))) (qar _ _ _)
  ·simp (disch := first | omega | exact tr_i rfl | (simp only [qaa, qab]; done) | (simp only [qaa, qab]; omega)) only [go_sem, Nat.reduceAdd, Nat.reduceMul, Nat.reduceSub, Nat.reduceLeDiff, Nat.reduceEqDiff, Nat.reduceShiftRight, Nat.reduceAnd, hl, hlt]
   have he : i = ln.length := by omega
   subst he
   rw [List.take_length] at hes
   exact hq w es H hw hes fun e he => (hok e he).1
theorem q2y (hC : qbi C) {k : Nat} (hk : 12 ≤ k) {H : Hp} {f : Fo} {cs : List AV} (hc : FoC (fun _ => True) H f cs) (hf : f.Ok1) :
  Ok (C k (.f qil) [.agg cs] H) fun w H' => ∃ es, TbR H' w es f.flat ∧ Fm No H H' ∧ ∀ b, In w b → H.nx ≤ b := by
 obtain ⟨j, rfl⟩ : ∃ j, k = j + 1 := ⟨k - 1, by omega⟩
 rw [(hC j).law19_Nodes]
 unfold law19_Nodes qm1
 have fx : Fm No H (qaq H (qac 0 cs)) := by (repeat (first | exact Fm.refl _ _ | assumption | refine Fm.push ?_ _ | refine Fm.up2 ?_ (by (first | omega | (simp only [qaa, qab]; omega))) | refine Fm.put_new ?_ _ _ (by (first | omega | (simp only [qaa, qab]; omega)))))
 have hd := hf.dp
 have hs := hf.sz
 have hone := hf.one
 have hr := hf.rt
 obtain ⟨kd, rl, to, a, av, ca, rfl, rfl, g1, g2, g3⟩ := hc.one hf.one
 have fls : (Fo.cons kd rl to a .nil).flat = .cons kd rl to (Fo.spl kd a.flat) .nil := rfl
 have hd2 := Fo.flat_depth (.cons kd rl to a .nil)
 have hs2 := Fo.flat_size (.cons kd rl to a .nil)
 simp only [Fo.depth, Fo.size] at hd hs
 obtain ⟨i, rfl⟩ : ∃ i, j = i + 1 := ⟨j - 1, by omega⟩
 simp (disch := first | omega | exact tr_i rfl | (simp only [qaa, qab]; done) | (simp only [qaa, qab]; omega)) only [go_sem, Nat.reduceAdd, Nat.reduceMul, Nat.reduceSub, Nat.reduceLeDiff, Nat.reduceEqDiff, Nat.reduceShiftRight, Nat.reduceAnd]
 refine Ok.ve (qu9 hC (q1s hC a) (j := i) (by omega) (g1.no fx) (g3.fm fx) hr.2.1 (by omega)) ?_
 rintro _ H1 ⟨av2, ca2, rfl, c1, c2, c3, f1⟩
 have hc1 : FoC (fun b => H.nx ≤ b) H1 (Fo.cons kd rl to a .nil).flat [.int .u8 (.ofNat kd), .str rl.n rl.a, .str to.n to.a, av2] := ⟨av2, ca2, [], rfl, c1, fun b hb => by have := c2 b hb; simp only [qaa] at this; omega, c3.mono fun b _ hb => by simp only [qaa] at hb; omega, rfl⟩
 refine Ok.ve (qx3 hC (k := i + 1) (f := (Fo.cons kd rl to a .nil).flat) (by simp only [Fo.depth] at hd2; omega) rfl (by simp only [Fo.size] at hs2; omega) hc1) ?_
 rintro nv H2 ⟨ln, e1, e2, e3, f2, e4⟩
 unfold qmc
 rw [qbc]
 have hln : ln.length ≤ 32 := by
  have := congrArg List.length e2
  rw [List.length_map, Fo.kys_len] at this
  simp only [Fo.size] at hs2
  omega
 have fA := (fx.trans f1).trans f2
 refine qru hC (j := i + 1) e1 (fun e he => (e3 e he).fm (Fm.refl No H2) (fun _ _ _ h => h) fun _ _ _ => trivial) (by omega) (fun w es H3 hw hes hok => ?_) qaz 0 .nilsl [] H2 (Nat.zero_le _) (by rw [qas]; omega) (Ac.nil _ _ (Fm.refl _ _)) rfl fun e he => by cases he
 unfold qdf
 refine Ok.ret ⟨es, ⟨hw.gl, ?_, hok⟩, fA.trans hw.fm, fun b hb => ?_⟩
 ·rw [hes, e2, qtw _ _ _ (Fo.flat_rt Nm _ hr)]
 ·have := hw.nw b hb
  have := fA.nx
  omega
theorem qqi {call : Ev.Call} {nv : AV} {ln : List NE} {H : Hp} (hg : Gl 5 H nv ln.length (ln.flatMap neC)) (hn : ln.length ≤ 1000) {q : AV → Hp → R1} {Q : AV → Hp → Prop} (hq : Ok (q (.int .i64 (.ofNat (cntK (ln.map NE.key)))) H) Q) :
  ∀ (k i : Nat), i ≤ ln.length → ln.length - i < k → Ok (qe5 call q nv k (.int .i64 (.ofNat (cntK ((ln.take i).map NE.key)))) (.int .i64 (.ofNat i)) H) Q
 | 0, i, _, h => by omega
 | k + 1, i, hi, hk => by
  show Ok (qkr call _ _ (qe5 call _ _ k) _ _ H) Q
  unfold qkr
  have hl := hg.lenV
  by_cases hlt : i < ln.length
  ·simp (disch := first | omega | exact tr_i rfl | (simp only [qaa, qab]; done) | (simp only [qaa, qab]; omega)) only [go_sem, Nat.reduceAdd, Nat.reduceMul, Nat.reduceSub, Nat.reduceLeDiff, Nat.reduceEqDiff, Nat.reduceShiftRight, Nat.reduceAnd, hl, hlt]
   unfold qjf
   obtain ⟨b1, o1, e1, e2, _, e3, e4⟩ := (hg.rs ql9).at' i hlt
   have r0 : qbt (H.get b1) o1 = .val (.int .u8 (.ofNat ln[i].k)) := e4 0 (by rw [ql9]; omega)
   have hcn : cntK ((ln.take i).map NE.key) ≤ 1000 := Nat.le_trans List.countP_le_length (by simp; omega)
   have hcut : cntK ((ln.take (i + 1)).map NE.key) = cntK ((ln.take i).map NE.key) + if ln[i].k < 4 then 1 else 0 := by
    rw [List.take_succ_eq_append_getElem hlt, List.map_append, qq1]
    show _ + cntK [ln[i].key] = _
    rw [qmm]
    show _ + (0 + if ln[i].k < 4 then 1 else 0) = _
    omega
   have ih := qqi (call := call) hg hn hq k (i + 1) (by omega) (by omega)
   rw [hcut] at ih
   by_cases h4 : ln[i].k < 4
   ·have h4t := eq_true h4
    simp (disch := first | omega | exact tr_i rfl | (simp only [qaa, qab]; done) | (simp only [qaa, qab]; omega)) only [go_sem, Nat.reduceAdd, Nat.reduceMul, Nat.reduceSub, Nat.reduceLeDiff, Nat.reduceEqDiff, Nat.reduceShiftRight, Nat.reduceAnd, e1, r0, h4t]
    unfold qf5
    simp (disch := first | omega | exact tr_i rfl | (simp only [qaa, qab]; done) | (simp only [qaa, qab]; omega)) only [go_sem, Nat.reduceAdd, Nat.reduceMul, Nat.reduceSub, Nat.reduceLeDiff, Nat.reduceEqDiff, Nat.reduceShiftRight, Nat.reduceAnd]
    rw [if_pos h4] at ih
    exact ih
   ·simp (disch := first | omega | exact tr_i rfl | (simp only [qaa, qab]; done) | (simp only [qaa, qab]; omega)) only [go_sem, Nat.reduceAdd, Nat.reduceMul, Nat.reduceSub, Nat.reduceLeDiff, Nat.reduceEqDiff, Nat.reduceShiftRight, Nat.reduceAnd, e1, r0, h4]
    unfold qf5
    simp (disch := first | omega | exact tr_i rfl | (simp only [qaa, qab]; done) | (simp only [qaa, qab]; omega)) only [go_sem, Nat.reduceAdd, Nat.reduceMul, Nat.reduceSub, Nat.reduceLeDiff, Nat.reduceEqDiff, Nat.reduceShiftRight, Nat.reduceAnd]
    rw [if_neg h4] at ih
    exact ih
  ·simp (disch := first | omega | exact tr_i rfl | (simp only [qaa, qab]; done) | (simp only [qaa, qab]; omega)) only [go_sem, Nat.reduceAdd, Nat.reduceMul, Nat.reduceSub, Nat.reduceLeDiff, Nat.reduceEqDiff, Nat.reduceShiftRight, Nat.reduceAnd, hl, hlt]
   have he : i = ln.length := by omega
   rw [he, List.take_length]
   exact hq
theorem qzm (hC : qbi C) {k : Nat} (hk : 12 ≤ k) {H : Hp} {f : Fo} {cs : List AV} (hc : FoC (fun _ => True) H f cs) (hf : f.Ok1) :
  Ok (C k (.f qh0) [.agg cs] H) fun w H' => w = .int .i64 (.ofNat f.lv) ∧ Fm No H H' := by
 obtain ⟨j, rfl⟩ : ∃ j, k = j + 1 := ⟨k - 1, by omega⟩
 rw [(hC j).ref19_Leaves]
 unfold ref19_Leaves ql2
 have fx : Fm No H (qaq H (qac 0 cs)) := by (repeat (first | exact Fm.refl _ _ | assumption | refine Fm.push ?_ _ | refine Fm.up2 ?_ (by (first | omega | (simp only [qaa, qab]; omega))) | refine Fm.put_new ?_ _ _ (by (first | omega | (simp only [qaa, qab]; omega)))))
 have hd := hf.dp
 have hs := hf.sz
 have call := qx3 hC (k := j) (by omega) hf.one (by omega) (hc.fm fx)
 obtain ⟨kd, rl, to, a, av, ca, hfe, rfl, g1, g2, g3⟩ := hc.one hf.one
 simp (disch := first | omega | exact tr_i rfl | (simp only [qaa, qab]; done) | (simp only [qaa, qab]; omega)) only [go_sem, Nat.reduceAdd, Nat.reduceMul, Nat.reduceSub, Nat.reduceLeDiff, Nat.reduceEqDiff, Nat.reduceShiftRight, Nat.reduceAnd]
 refine Ok.ve call ?_
 rintro nv H2 ⟨ln, e1, e2, e3, f2, e4⟩
 unfold qks
 rw [qbc]
 have hln : ln.length ≤ 32 := by
  have := congrArg List.length e2
  rw [List.length_map, Fo.kys_len] at this
  omega
 refine qqi e1 (by omega) ?_ qaz 0 (Nat.zero_le _) (by rw [qas]; omega)
 unfold qee
 rw [e2, qr2 f 0 hf.rt]
 exact Ok.ret ⟨rfl, fx.trans f2⟩
end Go.Di
end
section
namespace Go.Di
open Go.Ev
variable {C : Nat → Ev.Call}
theorem TbR.at {H : Hp} {v : AV} {es : List TE} {f : Fo} (h : TbR H v es f) {i : Nat} {t : TN} (ht : (f.nds 0 0)[i]? = some t) :
  ∃ (b o : Nat) (e : TE), i < es.length ∧ e.t = t ∧ e.Ok H ∧ idxS 6 v (.int .i64 (.ofNat i)) = .val (.ptr b o) ∧ b < H.nx ∧ qd6 (H.get b) o 6 = some [.int .u8 (.ofNat t.k), .str t.rl.n t.rl.a, .str t.to.n t.to.a, e.sp, e.av, qn1 t.leaf] := by
 rw [← h.is, List.getElem?_map] at ht
 have hi : i < es.length := by
  rcases Nat.lt_or_ge i es.length with h | h
  ·exact h
  ·rw [List.getElem?_eq_none h] at ht; cases ht
 rw [List.getElem?_eq_getElem hi] at ht
 obtain rfl : es[i].t = t := by simpa using ht
 obtain ⟨b, o, e1, e2, _, e3, _⟩ := (h.gl.rs q6b).at' i hi
 exact ⟨b, o, es[i], hi, rfl, h.ok _ (List.getElem_mem hi), e1, e2, e3⟩
def BldL (C : Nat → Ev.Call) (f : Fo) : Prop :=
 ∀ (j : Nat), f.depth + 1 ≤ j → ∀ (F : Fo) (v : AV) (es : List TE) (H0 : Hp) (ob kd n i p c : Nat) (rl to : SS) (av w : AV) (pre post : List TN) (d : List Nat) (g : Fo) (H : Hp) (qr : AV → AV → Hp → R1) (q : AV → Hp → R1) (Q : AV → Hp → Prop) (k : Nat), TbR H0 v es F → es.length ≤ 32 → F.nds 0 0 = pre ++ f.nds p c ++ post → pre.length = p →
  n - i < k → n = i + f.len → d.length = i → n ≤ 1000 → g.len + f.size ≤ 1000 → p + f.size ≤ 1000 → f.Rt Nm → Gl 1 H0 av n (ints (d ++ f.ixs p)) → H0.nx ≤ ob → ob < H.nx → H.get ob = qac 0 [.int .u8 (.ofNat kd), .str rl.n rl.a, .str to.n to.a, w] → GrF (fun b => b = ob) H0 H w g → Fm No H0 H →
  (∀ w H, GrF (fun b => b = ob) H0 H w (g.app f) → H.get ob = qac 0 [.int .u8 (.ofNat kd), .str rl.n rl.a, .str to.n to.a, w] → ob < H.nx → Fm No H0 H → Ok (q (.int .i64 (.ofNat (p + f.size))) H) Q) →
  Ok (qcb (C j) qr q v (.ptr ob 0) av (.int .i64 (.ofNat n)) k (.int .i64 (.ofNat p)) (.int .i64 (.ofNat i)) H) Q
theorem qz0 (hC : qbi C) {a : Fo} (hL : BldL C a) {j : Nat} (hj : a.depth + 1 ≤ j) {F : Fo} {v : AV} {es : List TE} {H : Hp} {kd p c : Nat} {rl to : SS} {pre post : List TN} (ht : TbR H v es F) (hes : es.length ≤ 32) (hF : F.nds 0 0 = pre ++ (Fo.cons kd rl to a .nil).nds p c ++ post) (hp : pre.length = p) (hr : a.Rt Nm) (hk4 : kd < 4 → a = .nil) :
  Ok (C (j + 1) (.f qge) [v, .int .i64 (.ofNat p)] H) fun r H' => ∃ cs, r = .tup [.agg cs, .int .i64 (.ofNat (p + 1 + a.size)), .bool true] ∧ FoC (fun b => H.nx ≤ b) H' (.cons kd rl to a .nil) cs ∧ Fm No H H' := by
 rw [(hC j).tables_build]
 unfold tables_build qlg
 have hat : (F.nds 0 0)[p]? = some ⟨kd, rl, to, a.ixs (p + 1), if kd < 4 then some c else none⟩ := by
  rw [hF, List.append_assoc, List.getElem?_append_right (by omega), hp, Nat.sub_self]; rfl
 have hlenF : (F.nds 0 0).length = es.length := by rw [← ht.is, List.length_map]
 have hsz : p + 1 + a.size ≤ 32 := by
  have := congrArg List.length hF
  rw [hlenF, List.length_append, List.length_append, Fo.nds_len, hp, Fo.size, Fo.size] at this
  omega
 have fx : Fm No H (qaq H (qac 0 [.int .u8 (.ofNat 0), .str 0 0, .str 0 0, .nilsl])) := by (repeat (first | exact Fm.refl _ _ | assumption | refine Fm.push ?_ _ | refine Fm.up2 ?_ (by (first | omega | (simp only [qaa, qab]; omega))) | refine Fm.put_new ?_ _ _ (by (first | omega | (simp only [qaa, qab]; omega)))))
 obtain ⟨b, o, e, hi, he, hok, e1, e2, e3⟩ := ht.at hat
 have hl := (ht.fm fx).gl.lenV
 have hi' : ¬ es.length ≤ p := by omega
 have h32 : ¬ 32 < es.length := by omega
 simp (disch := first | omega | exact tr_i rfl | (simp only [qaa, qab]; done) | (simp only [qaa, qab]; omega)) only [go_sem, Nat.reduceAdd, Nat.reduceMul, Nat.reduceSub, Nat.reduceLeDiff, Nat.reduceEqDiff, Nat.reduceShiftRight, Nat.reduceAnd, hl, hi', h32]
 unfold qiz
 simp only at e3
 have hla := hok.gl.lenV
 have hal := Fo.len_size a
 rw [he, Fo.ixs_len] at hla
 simp (disch := first | omega | exact tr_i rfl | (simp only [qaa, qab]; done) | (simp only [qaa, qab]; omega)) only [go_sem, Nat.reduceAdd, Nat.reduceMul, Nat.reduceSub, Nat.reduceLeDiff, Nat.reduceEqDiff, Nat.reduceShiftRight, Nat.reduceAnd, e1, e3, hla]
 unfold qi4
 rw [qbc]
 have hgl := hok.gl
 rw [he, Fo.ixs_len] at hgl
 simp only at hgl
 obtain ⟨H1, hH1⟩ : ∃ H1, H1 = ((qaq ((qaq H (qac 0 [.int .u8 (.ofNat 0), .str 0 0, .str 0 0, .nilsl]))) (qac 0 [.int .u8 (.ofNat 0), .str 0 0, .str 0 0, .nilsl, .nilsl, .int .i64 (.ofNat 0)])).put (H.nx + 1) (qac 0 [.int .u8 (.ofNat kd), .str rl.n rl.a, .str to.n to.a, e.sp, e.av, qn1 (if kd < 4 then some c else none)])).put H.nx (qac 0 [.int .u8 (.ofNat kd), .str rl.n rl.a, .str to.n to.a, .nilsl]) := ⟨_, rfl⟩
 rw [← hH1]
 have fA : Fm No H H1 := by rw [hH1]; (repeat (first | exact Fm.refl _ _ | assumption | refine Fm.push ?_ _ | refine Fm.up2 ?_ (by (first | omega | (simp only [qaa, qab]; omega))) | refine Fm.put_new ?_ _ _ (by (first | omega | (simp only [qaa, qab]; omega)))))
 have n1 : H1.nx = H.nx + 1 + 1 := by rw [hH1]; simp only [qaa, qab]
 have hF2 : F.nds 0 0 = (pre ++ [⟨kd, rl, to, a.ixs (p + 1), if kd < 4 then some c else none⟩]) ++ a.nds (p + 1) c ++ post := by
  rw [hF, Fo.nds, Fo.nds]; simp
 refine hL j hj F v es H H.nx kd a.len 0 (p + 1) c rl to e.av .nilsl (pre ++ [⟨kd, rl, to, a.ixs (p + 1), if kd < 4 then some c else none⟩]) post [] .nil H1 _ _ _ qaz ht hes hF2 (by simp [hp]) (by rw [qas]; omega) (by omega) rfl (by omega) (by simp only [Fo.len]; omega) (by omega) hr ?_ (Nat.le_refl _) (by omega) (by rw [hH1]; exact qar _ _ _) (GrF.nil _ _ _) fA fun w H2 w2 o2 b2 f2 => ?_
 ·exact hgl
 unfold qcc
 obtain ⟨cs, c1, c2⟩ := w2.ex
 obtain ⟨j, rfl⟩ : ∃ m, j = m + 1 := ⟨j - 1, by omega⟩
 obtain ⟨w', e', d1, _, d2⟩ := qx5 hC (k := j + 1) (by omega) c1
 have nw : ∀ b, In w' b → H.nx ≤ b ∧ ¬ b = H.nx := fun b hb => w2.nw b (d2 b hb)
 have key : ∀ x y : Blk, ∃ cs, AV.tup [.agg [.int .u8 (.ofNat kd), .str rl.n rl.a, .str to.n to.a, w'], .int .i64 (.ofNat (p + 1 + a.size)), .bool true] = .tup [.agg cs, .int .i64 (.ofNat (p + 1 + a.size)), .bool true] ∧ FoC (fun b => H.nx ≤ b) ((H2.put H.nx x).put H.nx y) (.cons kd rl to a .nil) cs ∧ Fm No H ((H2.put H.nx x).put H.nx y) := fun x y => by
  have f5 : Fm (fun b => b = H.nx) H2 ((H2.put H.nx x).put H.nx y) := ((Fm.refl (fun b => b = H.nx) H2).put _ _ fun _ => rfl).put _ _ fun _ => rfl
  exact ⟨_, rfl, ⟨w', cs, [], rfl, d1.fm f5 fun b hb he => (nw b hb).2 he, fun b hb => (nw b hb).1, (c2.fmS f5 fun b hb he => hb.2.2 he).mono fun b _ hb => hb.1, rfl⟩, (f2.put_new _ _ (Nat.le_refl _)).put_new _ _ (Nat.le_refl _)⟩
 simp (disch := first | omega | exact tr_i rfl | (simp only [qaa, qab]; done) | (simp only [qaa, qab]; omega)) only [go_sem, Nat.reduceAdd, Nat.reduceMul, Nat.reduceSub, Nat.reduceLeDiff, Nat.reduceEqDiff, Nat.reduceShiftRight, Nat.reduceAnd, o2]
 refine Ok.veE e' ?_
 rcases d1.is with ⟨h, _⟩ | ⟨_, _, _, _, _, h, _⟩
 ·subst h
  simp (disch := first | omega | exact tr_i rfl | (simp only [qaa, qab]; done) | (simp only [qaa, qab]; omega)) only [go_sem, Nat.reduceAdd, Nat.reduceMul, Nat.reduceSub, Nat.reduceLeDiff, Nat.reduceEqDiff, Nat.reduceShiftRight, Nat.reduceAnd, o2, qug]
  exact Ok.ret (key _ _)
 ·subst h
  simp (disch := first | omega | exact tr_i rfl | (simp only [qaa, qab]; done) | (simp only [qaa, qab]; omega)) only [go_sem, Nat.reduceAdd, Nat.reduceMul, Nat.reduceSub, Nat.reduceLeDiff, Nat.reduceEqDiff, Nat.reduceShiftRight, Nat.reduceAnd, o2, qug]
  exact Ok.ret (key _ _)
theorem q6c (hC : qbi C) : ∀ f : Fo, BldL C f := by
 intro f
 induction f with
 | nil =>
  intro j hj F v es H0 ob kd n i p c rl to av w pre post d g H qr q Q k ht hes hF hp hk hn hdn hnn hgs hps hr hg i1 b1 h1 hw hf hq
  obtain ⟨k, rfl⟩ : ∃ m, k = m + 1 := ⟨k - 1, by omega⟩
  show Ok (qfi (C j) _ _ _ _ _ _ (qcb (C j) _ _ _ _ _ _ k) _ _ H) Q
  unfold qfi
  simp only [Fo.len] at hn
  have hlt : ¬ i < n := by omega
  simp (disch := first | omega | exact tr_i rfl | (simp only [qaa, qab]; done) | (simp only [qaa, qab]; omega)) only [go_sem, Nat.reduceAdd, Nat.reduceMul, Nat.reduceSub, Nat.reduceLeDiff, Nat.reduceEqDiff, Nat.reduceShiftRight, Nat.reduceAnd, hlt]
  refine hq w H ?_ h1 b1 hf
  rw [Fo.app_nil]
  exact hw
 | cons k1 r1 t1 a r iha ihr =>
  intro j hj F v es H0 ob kd n i p c rl to av w pre post d g H qr q Q k ht hes hF hp hk hn hdn hnn hgs hps hr hg i1 b1 h1 hw hf hq
  obtain ⟨k, rfl⟩ : ∃ m, k = m + 1 := ⟨k - 1, by omega⟩
  show Ok (qfi (C j) _ _ _ _ _ _ (qcb (C j) _ _ _ _ _ _ k) _ _ H) Q
  unfold qfi
  simp only [Fo.len] at hn
  simp only [Fo.depth] at hj
  simp only [Fo.size] at hgs hps
  have hlt : i < n := by omega
  obtain ⟨b2, o2, e1, e2, _, e3⟩ := (hg.no hf).at (i := i) (x := .int .i64 (.ofNat p)) (by
   simp [ints, Fo.ixs, ← hdn])
  simp (disch := first | omega | exact tr_i rfl | (simp only [qaa, qab]; done) | (simp only [qaa, qab]; omega)) only [go_sem, Nat.reduceAdd, Nat.reduceMul, Nat.reduceSub, Nat.reduceLeDiff, Nat.reduceEqDiff, Nat.reduceShiftRight, Nat.reduceAnd, hlt]
  unfold qi0
  simp (disch := first | omega | exact tr_i rfl | (simp only [qaa, qab]; done) | (simp only [qaa, qab]; omega)) only [go_sem, Nat.reduceAdd, Nat.reduceMul, Nat.reduceSub, Nat.reduceLeDiff, Nat.reduceEqDiff, Nat.reduceShiftRight, Nat.reduceAnd, e1, e3]
  unfold qi1
  obtain ⟨j, rfl⟩ : ∃ m, j = m + 1 := ⟨j - 1, by omega⟩
  have fx : Fm No H (qaq H (qac 0 [.int .u8 (.ofNat 0), .str 0 0, .str 0 0, .nilsl])) := by (repeat (first | exact Fm.refl _ _ | assumption | refine Fm.push ?_ _ | refine Fm.up2 ?_ (by (first | omega | (simp only [qaa, qab]; omega))) | refine Fm.put_new ?_ _ _ (by (first | omega | (simp only [qaa, qab]; omega)))))
  have hk4 : k1 < 4 → a = .nil := fun h4 => by
   rcases hr.1 with h | h | h | h | h | h
   ·exact h.2.2.2
   ·exact h.2.2.2
   ·exact h.2.2.2
   ·omega
   ·omega
   ·omega
  have hF1 : F.nds 0 0 = pre ++ (Fo.cons k1 r1 t1 a .nil).nds p c ++ (r.nds (p + 1 + a.size) (c + if k1 < 4 then 1 else a.lv) ++ post) := by
   rw [hF, Fo.nds, Fo.nds, Fo.nds]; simp
  have n0 := hf.nx
  simp (disch := first | omega | exact tr_i rfl | (simp only [qaa, qab]; done) | (simp only [qaa, qab]; omega)) only [go_sem, Nat.reduceAdd, Nat.reduceMul, Nat.reduceSub, Nat.reduceLeDiff, Nat.reduceEqDiff, Nat.reduceShiftRight, Nat.reduceAnd]
  refine Ok.ve (qz0 hC iha (j := j) (by omega) (ht.fm (hf.trans fx)) hes hF1 hp hr.2.1 hk4) ?_
  rintro _ H2 ⟨cs, rfl, c1, f2⟩
  have c1o := c1
  obtain ⟨av2, ca2, cr, rfl, g1, g2, g3, g4⟩ := c1
  obtain rfl : cr = [] := g4
  have n2 := f2.nx
  simp only [qaa] at n2
  have k2 : H2.get H.nx = qac 0 [.int .u8 (.ofNat 0), .str 0 0, .str 0 0, .nilsl] := (f2.keep (by (first | omega | (simp only [qaa, qab]; omega)))).trans (by simp (disch := first | omega | exact tr_i rfl | (simp only [qaa, qab]; done) | (simp only [qaa, qab]; omega)) only [go_sem, Nat.reduceAdd, Nat.reduceMul, Nat.reduceSub, Nat.reduceLeDiff, Nat.reduceEqDiff, Nat.reduceShiftRight, Nat.reduceAnd])
  have o2' : H2.get ob = qac 0 [.int .u8 (.ofNat kd), .str rl.n rl.a, .str to.n to.a, w] := ((fx.trans f2).keep b1).trans h1
  unfold SS.v at c1o ⊢
  simp (disch := first | omega | exact tr_i rfl | (simp only [qaa, qab]; done) | (simp only [qaa, qab]; omega)) only [go_sem, Nat.reduceAdd, Nat.reduceMul, Nat.reduceSub, Nat.reduceLeDiff, Nat.reduceEqDiff, Nat.reduceShiftRight, Nat.reduceAnd, k2]
  unfold qi2
  simp (disch := first | omega | exact tr_i rfl | (simp only [qaa, qab]; done) | (simp only [qaa, qab]; omega)) only [go_sem, Nat.reduceAdd, Nat.reduceMul, Nat.reduceSub, Nat.reduceLeDiff, Nat.reduceEqDiff, Nat.reduceShiftRight, Nat.reduceAnd, o2']
  have fA : Fm No H (qaq (H2.put H.nx (qac 0 [.int .u8 (.ofNat k1), .str r1.n r1.a, .str t1.n t1.a, av2])) (qac 0 [.int .u8 (.ofNat k1), .str r1.n r1.a, .str t1.n t1.a, av2])) := ((fx.trans f2).put_new _ _ (Nat.le_refl _)).push _
  have fB : Fm (fun b => b = H.nx) H2 (qaq (H2.put H.nx (qac 0 [.int .u8 (.ofNat k1), .str r1.n r1.a, .str t1.n t1.a, av2])) (qac 0 [.int .u8 (.ofNat k1), .str r1.n r1.a, .str t1.n t1.a, av2])) := ((Fm.refl (fun b => b = H.nx) H2).put _ _ fun _ => rfl).push _
  have hnw : ∀ b, In w b → b < H.nx := fun b hb => by
   obtain ⟨cs, d1, _⟩ := hw.ex
   exact d1.lt hb
  have hel : FoC (fun b => H0.nx ≤ b ∧ ¬ In w b ∧ ¬ b = ob) (qaq (H2.put H.nx (qac 0 [.int .u8 (.ofNat k1), .str r1.n r1.a, .str t1.n t1.a, av2])) (qac 0 [.int .u8 (.ofNat k1), .str r1.n r1.a, .str t1.n t1.a, av2])) (.cons k1 r1 t1 a .nil) [.int .u8 (.ofNat k1), .str r1.n r1.a, .str t1.n t1.a, av2] :=
   (c1o.fmS fB fun b hb he => by simp only [qaa] at hb; omega).mono fun b _ hb => ⟨by simp only [qaa] at hb; omega, fun hi => by have := hnw b hi; simp only [qaa] at hb; omega, by simp only [qaa] at hb; omega⟩
  refine Ok.ve ((hw.no fA).add hel (fun b hb => by simp only [qaa, qab]; omega) (by simp only [qaa, qab]; omega) (by simp [Fo.len]) (by simp only [Fo.len]; omega)) ?_
  rintro w' H4 ⟨w4, f4, n4, hw4⟩
  simp only [qaa, qab] at n4
  have o4 : H4.get ob = qac 0 [.int .u8 (.ofNat kd), .str rl.n rl.a, .str to.n to.a, w] := by
   rw [f4.get ob (by simp only [qaa, qab]; omega) (fun hi => (hw.nw ob hi).2 rfl), fA.keep b1]; exact h1
  subst hw4
  simp (disch := first | omega | exact tr_i rfl | (simp only [qaa, qab]; done) | (simp only [qaa, qab]; omega)) only [go_sem, Nat.reduceAdd, Nat.reduceMul, Nat.reduceSub, Nat.reduceLeDiff, Nat.reduceEqDiff, Nat.reduceShiftRight, Nat.reduceAnd, o4, qug]
  unfold qi3
  simp (disch := first | omega | exact tr_i rfl | (simp only [qaa, qab]; done) | (simp only [qaa, qab]; omega)) only [go_sem, Nat.reduceAdd, Nat.reduceMul, Nat.reduceSub, Nat.reduceLeDiff, Nat.reduceEqDiff, Nat.reduceShiftRight, Nat.reduceAnd]
  have f6 : Fm No H0 H4 := (hf.trans fA).then f4 fun c hc hi => by have := (hw.nw c hi).1; omega
  have e9 : d ++ (Fo.cons k1 r1 t1 a r).ixs p = (d ++ [p]) ++ r.ixs (p + 1 + a.size) := by simp [Fo.ixs]
  rw [e9] at hg
  have hF3 : F.nds 0 0 = (pre ++ (Fo.cons k1 r1 t1 a .nil).nds p c) ++ r.nds (p + 1 + a.size) (c + if k1 < 4 then 1 else a.lv) ++ post := by rw [hF1]; simp
  refine ihr (j + 1) (by omega) F v es H0 ob kd n (i + 1) (p + 1 + a.size) (c + if k1 < 4 then 1 else a.lv) rl to av _ (pre ++ (Fo.cons k1 r1 t1 a .nil).nds p c) post (d ++ [p]) (g.app (.cons k1 r1 t1 a .nil)) _ qr q Q k ht hes hF3 ?_ (by omega) (by omega) (by simp [hdn]) hnn ?_ (by omega) hr.2.2 hg i1 (by simp only [qab]; omega) (qar _ _ _) (w4.fmS ((Fm.refl (fun b => b = ob) H4).put ob _ (fun _ => rfl)) fun b hb => .inl hb) (f6.put_new _ _ i1) fun w5 H5 q1 q2 q3 q4 => ?_
  ·rw [List.length_append, Fo.nds_len, hp]; simp only [Fo.size]; omega
  ·rw [Fo.app_len]; simp only [Fo.len]; omega
  ·have e10 : p + (Fo.cons k1 r1 t1 a r).size = p + 1 + a.size + r.size := by simp only [Fo.size]; omega
   rw [e10] at hq
   rw [Fo.app_assoc] at q1
   exact hq w5 H5 q1 q2 q3 q4
end Go.Di
end
section
namespace Go.Di
open Go.Ev
variable {C : Nat → Ev.Call}
theorem q08 : ∀ (l : List Key) (c i : Nat) (h : i < l.length), (lvs l c)[i]? = some ⟨l[i].1, l[i].2.1, l[i].2.2.1, l[i].2.2.2, if l[i].1 < 4 then some (c + cntK (l.take i)) else none⟩
 | [], _, _, h => by simp at h
 | (k, rl, to, as') :: l, c, 0, _ => by simp [lvs, cntK]
 | (k, rl, to, as') :: l, c, i + 1, h => by
  rw [lvs, List.getElem?_cons_succ, q08 l _ i (by simpa using h), List.take_succ_cons, qmm]
  simp only [List.getElem_cons_succ]
  congr 3
  congr 1
  omega
theorem qvf (l : List Key) (i : Nat) (h : i < l.length) : cntK (l.take (i + 1)) = cntK (l.take i) + if l[i].1 < 4 then 1 else 0 := by
 rw [List.take_succ_eq_append_getElem h, qq1, qmm]
 show _ + (0 + _) = _
 omega
theorem TbR.node {H : Hp} {v : AV} {es : List TE} {f : Fo} (h : TbR H v es f) (hr : f.Rt Nm) {i : Nat} (hi : i < es.length) :
  ∃ (hk : i < (f.kys 0).length) (b o : Nat) (e : TE), e.t = ⟨(f.kys 0)[i].1, (f.kys 0)[i].2.1, (f.kys 0)[i].2.2.1, (f.kys 0)[i].2.2.2, if (f.kys 0)[i].1 < 4 then some (cntK ((f.kys 0).take i)) else none⟩ ∧ e.Ok H ∧ idxS 6 v (.int .i64 (.ofNat i)) = .val (.ptr b o) ∧ b < H.nx ∧
   qd6 (H.get b) o 6 = some [.int .u8 (.ofNat (f.kys 0)[i].1), .str (f.kys 0)[i].2.1.n (f.kys 0)[i].2.1.a, .str (f.kys 0)[i].2.2.1.n (f.kys 0)[i].2.2.1.a, e.sp, e.av, qn1 (if (f.kys 0)[i].1 < 4 then some (cntK ((f.kys 0).take i)) else none)] := by
 have hl : es.length = (f.kys 0).length := by
  have := congrArg List.length h.is
  rw [List.length_map, Fo.nds_len] at this
  rw [this, Fo.kys_len]
 have hk : i < (f.kys 0).length := by omega
 have e0 := qtw f 0 0 hr
 have e1 := q08 (f.kys 0) 0 i hk
 rw [e0, Nat.zero_add] at e1
 obtain ⟨b, o, e, _, h2, h3, h4, h5, h6⟩ := h.at e1
 exact ⟨hk, b, o, e, h2, h3, h4, h5, h6⟩
theorem qrz {call : Ev.Call} {v : AV} {es : List TE} {f : Fo} {Hb : Hp} (ht : TbR Hb v es f) (hr : f.Rt Nm) (hn : es.length ≤ 1000) {q : AV → Hp → R1} {Q : AV → Hp → Prop} (hq : ∀ H, Fm No Hb H → Ok (q (.int .i64 (.ofNat f.lv)) H) Q) :
  ∀ (k i : Nat) (H : Hp), i ≤ es.length → es.length - i < k → Fm No Hb H → Ok (qeo call q v (.int .i64 (.ofNat es.length)) k (.int .i64 (.ofNat (cntK ((f.kys 0).take i)))) (.int .i64 (.ofNat i)) H) Q
 | 0, i, _, _, h, _ => by omega
 | k + 1, i, H, hi, hk, hf => by
  show Ok (qix call _ _ _ (qeo call _ _ _ k) _ _ H) Q
  unfold qix
  by_cases hlt : i < es.length
  ·simp (disch := first | omega | exact tr_i rfl | (simp only [qaa, qab]; done) | (simp only [qaa, qab]; omega)) only [go_sem, Nat.reduceAdd, Nat.reduceMul, Nat.reduceSub, Nat.reduceLeDiff, Nat.reduceEqDiff, Nat.reduceShiftRight, Nat.reduceAnd, hlt]
   unfold qh5
   obtain ⟨hkl, b, o, e, _, _, e1, e2, e3⟩ := (ht.fm hf).node hr hlt
   have hcn : cntK ((f.kys 0).take i) ≤ 1000 := Nat.le_trans List.countP_le_length (by simp; omega)
   have ih := fun H' h' => qrz (call := call) ht hr hn hq k (i + 1) H' (by omega) (by omega) h'
   rw [qvf _ _ hkl] at ih
   by_cases h4 : (f.kys 0)[i].1 < 4
   ·rw [if_pos h4] at e3 ih
    unfold qn1 at e3
    simp (disch := first | omega | exact tr_i rfl | (simp only [qaa, qab]; done) | (simp only [qaa, qab]; omega)) only [go_sem, Nat.reduceAdd, Nat.reduceMul, Nat.reduceSub, Nat.reduceLeDiff, Nat.reduceEqDiff, Nat.reduceShiftRight, Nat.reduceAnd, e1, e3]
    unfold qg8
    rw [Nat.max_eq_right (by omega)]
    simp (disch := first | omega | exact tr_i rfl | (simp only [qaa, qab]; done) | (simp only [qaa, qab]; omega)) only [go_sem, Nat.reduceAdd, Nat.reduceMul, Nat.reduceSub, Nat.reduceLeDiff, Nat.reduceEqDiff, Nat.reduceShiftRight, Nat.reduceAnd]
    exact ih _ (hf.trans (by (repeat (first | exact Fm.refl _ _ | assumption | refine Fm.push ?_ _ | refine Fm.up2 ?_ (by (first | omega | (simp only [qaa, qab]; omega))) | refine Fm.put_new ?_ _ _ (by (first | omega | (simp only [qaa, qab]; omega)))))))
   ·rw [if_neg h4] at e3 ih
    unfold qn1 at e3
    have hz : intV (qad .add).f (.int .i64 (.negSucc 0)) (.int .i64 (.ofNat 1)) = .val (.int .i64 (.ofNat 0)) := rfl
    simp (disch := first | omega | exact tr_i rfl | (simp only [qaa, qab]; done) | (simp only [qaa, qab]; omega)) only [go_sem, Nat.reduceAdd, Nat.reduceMul, Nat.reduceSub, Nat.reduceLeDiff, Nat.reduceEqDiff, Nat.reduceShiftRight, Nat.reduceAnd, e1, e3, hz]
    unfold qg8
    rw [Nat.max_eq_left (by omega)]
    simp (disch := first | omega | exact tr_i rfl | (simp only [qaa, qab]; done) | (simp only [qaa, qab]; omega)) only [go_sem, Nat.reduceAdd, Nat.reduceMul, Nat.reduceSub, Nat.reduceLeDiff, Nat.reduceEqDiff, Nat.reduceShiftRight, Nat.reduceAnd]
    exact ih _ (hf.trans (by (repeat (first | exact Fm.refl _ _ | assumption | refine Fm.push ?_ _ | refine Fm.up2 ?_ (by (first | omega | (simp only [qaa, qab]; omega))) | refine Fm.put_new ?_ _ _ (by (first | omega | (simp only [qaa, qab]; omega)))))))
  ·simp (disch := first | omega | exact tr_i rfl | (simp only [qaa, qab]; done) | (simp only [qaa, qab]; omega)) only [go_sem, Nat.reduceAdd, Nat.reduceMul, Nat.reduceSub, Nat.reduceLeDiff, Nat.reduceEqDiff, Nat.reduceShiftRight, Nat.reduceAnd, hlt]
   have he : i = es.length := by omega
   have hl : es.length = (f.kys 0).length := by
    have := congrArg List.length ht.is
    rw [List.length_map, Fo.nds_len] at this
    rw [this, Fo.kys_len]
   rw [he, hl, List.take_length, qr2 f 0 hr]
   exact hq H hf
theorem qn0 (hC : qbi C) {k : Nat} (hk : 1 ≤ k) {H : Hp} {v : AV} {es : List TE} {f : Fo} (ht : TbR H v es f) (hr : f.Rt Nm) (hn : es.length ≤ 32) :
  Ok (C k (.f qfp) [v] H) fun w H' => w = .int .i64 (.ofNat f.lv) ∧ Fm No H H' := by
 obtain ⟨j, rfl⟩ : ∃ j, k = j + 1 := ⟨k - 1, by omega⟩
 rw [(hC j).tables_leaves]
 unfold tables_leaves qj4 qiy
 have hl := ht.gl.lenV
 simp (disch := first | omega | exact tr_i rfl | (simp only [qaa, qab]; done) | (simp only [qaa, qab]; omega)) only [go_sem, Nat.reduceAdd, Nat.reduceMul, Nat.reduceSub, Nat.reduceLeDiff, Nat.reduceEqDiff, Nat.reduceShiftRight, Nat.reduceAnd, hl]
 rw [qbc]
 refine qrz ht hr (by omega) (fun H2 f2 => ?_) qaz 0 H (Nat.zero_le _) (by rw [qas]; omega) (Fm.refl _ _)
 unfold qdl
 exact Ok.ret ⟨rfl, f2⟩
theorem q0e (hC : qbi C) (hN : qhj C) {k : Nat} (hk : 15 ≤ k) {H : Hp} {v : AV} (h : Gl 1 H v 1 [.str 1 98]) :
  Ok (C k (.f qhd) [v] H) fun w H' => w = .bool true ∧ Fm No H H' := by
 obtain ⟨j, rfl⟩ : ∃ j, k = j + 1 := ⟨k - 1, by omega⟩
 rw [(hC j).tables_spaces]
 unfold tables_spaces qj3 qiw
 have hl := h.lenV
 simp (disch := first | omega | exact tr_i rfl | (simp only [qaa, qab]; done) | (simp only [qaa, qab]; omega)) only [go_sem, Nat.reduceAdd, Nat.reduceMul, Nat.reduceSub, Nat.reduceLeDiff, Nat.reduceEqDiff, Nat.reduceShiftRight, Nat.reduceAnd, hl]
 obtain ⟨m, hm⟩ : ∃ m, qaz = m + 2 := ⟨999998, by rw [qas]⟩
 rw [qbc, hm]
 show Ok (qfh (C j) _ _ _ _ _ (qen (C j) _ _ _ _ _ (m + 1)) _ H) _
 unfold qfh
 simp (disch := first | omega | exact tr_i rfl | (simp only [qaa, qab]; done) | (simp only [qaa, qab]; omega)) only [go_sem, Nat.reduceAdd, Nat.reduceMul, Nat.reduceSub, Nat.reduceLeDiff, Nat.reduceEqDiff, Nat.reduceShiftRight, Nat.reduceAnd]
 unfold qh4
 obtain ⟨b, o, e1, e2, _, e3⟩ := h.at (i := 0) (x := .str 1 98) rfl
 simp (disch := first | omega | exact tr_i rfl | (simp only [qaa, qab]; done) | (simp only [qaa, qab]; omega)) only [go_sem, Nat.reduceAdd, Nat.reduceMul, Nat.reduceSub, Nat.reduceLeDiff, Nat.reduceEqDiff, Nat.reduceShiftRight, Nat.reduceAnd, e1, e3]
 have hf : (Fo.cons 2 ⟨1, 98⟩ sE .nil .nil).Ok1 := ⟨rfl, ⟨.inr (.inl ⟨rfl, by simp [Nm, nmL], rfl, rfl⟩), trivial, trivial⟩, by simp [Fo.depth], by simp [Fo.size]⟩
 have hc : FoC (fun _ => True) H (Fo.cons 2 ⟨1, 98⟩ sE .nil .nil) [.int .u8 (.ofNat 2), .str 1 98, .str 0 0, .nilsl] := ⟨.nilsl, [], [], rfl, Gl.nil 4 H, fun _ _ => trivial, rfl, rfl⟩
 refine Ok.ve (qqg hC hN (k := j) (by omega) hc hf) ?_
 rintro _ H2 ⟨rfl, f2⟩
 have hs : ∃ u, qfc 1 v none (some (.int .i64 (.ofNat 0))) none = .val u ∧ lenSl u = .val (.int .i64 (.ofNat 0)) := by
  rcases h.is with ⟨_, h0⟩ | ⟨b, o, e, q, L, rfl, _⟩
  ·cases h0
  ·cases e <;> exact ⟨_, rfl, rfl⟩
 obtain ⟨u, hu, hul⟩ := hs
 simp (disch := first | omega | exact tr_i rfl | (simp only [qaa, qab]; done) | (simp only [qaa, qab]; omega)) only [go_sem, Nat.reduceAdd, Nat.reduceMul, Nat.reduceSub, Nat.reduceLeDiff, Nat.reduceEqDiff, Nat.reduceShiftRight, Nat.reduceAnd, hu]
 obtain ⟨i, rfl⟩ : ∃ i, j = i + 1 + 1 := ⟨j - 2, by omega⟩
 have call : Ok (C (i + 1 + 1) (.f qbu) [u, .str 1 98] H2) fun w H' => w = .bool false ∧ H' = H2 := by
  rw [(hC (i + 1)).slices_Contains_string_string]
  unfold slices_Contains_string_string qdc
  rw [(hC i).slices_Index_string_string]
  unfold slices_Index_string_string qd1 qdq
  simp (disch := first | omega | exact tr_i rfl | (simp only [qaa, qab]; done) | (simp only [qaa, qab]; omega)) only [go_sem, Nat.reduceAdd, Nat.reduceMul, Nat.reduceSub, Nat.reduceLeDiff, Nat.reduceEqDiff, Nat.reduceShiftRight, Nat.reduceAnd, hul]
  rw [qbc, hm]
  show Ok (ve (qdp (C i) _ _ _ _ _ (qbl (C i) _ _ _ _ _ (m + 1)) _ H2) _) _
  unfold qdp qa2
  simp (disch := first | omega | exact tr_i rfl | (simp only [qaa, qab]; done) | (simp only [qaa, qab]; omega)) only [go_sem, Nat.reduceAdd, Nat.reduceMul, Nat.reduceSub, Nat.reduceLeDiff, Nat.reduceEqDiff, Nat.reduceShiftRight, Nat.reduceAnd]
  exact Ok.ret ⟨rfl, rfl⟩
 refine Ok.ve call ?_
 rintro _ _ ⟨rfl, rfl⟩
 simp (disch := first | omega | exact tr_i rfl | (simp only [qaa, qab]; done) | (simp only [qaa, qab]; omega)) only [go_sem, Nat.reduceAdd, Nat.reduceMul, Nat.reduceSub, Nat.reduceLeDiff, Nat.reduceEqDiff, Nat.reduceShiftRight, Nat.reduceAnd]
 unfold qiv
 simp (disch := first | omega | exact tr_i rfl | (simp only [qaa, qab]; done) | (simp only [qaa, qab]; omega)) only [go_sem, Nat.reduceAdd, Nat.reduceMul, Nat.reduceSub, Nat.reduceLeDiff, Nat.reduceEqDiff, Nat.reduceShiftRight, Nat.reduceAnd]
 show Ok (qfh (C (i + 1 + 1)) _ _ _ _ _ (qen (C (i + 1 + 1)) _ _ _ _ _ m) _ _) _
 unfold qfh qdk
 simp (disch := first | omega | exact tr_i rfl | (simp only [qaa, qab]; done) | (simp only [qaa, qab]; omega)) only [go_sem, Nat.reduceAdd, Nat.reduceMul, Nat.reduceSub, Nat.reduceLeDiff, Nat.reduceEqDiff, Nat.reduceShiftRight, Nat.reduceAnd, hl]
 exact Ok.ret ⟨rfl, f2⟩
end Go.Di
end
