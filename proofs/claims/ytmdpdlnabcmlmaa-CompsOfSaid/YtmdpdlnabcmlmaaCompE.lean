/-
  For countersignlaw17.CompsOf: the reference and the law. No conditions beyond those that each theorem states.
-/
import Derived.Test.YtmdpdlnabcmlmaaCompD
import Derived.Test.YtmdpdlnabcmlmaaGraF
set_option linter.unusedSimpArgs false
set_option linter.unusedVariables false
section
/-
  Contracts: the reference's components; whether a node fits, and its component.
-/
namespace Go.Di
open Go.Ev Go.Di.T Go.Sort
open Nat (reduceAdd reduceMul reduceSub reduceLeDiff reduceEqDiff reduceShiftRight reduceAnd)
variable {C : Nat → Ev.Call}
/-- the entry of a list of distances -/
def dG (n : Nat) (d : List Int) (i k : Nat) : Int := d.getD (i * n + k) 0
theorem dG_at {H : Hp} {dv : AV} {n : Nat} {d : List Int} (hd : Rl H dv (ints d)) (hl : d.length = n * n) {i k : Nat} (hi : i < n) (hk : k < n) : ∃ b o, idxS 1 dv (.int .i64 (.ofNat (i * n + k))) = .val (.ptr b o) ∧ b < H.nx ∧ rdBlk1 (H.get b) o = .val (.int .i64 (dG n d i k)) := by
  have hix : i * n + k < d.length := by rw [hl]; exact idx_lt hi hk
  obtain ⟨b, o, h1, h2, h3⟩ := hd.at' (i * n + k) (by rw [ints_len]; exact hix)
  refine ⟨b, o, h1, h2, ?_⟩
  rw [h3]
  unfold dG
  rw [List.getD_eq_getElem?_getD, List.getElem?_eq_getElem hix]
  simp [ints]
/-- one condition of fitting -/
def fitP (n : Nat) (d ins : List Int) (i k : Nat) : Prop := dG n d i k < Int.ofNat 0 ∨ Int.ofNat 0 ≤ ins.getD k 0 ∨ Int.ofNat 0 ≤ dG n d k i
theorem fits_loop {call : Ev.Call} {n i nb : Nat} {d ins : List Int} {dv : AV} {H : Hp} (hd : Rl H dv (ints d)) (hl : d.length = n * n) (hn : n < 900) (hi : i < n) (hin : ins.length = n) (hnb : H.get nb = mkBlk 0 (ints ins)) {q : AV → Hp → R1} {Q : AV → Hp → Prop} {b0 : Bool}
    (hq : ∀ b, (b = true ↔ b0 = true ∧ ∀ k, k < n → fitP n d ins i k) → Ok (q (.bool b) H) Q) :
    ∀ (k c : Nat) (b : Bool), n - c < k → c ≤ n → (b = true ↔ b0 = true ∧ ∀ j, j < c → fitP n d ins i j) →
      Ok (rOf_l47 call q (.int .i64 (.ofNat n)) dv (.sl nb 0 n n true) (.int .i64 (.ofNat i)) k (.bool b) (.int .i64 (.ofNat c)) H) Q
  | 0, c, b, h, _, _ => by omega
  | k + 1, c, b, h, hc, hb => by
    show Ok (rOf_b47 call _ _ _ _ _ (rOf_l47 call _ _ _ _ _ k) _ _ H) Q
    unfold rOf_b47
    by_cases hcn : c < n
    · cases b with
      | false =>
        simp (disch := first | omega | exact ti rfl | (simp only [np, nq]; first | done | omega)) only [go_sem, reduceAdd, reduceMul, reduceSub, reduceLeDiff, reduceEqDiff, reduceShiftRight, reduceAnd, hcn]
        refine hq false ⟨fun h => (by cases h), fun ⟨h1, h2⟩ => hb.2 ⟨h1, fun j hj => h2 j (by omega)⟩⟩
      | true =>
        have hb1 := hb.1 rfl
        simp (disch := first | omega | exact ti rfl | (simp only [np, nq]; first | done | omega)) only [go_sem, reduceAdd, reduceMul, reduceSub, reduceLeDiff, reduceEqDiff, reduceShiftRight, reduceAnd, hcn]
        unfold rOf_j71
        obtain ⟨p1, o1, e1, _, e2⟩ := dG_at hd hl hi hcn
        obtain ⟨p2, o2, e3, _, e4⟩ := dG_at hd hl hcn hi
        have m1 : i * n ≤ 810000 := Nat.mul_le_mul (Nat.le_of_lt (Nat.lt_trans hi hn)) (Nat.le_of_lt hn)
        have m2 : c * n ≤ 810000 := Nat.mul_le_mul (Nat.le_of_lt (Nat.lt_trans hcn hn)) (Nat.le_of_lt hn)
        have gi : (ints ins)[c]? = some (.int .i64 (ins.getD c 0)) := by
          rw [ints_get ins c (by omega), List.getD_eq_getElem?_getD, List.getElem?_eq_getElem (by omega)]; rfl
        have go : ∀ b' : Bool, (b' = true ↔ fitP n d ins i c) → Ok (rOf_j49 call (rOf_l47 call q (.int .i64 (.ofNat n)) dv (.sl nb 0 n n true) (.int .i64 (.ofNat i)) k) (.bool b') (.int .i64 (.ofNat c)) H) Q := fun b' h' => by
          unfold rOf_j49
          simp (disch := first | omega | exact ti rfl | (simp only [np, nq]; first | done | omega)) only [go_sem, reduceAdd, reduceMul, reduceSub, reduceLeDiff, reduceEqDiff, reduceShiftRight, reduceAnd]
          refine fits_loop hd hl hn hi hin hnb hq k (c + 1) b' (by omega) (by omega) ⟨fun hh => ⟨hb1.1, fun j hj => ?_⟩, fun hh => h'.2 (hh.2 c (by omega))⟩
          rcases Nat.lt_or_ge j c with g | g
          · exact hb1.2 j g
          · have : j = c := by omega
            subst this
            exact h'.1 hh
        by_cases h1 : dG n d i c < Int.ofNat 0
        · simp (disch := first | omega | exact ti rfl | (simp only [np, nq]; first | done | omega)) only [go_sem, reduceAdd, reduceMul, reduceSub, reduceLeDiff, reduceEqDiff, reduceShiftRight, reduceAnd, e1, e2, h1]
          exact go true ⟨fun _ => Or.inl h1, fun _ => rfl⟩
        · by_cases h2 : Int.ofNat 0 ≤ ins.getD c 0
          · simp (disch := first | omega | exact ti rfl | (simp only [np, nq]; first | done | omega)) only [go_sem, reduceAdd, reduceMul, reduceSub, reduceLeDiff, reduceEqDiff, reduceShiftRight, reduceAnd, e1, e2, h1, hnb, gi, h2, Nat.mul_one, Nat.zero_add]
            exact go true ⟨fun _ => Or.inr (Or.inl h2), fun _ => rfl⟩
          · by_cases h3 : Int.ofNat 0 ≤ dG n d c i
            · simp (disch := first | omega | exact ti rfl | (simp only [np, nq]; first | done | omega)) only [go_sem, reduceAdd, reduceMul, reduceSub, reduceLeDiff, reduceEqDiff, reduceShiftRight, reduceAnd, e1, e2, h1, hnb, gi, h2, e3, e4, h3, Nat.mul_one, Nat.zero_add]
              exact go true ⟨fun _ => Or.inr (Or.inr h3), fun _ => rfl⟩
            · simp (disch := first | omega | exact ti rfl | (simp only [np, nq]; first | done | omega)) only [go_sem, reduceAdd, reduceMul, reduceSub, reduceLeDiff, reduceEqDiff, reduceShiftRight, reduceAnd, e1, e2, h1, hnb, gi, h2, e3, e4, h3, Nat.mul_one, Nat.zero_add]
              exact go false ⟨fun h => (by cases h), fun h => (by rcases h with h | h | h; exact absurd h h1; exact absurd h h2; exact absurd h h3)⟩
    · have : c = n := by omega
      cases b with
      | false => simp (disch := first | omega | exact ti rfl | (simp only [np, nq]; first | done | omega)) only [go_sem, reduceAdd, reduceMul, reduceSub, reduceLeDiff, reduceEqDiff, reduceShiftRight, reduceAnd, hcn]; exact hq false ⟨fun h => (by cases h), fun h => hb.2 ⟨h.1, fun j hj => h.2 j (by omega)⟩⟩
      | true => simp (disch := first | omega | exact ti rfl | (simp only [np, nq]; first | done | omega)) only [go_sem, reduceAdd, reduceMul, reduceSub, reduceLeDiff, reduceEqDiff, reduceShiftRight, reduceAnd, hcn]; exact hq true ⟨fun _ => ⟨(hb.1 rfl).1, fun j hj => (hb.1 rfl).2 j (by omega)⟩, fun _ => rfl⟩
end Go.Di
end

section
/-
  Contracts: the reference's component of a node.
-/
namespace Go.Di
open Go.Ev Go.Di.T Go.Sort
open Nat (reduceAdd reduceMul reduceSub reduceLeDiff reduceEqDiff reduceShiftRight reduceAnd)
variable {C : Nat → Ev.Call}
def mutB (n : Nat) (d : List Int) (i k : Nat) : Bool := decide (Int.ofNat 0 ≤ dG n d i k) && decide (Int.ofNat 0 ≤ dG n d k i)
def compL (n : Nat) (d : List Int) (i c : Nat) : List Nat := (List.range c).filter (mutB n d i)
theorem compL_succ (n : Nat) (d : List Int) (i c : Nat) : compL n d i (c + 1) = compL n d i c ++ (if mutB n d i c then [c] else []) := by
  unfold compL
  rw [List.range_succ, List.filter_append]
  congr 1
  cases h : mutB n d i c <;> simp [h]
theorem compL_len (n : Nat) (d : List Int) (i c : Nat) : (compL n d i c).length ≤ c := by
  have := List.length_filter_le (mutB n d i) (List.range c)
  rwa [List.length_range] at this
def fillI (ins : List Int) (o : List Nat) (t : Nat) : List Int := o.foldl (fun a x => a.set x (Int.ofNat t)) ins
theorem fillI_len (t : Nat) : ∀ (o : List Nat) (ins : List Int), (fillI ins o t).length = ins.length
  | [], ins => rfl
  | x :: o, ins => by show (fillI (ins.set x _) o t).length = _; rw [fillI_len t o, List.length_set]
theorem fillI_snoc (t : Nat) (o : List Nat) (x : Nat) (ins : List Int) : fillI ins (o ++ [x]) t = (fillI ins o t).set x (Int.ofNat t) := by
  unfold fillI; rw [List.foldl_append]; rfl
theorem fillI_get (t : Nat) : ∀ (o : List Nat) (ins : List Int) (x : Nat), x < ins.length → (fillI ins o t).getD x 0 = if x ∈ o then Int.ofNat t else ins.getD x 0
  | [], ins, x, h => by simp [fillI]
  | y :: o, ins, x, h => by
    show (fillI (ins.set y (Int.ofNat t)) o t).getD x 0 = _
    rw [fillI_get t o _ x (by rw [List.length_set]; exact h)]
    by_cases hx : x ∈ o
    · simp [hx]
    · by_cases e : x = y
      · subst e
        rw [if_neg hx, if_pos List.mem_cons_self, List.getD_eq_getElem?_getD, List.getElem?_set, if_pos rfl, if_pos h]; rfl
      · rw [if_neg hx, if_neg (by simp [hx, e]), List.getD_eq_getElem?_getD, List.getElem?_set, if_neg fun h => e h.symm, ← List.getD_eq_getElem?_getD]
theorem comp_loop {call : Ev.Call} {n i nb t : Nat} {d ins : List Int} {dv lv : AV} {H1 : Hp} (hd : Rl H1 dv (ints d)) (hdb : ∀ b o, b < H1.nx → ∀ j, idxS 1 dv (.int .i64 (.ofNat j)) = .val (.ptr b o) → b ≠ nb) (hl : d.length = n * n) (hn : n < 900) (hi : i < n) (hin : ins.length = n) (hnb : nb < H1.nx) (hlv : lenSl lv = .val (.int .i64 (.ofNat t))) {q : AV → Hp → R1} {Q : AV → Hp → Prop}
    (hq : ∀ cv H, Gl 1 H cv (compL n d i n).length (nats (compL n d i n)) → (∀ b, In cv b → H1.nx ≤ b) → H.get nb = mkBlk 0 (ints (fillI ins (compL n d i n) t)) → Fm (fun b => b = nb) H1 H → Ok (q cv H) Q) :
    ∀ (k c : Nat) (cv : AV) (H : Hp), n - c < k → c ≤ n → Gl 1 H cv (compL n d i c).length (nats (compL n d i c)) → (∀ b, In cv b → H1.nx ≤ b) → H.get nb = mkBlk 0 (ints (fillI ins (compL n d i c) t)) → Fm (fun b => b = nb) H1 H →
      Ok (rOf_l19 call q (.int .i64 (.ofNat n)) dv (.sl nb 0 n n true) lv (.int .i64 (.ofNat i)) k cv (.int .i64 (.ofNat c)) H) Q
  | 0, c, cv, H, h, _, _, _, _, _ => by omega
  | k + 1, c, cv, H, h, hc, hg, hnew, hib, hF => by
    show Ok (rOf_b19 call _ _ _ _ _ _ (rOf_l19 call _ _ _ _ _ _ k) _ _ H) Q
    unfold rOf_b19
    by_cases hcn : c < n
    · simp (disch := first | omega | exact ti rfl | (simp only [np, nq]; first | done | omega)) only [go_sem, reduceAdd, reduceMul, reduceSub, reduceLeDiff, reduceEqDiff, reduceShiftRight, reduceAnd, hcn]
      unfold rOf_j42
      obtain ⟨p1, o1, e1, l1, e2⟩ := dG_at hd hl hi hcn
      obtain ⟨p2, o2, e3, l2, e4⟩ := dG_at hd hl hcn hi
      have e2' : rdBlk1 (H.get p1) o1 = .val (.int .i64 (dG n d i c)) := by rw [hF.get p1 l1 (hdb p1 o1 l1 _ e1)]; exact e2
      have e4' : rdBlk1 (H.get p2) o2 = .val (.int .i64 (dG n d c i)) := by rw [hF.get p2 l2 (hdb p2 o2 l2 _ e3)]; exact e4
      have m1 : i * n ≤ 810000 := Nat.mul_le_mul (Nat.le_of_lt (Nat.lt_trans hi hn)) (Nat.le_of_lt hn)
      have m2 : c * n ≤ 810000 := Nat.mul_le_mul (Nat.le_of_lt (Nat.lt_trans hcn hn)) (Nat.le_of_lt hn)
      have hcl := compL_len n d i c
      have hs := compL_succ n d i c
      by_cases h1 : Int.ofNat 0 ≤ dG n d i c
      · by_cases h2 : Int.ofNat 0 ≤ dG n d c i
        · have hm : mutB n d i c = true := by unfold mutB; rw [decide_eq_true h1, decide_eq_true h2]; rfl
          rw [hm, if_pos rfl] at hs
          have hgP : Gl 1 (pushH H (mkBlk 0 [.int .i64 (.ofNat c)])) cv (compL n d i c).length (nats (compL n d i c)) := hg.no ((Fm.refl _ _).push _)
          obtain ⟨H', e, gl', _, fm', nx'⟩ := hgP.append (w := 8) (k := 1) (x := [.int .i64 (.ofNat c)]) (by omega) rfl (by omega) (by omega)
          have hnx : (pushH H (mkBlk 0 [.int .i64 (.ofNat c)])).nx = H.nx + 1 := rfl
          rw [hnx] at e gl' nx'
          have hn1 := hF.nx
          have hnb' : H'.get nb = mkBlk 0 (ints (fillI ins (compL n d i c) t)) := by
            rw [fm'.get nb (by rw [hnx]; omega) fun hb => by have := hnew nb hb; omega, get_push_old _ _ _ (by omega)]; exact hib
          have hle : c + 1 ≤ (fillI ins (compL n d i c) t).length := by rw [fillI_len]; omega
          simp (disch := first | omega | exact ti rfl | (simp only [np, nq]; first | done | omega)) only [go_sem, reduceAdd, reduceMul, reduceSub, reduceLeDiff, reduceEqDiff, reduceShiftRight, reduceAnd, e1, e2', h1, e3, e4', h2, e, hlv, hnb', Nat.mul_one, Nat.zero_add, List.length_cons, List.length_nil, ints_len, hle, if_true]
          rw [ints_set _ _ _ (by omega), ← fillI_snoc, ← hs]
          unfold rOf_j21
          simp (disch := first | omega | exact ti rfl | (simp only [np, nq]; first | done | omega)) only [go_sem, reduceAdd, reduceMul, reduceSub, reduceLeDiff, reduceEqDiff, reduceShiftRight, reduceAnd]
          have f2 : Fm (fun b => b = nb) H1 H' := (hF.trans ((Fm.refl No _).push _ |>.mono fun _ _ h => h.elim)).then fm' fun b hb h => by have := hnew b h; omega
          have e9 : nats (compL n d i c) ++ [.int .i64 (.ofNat c)] = nats (compL n d i (c + 1)) := by rw [hs]; simp [nats]
          rw [e9] at gl'
          have e10 : (compL n d i (c + 1)).length = (compL n d i c).length + 1 := by rw [hs, List.length_append]; rfl
          refine comp_loop hd hdb hl hn hi hin hnb hlv hq k (c + 1) _ _ (by omega) (by omega) ?_ ?_ (get_put_same _ _ _) (f2.put _ _ fun _ => rfl)
          · rw [e10]
            refine gl'.keep (Nat.le_refl _) fun b hb _ => get_put_ne _ _ _ _ fun e => ?_
            obtain ⟨_, _, _, _, h⟩ := hb
            cases h
            omega
          · rintro b ⟨_, _, _, _, h⟩
            cases h
            omega
        · have hm : mutB n d i c = false := by unfold mutB; rw [decide_eq_true h1, decide_eq_false h2]; rfl
          rw [hm, if_neg (by simp), List.append_nil] at hs
          simp (disch := first | omega | exact ti rfl | (simp only [np, nq]; first | done | omega)) only [go_sem, reduceAdd, reduceMul, reduceSub, reduceLeDiff, reduceEqDiff, reduceShiftRight, reduceAnd, e1, e2', h1, e3, e4', h2]
          unfold rOf_j21
          simp (disch := first | omega | exact ti rfl | (simp only [np, nq]; first | done | omega)) only [go_sem, reduceAdd, reduceMul, reduceSub, reduceLeDiff, reduceEqDiff, reduceShiftRight, reduceAnd]
          exact comp_loop hd hdb hl hn hi hin hnb hlv hq k (c + 1) cv H (by omega) (by omega) (by rw [hs]; exact hg) hnew (by rw [hs]; exact hib) hF
      · have hm : mutB n d i c = false := by unfold mutB; rw [decide_eq_false h1]; rfl
        rw [hm, if_neg (by simp), List.append_nil] at hs
        simp (disch := first | omega | exact ti rfl | (simp only [np, nq]; first | done | omega)) only [go_sem, reduceAdd, reduceMul, reduceSub, reduceLeDiff, reduceEqDiff, reduceShiftRight, reduceAnd, e1, e2', h1]
        unfold rOf_j21
        simp (disch := first | omega | exact ti rfl | (simp only [np, nq]; first | done | omega)) only [go_sem, reduceAdd, reduceMul, reduceSub, reduceLeDiff, reduceEqDiff, reduceShiftRight, reduceAnd]
        exact comp_loop hd hdb hl hn hi hin hnb hlv hq k (c + 1) cv H (by omega) (by omega) (by rw [hs]; exact hg) hnew (by rw [hs]; exact hib) hF
    · simp (disch := first | omega | exact ti rfl | (simp only [np, nq]; first | done | omega)) only [go_sem, reduceAdd, reduceMul, reduceSub, reduceLeDiff, reduceEqDiff, reduceShiftRight, reduceAnd, hcn]
      have : c = n := by omega
      subst this
      exact hq cv H hg hnew hib hF
end Go.Di
end

section
/-
  Contracts: the reference's components.
-/
namespace Go.Di
open Go.Ev Go.Di.T Go.Sort
open Nat (reduceAdd reduceMul reduceSub reduceLeDiff reduceEqDiff reduceShiftRight reduceAnd)
variable {C : Nat → Ev.Call}
/-- distances tell who reaches whom -/
def DistOk (n : Nat) (adj : Nat → List Nat) (d : List Int) : Prop := d.length = n * n ∧ ∀ i k, i < n → k < n → (Int.ofNat 0 ≤ dG n d i k ↔ Rc adj i k)
structure RI (adj : Nat → List Nat) (H0 : Hp) (n nb : Nat) (ins : List Int) (v : AV) (cs : List AV) (res : List (List Nat)) (H : Hp) : Prop where
  fm : Fm No H0 H
  ng : H.get nb = mkBlk 0 (ints ins)
  nbl : H0.nx ≤ nb ∧ nb < H.nx
  il : ins.length = n
  ls : LsOk H0 H v cs res
  sv : ∀ b, In v b → b ≠ nb
  sc : ∀ (i : Nat) (c : AV) (b : Nat), cs[i]? = some c → In c b → b ≠ nb
  nd : res.flatten.Nodup
  lt : ∀ x ∈ res.flatten, x < n
  ne : ∀ o ∈ res, o ≠ []
  cl : ∀ x ∈ res.flatten, ∀ y, y < n → Rc adj x y → Rc adj y x → y ∈ res.flatten
  ix : ∀ x, x < n → (Int.ofNat 0 ≤ ins.getD x 0 ↔ x ∈ res.flatten)
  iv : ∀ (j : Nat) (o : List Nat) (x : Nat), res[j]? = some o → x ∈ o → ins.getD x 0 = Int.ofNat j
theorem RI.len {adj : Nat → List Nat} {H0 : Hp} {n nb : Nat} {ins : List Int} {v : AV} {cs : List AV} {res : List (List Nat)} {H : Hp} (h : RI adj H0 n nb ins v cs res H) : res.flatten.length ≤ n ∧ res.length ≤ res.flatten.length := by
  constructor
  · have := h.nd.length_le_of_subset (l₂ := List.range n) fun x hx => List.mem_range.2 (h.lt x hx)
    rwa [List.length_range] at this
  · have hne := h.ne
    generalize res = r at hne
    induction r with
    | nil => exact Nat.le_refl _
    | cons c r ih =>
      have h1 := ih fun c hc => hne c (List.mem_cons_of_mem _ hc)
      have h2 : 0 < c.length := List.length_pos_iff.2 (hne c List.mem_cons_self)
      rw [List.flatten_cons, List.length_append, List.length_cons]; omega
theorem fit_iff {n : Nat} {adj : Nat → List Nat} {d ins : List Int} (hD : DistOk n adj d) {pre : List (List Nat)} (hix : ∀ x, x < n → (Int.ofNat 0 ≤ ins.getD x 0 ↔ x ∈ pre.flatten)) {i : Nat} (hi : i < n) : (∀ k, k < n → fitP n d ins i k) ↔ Rdy n adj pre i := by
  constructor
  · intro h k hk hr
    rcases h k hk with g | g | g
    · exact absurd ((hD.2 i k hi hk).2 hr) (by simp only [Int.ofNat_eq_natCast] at *; omega)
    · exact Or.inl ((hix k hk).1 g)
    · exact Or.inr ((hD.2 k i hk hi).1 g)
  · intro h k hk
    by_cases hr : Rc adj i k
    · rcases h k hk hr with g | g
      · exact Or.inr (Or.inl ((hix k hk).2 g))
      · exact Or.inr (Or.inr ((hD.2 k i hk hi).2 g))
    · refine Or.inl ?_
      have := mt (hD.2 i k hi hk).1 hr
      simp only [Int.ofNat_eq_natCast] at *
      omega
theorem comp_is {n : Nat} {adj : Nat → List Nat} {d : List Int} (hD : DistOk n adj d) {i : Nat} (hi : i < n) : IsComp n adj i (compL n d i n) := by
  refine ⟨(List.pairwise_lt_range (n := n)).filter _, fun x => ?_⟩
  unfold compL mutB
  rw [List.mem_filter, List.mem_range, Bool.and_eq_true, decide_eq_true_iff, decide_eq_true_iff]
  constructor
  · rintro ⟨h1, h2, h3⟩
    exact ⟨h1, (hD.2 i x hi h1).1 h2, (hD.2 x i h1 hi).1 h3⟩
  · rintro ⟨h1, h2, h3⟩
    exact ⟨h1, (hD.2 i x hi h1).2 h2, (hD.2 x i h1 hi).2 h3⟩
/-- the next component is found and put behind the others -/
theorem find_loop {call : Ev.Call} {n nb : Nat} {adj : Nat → List Nat} {d ins : List Int} {dv v : AV} {cs : List AV} {res : List (List Nat)} {H0 H : Hp} (hadj : ∀ u, ∀ k ∈ adj u, k < n) (hD : DistOk n adj d) (hd : Rl H0 dv (ints d)) (hdv : ∀ j b o, idxS 1 dv (.int .i64 (.ofNat j)) = .val (.ptr b o) → b < H0.nx) (hn : n < 900) (hI : RI adj H0 n nb ins v cs res H) (hne : ∃ x, x < n ∧ x ∉ res.flatten)
    {g : AV → AV → Hp → R1} {Q : AV → Hp → Prop}
    (hq : ∀ v' H' ins' cs' i, NextC n adj res i → RI adj H0 n nb ins' v' cs' (res ++ [compL n d i n]) H' → Ok (g v' (.int .i64 (.ofNat (res.flatten.length + (compL n d i n).length))) H') Q) :
    ∀ (k i : Nat), n - i < k → i ≤ n → (∀ j, j < i → j ∉ res.flatten → ¬ Rdy n adj res j) →
      Ok (rOf_l8 call g (.int .i64 (.ofNat n)) dv (.sl nb 0 n n true) k v (.int .i64 (.ofNat res.flatten.length)) (.int .i64 (.ofNat i)) H) Q
  | 0, i, h, _, _ => by omega
  | k + 1, i, h, hi, hj => by
    show Ok (rOf_b8 call _ _ _ _ (rOf_l8 call _ _ _ _ k) _ _ _ H) Q
    unfold rOf_b8
    by_cases hin : i < n
    · simp (disch := first | omega | exact ti rfl | (simp only [np, nq]; first | done | omega)) only [go_sem, reduceAdd, reduceMul, reduceSub, reduceLeDiff, reduceEqDiff, reduceShiftRight, reduceAnd, hin]
      unfold rOf_j75
      have gi : (ints ins)[i]? = some (.int .i64 (ins.getD i 0)) := by
        rw [ints_get ins i (by rw [hI.il]; exact hin), List.getD_eq_getElem?_getD, List.getElem?_eq_getElem (by rw [hI.il]; exact hin)]; rfl
      have hng := hI.ng
      simp (disch := first | omega | exact ti rfl | (simp only [np, nq]; first | done | omega)) only [go_sem, reduceAdd, reduceMul, reduceSub, reduceLeDiff, reduceEqDiff, reduceShiftRight, reduceAnd, hng, gi, Nat.mul_one, Nat.zero_add]
      unfold rOf_L47
      rw [fuelX_eq]
      refine fits_loop (hd.fm hI.fm) hD.1 hn hin hI.il hng (b0 := decide (ins.getD i 0 < Int.ofNat 0)) (fun b hb => ?_) loopFuel 0 _ (by rw [loopFuel_eq]; omega) (Nat.zero_le _) ⟨fun h => ⟨h, fun j hj => absurd hj (Nat.not_lt_zero _)⟩, fun h => h.1⟩
      rw [fit_iff hD hI.ix hin] at hb
      have h0 : decide (ins.getD i 0 < Int.ofNat 0) = true ↔ i ∉ res.flatten := by
        rw [← hI.ix i hin, decide_eq_true_iff]
        simp only [Int.ofNat_eq_natCast]
        omega
      rw [h0] at hb
      unfold rOf_j46
      cases b with
      | false =>
        simp (disch := first | omega | exact ti rfl | (simp only [np, nq]; first | done | omega)) only [go_sem, reduceAdd, reduceMul, reduceSub, reduceLeDiff, reduceEqDiff, reduceShiftRight, reduceAnd]
        unfold rOf_j10
        simp (disch := first | omega | exact ti rfl | (simp only [np, nq]; first | done | omega)) only [go_sem, reduceAdd, reduceMul, reduceSub, reduceLeDiff, reduceEqDiff, reduceShiftRight, reduceAnd]
        refine find_loop hadj hD hd hdv hn hI hne hq k (i + 1) (by omega) (by omega) fun j hj' hjn => ?_
        by_cases e : j = i
        · subst e
          intro hr
          have := hb.2 ⟨hjn, hr⟩
          cases this
        · exact hj j (by omega) hjn
      | true =>
        obtain ⟨b1, b2⟩ := hb.1 rfl
        have hN : NextC n adj res i := ⟨hin, b1, b2, hj⟩
        have hC := comp_is hD hin
        have hii : i ∈ compL n d i n := (hC.2 i).2 ⟨hin, Rc.refl _, Rc.refl _⟩
        simp (disch := first | omega | exact ti rfl | (simp only [np, nq]; first | done | omega)) only [go_sem, reduceAdd, reduceMul, reduceSub, reduceLeDiff, reduceEqDiff, reduceShiftRight, reduceAnd]
        unfold rOf_j44 rOf_L19
        rw [fuelX_eq]
        have hlen := hI.ls.len
        have hlv := hI.ls.gl.lenV
        obtain ⟨z1, z2⟩ := hI.len
        refine comp_loop (H1 := H) (t := cs.length) (ins := ins) (hd.fm hI.fm) (fun b o hb j e => ?_) hD.1 hn hin hI.il hI.nbl.2 hlv (fun cv H2 c1 c2 c3 c4 => ?_) loopFuel 0 .nilsl H (by rw [loopFuel_eq]; omega) (Nat.zero_le _) (Gl.nil _ _) (fun b hb => by obtain ⟨_, _, _, _, h⟩ := hb; cases h) hng (Fm.refl _ _)
        · have := hdv j b o e; have := hI.nbl.1; omega
        · unfold rOf_j18
          have hcl := compL_len n d i n
          have hcp : 0 < (compL n d i n).length := List.length_pos_iff.2 fun e => by rw [e] at hii; cases hii
          have e1 := c1.lenV
          rcases c1.is with ⟨_, h0⟩ | ⟨b9, o9, e9, q9, L9, rfl, _⟩
          · omega
          have hn2 := c4.nx
          have gv : Gl 1 (pushH H2 (mkBlk 0 [.sl b9 o9 (compL n d i n).length (compL n d i n).length e9])) v cs.length cs := (hI.ls.gl.fm c4 fun b hb => hI.sv b hb).no ((Fm.refl _ _).push _)
          obtain ⟨H', e, gl', _, fm', nx'⟩ := gv.append (w := 24) (k := 1) (x := [.sl b9 o9 (compL n d i n).length (compL n d i n).length e9]) (by omega) rfl (by omega) (by omega)
          have hnx : (pushH H2 (mkBlk 0 [.sl b9 o9 (compL n d i n).length (compL n d i n).length e9])).nx = H2.nx + 1 := rfl
          rw [hnx] at e gl' nx'
          have e2 : res.flatten.length < 900 := by omega
          simp (disch := first | omega | exact ti rfl | (simp only [np, nq]; first | done | omega)) only [go_sem, reduceAdd, reduceMul, reduceSub, reduceLeDiff, reduceEqDiff, reduceShiftRight, reduceAnd, e1, e]
          have f3 : Fm (fun b => b = nb ∨ In v b) H H' := ((c4.mono fun _ _ h => Or.inl h).trans ((Fm.refl No _).push _ |>.mono fun _ _ h => h.elim)).trans (fm'.mono fun _ _ h => Or.inr h)
          have hvlt : ∀ b, In v b → b < H.nx := fun b hb => hI.ls.gl.lt hb
          have hmem : ∀ x, x ∈ compL n d i n → x ∉ res.flatten := fun x hx hxr => by
            have h1 := (hC.2 x).1 hx
            exact b1 (hI.cl x hxr i hin h1.2.2 h1.2.1)
          have hfl : (res ++ [compL n d i n]).flatten = res.flatten ++ compL n d i n := by rw [List.flatten_append]; simp
          have hfm : Fm No H0 H' := hI.fm.then f3 fun b hb h => by
            rcases h with h | h
            · have := hI.nbl.1; omega
            · have := hI.ls.new b h; omega
          have old : ∀ {x : AV} {m : Nat} {y : List AV}, Gl 1 H x m y → (∀ b, In x b → b ≠ nb ∧ ¬ In v b) → Gl 1 H' x m y := fun {x m y} hx hb => hx.fm f3 fun b hb' h => by
            rcases h with h | h
            · exact (hb b hb').1 h
            · exact (hb b hb').2 h
          have hH2 : H.nx ≤ b9 ∧ b9 < H2.nx := ⟨c2 b9 ⟨_, _, _, _, rfl⟩, c1.lt ⟨_, _, _, _, rfl⟩⟩
          refine hq _ H' (fillI ins (compL n d i n) cs.length) (cs ++ [.sl b9 o9 (compL n d i n).length (compL n d i n).length e9]) i hN ⟨hfm, ?_, ⟨hI.nbl.1, by have := hI.nbl.2; omega⟩, by rw [fillI_len]; exact hI.il, ⟨?_, ?_, ?_, fun j c o h1 h2 => ?_⟩, ?_, fun j c b h1 h2 => ?_, ?_, fun x hx => ?_, fun o ho => ?_, fun x hx y hy h1 h2 => ?_, fun x hx => ?_, fun j o x h1 h2 => ?_⟩
          · rw [fm'.get nb (by rw [hnx]; have := hI.nbl.2; omega) fun hb => hI.sv nb hb rfl, get_push_old _ _ _ (by have := hI.nbl.2; omega)]
            exact c3
          · rw [List.length_append]; exact gl'
          · rw [List.length_append, List.length_append, hlen]; rfl
          · rintro b ⟨_, _, _, _, h⟩
            cases h
            have := hI.fm.nx
            omega
          · have hnv : ∀ b, In (AV.sl (H2.nx + 1) 0 (cs.length + 1) (cs.length + 1) false) b → b = H2.nx + 1 := fun b hb => by obtain ⟨_, _, _, _, h⟩ := hb; cases h; rfl
            rcases Nat.lt_or_ge j cs.length with g | g
            · rw [List.getElem?_append_left g] at h1
              rw [List.getElem?_append_left (by omega)] at h2
              obtain ⟨a1, a2, a3⟩ := hI.ls.at' j c o h1 h2
              exact ⟨a1, old a2 fun b hb => ⟨hI.sc j c b h1 hb, (a3 b hb).2⟩, fun b hb => ⟨(a3 b hb).1, fun h => by have := hnv b h; have := a2.lt hb; omega⟩⟩
            · rw [List.getElem?_append_right g] at h1
              rw [List.getElem?_append_right (by omega), ← hlen] at h2
              have h0 : j - cs.length = 0 := by
                have := (List.getElem?_eq_some_iff.1 h1).1
                simpa using this
              rw [h0] at h1 h2
              cases h1; cases h2
              refine ⟨⟨_, _, _, _, _, rfl⟩, ?_, fun b hb => ?_⟩
              · refine c1.keep (by omega) fun b hb hlt => ?_
                have hb9 : b = b9 := by obtain ⟨_, _, _, _, h⟩ := hb; cases h; rfl
                subst hb9
                rw [fm'.get b (by rw [hnx]; omega) fun h => by have := hvlt b h; omega, get_push_old _ _ _ (by omega)]
              · have hb9 : b = b9 := by obtain ⟨_, _, _, _, h⟩ := hb; cases h; rfl
                subst hb9
                have := hI.fm.nx
                exact ⟨by omega, fun h => by have := hnv _ h; omega⟩
          · rintro b ⟨_, _, _, _, h⟩
            have hb : b = H2.nx + 1 := by cases h; rfl
            have := hI.nbl.2
            omega
          · rcases Nat.lt_or_ge j cs.length with g | g
            · rw [List.getElem?_append_left g] at h1
              exact hI.sc j c b h1 h2
            · rw [List.getElem?_append_right g] at h1
              have h0 : j - cs.length = 0 := by
                have := (List.getElem?_eq_some_iff.1 h1).1
                simpa using this
              rw [h0] at h1
              cases h1
              have := c2 b h2
              have := hI.nbl.2
              omega
          · rw [hfl, List.nodup_append]
            refine ⟨hI.nd, hC.1.imp fun h => Nat.ne_of_lt h, fun x hx y hy e => ?_⟩
            subst e
            exact hmem x hy hx
          · rw [hfl, List.mem_append] at hx
            rcases hx with hx | hx
            · exact hI.lt x hx
            · exact ((hC.2 x).1 hx).1
          · rcases List.mem_append.1 ho with ho | ho
            · exact hI.ne o ho
            · rw [List.mem_singleton.1 ho]
              intro e; rw [e] at hii; cases hii
          · rw [hfl, List.mem_append] at hx ⊢
            rcases hx with hx | hx
            · exact Or.inl (hI.cl x hx y hy h1 h2)
            · have h3 := (hC.2 x).1 hx
              exact Or.inr ((hC.2 y).2 ⟨hy, h3.2.1.trans h1, h2.trans h3.2.2⟩)
          · rw [hfl, List.mem_append, fillI_get _ _ _ _ (by rw [hI.il]; exact hx)]
            by_cases hm : x ∈ compL n d i n
            · rw [if_pos hm]
              exact ⟨fun _ => Or.inr hm, fun _ => by simp only [Int.ofNat_eq_natCast]; omega⟩
            · rw [if_neg hm, hI.ix x hx]
              exact ⟨Or.inl, fun h => h.resolve_right hm⟩
          · rcases Nat.lt_or_ge j res.length with g | g
            · rw [List.getElem?_append_left g] at h1
              have hxf : x ∈ res.flatten := List.mem_flatten.2 ⟨o, List.mem_of_getElem? h1, h2⟩
              rw [fillI_get _ _ _ _ (by rw [hI.il]; exact hI.lt x hxf), if_neg fun h => hmem x h hxf]
              exact hI.iv j o x h1 h2
            · rw [List.getElem?_append_right g] at h1
              have h0 : j - res.length = 0 := by
                have := (List.getElem?_eq_some_iff.1 h1).1
                simpa using this
              rw [h0] at h1
              cases h1
              rw [fillI_get _ _ _ _ (by rw [hI.il]; exact ((hC.2 x).1 h2).1), if_pos h2]
              congr 1
              omega
    · exfalso
      obtain ⟨x, hx, hxn⟩ := hne
      obtain ⟨i', hi'⟩ := nextC_ex hadj hx hxn
      exact hj i' (by have := hi'.lt; omega) hi'.new hi'.rdy
end Go.Di
end

section
/-
  Contracts: the reference's components, whole.
-/
namespace Go.Di
open Go.Ev Go.Di.T Go.Sort
open Nat (reduceAdd reduceMul reduceSub reduceLeDiff reduceEqDiff reduceShiftRight reduceAnd)
variable {C : Nat → Ev.Call}
theorem adj_iff {n : Nat} {ms : List Nat} {i k : Nat} (hi : i < n) (hk : k < n) : k ∈ adjOf (edgesOf n ms) i ↔ Adj n ms i k := by
  rw [adjOf_mem]
  constructor
  · rintro ⟨e, he, rfl, rfl⟩; exact edges_adj he
  · intro h; exact edges_ne hi hk h
theorem adj_lt {n : Nat} {ms : List Nat} {i k : Nat} (h : k ∈ adjOf (edgesOf n ms) i) : i < n ∧ k < n := by
  obtain ⟨e, he, rfl, rfl⟩ := adjOf_mem.1 h
  exact (edges_ok n ms).rng e he
theorem wS_rc {n : Nat} {ms : List Nat} : ∀ (L i k : Nat), i < n → k < n → wS (Adj n ms) n i k L → Rc (adjOf (edgesOf n ms)) i k
  | 0, i, k, hi, hk, h => Rc.one ((adj_iff hi hk).2 h)
  | L + 1, i, k, hi, hk, ⟨x, hx, ha, hw⟩ => (Rc.one ((adj_iff hi hx).2 ha)).trans (wS_rc L x k hx hk hw)
theorem rc_wk {n : Nat} {ms : List Nat} {i k : Nat} (hi : i < n) (h : Rc (adjOf (edgesOf n ms)) i k) : k < n ∧ ∃ L, wk (Adj n ms) n i k L := by
  induction h with
  | refl => exact ⟨hi, 0, rfl⟩
  | step _ e ih =>
    obtain ⟨hb, L, hL⟩ := ih
    have hc := (adj_lt e).2
    exact ⟨hc, L + 1, wk_app (L2 := 1) hL hb ((adj_iff hb hc).1 e)⟩
theorem dist_ok {n : Nat} {ms : List Nat} (hl : ms.length = n * n) : DistOk n (adjOf (edgesOf n ms)) (dist n ms) := by
  refine ⟨dist_len hl, fun i k hi hk => ⟨fun h => ?_, fun h => ?_⟩⟩
  · have h := dist_snd hl i k hi hk h
    cases hL : ((dist n ms).getD (i * n + k) 0).toNat with
    | zero => rw [hL] at h; have h : i = k := h; rw [h]; exact Rc.refl _
    | succ L => rw [hL] at h; exact wS_rc L i k hi hk h
  · obtain ⟨_, L, hL⟩ := rc_wk hi h
    exact (dist_cmp hl i k L hi hk hL).1
theorem ref_out {call : Ev.Call} {n nb : Nat} {adj : Nat → List Nat} {d : List Int} {dv : AV} {H0 : Hp} (hadj : ∀ u, ∀ k ∈ adj u, k < n) (hD : DistOk n adj d) (hd : Rl H0 dv (ints d)) (hdv : ∀ j b o, idxS 1 dv (.int .i64 (.ofNat j)) = .val (.ptr b o) → b < H0.nx) (hn : n < 900)
    {q : AV → Hp → R1} {Q : AV → Hp → Prop} (hq : ∀ v H ins cs res, RI adj H0 n nb ins v cs res H → OrdF n adj [] res → (∀ x, x < n → x ∈ res.flatten) → Ok (q v H) Q) :
    ∀ (k : Nat) (v : AV) (H : Hp) (ins : List Int) (cs : List AV) (res : List (List Nat)), n - res.flatten.length < k → RI adj H0 n nb ins v cs res H → (∀ R, OrdF n adj res R → OrdF n adj [] (res ++ R)) →
      Ok (rOf_l7 call q (.int .i64 (.ofNat n)) dv (.sl nb 0 n n true) k v (.int .i64 (.ofNat res.flatten.length)) H) Q
  | 0, v, H, ins, cs, res, h, _, _ => by omega
  | k + 1, v, H, ins, cs, res, h, hI, hP => by
    show Ok (rOf_b7 call _ _ _ _ (rOf_l7 call _ _ _ _ k) _ _ H) Q
    unfold rOf_b7
    obtain ⟨z1, z2⟩ := hI.len
    by_cases hlt : res.flatten.length < n
    · have hne : ∃ x, x < n ∧ x ∉ res.flatten := by
        refine Classical.byContradiction fun hno => ?_
        have hall : ∀ x ∈ List.range n, x ∈ res.flatten := fun x hx => Classical.byContradiction fun h => hno ⟨x, List.mem_range.1 hx, h⟩
        have := (List.nodup_range (n := n)).length_le_of_subset hall
        rw [List.length_range] at this
        omega
      simp (disch := first | omega | exact ti rfl | (simp only [np, nq]; first | done | omega)) only [go_sem, reduceAdd, reduceMul, reduceSub, reduceLeDiff, reduceEqDiff, reduceShiftRight, reduceAnd, hlt]
      unfold rOf_j77 rOf_L8
      rw [fuelX_eq]
      refine find_loop hadj hD hd hdv hn hI hne (fun v' H' ins' cs' i hN hI' => ?_) loopFuel 0 (by rw [loopFuel_eq]; omega) (Nat.zero_le _) fun j hj => absurd hj (Nat.not_lt_zero _)
      have hC := comp_is hD hN.lt
      have hii : i ∈ compL n d i n := (hC.2 i).2 ⟨hN.lt, Rc.refl _, Rc.refl _⟩
      have hcp : 0 < (compL n d i n).length := List.length_pos_iff.2 fun e => by rw [e] at hii; cases hii
      have hfl : (res ++ [compL n d i n]).flatten.length = res.flatten.length + (compL n d i n).length := by rw [List.flatten_append, List.length_append]; simp
      rw [← hfl]
      refine ref_out hadj hD hd hdv hn hq k v' H' ins' cs' (res ++ [compL n d i n]) (by omega) hI' fun R hR => ?_
      rw [List.append_assoc]
      exact hP (compL n d i n :: R) ⟨⟨i, hN, hC⟩, hR⟩
    · simp (disch := first | omega | exact ti rfl | (simp only [np, nq]; first | done | omega)) only [go_sem, reduceAdd, reduceMul, reduceSub, reduceLeDiff, reduceEqDiff, reduceShiftRight, reduceAnd, hlt]
      have hall : ∀ x, x < n → x ∈ res.flatten := fun x hx => Classical.byContradiction fun hno => by
        have hnd : (x :: res.flatten).Nodup := List.nodup_cons.2 ⟨hno, hI.nd⟩
        have := hnd.length_le_of_subset (l₂ := List.range n) fun y hy => by
          rw [List.mem_range]
          rcases List.mem_cons.1 hy with rfl | hy
          · exact hx
          · exact hI.lt y hy
        rw [List.length_range, List.length_cons] at this
        omega
      have := hP [] hall
      rw [List.append_nil] at this
      exact hq v H ins cs res hI this hall
def negL (n : Nat) : Nat → List Int
  | 0 => List.replicate n 0
  | i + 1 => (negL n i).set i (.negSucc 0)
theorem negL_len (n : Nat) : ∀ i, (negL n i).length = n
  | 0 => by simp [negL]
  | i + 1 => by rw [negL, List.length_set, negL_len n i]
theorem negL_get (n : Nat) : ∀ i x, x < i → x < n → (negL n i).getD x 0 = .negSucc 0
  | i + 1, x, h, hn => by
    rw [negL, List.getD_eq_getElem?_getD, List.getElem?_set]
    by_cases e : i = x
    · rw [if_pos e, if_pos (by rw [negL_len]; omega)]; rfl
    · rw [if_neg e, ← List.getD_eq_getElem?_getD]
      exact negL_get n i x (by omega) hn
theorem neg_loop {call : Ev.Call} {n nb : Nat} {H1 : Hp} (hn : n < 900) {q : Hp → R1} {Q : AV → Hp → Prop} (hq : ∀ H, H.get nb = mkBlk 0 (ints (negL n n)) → Fm (fun b => b = nb) H1 H → Ok (q H) Q) :
    ∀ (k i : Nat) (H : Hp), n - i < k → i ≤ n → H.get nb = mkBlk 0 (ints (negL n i)) → Fm (fun b => b = nb) H1 H →
      Ok (rOf_l80 call q (.int .i64 (.ofNat n)) (.sl nb 0 n n true) k (.int .i64 (.ofNat i)) H) Q
  | 0, i, H, h, _, _, _ => by omega
  | k + 1, i, H, h, hi, hg, hF => by
    show Ok (rOf_b80 call _ _ _ (rOf_l80 call _ _ _ k) _ H) Q
    unfold rOf_b80
    by_cases hin : i < n
    · simp (disch := first | omega | exact ti rfl | (simp only [np, nq]; first | done | omega)) only [go_sem, reduceAdd, reduceMul, reduceSub, reduceLeDiff, reduceEqDiff, reduceShiftRight, reduceAnd, hin]
      unfold rOf_j85
      have hle : i + 1 ≤ (negL n i).length := by rw [negL_len]; omega
      simp (disch := first | omega | exact ti rfl | (simp only [np, nq]; first | done | omega)) only [go_sem, reduceAdd, reduceMul, reduceSub, reduceLeDiff, reduceEqDiff, reduceShiftRight, reduceAnd, hg, Nat.mul_one, Nat.zero_add, List.length_cons, List.length_nil, ints_len, hle, if_true]
      rw [ints_set _ _ _ (by rw [negL_len]; omega)]
      unfold rOf_j82
      simp (disch := first | omega | exact ti rfl | (simp only [np, nq]; first | done | omega)) only [go_sem, reduceAdd, reduceMul, reduceSub, reduceLeDiff, reduceEqDiff, reduceShiftRight, reduceAnd]
      exact neg_loop hn hq k (i + 1) _ (by omega) (by omega) (get_put_same _ _ _) (hF.put _ _ fun _ => rfl)
    · simp (disch := first | omega | exact ti rfl | (simp only [np, nq]; first | done | omega)) only [go_sem, reduceAdd, reduceMul, reduceSub, reduceLeDiff, reduceEqDiff, reduceShiftRight, reduceAnd, hin]
      have : i = n := by omega
      subst this
      exact hq H hg hF
theorem rep_ints (n : Nat) : List.replicate n (AV.int .i64 (.ofNat 0)) = ints (List.replicate n 0) := by simp [ints]
/-- the reference's components and numbers -/
theorem refOf_ok (hC : Links C) {k : Nat} (hk : 2 ≤ k) {n mb : Nat} {ms : List Nat} {mv : AV} {H : Hp} (hM : IsM H mv mb n ms) (hn : n < 13) :
    Ok (C k (.f id_rOf) [mv] H) fun r H' => ∃ v nb ins cs res H0, r = .tup [v, .sl nb 0 n n true] ∧ Fm No H H0 ∧ RI (adjOf (edgesOf n ms)) H0 n nb ins v cs res H' ∧ OrdF n (adjOf (edgesOf n ms)) [] res ∧ (∀ x, x < n → x ∈ res.flatten) := by
  obtain ⟨j, rfl⟩ : ∃ j, k = j + 1 := ⟨k - 1, by omega⟩
  have hl := hM.ok.len
  have hr := hM.hv
  subst hr
  rw [(hC j).rOf]
  unfold rOf rOf_c
  simp (disch := first | omega | exact ti rfl | (simp only [np, nq]; first | done | omega)) only [go_sem, reduceAdd, reduceMul, reduceSub, reduceLeDiff, reduceEqDiff, reduceShiftRight, reduceAnd]
  generalize hH1 : pushH H (mkBlk 0 [.int .i64 (.ofNat n), .sl mb 0 (n * n) (n * n) true]) = H1
  have n1 : H1.nx = H.nx + 1 := by rw [← hH1]; rfl
  have f1 : Fm No H H1 := by rw [← hH1]; exact (Fm.refl _ _).push _
  have g1 : H1.get H.nx = mkBlk 0 [.int .i64 (.ofNat n), .sl mb 0 (n * n) (n * n) true] := by rw [← hH1, get_push_new]
  refine Ok.ve (Distance_ok hC (k := j) (by omega) (hM.fm f1) (dbnd hl hn)) ?_
  rintro dv H2 ⟨rfl, d1, d2, f2⟩
  have mk := makeSl_nn [.int .i64 (.ofNat 0)] 8 H2.nx n (by omega) (by omega)
  rw [reps_one, rep_ints] at mk
  simp (disch := first | omega | exact ti rfl | (simp only [np, nq]; first | done | omega)) only [go_sem, reduceAdd, reduceMul, reduceSub, reduceLeDiff, reduceEqDiff, reduceShiftRight, reduceAnd, mk]
  unfold rOf_L80
  rw [fuelX_eq]
  have hD := dist_ok hl (ms := ms)
  have hdl : (dist n ms).length = n * n := hD.1
  have hd : Rl H2 (.sl (H1.nx + 1) 0 (n * n) (n * n) true) (ints (dist n ms)) := by
    refine Gl.rl (n := n * n) ⟨by rw [ints_len, hdl, Nat.mul_one], .inr ⟨_, 0, true, 0, _, rfl, d1, Nat.zero_le _, List.drop_zero, Or.inl rfl, d2⟩⟩
  refine neg_loop (H1 := pushH H2 (mkBlk 0 (ints (List.replicate n 0)))) (by omega) (fun H3 k1 k2 => ?_) loopFuel 0 _ (by rw [loopFuel_eq]; omega) (Nat.zero_le _) (get_push_new _ _) (Fm.refl _ _)
  unfold rOf_j79 rOf_L7
  rw [fuelX_eq]
  have f3 : Fm No H2 H3 := ((Fm.refl No H2).push _).then k2 fun c hc h => by omega
  have n3 := k2.nx
  rw [np] at n3
  have hI : RI (adjOf (edgesOf n ms)) H2 n H2.nx (negL n n) .nilsl [] [] H3 := by
    refine ⟨f3, k1, ⟨Nat.le_refl _, by omega⟩, negL_len n n, ⟨Gl.nil _ _, rfl, fun b hb => (by obtain ⟨_, _, _, _, h⟩ := hb; cases h), fun i c o h => (by simp at h)⟩, fun b hb => (by obtain ⟨_, _, _, _, h⟩ := hb; cases h), fun i c b h => (by simp at h), List.nodup_nil, fun x h => (by simp at h), fun o h => (by cases h), fun x h => (by simp at h), fun x hx => ?_, fun j o x h => (by simp at h)⟩
    rw [negL_get n n x hx hx]
    simp
  have f12 := f1.trans f2
  refine ref_out (fun u k hk => (adj_lt hk).2) hD hd (fun j b o e => ?_) (by omega) (fun v H4 ins cs res h1 h2 h3 => ?_) loopFuel .nilsl H3 (negL n n) [] [] (by rw [loopFuel_eq]; simp; omega) hI fun R hR => hR
  · have : In (AV.sl (H1.nx + 1) 0 (n * n) (n * n) true) b := by
      by_cases hj : j < n * n
      · rw [idxS_n _ _ _ _ _ _ _ _ hj] at e
        cases e; exact ⟨_, _, _, _, rfl⟩
      · exfalso
        have : idxS 1 (.sl (H1.nx + 1) 0 (n * n) (n * n) true) (.int .i64 (.ofNat j)) = .bad := by
          show (bif Nat.blt j (n * n) then _ else R0.bad) = _
          rw [blt_eq, decide_eq_false hj]; rfl
        rw [this] at e; cases e
    obtain ⟨_, _, _, _, h⟩ := this
    cases h
    exact d2
  · unfold rOf_j6
    exact Ok.ret ⟨v, H2.nx, ins, cs, res, H2, rfl, f12, h1, h2, h3⟩
end Go.Di
end

section
/-
  Contracts: lists and components that are the same; the nodes, component by component.
-/
namespace Go.Di
open Go.Ev Go.Di.T Go.Sort
open Nat (reduceAdd reduceMul reduceSub reduceLeDiff reduceEqDiff reduceShiftRight reduceAnd)
variable {C : Nat → Ev.Call} {LA LO : LP}
theorem list_loop17 {call : Ev.Call} {H : Hp} {v w : AV} {l : List AV} (hv : Rl H v l) (hw : Rl H w l) (hint : ∀ x ∈ l, ∃ z : Int, x = .int .i64 z) (hl : l.length < 900000) {q1 : AV → Hp → R1} {q2 : Hp → R1} {Q : AV → Hp → Prop} (hq : Ok (q2 H) Q) :
    ∀ (k i : Nat), l.length - i < k → i ≤ l.length → Ok (lwL_l1 call q1 q2 v w k (.int .i64 (.ofNat i)) H) Q
  | 0, i, h, _ => by omega
  | k + 1, i, h, hi => by
    show Ok (lwL_b1 call _ _ _ _ (lwL_l1 call _ _ _ _ k) _ H) Q
    unfold lwL_b1
    have e0 := hw.len
    by_cases hil : i < l.length
    · obtain ⟨b1, o1, e1, _, e2⟩ := hv.at' i hil
      obtain ⟨b2, o2, e3, _, e4⟩ := hw.at' i hil
      obtain ⟨z, hz⟩ := hint l[i] (List.getElem_mem _)
      rw [hz] at e2 e4
      simp (disch := first | omega | exact ti rfl | (simp only [np, nq]; first | done | omega)) only [go_sem, reduceAdd, reduceMul, reduceSub, reduceLeDiff, reduceEqDiff, reduceShiftRight, reduceAnd, e0, hil]
      unfold lwL_j9
      simp (disch := first | omega | exact ti rfl | (simp only [np, nq]; first | done | omega)) only [go_sem, reduceAdd, reduceMul, reduceSub, reduceLeDiff, reduceEqDiff, reduceShiftRight, reduceAnd, e1, e2, e3, e4]
      unfold lwL_j3
      simp (disch := first | omega | exact ti rfl | (simp only [np, nq]; first | done | omega)) only [go_sem, reduceAdd, reduceMul, reduceSub, reduceLeDiff, reduceEqDiff, reduceShiftRight, reduceAnd]
      exact list_loop17 hv hw hint hl hq k (i + 1) (by omega) (by omega)
    · simp (disch := first | omega | exact ti rfl | (simp only [np, nq]; first | done | omega)) only [go_sem, reduceAdd, reduceMul, reduceSub, reduceLeDiff, reduceEqDiff, reduceShiftRight, reduceAnd, e0, hil]
      exact hq
theorem list17_ok (hC : Links C) {k : Nat} (hk : 1 ≤ k) {H : Hp} {v w : AV} {l : List AV} (hv : Rl H v l) (hw : Rl H w l) (hint : ∀ x ∈ l, ∃ z : Int, x = .int .i64 z) (hl : l.length < 900000) (hc : capV v = .val (.int .i64 (.ofNat l.length))) (z : Int) :
    Ok (C k (.f id_lwL) [v, .int .i64 z, w, .int .i64 z] H) fun r H' => r = .bool true ∧ H' = H := by
  obtain ⟨j, rfl⟩ : ∃ j, k = j + 1 := ⟨k - 1, by omega⟩
  rw [(hC j).lwL]
  unfold lwL lwL_c
  have e1 := hv.len
  have e2 := hw.len
  simp (disch := first | omega | exact ti rfl | (simp only [np, nq]; first | done | omega)) only [go_sem, reduceAdd, reduceMul, reduceSub, reduceLeDiff, reduceEqDiff, reduceShiftRight, reduceAnd, e1, e2, hc]
  unfold lwL_j12 lwL_L1
  rw [fuelX_eq]
  refine list_loop17 hv hw hint hl ?_ loopFuel 0 (by rw [loopFuel_eq]; omega) (Nat.zero_le _)
  unfold lwL_j0
  exact Ok.ret ⟨rfl, rfl⟩
theorem nats_int (l : List Nat) : ∀ x ∈ nats l, ∃ z : Int, x = .int .i64 z := fun x hx => by
  obtain ⟨m, _, rfl⟩ := List.mem_map.1 hx
  exact ⟨_, rfl⟩
theorem same_loop (hC : Links C) {j : Nat} (hj : 1 ≤ j) {H0 H : Hp} {v lv iv : AV} {os cs : List AV} {res : List (List Nat)} {g0 : Nat} (hg : H.get g0 = mkBlk 0 [lv, iv]) (hos : Gl 1 H lv os.length os) (hlen : os.length = res.length) (hcl : os.length < 900)
    (hat : ∀ (j : Nat) (w : AV) (o : List Nat), os[j]? = some w → res[j]? = some o → Gl 1 H w o.length (nats o) ∧ capV w = .val (.int .i64 (.ofNat o.length)) ∧ o.length < 900) (hL : LsOk H0 H v cs res) {q1 : AV → Hp → R1} {q2 : Hp → R1} {Q : AV → Hp → Prop} (hq : Ok (q2 H) Q) :
    ∀ (k i : Nat), cs.length - i < k → i ≤ cs.length → Ok (lwS_l2 (C j) q1 q2 v (.ptr g0 0) k (.int .i64 (.ofNat i)) H) Q
  | 0, i, h, _ => by omega
  | k + 1, i, h, hi => by
    show Ok (lwS_b2 (C j) _ _ _ _ (lwS_l2 (C j) _ _ _ _ k) _ H) Q
    unfold lwS_b2
    have e0 := hL.gl.lenV
    have hl2 := hL.len
    by_cases hil : i < cs.length
    · simp (disch := first | omega | exact ti rfl | (simp only [np, nq]; first | done | omega)) only [go_sem, reduceAdd, reduceMul, reduceSub, reduceLeDiff, reduceEqDiff, reduceShiftRight, reduceAnd, e0, hil]
      unfold lwS_j17
      obtain ⟨b1, o1, e1, _, _, e2⟩ := hos.at (i := i) (x := os[i]'(by omega)) (by simp)
      obtain ⟨b2, o2, e3, _, _, e4⟩ := hL.gl.at (i := i) (x := cs[i]) (by simp)
      obtain ⟨g1, g2, g3⟩ := hat i (os[i]'(by omega)) (res[i]'(by omega)) (by simp) (by simp)
      obtain ⟨_, k2, _⟩ := hL.at' i cs[i] (res[i]'(by omega)) (by simp) (by simp)
      have f1 := eqF_flat hos.flat 63
      have f2 := eqF_flat g1.flat 63
      have f3 := eqF_flat k2.flat 63
      generalize hx : os[i]'(by omega) = x at *
      generalize hy : cs[i] = y at *
      generalize hz : res[i]'(by omega) = z at *
      have f1' : eqF 64 lv lv = true := f1
      have f2' : eqF 64 x x = true := f2
      have f3' : eqF 64 y y = true := f3
      simp (disch := first | omega | exact ti rfl | (simp only [np, nq]; first | done | omega)) only [go_sem, reduceAdd, reduceMul, reduceSub, reduceLeDiff, reduceEqDiff, reduceShiftRight, reduceAnd, hg, e1, e2, e3, e4]
      refine Ok.deO (list17_ok hC hj (l := nats z) (g1.rl) (k2.rl) (nats_int z) (by rw [natsLen]; omega) (by rw [natsLen]; exact g2) 0) ?_
      rintro r H' ⟨rfl, rfl⟩
      simp (disch := first | omega | exact ti rfl | (simp only [np, nq]; first | done | omega)) only [go_sem, reduceAdd, reduceMul, reduceSub, reduceLeDiff, reduceEqDiff, reduceShiftRight, reduceAnd, hg, e1, e2, e3, e4, f1', f2', f3']
      unfold lwS_j4
      simp (disch := first | omega | exact ti rfl | (simp only [np, nq]; first | done | omega)) only [go_sem, reduceAdd, reduceMul, reduceSub, reduceLeDiff, reduceEqDiff, reduceShiftRight, reduceAnd]
      exact same_loop hC hj hg hos hlen hcl hat hL hq k (i + 1) (by omega) (by omega)
    · simp (disch := first | omega | exact ti rfl | (simp only [np, nq]; first | done | omega)) only [go_sem, reduceAdd, reduceMul, reduceSub, reduceLeDiff, reduceEqDiff, reduceShiftRight, reduceAnd, e0, hil]
      exact hq
theorem same_ok (hC : Links C) {k : Nat} (hk : 2 ≤ k) {HB H0 H : Hp} {n nb : Nat} {v lv iv : AV} {os cs : List AV} {res : List (List Nat)} {ins2 : List Nat} {ins : List Int} {adj : Nat → List Nat} (hn : n < 13) (hCR : CR HB H n lv iv os res ins2) (hRI : RI adj H0 n nb ins v cs res H) (hins : nats ins2 = ints ins) :
    Ok (C k (.f id_lwS) [.agg [lv, iv], v, .sl nb 0 n n true] H) fun r H' => r = .bool true ∧ Fm No H H' := by
  obtain ⟨j, rfl⟩ : ∃ j, k = j + 1 := ⟨k - 1, by omega⟩
  rw [(hC j).lwS]
  unfold lwS lwS_c
  have e1 := hCR.gl.lenV
  have e2 := hRI.ls.gl.lenV
  have hl1 := hCR.len
  have hl2 := hRI.ls.len
  have hc := hCR.cap
  have hoc : cs.length = os.length := by omega
  rw [hoc] at e2
  obtain ⟨z1, z2⟩ := hRI.len
  generalize hH1 : pushH H (mkBlk 0 [lv, iv]) = H1
  have f1 : Fm No H H1 := by rw [← hH1]; exact (Fm.refl _ _).push _
  have g1 : H1.get H.nx = mkBlk 0 [lv, iv] := by rw [← hH1, get_push_new]
  have hil := hRI.il
  have hw : Rl H1 (.sl nb 0 n n true) (nats ins2) := by
    rw [hins]
    exact Rl.fm (Gl.rl (n := n) ⟨by rw [ints_len, hil, Nat.mul_one], .inr ⟨nb, 0, true, 0, _, rfl, hRI.ng, Nat.zero_le _, List.drop_zero, Or.inl rfl, hRI.nbl.2⟩⟩) f1
  have hi2 : (nats ins2).length = n := by rw [hins, ints_len, hil]
  have e3 : C j (.f id_lwL) [iv, .int .i64 (.ofNat 0), .sl nb 0 n n true, .int .i64 (.ofNat 0)] H1 = .ok (.bool true) H1 := by
    obtain ⟨r, H', h1, rfl, rfl⟩ := list17_ok hC (k := j) (by omega) (hCR.gi.no f1).rl hw (nats_int ins2) (by omega) (by rw [hi2]; exact hCR.capi) (Int.ofNat 0)
    exact h1
  simp (disch := first | omega | exact ti rfl | (simp only [np, nq]; first | done | omega)) only [go_sem, reduceAdd, reduceMul, reduceSub, reduceLeDiff, reduceEqDiff, reduceShiftRight, reduceAnd, hH1, g1, e1, e2, hc, e3]
  unfold lwS_j20 lwS_L2
  rw [fuelX_eq]
  have hlv : ∀ o ∈ res, o.length < 900 := fun o ho => by
    have : o.length ≤ res.flatten.length := (List.sublist_flatten_of_mem ho).length_le
    omega
  refine same_loop hC (j := j) (by omega) g1 (hCR.gl.no f1) hl1 (by omega) (fun j' w o h1 h2 => ?_) (hRI.ls.no f1) ?_ loopFuel 0 (by rw [loopFuel_eq]; omega) (Nat.zero_le _)
  · obtain ⟨a1, a2, _⟩ := hCR.at' j' w o h1 h2
    exact ⟨a1.no f1, a2, hlv o (List.mem_of_getElem? h2)⟩
  · unfold lwS_j1
    exact Ok.ret ⟨rfl, f1⟩
/-- elements more, where there is room -/
theorem Gs.room {w n k : Nat} {H : Hp} {b o m : Nat} {e : Bool} {l x : List AV} (h : Gs 1 H (.sl b o n m e) n l) (hx : x.length = k) (hk : n + k ≤ m) :
    ∃ H', appendV 1 w H (.sl b o n m e) (some ⟨k, x⟩) = .ok (.sl b o (n + k) m e) H' ∧ Gs 1 H' (.sl b o (n + k) m e) (n + k) (l ++ x) ∧ Fm (fun c => c = b) H H' ∧ H'.nx = H.nx := by
  rcases h.is with ⟨h, _⟩ | ⟨b', o', m', e', q, L, hv, h0, h1, h2, h3, h4, h5⟩
  · cases h
  · cases hv
    have hln := h.len
    refine ⟨H.put b (mkBlk q (setL L (o + n * 1) x)), ?_, ⟨by rw [List.length_append, hln, hx]; omega, .inr ⟨b, o, m, e, q, _, rfl, hk, get_put_same _ _ _, ?_, ?_, h4, h5⟩⟩, (Fm.refl _ _).put b _ fun _ => rfl, rfl⟩
    · show (bif Nat.ble (n + k) m then storeAt H b (o + n * 1) x (.sl b o (n + k) m e) else _) = _
      rw [ble_eq, decide_eq_true hk]
      exact storeAt_mk _ _ _ _ _ _ _ h1 (by omega)
    · unfold setL
      simp only [List.length_append, List.length_take, List.length_drop]
      omega
    · unfold setL
      have ht : (L.take (o + n * 1)).length = o + n * 1 := by rw [List.length_take]; omega
      rw [List.append_assoc, List.drop_append_of_le_length (by omega), List.drop_take, show o + n * 1 - o = n * 1 by omega]
      have hl2 : ((L.drop o).take (n * 1)).length = n * 1 := by rw [h3]; exact hln
      rw [List.take_append, List.take_of_length_le (by omega), hl2, h3, show (n + k) * 1 - n * 1 = k by omega]
      congr 1
      rw [List.take_append_of_le_length (by omega), List.take_of_length_le (by omega)]
theorem srcGl {H : Hp} {v : AV} {n : Nat} {l : List AV} (h : Gl 1 H v n l) : srcOfC 1 H v = some ⟨n, l⟩ := by
  have hl := h.len
  rcases h.is with ⟨rfl, rfl⟩ | ⟨b, o, e, q, L, rfl, h1, h2, h3, h4, h5⟩
  · have : l = [] := List.length_eq_zero_iff.1 (by omega)
    rw [this]; rfl
  · have hd : o + n * 1 ≤ L.length := by rw [← h3, List.length_drop] at hl; omega
    rw [srcOfC_mk 1 H b o n n e q L h1 hd, h3, List.take_of_length_le (by omega)]
/-- the nodes of the first components -/
def flt (res : List (List Nat)) (i : Nat) : List Nat := (res.take i).flatten
theorem flt_succ (res : List (List Nat)) (i : Nat) (h : i < res.length) : flt res (i + 1) = flt res i ++ res[i] := by
  unfold flt
  rw [List.take_succ_eq_append_getElem h, List.flatten_append]
  simp
theorem flt_le (res : List (List Nat)) (i : Nat) : (flt res i).length ≤ res.flatten.length := by
  have : res.flatten = (res.take i).flatten ++ (res.drop i).flatten := by rw [← List.flatten_append, List.take_append_drop]
  unfold flt
  rw [this, List.length_append]; omega
theorem sum_loop {call : Ev.Call} {H : Hp} {lv : AV} {os : List AV} {res : List (List Nat)} (hos : Gl 1 H lv os.length os) (hlen : os.length = res.length) (hs : res.flatten.length < 900) (hol : os.length < 900)
    (hat : ∀ (j : Nat) (w : AV) (o : List Nat), os[j]? = some w → res[j]? = some o → Gl 1 H w o.length (nats o)) {q : AV → Hp → R1} {Q : AV → Hp → Prop} (hq : Ok (q (.int .i64 (.ofNat res.flatten.length)) H) Q) :
    ∀ (k i : Nat), os.length - i < k → i ≤ os.length → Ok (sCat_l13 call q lv (.int .i64 (.ofNat os.length)) k (.int .i64 (.ofNat (flt res i).length)) (.int .i64 (.ofNat i)) H) Q
  | 0, i, h, _ => by omega
  | k + 1, i, h, hi => by
    show Ok (sCat_b13 call _ _ _ (sCat_l13 call _ _ _ k) _ _ H) Q
    unfold sCat_b13
    by_cases hil : i < os.length
    · simp (disch := first | omega | exact ti rfl | (simp only [np, nq]; first | done | omega)) only [go_sem, reduceAdd, reduceMul, reduceSub, reduceLeDiff, reduceEqDiff, reduceShiftRight, reduceAnd, hil]
      unfold sCat_j23
      obtain ⟨b1, o1, e1, _, _, e2⟩ := hos.at (i := i) (x := os[i]) (by simp)
      have g1 := hat i os[i] (res[i]'(by omega)) (by simp) (by simp)
      have e3 := g1.lenV
      have hf := flt_succ res i (by omega)
      have hfl := flt_le res (i + 1)
      have hfe : (flt res (i + 1)).length = (flt res i).length + (res[i]'(by omega)).length := by rw [hf, List.length_append]
      have hnn : ¬ (Int.ofNat ((flt res i).length + (res[i]'(by omega)).length) < Int.ofNat 0) := by simp only [Int.ofNat_eq_natCast]; omega
      simp (disch := first | omega | exact ti rfl | (simp only [np, nq]; first | done | omega)) only [go_sem, reduceAdd, reduceMul, reduceSub, reduceLeDiff, reduceEqDiff, reduceShiftRight, reduceAnd, e1, e2, e3, hnn]
      unfold sCat_j16
      simp (disch := first | omega | exact ti rfl | (simp only [np, nq]; first | done | omega)) only [go_sem, reduceAdd, reduceMul, reduceSub, reduceLeDiff, reduceEqDiff, reduceShiftRight, reduceAnd]
      rw [← hfe]
      exact sum_loop hos hlen hs hol hat hq k (i + 1) (by omega) (by omega)
    · simp (disch := first | omega | exact ti rfl | (simp only [np, nq]; first | done | omega)) only [go_sem, reduceAdd, reduceMul, reduceSub, reduceLeDiff, reduceEqDiff, reduceShiftRight, reduceAnd, hil]
      have : i = os.length := by omega
      subst this
      have e : flt res os.length = res.flatten := by unfold flt; rw [hlen, List.take_length]
      rw [e]
      exact hq
end Go.Di
end

section
/-
  Contracts: the nodes, component by component.
-/
namespace Go.Di
open Go.Ev Go.Di.T Go.Sort
open Nat (reduceAdd reduceMul reduceSub reduceLeDiff reduceEqDiff reduceShiftRight reduceAnd)
variable {C : Nat → Ev.Call} {LA LO : LP}
theorem Gs.full {z n : Nat} {H : Hp} {b o : Nat} {e : Bool} {l : List AV} (h : Gs z H (.sl b o n n e) n l) : Gl z H (.sl b o n n e) n l := by
  refine ⟨h.len, ?_⟩
  rcases h.is with ⟨h, _⟩ | ⟨b', o', m', e', q, L, hv, h0, h1, h2, h3, h4, h5⟩
  · cases h
  · cases hv
    exact .inr ⟨b, o, e, q, L, rfl, h1, by omega, by rw [← h3, List.take_of_length_le (by rw [List.length_drop]; omega)], h4, h5⟩
theorem zeros_n (n : Nat) (h : n ≤ 1000) : zerosOf 8 [.int .i64 (.ofNat 0)] (.int .i64 (.ofNat n)) = some ⟨n, List.replicate n (.int .i64 (.ofNat 0))⟩ := by
  show (bif Nat.ble n bigB && Nat.ble (Nat.mul n 8) bigB then some (Src.mk n (reps [.int .i64 (.ofNat 0)] n)) else none) = _
  have h1 : Nat.ble n bigB = true := Nat.ble_eq_true_of_le (by unfold bigB; omega)
  have h2 : Nat.ble (Nat.mul n 8) bigB = true := Nat.ble_eq_true_of_le (by show n * 8 ≤ bigB; unfold bigB; omega)
  rw [h1, h2, reps_one]; rfl
theorem Grow_ok (hC : Links C) {k : Nat} (hk : 1 ≤ k) {t : Nat} (ht : 0 < t) (ht2 : t ≤ 1000) (H : Hp) :
    Ok (C k (.f id_sGrw) [.nilsl, .int .i64 (.ofNat t)] H) fun r H' => r = .sl H.nx 0 0 t false ∧ Gs 1 H' r 0 [] ∧ Fm No H H' ∧ H'.nx = H.nx + 1 := by
  obtain ⟨j, rfl⟩ : ∃ j, k = j + 1 := ⟨k - 1, by omega⟩
  rw [(hC j).sGrw]
  unfold sGrw sGrw_c
  have h0 : ¬ (Int.ofNat t < Int.ofNat 0) := by simp only [Int.ofNat_eq_natCast]; omega
  simp (disch := first | omega | exact ti rfl | (simp only [np, nq]; first | done | omega)) only [go_sem, reduceAdd, reduceMul, reduceSub, reduceLeDiff, reduceEqDiff, reduceShiftRight, reduceAnd, h0]
  unfold sGrw_j11
  have e1 : sliceSl 1 .nilsl none (some (.int .i64 (.ofNat 0))) none = .val .nilsl := rfl
  have e2 := zeros_n t ht2
  obtain ⟨H', a1, a2, a3, a4, a5⟩ := (Gl.nil 1 H).append (w := 8) (k := t) (x := List.replicate t (.int .i64 (.ofNat 0))) ht (by simp) (by omega) (by omega)
  rw [Nat.zero_add] at a1 a2
  have e3 := slice_to 1 H.nx 0 t t false (k := 0) (Nat.zero_le _) (Nat.le_refl _) ht
  simp (disch := first | omega | exact ti rfl | (simp only [np, nq]; first | done | omega)) only [go_sem, reduceAdd, reduceMul, reduceSub, reduceLeDiff, reduceEqDiff, reduceShiftRight, reduceAnd, ht, e1, e2, a1, e3, Nat.sub_zero]
  unfold sGrw_j0
  have g0 := (Gl.gs a2).cut (Nat.zero_le t)
  rw [Nat.zero_mul, List.take_zero] at g0
  exact Ok.ret ⟨rfl, g0, a4.mono fun b _ h => (by obtain ⟨_, _, _, _, g⟩ := h; cases g), a5⟩
theorem cat_loop {call : Ev.Call} {H1 : Hp} {lv : AV} {os : List AV} {res : List (List Nat)} {tb : Nat} (hos : Gl 1 H1 lv os.length os) (hlen : os.length = res.length) (hs : res.flatten.length < 900) (hol : os.length < 900) (htb : ∀ b, In lv b → b ≠ tb)
    (hat : ∀ (j : Nat) (w : AV) (o : List Nat), os[j]? = some w → res[j]? = some o → Gl 1 H1 w o.length (nats o) ∧ ∀ b, In w b → b ≠ tb) {q : AV → Hp → R1} {Q : AV → Hp → Prop}
    (hq : ∀ H, Gs 1 H (.sl tb 0 res.flatten.length res.flatten.length false) res.flatten.length (nats res.flatten) → Fm (fun b => b = tb) H1 H → Ok (q (.sl tb 0 res.flatten.length res.flatten.length false) H) Q) :
    ∀ (k i : Nat) (H : Hp), os.length - i < k → i ≤ os.length → Gs 1 H (.sl tb 0 (flt res i).length res.flatten.length false) (flt res i).length (nats (flt res i)) → Fm (fun b => b = tb) H1 H →
      Ok (sCat_l3 call q lv (.int .i64 (.ofNat os.length)) k (.sl tb 0 (flt res i).length res.flatten.length false) (.int .i64 (.ofNat i)) H) Q
  | 0, i, H, h, _, _, _ => by omega
  | k + 1, i, H, h, hi, hg, hF => by
    show Ok (sCat_b3 call _ _ _ (sCat_l3 call _ _ _ k) _ _ H) Q
    unfold sCat_b3
    by_cases hil : i < os.length
    · simp (disch := first | omega | exact ti rfl | (simp only [np, nq]; first | done | omega)) only [go_sem, reduceAdd, reduceMul, reduceSub, reduceLeDiff, reduceEqDiff, reduceShiftRight, reduceAnd, hil]
      unfold sCat_j10
      have hos' : Gl 1 H lv os.length os := hos.fm hF fun b hb => htb b hb
      obtain ⟨b1, o1, e1, _, _, e2⟩ := hos'.at (i := i) (x := os[i]) (by simp)
      obtain ⟨g1, g2⟩ := hat i os[i] (res[i]'(by omega)) (by simp) (by simp)
      have g1' : Gl 1 H os[i] (res[i]'(by omega)).length (nats (res[i]'(by omega))) := g1.fm hF fun b hb => g2 b hb
      have e3 := srcGl g1'
      have hf := flt_succ res i (by omega)
      have hfl := flt_le res (i + 1)
      have hfe : (flt res (i + 1)).length = (flt res i).length + (res[i]'(by omega)).length := by rw [hf, List.length_append]
      obtain ⟨H', a1, a2, a3, a4⟩ := hg.room (w := 8) (x := nats (res[i]'(by omega))) (natsLen _) (by omega)
      simp (disch := first | omega | exact ti rfl | (simp only [np, nq]; first | done | omega)) only [go_sem, reduceAdd, reduceMul, reduceSub, reduceLeDiff, reduceEqDiff, reduceShiftRight, reduceAnd, e1, e2, e3, a1]
      unfold sCat_j6
      simp (disch := first | omega | exact ti rfl | (simp only [np, nq]; first | done | omega)) only [go_sem, reduceAdd, reduceMul, reduceSub, reduceLeDiff, reduceEqDiff, reduceShiftRight, reduceAnd]
      have e9 : nats (flt res i) ++ nats (res[i]'(by omega)) = nats (flt res (i + 1)) := by rw [hf]; simp [nats]
      rw [e9, ← hfe] at a2
      rw [← hfe]
      exact cat_loop hos hlen hs hol htb hat hq k (i + 1) H' (by omega) (by omega) a2 (hF.trans a3)
    · simp (disch := first | omega | exact ti rfl | (simp only [np, nq]; first | done | omega)) only [go_sem, reduceAdd, reduceMul, reduceSub, reduceLeDiff, reduceEqDiff, reduceShiftRight, reduceAnd, hil]
      have : i = os.length := by omega
      subst this
      have e : flt res os.length = res.flatten := by unfold flt; rw [hlen, List.take_length]
      rw [e] at hg ⊢
      exact hq H hg hF
theorem Concat_ok (hC : Links C) {k : Nat} (hk : 2 ≤ k) {H : Hp} {lv : AV} {os : List AV} {res : List (List Nat)} (hos : Gl 1 H lv os.length os) (hlen : os.length = res.length) (hs : res.flatten.length < 900) (hol : os.length < 900) (hne : ∀ o ∈ res, o ≠ [])
    (hat : ∀ (j : Nat) (w : AV) (o : List Nat), os[j]? = some w → res[j]? = some o → Gl 1 H w o.length (nats o)) :
    Ok (C k (.f id_sCat) [lv] H) fun r H' => Gl 1 H' r res.flatten.length (nats res.flatten) ∧ Fm No H H' := by
  obtain ⟨j, rfl⟩ : ∃ j, k = j + 1 := ⟨k - 1, by omega⟩
  rw [(hC j).sCat]
  unfold sCat sCat_c
  have e1 := hos.lenV
  simp (disch := first | omega | exact ti rfl | (simp only [np, nq]; first | done | omega)) only [go_sem, reduceAdd, reduceMul, reduceSub, reduceLeDiff, reduceEqDiff, reduceShiftRight, reduceAnd, e1]
  unfold sCat_L13
  rw [fuelX_eq]
  refine sum_loop hos hlen hs hol hat ?_ loopFuel 0 (by rw [loopFuel_eq]; omega) (Nat.zero_le _)
  unfold sCat_j11
  by_cases h0 : res.flatten.length = 0
  · have hres : res = [] := by
      cases res with
      | nil => rfl
      | cons c r =>
        have := List.length_pos_iff.2 (hne c List.mem_cons_self)
        rw [List.flatten_cons, List.length_append] at h0
        omega
    subst hres
    have h00 : os.length = 0 := hlen
    have eg : C j (.f id_sGrw) [.nilsl, .int .i64 (.ofNat 0)] H = .ok .nilsl H := by
      obtain ⟨i, rfl⟩ : ∃ i, j = i + 1 := ⟨j - 1, by omega⟩
      rw [(hC i).sGrw]
      unfold sGrw sGrw_c
      simp (disch := first | omega | exact ti rfl | (simp only [np, nq]; first | done | omega)) only [go_sem, reduceAdd, reduceMul, reduceSub, reduceLeDiff, reduceEqDiff, reduceShiftRight, reduceAnd]
      unfold sGrw_j11
      simp (disch := first | omega | exact ti rfl | (simp only [np, nq]; first | done | omega)) only [go_sem, reduceAdd, reduceMul, reduceSub, reduceLeDiff, reduceEqDiff, reduceShiftRight, reduceAnd]
      unfold sGrw_j0
      rfl
    have e0 : (([] : List (List Nat)).flatten).length = 0 := rfl
    rw [h00] at e1
    simp (disch := first | omega | exact ti rfl | (simp only [np, nq]; first | done | omega)) only [go_sem, reduceAdd, reduceMul, reduceSub, reduceLeDiff, reduceEqDiff, reduceShiftRight, reduceAnd, e0, eg, e1]
    unfold sCat_L3
    rw [fuelX_eq]
    show Ok (sCat_b3 (C j) _ _ _ (sCat_l3 (C j) _ _ _ 999999) _ _ H) _
    unfold sCat_b3
    simp (disch := first | omega | exact ti rfl | (simp only [np, nq]; first | done | omega)) only [go_sem, reduceAdd, reduceMul, reduceSub, reduceLeDiff, reduceEqDiff, reduceShiftRight, reduceAnd]
    unfold sCat_j1
    exact Ok.ret ⟨Gl.nil _ _, Fm.refl _ _⟩
  · refine Ok.ve (Grow_ok hC (k := j) (by omega) (by omega) (by omega) H) ?_
    rintro r H1 ⟨rfl, g1, f1, n1⟩
    simp (disch := first | omega | exact ti rfl | (simp only [np, nq]; first | done | omega)) only [go_sem, reduceAdd, reduceMul, reduceSub, reduceLeDiff, reduceEqDiff, reduceShiftRight, reduceAnd, e1]
    unfold sCat_L3
    rw [fuelX_eq]
    refine cat_loop (H1 := H1) (tb := H.nx) (hos.no f1) hlen hs hol (fun b hb => by have := hos.lt hb; omega) (fun j w o h1 h2 => ?_) (fun H2 g2 f2 => ?_) loopFuel 0 H1 (by rw [loopFuel_eq]; omega) (Nat.zero_le _) g1 (Fm.refl _ _)
    · have := hat j w o h1 h2
      exact ⟨this.no f1, fun b hb => by have := this.lt hb; omega⟩
    · unfold sCat_j1
      exact Ok.ret ⟨g2.full, f1.then f2 fun c hc h => by omega⟩
/-- all nodes, component by component -/
theorem Order_ok (hC : Links C) (hO : LinksO C) (hS : LinksS C) (hR : LinksR LA LO C) {k : Nat} (hk : 922 ≤ k) {n : Nat} {es : List Edge} (hE : EdgesOk n es) (hn : n ≤ 12) (hlen : es.length < 200000) {gv : AV} {H : Hp} (hg : IsE H gv es) :
    Ok (C k (.f id_cOrd) [.agg [.int .i64 (.ofNat n), gv]] H) fun r H' => ∃ w res, r = .tup [w, .int .i64 (.ofNat 0)] ∧ OrdF n (adjOf es) [] res ∧ res.flatten.length = n ∧ Gl 1 H' w res.flatten.length (nats res.flatten) ∧ capV w = .val (.int .i64 (.ofNat res.flatten.length)) ∧ Fm No H H' := by
  obtain ⟨j, rfl⟩ : ∃ j, k = j + 1 := ⟨k - 1, by omega⟩
  rw [(hC j).cOrd]
  unfold cOrd cOrd_c
  simp (disch := first | omega | exact ti rfl | (simp only [np, nq]; first | done | omega)) only [go_sem, reduceAdd, reduceMul, reduceSub, reduceLeDiff, reduceEqDiff, reduceShiftRight, reduceAnd]
  have f0 : Fm No H (pushH H (mkBlk 0 [.int .i64 (.ofNat n), gv])) := (Fm.refl _ _).push _
  refine Ok.ve (Of_ok hC hO hS hR (k := j) (by omega) hE hn hlen (hg.fm f0)) ?_
  rintro r H1 ⟨lv, iv, os, ins2, out, ins, res, rfl, hOrd, hCR, f1⟩
  have ford := hOrd.ord hE.rng
  obtain ⟨z1, z2, z3, z4, z5⟩ := ford.all
  have hcl := hCR.len
  have hrl : res.length ≤ res.flatten.length := by
    have hle : ∀ (o : List (List Nat)), (∀ c ∈ o, c ≠ []) → o.length ≤ o.flatten.length := fun o => by
      induction o with
      | nil => intro _; exact Nat.le_refl _
      | cons c o ih =>
        intro h
        have h1 := ih fun c hc => h c (List.mem_cons_of_mem _ hc)
        have h2 : 0 < c.length := List.length_pos_iff.2 (h c List.mem_cons_self)
        rw [List.flatten_cons, List.length_append, List.length_cons]; omega
    exact hle res z4
  have ivsl : (iv = .nilsl) ∨ ∃ b o n m e, iv = .sl b o n m e := by
    rcases hCR.gi.is with ⟨h, _⟩ | ⟨b, o, e, q, L, h, _⟩
    · exact Or.inl h
    · exact Or.inr ⟨_, _, _, _, _, h⟩
  have es3 : ∀ x y : AV, setL [AV.nilsl, AV.nilsl] 0 [x, y] = [x, y] := fun _ _ => rfl
  simp (disch := first | omega | exact ti rfl | (simp only [np, nq]; first | done | omega)) only [go_sem, reduceAdd, reduceMul, reduceSub, reduceLeDiff, reduceEqDiff, reduceShiftRight, reduceAnd, es3, List.length_cons, List.length_nil]
  generalize hH2 : (pushH H1 (mkBlk 0 [AV.nilsl, AV.nilsl])).put H1.nx (mkBlk 0 [lv, iv]) = H2
  have f2 : Fm No H1 H2 := by rw [← hH2]; exact ((Fm.refl _ _).push _).put_new _ _ (Nat.le_refl _)
  have g2 : H2.get H1.nx = mkBlk 0 [lv, iv] := by rw [← hH2, get_put_same]
  unfold cOrd_j11
  simp (disch := first | omega | exact ti rfl | (simp only [np, nq]; first | done | omega)) only [go_sem, reduceAdd, reduceMul, reduceSub, reduceLeDiff, reduceEqDiff, reduceShiftRight, reduceAnd, g2]
  refine Ok.ve (Concat_ok hC (k := j) (by omega) (hCR.gl.no f2) hcl (by omega) (by omega) z4 fun j w o h1 h2 => (hCR.at' j w o h1 h2).1.no f2) ?_
  rintro r H3 ⟨g3, f3⟩
  obtain ⟨w, w1, w2, w3, _⟩ := Clip_ok hC (k := j) (by omega) g3
  simp (disch := first | omega | exact ti rfl | (simp only [np, nq]; first | done | omega)) only [go_sem, reduceAdd, reduceMul, reduceSub, reduceLeDiff, reduceEqDiff, reduceShiftRight, reduceAnd, w1]
  exact Ok.ret ⟨w, res, rfl, ford, z5, w2, w3, ((f0.trans f1).trans f2).trans f3⟩
end Go.Di
end

section
/-
  The law CompsOf.
-/
namespace Go.Di
open Go.Ev Go.Di.T Go.Sort
open Nat (reduceAdd reduceMul reduceSub reduceLeDiff reduceEqDiff reduceShiftRight reduceAnd)
variable {C : Nat → Ev.Call} {LA LO : LP}
theorem ecell_get : ∀ (es : List Edge) (i j : Nat) (h : i < es.length), j < 3 → (ecells es).getD (i * 3 + j) .undef = es[i].cells.getD j .undef
  | x :: l, 0, j, _, hj => by
    show (x.cells ++ ecells l).getD (0 * 3 + j) .undef = _
    rw [Nat.zero_mul, Nat.zero_add, List.getD_eq_getElem?_getD, List.getElem?_append_left (by simp [Edge.cells]; omega)]
    simp [List.getD_eq_getElem?_getD]
  | x :: l, i + 1, j, h, hj => by
    show (x.cells ++ ecells l).getD ((i + 1) * 3 + j) .undef = _
    rw [List.getD_eq_getElem?_getD, List.getElem?_append_right (by simp [Edge.cells]; omega), show (i + 1) * 3 + j - x.cells.length = i * 3 + j by simp [Edge.cells]; omega]
    have := ecell_get l i j (by simpa using h) hj
    rw [List.getD_eq_getElem?_getD] at this
    simpa using this
theorem E_at {H : Hp} {v : AV} {es : List Edge} (h : IsE H v es) {i : Nat} (hi : i < es.length) :
    ∃ b o, idxS 3 v (.int .i64 (.ofNat i)) = .val (.ptr b o) ∧ rdBlk1 (H.get b) o = .val (.int .i64 (.ofNat es[i].f)) ∧ rdBlk1 (H.get b) (o + 1) = .val (.int .i64 (.ofNat es[i].t)) := by
  obtain ⟨b, o, e1, e2, e3, _, e4⟩ := Gl.atN h hi
  refine ⟨b, o, e1, ?_, ?_⟩
  · have := e4 0 (by omega); rw [ecell_get _ _ _ hi (by omega)] at this; exact this
  · have := e4 1 (by omega); rw [ecell_get _ _ _ hi (by omega)] at this; exact this
/-- no edge leads to a later component: the law's loop -/
theorem law_edges {call : Ev.Call} {H : Hp} {g nb n : Nat} {w : AV} {es : List Edge} {ins : List Int} (hg : H.get g = mkBlk 0 [.int .i64 (.ofNat n), w]) (hw : IsE H w es) (hlen : es.length < 900000) (hin : ins.length = n) (hnb : H.get nb = mkBlk 0 (ints ins)) (hE : ∀ e ∈ es, e.f < n ∧ e.t < n ∧ ins.getD e.t 0 ≤ ins.getD e.f 0)
    {q1 : AV → Hp → R1} {q2 : Hp → R1} {Q : AV → Hp → Prop} (hq : Ok (q2 H) Q) :
    ∀ (k i : Nat), es.length - i < k → i ≤ es.length → Ok (lwC_l43 call q1 q2 (.ptr g 0) (.sl nb 0 n n true) k (.int .i64 (.ofNat i)) H) Q
  | 0, i, h, _ => by omega
  | k + 1, i, h, hi => by
    show Ok (lwC_b43 call _ _ _ _ (lwC_l43 call _ _ _ _ k) _ H) Q
    unfold lwC_b43
    have e0 := hw.len
    by_cases hil : i < es.length
    · simp (disch := first | omega | exact ti rfl | (simp only [np, nq]; first | done | omega)) only [go_sem, reduceAdd, reduceMul, reduceSub, reduceLeDiff, reduceEqDiff, reduceShiftRight, reduceAnd, hg, e0, hil]
      unfold lwC_j61
      obtain ⟨b, o, e1, e2, e3⟩ := E_at hw hil
      obtain ⟨k1, k2, k3⟩ := hE es[i] (List.getElem_mem _)
      have gi : ∀ x, x < n → (ints ins)[x]? = some (.int .i64 (ins.getD x 0)) := fun x hx => by
        rw [ints_get ins x (by omega), List.getD_eq_getElem?_getD, List.getElem?_eq_getElem (by omega)]; rfl
      have g1 := gi _ k1
      have g2 := gi _ k2
      have hnl : ¬ ins.getD es[i].f 0 < ins.getD es[i].t 0 := by omega
      simp (disch := first | omega | exact ti rfl | (simp only [np, nq]; first | done | omega)) only [go_sem, reduceAdd, reduceMul, reduceSub, reduceLeDiff, reduceEqDiff, reduceShiftRight, reduceAnd, hg, e1, e2, e3, hnb, g1, g2, hnl, Nat.mul_one, Nat.zero_add, Nat.add_zero]
      unfold lwC_j45
      simp (disch := first | omega | exact ti rfl | (simp only [np, nq]; first | done | omega)) only [go_sem, reduceAdd, reduceMul, reduceSub, reduceLeDiff, reduceEqDiff, reduceShiftRight, reduceAnd]
      exact law_edges hg hw hlen hin hnb hE hq k (i + 1) (by omega) (by omega)
    · simp (disch := first | omega | exact ti rfl | (simp only [np, nq]; first | done | omega)) only [go_sem, reduceAdd, reduceMul, reduceSub, reduceLeDiff, reduceEqDiff, reduceShiftRight, reduceAnd, hg, e0, hil]
      exact hq
/-- all nodes, by the law itself -/
theorem law_all {call : Ev.Call} {H0 H1 : Hp} {v : AV} {cs : List AV} {res : List (List Nat)} (hL : LsOk H0 H1 v cs res) (hs : res.flatten.length < 900) (hcl : cs.length < 900) (hne : ∀ o ∈ res, o ≠ []) {q : AV → Hp → R1} {Q : AV → Hp → Prop} (hq : ∀ w H, Gl 1 H w res.flatten.length (nats res.flatten) → Fm No H1 H → Ok (q w H) Q) :
    ∀ (k i : Nat) (w : AV) (H : Hp), cs.length - i < k → i ≤ cs.length → Gl 1 H w (flt res i).length (nats (flt res i)) → (∀ b, In w b → H1.nx ≤ b) → Fm No H1 H →
      Ok (lwC_l33 call q v k w (.int .i64 (.ofNat i)) H) Q
  | 0, i, w, H, h, _, _, _, _ => by omega
  | k + 1, i, w, H, h, hi, hg, hnew, hF => by
    show Ok (lwC_b33 call _ _ (lwC_l33 call _ _ k) _ _ H) Q
    unfold lwC_b33
    have hlen := hL.len
    have hL' := hL.no hF
    have e0 := hL'.gl.lenV
    by_cases hil : i < cs.length
    · simp (disch := first | omega | exact ti rfl | (simp only [np, nq]; first | done | omega)) only [go_sem, reduceAdd, reduceMul, reduceSub, reduceLeDiff, reduceEqDiff, reduceShiftRight, reduceAnd, e0, hil]
      unfold lwC_j39
      obtain ⟨b1, o1, e1, _, _, e2⟩ := hL'.gl.at (i := i) (x := cs[i]) (by simp)
      obtain ⟨_, g1, _⟩ := hL'.at' i cs[i] (res[i]'(by omega)) (by simp) (by simp)
      have e3 := srcGl g1
      have hf := flt_succ res i (by omega)
      have hfl := flt_le res (i + 1)
      have hfe : (flt res (i + 1)).length = (flt res i).length + (res[i]'(by omega)).length := by rw [hf, List.length_append]
      have hp : 0 < (res[i]'(by omega)).length := List.length_pos_iff.2 (hne _ (List.getElem_mem _))
      obtain ⟨H', a1, a2, a3, a4, a5⟩ := hg.append (w := 8) (k := (res[i]'(by omega)).length) (x := nats (res[i]'(by omega))) hp (by rw [natsLen, Nat.mul_one]) (by omega) (by omega)
      simp (disch := first | omega | exact ti rfl | (simp only [np, nq]; first | done | omega)) only [go_sem, reduceAdd, reduceMul, reduceSub, reduceLeDiff, reduceEqDiff, reduceShiftRight, reduceAnd, e1, e2, e3, a1]
      unfold lwC_j35
      simp (disch := first | omega | exact ti rfl | (simp only [np, nq]; first | done | omega)) only [go_sem, reduceAdd, reduceMul, reduceSub, reduceLeDiff, reduceEqDiff, reduceShiftRight, reduceAnd]
      have e9 : nats (flt res i) ++ nats (res[i]'(by omega)) = nats (flt res (i + 1)) := by rw [hf]; simp [nats]
      rw [e9, ← hfe] at a2
      rw [← hfe]
      have hn1 := hF.nx
      refine law_all hL hs hcl hne hq k (i + 1) _ H' (by omega) (by omega) a2 (fun b hb => ?_) (hF.then a4 fun c hc h => by have := hnew c h; omega)
      obtain ⟨_, _, _, _, h⟩ := hb
      cases h
      omega
    · simp (disch := first | omega | exact ti rfl | (simp only [np, nq]; first | done | omega)) only [go_sem, reduceAdd, reduceMul, reduceSub, reduceLeDiff, reduceEqDiff, reduceShiftRight, reduceAnd, e0, hil]
      have : i = cs.length := by omega
      subst this
      have e : flt res cs.length = res.flatten := by unfold flt; rw [hlen, List.take_length]
      rw [e] at hg
      exact hq w H hg hF
theorem CR.no {HB H H' : Hp} {n : Nat} {lv iv : AV} {os : List AV} {res : List (List Nat)} {ins : List Nat} (h : CR HB H n lv iv os res ins) (ff : Fm No H H') : CR HB H' n lv iv os res ins :=
  ⟨h.gl.no ff, h.cap, h.len, fun j w o h1 h2 => by
    obtain ⟨a1, a2, a3⟩ := h.at' j w o h1 h2
    exact ⟨a1.no ff, a2, a3⟩, h.gi.no ff, h.capi, h.ins, h.new⟩
theorem CompsOf_ok (hC : Links C) (hO : LinksO C) (hS : LinksS C) (hR : LinksR LA LO C) {k : Nat} (hk : 1000 ≤ k) (hlive : ∀ k H, 1 ≤ k → C k (.f id_law17_lives) [] H = .ok (.bool true) H) {call : Ev.Call} (hcall : call = C k) {N cnt : Nat} {v : AV} {H : Hp} (hv : Arg3 H v cnt) :
    Ok (lwC call (.agg [.int .u8 (.ofNat N), v]) H) fun r _ => r = .bool true := by
  subst hcall
  unfold lwC lwC_c
  have fH : Fm No H (pushH H (mkBlk 0 [.int .u8 (.ofNat N), v])) := by (repeat (first | exact Fm.refl _ _ | assumption | refine Fm.push ?_ _ | refine Fm.up2 ?_ (by (first | omega | (simp only [np, nq]; omega))) | refine Fm.put_new ?_ _ _ (by (first | omega | (simp only [np, nq]; omega)))))
  simp (disch := first | omega | exact ti rfl | (simp only [np, nq]; first | done | omega)) only [go_sem, reduceAdd, reduceMul, reduceSub, reduceLeDiff, reduceEqDiff, reduceShiftRight, reduceAnd]
  refine Ok.ve (H_Matrix_ok hC (by omega) (hv.fm fH)) ?_
  rintro r H1 ⟨mb, ms, hM, hmb, f1⟩
  generalize hn : N % 13 = n at *
  have hn13 : n < 13 := by omega
  have hr := hM.hv
  subst hr
  simp (disch := first | omega | exact ti rfl | (simp only [np, nq]; first | done | omega)) only [go_sem, reduceAdd, reduceMul, reduceSub, reduceLeDiff, reduceEqDiff, reduceShiftRight, reduceAnd]
  have fa : Fm No H1 ((pushH H1 (mkBlk 0 [.int .i64 (.ofNat 0), .nilsl])).put H1.nx (mkBlk 0 [.int .i64 (.ofNat n), .sl mb 0 (n * n) (n * n) true])) := by (repeat (first | exact Fm.refl _ _ | assumption | refine Fm.push ?_ _ | refine Fm.up2 ?_ (by (first | omega | (simp only [np, nq]; omega))) | refine Fm.put_new ?_ _ _ (by (first | omega | (simp only [np, nq]; omega)))))
  refine Ok.ve (Graph_ok hC (by omega) (hM.fm fa)) ?_
  rintro r H2 ⟨w, rfl, hG, f2, hw⟩
  simp (disch := first | omega | exact ti rfl | (simp only [np, nq]; first | done | omega)) only [go_sem, reduceAdd, reduceMul, reduceSub, reduceLeDiff, reduceEqDiff, reduceShiftRight, reduceAnd]
  have n2 : H1.nx + 1 ≤ H2.nx := f2.nx
  have m2 : H2.get H1.nx = mkBlk 0 [.int .i64 (.ofNat n), .sl mb 0 (n * n) (n * n) true] := (f2.keep (by (first | omega | (simp only [np, nq]; omega)))).trans (get_put_same _ _ _)
  have fb : Fm No H2 ((pushH H2 (mkBlk 0 [.int .i64 (.ofNat 0), .nilsl])).put H2.nx (mkBlk 0 [.int .i64 (.ofNat n), w])) := by (repeat (first | exact Fm.refl _ _ | assumption | refine Fm.push ?_ _ | refine Fm.up2 ?_ (by (first | omega | (simp only [np, nq]; omega))) | refine Fm.put_new ?_ _ _ (by (first | omega | (simp only [np, nq]; omega)))))
  have hE := edges_ok n ms
  have hlen := edges_len ms hn13
  refine Ok.ve (Of_ok hC hO hS hR (k := k) (by omega) hE (by omega) (by omega) (Gl.no hG fb)) ?_
  rintro r H3 ⟨lv, iv, os, ins2, out, ins, res, rfl, hOrd, hCR, f3⟩
  have hF1 := hOrd.ord hE.rng
  have n3 : H2.nx + 1 ≤ H3.nx := f3.nx
  have m3 : H3.get H1.nx = mkBlk 0 [.int .i64 (.ofNat n), .sl mb 0 (n * n) (n * n) true] := ((fb.trans f3).keep (by omega)).trans m2
  have g3 : H3.get H2.nx = mkBlk 0 [.int .i64 (.ofNat n), w] := (f3.keep (by (first | omega | (simp only [np, nq]; omega)))).trans (get_put_same _ _ _)
  have es3 : ∀ x y : AV, setL [AV.nilsl, AV.nilsl] 0 [x, y] = [x, y] := fun _ _ => rfl
  have fc : Fm No H3 ((pushH H3 (mkBlk 0 [.nilsl, .nilsl])).put H3.nx (mkBlk 0 [lv, iv])) := by (repeat (first | exact Fm.refl _ _ | assumption | refine Fm.push ?_ _ | refine Fm.up2 ?_ (by (first | omega | (simp only [np, nq]; omega))) | refine Fm.put_new ?_ _ _ (by (first | omega | (simp only [np, nq]; omega)))))
  simp (disch := first | omega | exact ti rfl | (simp only [np, nq]; first | done | omega)) only [go_sem, reduceAdd, reduceMul, reduceSub, reduceLeDiff, reduceEqDiff, reduceShiftRight, reduceAnd, m3, es3, List.length_cons, List.length_nil]
  have f13 : Fm No H1 H3 := ((fa.trans f2).trans fb).trans f3
  refine Ok.ve (refOf_ok hC (k := k) (by omega) ((hM.fm f13).fm fc) hn13) ?_
  rintro r H4 ⟨lr, nb, insR, cs, res', HR, rfl, fR, hRI, hF2, _⟩
  have hrr : res' = res := (hF1.uniq hF2).symm
  subst hrr
  obtain ⟨z1, z2, z3, z4, z5⟩ := hF2.all
  have f4' : Fm No ((pushH H3 (mkBlk 0 [.nilsl, .nilsl])).put H3.nx (mkBlk 0 [lv, iv])) H4 := fR.trans hRI.fm
  have n4 : H3.nx + 1 ≤ H4.nx := f4'.nx
  have m4 : H4.get H1.nx = mkBlk 0 [.int .i64 (.ofNat n), .sl mb 0 (n * n) (n * n) true] := ((fc.trans f4').keep (by omega)).trans m3
  have g4 : H4.get H2.nx = mkBlk 0 [.int .i64 (.ofNat n), w] := ((fc.trans f4').keep (by omega)).trans g3
  have c4 : H4.get H3.nx = mkBlk 0 [lv, iv] := (f4'.keep (by (first | omega | (simp only [np, nq]; omega)))).trans (get_put_same _ _ _)
  have hil2 : ins2.length = n := by have := hCR.gi.len; rw [natsLen] at this; omega
  have hins : nats ins2 = ints insR := by
    have h1 : ins2.map Int.ofNat = insR := by
      apply List.ext_getElem
      · rw [List.length_map, hil2, hRI.il]
      · intro x hx1 hx2
        rw [List.length_map] at hx1
        obtain ⟨o, ho, hxo⟩ := List.mem_flatten.1 (z3 x (by omega))
        obtain ⟨j, hj⟩ := List.mem_iff_getElem?.1 ho
        have a1 := hCR.ins j o x hj hxo
        have a2 := hRI.iv j o x hj hxo
        rw [List.getElem?_eq_getElem hx1] at a1
        rw [List.getD_eq_getElem?_getD, List.getElem?_eq_getElem hx2] at a2
        rw [List.getElem_map, Option.some.inj a1]
        exact a2.symm
    rw [← h1, ints_nats]
  have hCR4 := hCR.no (fc.trans f4')
  simp (disch := first | omega | exact ti rfl | (simp only [np, nq]; first | done | omega)) only [go_sem, reduceAdd, reduceMul, reduceSub, reduceLeDiff, reduceEqDiff, reduceShiftRight, reduceAnd, c4]
  refine Ok.ve (same_ok hC (k := k) (by omega) hn13 hCR4 hRI hins) ?_
  rintro r H5 ⟨rfl, f5⟩
  simp (disch := first | omega | exact ti rfl | (simp only [np, nq]; first | done | omega)) only [go_sem, reduceAdd, reduceMul, reduceSub, reduceLeDiff, reduceEqDiff, reduceShiftRight, reduceAnd]
  unfold lwC_j66 lwC_L43
  rw [fuelX_eq]
  have f25 : Fm No H2 H5 := (((fb.trans f3).trans fc).trans f4').trans f5
  have hG5 : IsE H5 w (edgesOf n ms) := Gl.no hG f25
  have m5 : H5.get H1.nx = mkBlk 0 [.int .i64 (.ofNat n), .sl mb 0 (n * n) (n * n) true] := (f5.keep (by omega)).trans m4
  have g5 : H5.get H2.nx = mkBlk 0 [.int .i64 (.ofNat n), w] := (f5.keep (by omega)).trans g4
  have hng5 : H5.get nb = mkBlk 0 (ints insR) := (f5.keep hRI.nbl.2).trans hRI.ng
  have hLs5 := hRI.ls.no f5
  obtain ⟨y1, y2⟩ := hRI.len
  have hcl := hRI.ls.len
  refine law_edges g5 hG5 (by omega) hRI.il hng5 (fun e he => ?_) ?_ loopFuel 0 (by rw [loopFuel_eq]; omega) (Nat.zero_le _)
  · obtain ⟨q1, q2⟩ := hE.rng e he
    refine ⟨q1, q2, ?_⟩
    obtain ⟨o, ho, hxo⟩ := List.mem_flatten.1 (z3 e.f q1)
    obtain ⟨j, hj⟩ := List.mem_iff_getElem?.1 ho
    rcases ordF_edge hF2 hj hxo q2 (adjOf_mem.2 ⟨e, he, rfl, rfl⟩) with h | ⟨j', o', h1, h2, h3⟩
    · simp at h
    · rw [hRI.iv j o e.f hj hxo, hRI.iv j' o' e.t h2 h3]
      simp only [Int.ofNat_eq_natCast]
      omega
  · unfold lwC_j42 lwC_L33
    rw [fuelX_eq]
    refine law_all hLs5 (by omega) (by omega) z4 (fun wa H6 a1 f6 => ?_) loopFuel 0 .nilsl H5 (by rw [loopFuel_eq]; omega) (Nat.zero_le _) (Gl.nil _ _) (fun b hb => by obtain ⟨_, _, _, _, h⟩ := hb; cases h) (Fm.refl _ _)
    unfold lwC_j32
    have g6 : H6.get H2.nx = mkBlk 0 [.int .i64 (.ofNat n), w] := (f6.keep (by have := f5.nx; omega)).trans g5
    have m6 : H6.get H1.nx = mkBlk 0 [.int .i64 (.ofNat n), .sl mb 0 (n * n) (n * n) true] := (f6.keep (by have := f5.nx; omega)).trans m5
    simp (disch := first | omega | exact ti rfl | (simp only [np, nq]; first | done | omega)) only [go_sem, reduceAdd, reduceMul, reduceSub, reduceLeDiff, reduceEqDiff, reduceShiftRight, reduceAnd, g6]
    refine Ok.ve (Order_ok hC hO hS hR (k := k) (by omega) hE (by omega) (by omega) (Gl.no hG5 f6)) ?_
    rintro r H7 ⟨wo, res2, rfl, hF3, z6, b1, b2, f7⟩
    have hr2 : res2 = res' := hF3.uniq hF2
    subst hr2
    simp (disch := first | omega | exact ti rfl | (simp only [np, nq]; first | done | omega)) only [go_sem, reduceAdd, reduceMul, reduceSub, reduceLeDiff, reduceEqDiff, reduceShiftRight, reduceAnd]
    have b3 : Rl H7 wo (nats res2.flatten) := b1.rl
    have b4 : Rl H7 wa (nats res2.flatten) := (a1.no f7).rl
    refine Ok.ve (list17_ok hC (k := k) (by omega) b3 b4 (nats_int _) (by rw [natsLen]; omega) (by rw [natsLen]; exact b2) 0) ?_
    rintro r H8 ⟨rfl, rfl⟩
    have m7 : H8.get H1.nx = mkBlk 0 [.int .i64 (.ofNat n), .sl mb 0 (n * n) (n * n) true] := (f7.keep (by have := f5.nx; have := f6.nx; omega)).trans m6
    have a2 := a1.lenV
    rw [z5] at a2
    have hlv := hlive k H8 (by omega)
    simp (disch := first | omega | exact ti rfl | (simp only [np, nq]; first | done | omega)) only [go_sem, reduceAdd, reduceMul, reduceSub, reduceLeDiff, reduceEqDiff, reduceShiftRight, reduceAnd, m7, a2, hlv]
    exact Ok.ret rfl
end Go.Di
end
