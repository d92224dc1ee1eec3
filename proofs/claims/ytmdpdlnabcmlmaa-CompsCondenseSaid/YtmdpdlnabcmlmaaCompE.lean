/-
  For countersignlaw17.CompsCondense: the reference. No conditions beyond those that each theorem states.
-/
import Derived.Test.YtmdpdlnabcmlmaaCompD
import Derived.Test.YtmdpdlnabcmlmaaGraF
set_option linter.unusedSimpArgs false
set_option linter.unusedVariables false
section
/-
  Contracts: the reference's components; whether a node fits, and its component.
-/
namespace Go.Di
open Go.Ev Go.Di.T Go.Sort
open Nat (reduceAdd reduceMul reduceSub reduceLeDiff reduceEqDiff reduceShiftRight reduceAnd)
variable {C : Nat → Ev.Call}
def dG (n : Nat) (d : List Int) (i k : Nat) : Int := d.getD (i * n + k) 0
theorem zbp {H : Hp} {dv : AV} {n : Nat} {d : List Int} (hd : Rl H dv (ints d)) (hl : d.length = n * n) {i k : Nat} (hi : i < n) (hk : k < n) : ∃ b o, idxS 1 dv (.int .i64 (.ofNat (i * n + k))) = .val (.ptr b o) ∧ b < H.nx ∧ qcf (H.get b) o = .val (.int .i64 (dG n d i k)) := by
  have hix : i * n + k < d.length := by rw [hl]; exact qem hi hk
  obtain ⟨b, o, h1, h2, h3⟩ := hd.at' (i * n + k) (by rw [qeo]; exact hix)
  refine ⟨b, o, h1, h2, ?_⟩
  rw [h3]
  unfold dG
  rw [List.getD_eq_getElem?_getD, List.getElem?_eq_getElem hix]
  simp [ints]
def fitP (n : Nat) (d ins : List Int) (i k : Nat) : Prop := dG n d i k < Int.ofNat 0 ∨ Int.ofNat 0 ≤ ins.getD k 0 ∨ Int.ofNat 0 ≤ dG n d k i
theorem qvv {call : Ev.Call} {n i nb : Nat} {d ins : List Int} {dv : AV} {H : Hp} (hd : Rl H dv (ints d)) (hl : d.length = n * n) (hn : n < 900) (hi : i < n) (hin : ins.length = n) (hnb : H.get nb = qab 0 (ints ins)) {q : AV → Hp → R1} {Q : AV → Hp → Prop} {b0 : Bool}
    (hq : ∀ b, (b = true ↔ b0 = true ∧ ∀ k, k < n → fitP n d ins i k) → Ok (q (.bool b) H) Q) :
    ∀ (k c : Nat) (b : Bool), n - c < k → c ≤ n → (b = true ↔ b0 = true ∧ ∀ j, j < c → fitP n d ins i j) →
      Ok (qii call q (.int .i64 (.ofNat n)) dv (.sl nb 0 n n true) (.int .i64 (.ofNat i)) k (.bool b) (.int .i64 (.ofNat c)) H) Q
  | 0, c, b, h, _, _ => by omega
  | k + 1, c, b, h, hc, hb => by
    show Ok (qxj call _ _ _ _ _ (qii call _ _ _ _ _ k) _ _ H) Q
    unfold qxj
    by_cases hcn : c < n
    · cases b with
      | false =>
        simp (disch := first | omega | exact ti rfl | (simp only [np, nq]; first | done | omega)) only [go_sem, reduceAdd, reduceMul, reduceSub, reduceLeDiff, reduceEqDiff, reduceShiftRight, reduceAnd, hcn]
        refine hq false ⟨fun h => (by cases h), fun ⟨h1, h2⟩ => hb.2 ⟨h1, fun j hj => h2 j (by omega)⟩⟩
      | true =>
        have hb1 := hb.1 rfl
        simp (disch := first | omega | exact ti rfl | (simp only [np, nq]; first | done | omega)) only [go_sem, reduceAdd, reduceMul, reduceSub, reduceLeDiff, reduceEqDiff, reduceShiftRight, reduceAnd, hcn]
        unfold qxe
        obtain ⟨p1, o1, e1, _, e2⟩ := zbp hd hl hi hcn
        obtain ⟨p2, o2, e3, _, e4⟩ := zbp hd hl hcn hi
        have m1 : i * n ≤ 810000 := Nat.mul_le_mul (Nat.le_of_lt (Nat.lt_trans hi hn)) (Nat.le_of_lt hn)
        have m2 : c * n ≤ 810000 := Nat.mul_le_mul (Nat.le_of_lt (Nat.lt_trans hcn hn)) (Nat.le_of_lt hn)
        have gi : (ints ins)[c]? = some (.int .i64 (ins.getD c 0)) := by
          rw [qjn ins c (by omega), List.getD_eq_getElem?_getD, List.getElem?_eq_getElem (by omega)]; rfl
        have go : ∀ b' : Bool, (b' = true ↔ fitP n d ins i c) → Ok (qro call (qii call q (.int .i64 (.ofNat n)) dv (.sl nb 0 n n true) (.int .i64 (.ofNat i)) k) (.bool b') (.int .i64 (.ofNat c)) H) Q := fun b' h' => by
          unfold qro
          simp (disch := first | omega | exact ti rfl | (simp only [np, nq]; first | done | omega)) only [go_sem, reduceAdd, reduceMul, reduceSub, reduceLeDiff, reduceEqDiff, reduceShiftRight, reduceAnd]
          refine qvv hd hl hn hi hin hnb hq k (c + 1) b' (by omega) (by omega) ⟨fun hh => ⟨hb1.1, fun j hj => ?_⟩, fun hh => h'.2 (hh.2 c (by omega))⟩
          rcases Nat.lt_or_ge j c with g | g
          · exact hb1.2 j g
          · have : j = c := by omega
            subst this
            exact h'.1 hh
        by_cases h1 : dG n d i c < Int.ofNat 0
        · simp (disch := first | omega | exact ti rfl | (simp only [np, nq]; first | done | omega)) only [go_sem, reduceAdd, reduceMul, reduceSub, reduceLeDiff, reduceEqDiff, reduceShiftRight, reduceAnd, e1, e2, h1]
          exact go true ⟨fun _ => Or.inl h1, fun _ => rfl⟩
        · by_cases h2 : Int.ofNat 0 ≤ ins.getD c 0
          · simp (disch := first | omega | exact ti rfl | (simp only [np, nq]; first | done | omega)) only [go_sem, reduceAdd, reduceMul, reduceSub, reduceLeDiff, reduceEqDiff, reduceShiftRight, reduceAnd, e1, e2, h1, hnb, gi, h2, Nat.mul_one, Nat.zero_add]
            exact go true ⟨fun _ => Or.inr (Or.inl h2), fun _ => rfl⟩
          · by_cases h3 : Int.ofNat 0 ≤ dG n d c i
            · simp (disch := first | omega | exact ti rfl | (simp only [np, nq]; first | done | omega)) only [go_sem, reduceAdd, reduceMul, reduceSub, reduceLeDiff, reduceEqDiff, reduceShiftRight, reduceAnd, e1, e2, h1, hnb, gi, h2, e3, e4, h3, Nat.mul_one, Nat.zero_add]
              exact go true ⟨fun _ => Or.inr (Or.inr h3), fun _ => rfl⟩
            · simp (disch := first | omega | exact ti rfl | (simp only [np, nq]; first | done | omega)) only [go_sem, reduceAdd, reduceMul, reduceSub, reduceLeDiff, reduceEqDiff, reduceShiftRight, reduceAnd, e1, e2, h1, hnb, gi, h2, e3, e4, h3, Nat.mul_one, Nat.zero_add]
              exact go false ⟨fun h => (by cases h), fun h => (by rcases h with h | h | h; exact absurd h h1; exact absurd h h2; exact absurd h h3)⟩
    · have : c = n := by omega
      cases b with
      | false => simp (disch := first | omega | exact ti rfl | (simp only [np, nq]; first | done | omega)) only [go_sem, reduceAdd, reduceMul, reduceSub, reduceLeDiff, reduceEqDiff, reduceShiftRight, reduceAnd, hcn]; exact hq false ⟨fun h => (by cases h), fun h => hb.2 ⟨h.1, fun j hj => h.2 j (by omega)⟩⟩
      | true => simp (disch := first | omega | exact ti rfl | (simp only [np, nq]; first | done | omega)) only [go_sem, reduceAdd, reduceMul, reduceSub, reduceLeDiff, reduceEqDiff, reduceShiftRight, reduceAnd, hcn]; exact hq true ⟨fun _ => ⟨(hb.1 rfl).1, fun j hj => (hb.1 rfl).2 j (by omega)⟩, fun _ => rfl⟩
end Go.Di
end
section
/-
  Contracts: the reference's component of a node.
-/
namespace Go.Di
open Go.Ev Go.Di.T Go.Sort
open Nat (reduceAdd reduceMul reduceSub reduceLeDiff reduceEqDiff reduceShiftRight reduceAnd)
variable {C : Nat → Ev.Call}
def mutB (n : Nat) (d : List Int) (i k : Nat) : Bool := decide (Int.ofNat 0 ≤ dG n d i k) && decide (Int.ofNat 0 ≤ dG n d k i)
def qco (n : Nat) (d : List Int) (i c : Nat) : List Nat := (List.range c).filter (mutB n d i)
theorem q20 (n : Nat) (d : List Int) (i c : Nat) : qco n d i (c + 1) = qco n d i c ++ (if mutB n d i c then [c] else []) := by
  unfold qco
  rw [List.range_succ, List.filter_append]
  congr 1
  cases h : mutB n d i c <;> simp [h]
theorem qv5 (n : Nat) (d : List Int) (i c : Nat) : (qco n d i c).length ≤ c := by
  have := List.length_filter_le (mutB n d i) (List.range c)
  rwa [List.length_range] at this
def qku (ins : List Int) (o : List Nat) (t : Nat) : List Int := o.foldl (fun a x => a.set x (Int.ofNat t)) ins
theorem qoi (t : Nat) : ∀ (o : List Nat) (ins : List Int), (qku ins o t).length = ins.length
  | [], ins => rfl
  | x :: o, ins => by show (qku (ins.set x _) o t).length = _; rw [qoi t o, List.length_set]
theorem q2p (t : Nat) (o : List Nat) (x : Nat) (ins : List Int) : qku ins (o ++ [x]) t = (qku ins o t).set x (Int.ofNat t) := by
  unfold qku; rw [List.foldl_append]; rfl
theorem qjs (t : Nat) : ∀ (o : List Nat) (ins : List Int) (x : Nat), x < ins.length → (qku ins o t).getD x 0 = if x ∈ o then Int.ofNat t else ins.getD x 0
  | [], ins, x, h => by simp [qku]
  | y :: o, ins, x, h => by
    show (qku (ins.set y (Int.ofNat t)) o t).getD x 0 = _
    rw [qjs t o _ x (by rw [List.length_set]; exact h)]
    by_cases hx : x ∈ o
    · simp [hx]
    · by_cases e : x = y
      · subst e
        rw [if_neg hx, if_pos List.mem_cons_self, List.getD_eq_getElem?_getD, List.getElem?_set, if_pos rfl, if_pos h]; rfl
      · rw [if_neg hx, if_neg (by simp [hx, e]), List.getD_eq_getElem?_getD, List.getElem?_set, if_neg fun h => e h.symm, ← List.getD_eq_getElem?_getD]
theorem qjv {call : Ev.Call} {n i nb t : Nat} {d ins : List Int} {dv lv : AV} {H1 : Hp} (hd : Rl H1 dv (ints d)) (hdb : ∀ b o, b < H1.nx → ∀ j, idxS 1 dv (.int .i64 (.ofNat j)) = .val (.ptr b o) → b ≠ nb) (hl : d.length = n * n) (hn : n < 900) (hi : i < n) (hin : ins.length = n) (hnb : nb < H1.nx) (hlv : qb5 lv = .val (.int .i64 (.ofNat t))) {q : AV → Hp → R1} {Q : AV → Hp → Prop}
    (hq : ∀ cv H, Gl 1 H cv (qco n d i n).length (nats (qco n d i n)) → (∀ b, In cv b → H1.nx ≤ b) → H.get nb = qab 0 (ints (qku ins (qco n d i n) t)) → Fm (fun b => b = nb) H1 H → Ok (q cv H) Q) :
    ∀ (k c : Nat) (cv : AV) (H : Hp), n - c < k → c ≤ n → Gl 1 H cv (qco n d i c).length (nats (qco n d i c)) → (∀ b, In cv b → H1.nx ≤ b) → H.get nb = qab 0 (ints (qku ins (qco n d i c) t)) → Fm (fun b => b = nb) H1 H →
      Ok (qke call q (.int .i64 (.ofNat n)) dv (.sl nb 0 n n true) lv (.int .i64 (.ofNat i)) k cv (.int .i64 (.ofNat c)) H) Q
  | 0, c, cv, H, h, _, _, _, _, _ => by omega
  | k + 1, c, cv, H, h, hc, hg, hnew, hib, hF => by
    show Ok (qxk call _ _ _ _ _ _ (qke call _ _ _ _ _ _ k) _ _ H) Q
    unfold qxk
    by_cases hcn : c < n
    · simp (disch := first | omega | exact ti rfl | (simp only [np, nq]; first | done | omega)) only [go_sem, reduceAdd, reduceMul, reduceSub, reduceLeDiff, reduceEqDiff, reduceShiftRight, reduceAnd, hcn]
      unfold qxg
      obtain ⟨p1, o1, e1, l1, e2⟩ := zbp hd hl hi hcn
      obtain ⟨p2, o2, e3, l2, e4⟩ := zbp hd hl hcn hi
      have e2' : qcf (H.get p1) o1 = .val (.int .i64 (dG n d i c)) := by rw [hF.get p1 l1 (hdb p1 o1 l1 _ e1)]; exact e2
      have e4' : qcf (H.get p2) o2 = .val (.int .i64 (dG n d c i)) := by rw [hF.get p2 l2 (hdb p2 o2 l2 _ e3)]; exact e4
      have m1 : i * n ≤ 810000 := Nat.mul_le_mul (Nat.le_of_lt (Nat.lt_trans hi hn)) (Nat.le_of_lt hn)
      have m2 : c * n ≤ 810000 := Nat.mul_le_mul (Nat.le_of_lt (Nat.lt_trans hcn hn)) (Nat.le_of_lt hn)
      have hcl := qv5 n d i c
      have hs := q20 n d i c
      by_cases h1 : Int.ofNat 0 ≤ dG n d i c
      · by_cases h2 : Int.ofNat 0 ≤ dG n d c i
        · have hm : mutB n d i c = true := by unfold mutB; rw [decide_eq_true h1, decide_eq_true h2]; rfl
          rw [hm, if_pos rfl] at hs
          have hgP : Gl 1 (qan H (qab 0 [.int .i64 (.ofNat c)])) cv (qco n d i c).length (nats (qco n d i c)) := hg.no ((Fm.refl _ _).push _)
          obtain ⟨H', e, gl', _, fm', nx'⟩ := hgP.append (w := 8) (k := 1) (x := [.int .i64 (.ofNat c)]) (by omega) rfl (by omega) (by omega)
          have hnx : (qan H (qab 0 [.int .i64 (.ofNat c)])).nx = H.nx + 1 := rfl
          rw [hnx] at e gl' nx'
          have hn1 := hF.nx
          have hnb' : H'.get nb = qab 0 (ints (qku ins (qco n d i c) t)) := by
            rw [fm'.get nb (by rw [hnx]; omega) fun hb => by have := hnew nb hb; omega, qb6 _ _ _ (by omega)]; exact hib
          have hle : c + 1 ≤ (qku ins (qco n d i c) t).length := by rw [qoi]; omega
          simp (disch := first | omega | exact ti rfl | (simp only [np, nq]; first | done | omega)) only [go_sem, reduceAdd, reduceMul, reduceSub, reduceLeDiff, reduceEqDiff, reduceShiftRight, reduceAnd, e1, e2', h1, e3, e4', h2, e, hlv, hnb', Nat.mul_one, Nat.zero_add, List.length_cons, List.length_nil, qeo, hle, if_true]
          rw [ints_set _ _ _ (by omega), ← q2p, ← hs]
          unfold qkf
          simp (disch := first | omega | exact ti rfl | (simp only [np, nq]; first | done | omega)) only [go_sem, reduceAdd, reduceMul, reduceSub, reduceLeDiff, reduceEqDiff, reduceShiftRight, reduceAnd]
          have f2 : Fm (fun b => b = nb) H1 H' := (hF.trans ((Fm.refl No _).push _ |>.mono fun _ _ h => h.elim)).then fm' fun b hb h => by have := hnew b h; omega
          have e9 : nats (qco n d i c) ++ [.int .i64 (.ofNat c)] = nats (qco n d i (c + 1)) := by rw [hs]; simp [nats]
          rw [e9] at gl'
          have e10 : (qco n d i (c + 1)).length = (qco n d i c).length + 1 := by rw [hs, List.length_append]; rfl
          refine qjv hd hdb hl hn hi hin hnb hlv hq k (c + 1) _ _ (by omega) (by omega) ?_ ?_ (qad _ _ _) (f2.put _ _ fun _ => rfl)
          · rw [e10]
            refine gl'.keep (Nat.le_refl _) fun b hb _ => qak _ _ _ _ fun e => ?_
            obtain ⟨_, _, _, _, h⟩ := hb
            cases h
            omega
          · rintro b ⟨_, _, _, _, h⟩
            cases h
            omega
        · have hm : mutB n d i c = false := by unfold mutB; rw [decide_eq_true h1, decide_eq_false h2]; rfl
          rw [hm, if_neg (by simp), List.append_nil] at hs
          simp (disch := first | omega | exact ti rfl | (simp only [np, nq]; first | done | omega)) only [go_sem, reduceAdd, reduceMul, reduceSub, reduceLeDiff, reduceEqDiff, reduceShiftRight, reduceAnd, e1, e2', h1, e3, e4', h2]
          unfold qkf
          simp (disch := first | omega | exact ti rfl | (simp only [np, nq]; first | done | omega)) only [go_sem, reduceAdd, reduceMul, reduceSub, reduceLeDiff, reduceEqDiff, reduceShiftRight, reduceAnd]
          exact qjv hd hdb hl hn hi hin hnb hlv hq k (c + 1) cv H (by omega) (by omega) (by rw [hs]; exact hg) hnew (by rw [hs]; exact hib) hF
      · have hm : mutB n d i c = false := by unfold mutB; rw [decide_eq_false h1]; rfl
        rw [hm, if_neg (by simp), List.append_nil] at hs
        simp (disch := first | omega | exact ti rfl | (simp only [np, nq]; first | done | omega)) only [go_sem, reduceAdd, reduceMul, reduceSub, reduceLeDiff, reduceEqDiff, reduceShiftRight, reduceAnd, e1, e2', h1]
        unfold qkf
        simp (disch := first | omega | exact ti rfl | (simp only [np, nq]; first | done | omega)) only [go_sem, reduceAdd, reduceMul, reduceSub, reduceLeDiff, reduceEqDiff, reduceShiftRight, reduceAnd]
        exact qjv hd hdb hl hn hi hin hnb hlv hq k (c + 1) cv H (by omega) (by omega) (by rw [hs]; exact hg) hnew (by rw [hs]; exact hib) hF
    · simp (disch := first | omega | exact ti rfl | (simp only [np, nq]; first | done | omega)) only [go_sem, reduceAdd, reduceMul, reduceSub, reduceLeDiff, reduceEqDiff, reduceShiftRight, reduceAnd, hcn]
      have : c = n := by omega
      subst this
      exact hq cv H hg hnew hib hF
end Go.Di
end
section
/-
  Contracts: the reference's components.
-/
namespace Go.Di
open Go.Ev Go.Di.T Go.Sort
open Nat (reduceAdd reduceMul reduceSub reduceLeDiff reduceEqDiff reduceShiftRight reduceAnd)
variable {C : Nat → Ev.Call}
def qwl (n : Nat) (adj : Nat → List Nat) (d : List Int) : Prop := d.length = n * n ∧ ∀ i k, i < n → k < n → (Int.ofNat 0 ≤ dG n d i k ↔ Rc adj i k)
structure RI (adj : Nat → List Nat) (H0 : Hp) (n nb : Nat) (ins : List Int) (v : AV) (cs : List AV) (res : List (List Nat)) (H : Hp) : Prop where
  fm : Fm No H0 H
  ng : H.get nb = qab 0 (ints ins)
  nbl : H0.nx ≤ nb ∧ nb < H.nx
  il : ins.length = n
  ls : LsOk H0 H v cs res
  sv : ∀ b, In v b → b ≠ nb
  sc : ∀ (i : Nat) (c : AV) (b : Nat), cs[i]? = some c → In c b → b ≠ nb
  nd : res.flatten.Nodup
  lt : ∀ x ∈ res.flatten, x < n
  ne : ∀ o ∈ res, o ≠ []
  cl : ∀ x ∈ res.flatten, ∀ y, y < n → Rc adj x y → Rc adj y x → y ∈ res.flatten
  ix : ∀ x, x < n → (Int.ofNat 0 ≤ ins.getD x 0 ↔ x ∈ res.flatten)
  iv : ∀ (j : Nat) (o : List Nat) (x : Nat), res[j]? = some o → x ∈ o → ins.getD x 0 = Int.ofNat j
theorem RI.len {adj : Nat → List Nat} {H0 : Hp} {n nb : Nat} {ins : List Int} {v : AV} {cs : List AV} {res : List (List Nat)} {H : Hp} (h : RI adj H0 n nb ins v cs res H) : res.flatten.length ≤ n ∧ res.length ≤ res.flatten.length := by
  constructor
  · have := h.nd.length_le_of_subset (l₂ := List.range n) fun x hx => List.mem_range.2 (h.lt x hx)
    rwa [List.length_range] at this
  · have hne := h.ne
    generalize res = r at hne
    induction r with
    | nil => exact Nat.le_refl _
    | cons c r ih =>
      have h1 := ih fun c hc => hne c (List.mem_cons_of_mem _ hc)
      have h2 : 0 < c.length := List.length_pos_iff.2 (hne c List.mem_cons_self)
      rw [List.flatten_cons, List.length_append, List.length_cons]; omega
theorem zeq {n : Nat} {adj : Nat → List Nat} {d ins : List Int} (hD : qwl n adj d) {pre : List (List Nat)} (hix : ∀ x, x < n → (Int.ofNat 0 ≤ ins.getD x 0 ↔ x ∈ pre.flatten)) {i : Nat} (hi : i < n) : (∀ k, k < n → fitP n d ins i k) ↔ Rdy n adj pre i := by
  constructor
  · intro h k hk hr
    rcases h k hk with g | g | g
    · exact absurd ((hD.2 i k hi hk).2 hr) (by simp only [Int.ofNat_eq_natCast] at *; omega)
    · exact Or.inl ((hix k hk).1 g)
    · exact Or.inr ((hD.2 k i hk hi).1 g)
  · intro h k hk
    by_cases hr : Rc adj i k
    · rcases h k hk hr with g | g
      · exact Or.inr (Or.inl ((hix k hk).2 g))
      · exact Or.inr (Or.inr ((hD.2 k i hk hi).2 g))
    · refine Or.inl ?_
      have := mt (hD.2 i k hi hk).1 hr
      simp only [Int.ofNat_eq_natCast] at *
      omega
theorem q78 {n : Nat} {adj : Nat → List Nat} {d : List Int} (hD : qwl n adj d) {i : Nat} (hi : i < n) : q9c n adj i (qco n d i n) := by
  refine ⟨(List.pairwise_lt_range (n := n)).filter _, fun x => ?_⟩
  unfold qco mutB
  rw [List.mem_filter, List.mem_range, Bool.and_eq_true, decide_eq_true_iff, decide_eq_true_iff]
  constructor
  · rintro ⟨h1, h2, h3⟩
    exact ⟨h1, (hD.2 i x hi h1).1 h2, (hD.2 x i h1 hi).1 h3⟩
  · rintro ⟨h1, h2, h3⟩
    exact ⟨h1, (hD.2 i x hi h1).2 h2, (hD.2 x i h1 hi).2 h3⟩
theorem qvw {call : Ev.Call} {n nb : Nat} {adj : Nat → List Nat} {d ins : List Int} {dv v : AV} {cs : List AV} {res : List (List Nat)} {H0 H : Hp} (hadj : ∀ u, ∀ k ∈ adj u, k < n) (hD : qwl n adj d) (hd : Rl H0 dv (ints d)) (hdv : ∀ j b o, idxS 1 dv (.int .i64 (.ofNat j)) = .val (.ptr b o) → b < H0.nx) (hn : n < 900) (hI : RI adj H0 n nb ins v cs res H) (hne : ∃ x, x < n ∧ x ∉ res.flatten)
    {g : AV → AV → Hp → R1} {Q : AV → Hp → Prop}
    (hq : ∀ v' H' ins' cs' i, q88 n adj res i → RI adj H0 n nb ins' v' cs' (res ++ [qco n d i n]) H' → Ok (g v' (.int .i64 (.ofNat (res.flatten.length + (qco n d i n).length))) H') Q) :
    ∀ (k i : Nat), n - i < k → i ≤ n → (∀ j, j < i → j ∉ res.flatten → ¬ Rdy n adj res j) →
      Ok (qg4 call g (.int .i64 (.ofNat n)) dv (.sl nb 0 n n true) k v (.int .i64 (.ofNat res.flatten.length)) (.int .i64 (.ofNat i)) H) Q
  | 0, i, h, _, _ => by omega
  | k + 1, i, h, hi, hj => by
    show Ok (q5b call _ _ _ _ (qg4 call _ _ _ _ k) _ _ _ H) Q
    unfold q5b
    by_cases hin : i < n
    · simp (disch := first | omega | exact ti rfl | (simp only [np, nq]; first | done | omega)) only [go_sem, reduceAdd, reduceMul, reduceSub, reduceLeDiff, reduceEqDiff, reduceShiftRight, reduceAnd, hin]
      unfold qxd
      have gi : (ints ins)[i]? = some (.int .i64 (ins.getD i 0)) := by
        rw [qjn ins i (by rw [hI.il]; exact hin), List.getD_eq_getElem?_getD, List.getElem?_eq_getElem (by rw [hI.il]; exact hin)]; rfl
      have hng := hI.ng
      simp (disch := first | omega | exact ti rfl | (simp only [np, nq]; first | done | omega)) only [go_sem, reduceAdd, reduceMul, reduceSub, reduceLeDiff, reduceEqDiff, reduceShiftRight, reduceAnd, hng, gi, Nat.mul_one, Nat.zero_add]
      unfold qxm
      rw [qaq]
      refine qvv (hd.fm hI.fm) hD.1 hn hin hI.il hng (b0 := decide (ins.getD i 0 < Int.ofNat 0)) (fun b hb => ?_) qam 0 _ (by rw [qai]; omega) (Nat.zero_le _) ⟨fun h => ⟨h, fun j hj => absurd hj (Nat.not_lt_zero _)⟩, fun h => h.1⟩
      rw [zeq hD hI.ix hin] at hb
      have h0 : decide (ins.getD i 0 < Int.ofNat 0) = true ↔ i ∉ res.flatten := by
        rw [← hI.ix i hin, decide_eq_true_iff]
        simp only [Int.ofNat_eq_natCast]
        omega
      rw [h0] at hb
      unfold qik
      cases b with
      | false =>
        simp (disch := first | omega | exact ti rfl | (simp only [np, nq]; first | done | omega)) only [go_sem, reduceAdd, reduceMul, reduceSub, reduceLeDiff, reduceEqDiff, reduceShiftRight, reduceAnd]
        unfold qxh
        simp (disch := first | omega | exact ti rfl | (simp only [np, nq]; first | done | omega)) only [go_sem, reduceAdd, reduceMul, reduceSub, reduceLeDiff, reduceEqDiff, reduceShiftRight, reduceAnd]
        refine qvw hadj hD hd hdv hn hI hne hq k (i + 1) (by omega) (by omega) fun j hj' hjn => ?_
        by_cases e : j = i
        · subst e
          intro hr
          have := hb.2 ⟨hjn, hr⟩
          cases this
        · exact hj j (by omega) hjn
      | true =>
        obtain ⟨b1, b2⟩ := hb.1 rfl
        have hN : q88 n adj res i := ⟨hin, b1, b2, hj⟩
        have hC := q78 hD hin
        have hii : i ∈ qco n d i n := (hC.2 i).2 ⟨hin, Rc.refl _, Rc.refl _⟩
        simp (disch := first | omega | exact ti rfl | (simp only [np, nq]; first | done | omega)) only [go_sem, reduceAdd, reduceMul, reduceSub, reduceLeDiff, reduceEqDiff, reduceShiftRight, reduceAnd]
        unfold qxf qxn
        rw [qaq]
        have hlen := hI.ls.len
        have hlv := hI.ls.gl.lenV
        obtain ⟨z1, z2⟩ := hI.len
        refine qjv (H1 := H) (t := cs.length) (ins := ins) (hd.fm hI.fm) (fun b o hb j e => ?_) hD.1 hn hin hI.il hI.nbl.2 hlv (fun cv H2 c1 c2 c3 c4 => ?_) qam 0 .nilsl H (by rw [qai]; omega) (Nat.zero_le _) (Gl.nil _ _) (fun b hb => by obtain ⟨_, _, _, _, h⟩ := hb; cases h) hng (Fm.refl _ _)
        · have := hdv j b o e; have := hI.nbl.1; omega
        · unfold qil
          have hcl := qv5 n d i n
          have hcp : 0 < (qco n d i n).length := List.length_pos_iff.2 fun e => by rw [e] at hii; cases hii
          have e1 := c1.lenV
          rcases c1.is with ⟨_, h0⟩ | ⟨b9, o9, e9, q9, L9, rfl, _⟩
          · omega
          have hn2 := c4.nx
          have gv : Gl 1 (qan H2 (qab 0 [.sl b9 o9 (qco n d i n).length (qco n d i n).length e9])) v cs.length cs := (hI.ls.gl.fm c4 fun b hb => hI.sv b hb).no ((Fm.refl _ _).push _)
          obtain ⟨H', e, gl', _, fm', nx'⟩ := gv.append (w := 24) (k := 1) (x := [.sl b9 o9 (qco n d i n).length (qco n d i n).length e9]) (by omega) rfl (by omega) (by omega)
          have hnx : (qan H2 (qab 0 [.sl b9 o9 (qco n d i n).length (qco n d i n).length e9])).nx = H2.nx + 1 := rfl
          rw [hnx] at e gl' nx'
          have e2 : res.flatten.length < 900 := by omega
          simp (disch := first | omega | exact ti rfl | (simp only [np, nq]; first | done | omega)) only [go_sem, reduceAdd, reduceMul, reduceSub, reduceLeDiff, reduceEqDiff, reduceShiftRight, reduceAnd, e1, e]
          have f3 : Fm (fun b => b = nb ∨ In v b) H H' := ((c4.mono fun _ _ h => Or.inl h).trans ((Fm.refl No _).push _ |>.mono fun _ _ h => h.elim)).trans (fm'.mono fun _ _ h => Or.inr h)
          have hvlt : ∀ b, In v b → b < H.nx := fun b hb => hI.ls.gl.lt hb
          have hmem : ∀ x, x ∈ qco n d i n → x ∉ res.flatten := fun x hx hxr => by
            have h1 := (hC.2 x).1 hx
            exact b1 (hI.cl x hxr i hin h1.2.2 h1.2.1)
          have hfl : (res ++ [qco n d i n]).flatten = res.flatten ++ qco n d i n := by rw [List.flatten_append]; simp
          have hfm : Fm No H0 H' := hI.fm.then f3 fun b hb h => by
            rcases h with h | h
            · have := hI.nbl.1; omega
            · have := hI.ls.new b h; omega
          have old : ∀ {x : AV} {m : Nat} {y : List AV}, Gl 1 H x m y → (∀ b, In x b → b ≠ nb ∧ ¬ In v b) → Gl 1 H' x m y := fun {x m y} hx hb => hx.fm f3 fun b hb' h => by
            rcases h with h | h
            · exact (hb b hb').1 h
            · exact (hb b hb').2 h
          have hH2 : H.nx ≤ b9 ∧ b9 < H2.nx := ⟨c2 b9 ⟨_, _, _, _, rfl⟩, c1.lt ⟨_, _, _, _, rfl⟩⟩
          refine hq _ H' (qku ins (qco n d i n) cs.length) (cs ++ [.sl b9 o9 (qco n d i n).length (qco n d i n).length e9]) i hN ⟨hfm, ?_, ⟨hI.nbl.1, by have := hI.nbl.2; omega⟩, by rw [qoi]; exact hI.il, ⟨?_, ?_, ?_, fun j c o h1 h2 => ?_⟩, ?_, fun j c b h1 h2 => ?_, ?_, fun x hx => ?_, fun o ho => ?_, fun x hx y hy h1 h2 => ?_, fun x hx => ?_, fun j o x h1 h2 => ?_⟩
          · rw [fm'.get nb (by rw [hnx]; have := hI.nbl.2; omega) fun hb => hI.sv nb hb rfl, qb6 _ _ _ (by have := hI.nbl.2; omega)]
            exact c3
          · rw [List.length_append]; exact gl'
          · rw [List.length_append, List.length_append, hlen]; rfl
          · rintro b ⟨_, _, _, _, h⟩
            cases h
            have := hI.fm.nx
            omega
          · have hnv : ∀ b, In (AV.sl (H2.nx + 1) 0 (cs.length + 1) (cs.length + 1) false) b → b = H2.nx + 1 := fun b hb => by obtain ⟨_, _, _, _, h⟩ := hb; cases h; rfl
            rcases Nat.lt_or_ge j cs.length with g | g
            · rw [List.getElem?_append_left g] at h1
              rw [List.getElem?_append_left (by omega)] at h2
              obtain ⟨a1, a2, a3⟩ := hI.ls.at' j c o h1 h2
              exact ⟨a1, old a2 fun b hb => ⟨hI.sc j c b h1 hb, (a3 b hb).2⟩, fun b hb => ⟨(a3 b hb).1, fun h => by have := hnv b h; have := a2.lt hb; omega⟩⟩
            · rw [List.getElem?_append_right g] at h1
              rw [List.getElem?_append_right (by omega), ← hlen] at h2
              have h0 : j - cs.length = 0 := by
                have := (List.getElem?_eq_some_iff.1 h1).1
                simpa using this
              rw [h0] at h1 h2
              cases h1; cases h2
              refine ⟨⟨_, _, _, _, _, rfl⟩, ?_, fun b hb => ?_⟩
              · refine c1.keep (by omega) fun b hb hlt => ?_
                have hb9 : b = b9 := by obtain ⟨_, _, _, _, h⟩ := hb; cases h; rfl
                subst hb9
                rw [fm'.get b (by rw [hnx]; omega) fun h => by have := hvlt b h; omega, qb6 _ _ _ (by omega)]
              · have hb9 : b = b9 := by obtain ⟨_, _, _, _, h⟩ := hb; cases h; rfl
                subst hb9
                have := hI.fm.nx
                exact ⟨by omega, fun h => by have := hnv _ h; omega⟩
          · rintro b ⟨_, _, _, _, h⟩
            have hb : b = H2.nx + 1 := by cases h; rfl
            have := hI.nbl.2
            omega
          · rcases Nat.lt_or_ge j cs.length with g | g
            · rw [List.getElem?_append_left g] at h1
              exact hI.sc j c b h1 h2
            · rw [List.getElem?_append_right g] at h1
              have h0 : j - cs.length = 0 := by
                have := (List.getElem?_eq_some_iff.1 h1).1
                simpa using this
              rw [h0] at h1
              cases h1
              have := c2 b h2
              have := hI.nbl.2
              omega
          · rw [hfl, List.nodup_append]
            refine ⟨hI.nd, hC.1.imp fun h => Nat.ne_of_lt h, fun x hx y hy e => ?_⟩
            subst e
            exact hmem x hy hx
          · rw [hfl, List.mem_append] at hx
            rcases hx with hx | hx
            · exact hI.lt x hx
            · exact ((hC.2 x).1 hx).1
          · rcases List.mem_append.1 ho with ho | ho
            · exact hI.ne o ho
            · rw [List.mem_singleton.1 ho]
              intro e; rw [e] at hii; cases hii
          · rw [hfl, List.mem_append] at hx ⊢
            rcases hx with hx | hx
            · exact Or.inl (hI.cl x hx y hy h1 h2)
            · have h3 := (hC.2 x).1 hx
              exact Or.inr ((hC.2 y).2 ⟨hy, h3.2.1.trans h1, h2.trans h3.2.2⟩)
          · rw [hfl, List.mem_append, qjs _ _ _ _ (by rw [hI.il]; exact hx)]
            by_cases hm : x ∈ qco n d i n
            · rw [if_pos hm]
              exact ⟨fun _ => Or.inr hm, fun _ => by simp only [Int.ofNat_eq_natCast]; omega⟩
            · rw [if_neg hm, hI.ix x hx]
              exact ⟨Or.inl, fun h => h.resolve_right hm⟩
          · rcases Nat.lt_or_ge j res.length with g | g
            · rw [List.getElem?_append_left g] at h1
              have hxf : x ∈ res.flatten := List.mem_flatten.2 ⟨o, List.mem_of_getElem? h1, h2⟩
              rw [qjs _ _ _ _ (by rw [hI.il]; exact hI.lt x hxf), if_neg fun h => hmem x h hxf]
              exact hI.iv j o x h1 h2
            · rw [List.getElem?_append_right g] at h1
              have h0 : j - res.length = 0 := by
                have := (List.getElem?_eq_some_iff.1 h1).1
                simpa using this
              rw [h0] at h1
              cases h1
              rw [qjs _ _ _ _ (by rw [hI.il]; exact ((hC.2 x).1 h2).1), if_pos h2]
              congr 1
              omega
    · exfalso
      obtain ⟨x, hx, hxn⟩ := hne
      obtain ⟨i', hi'⟩ := zaj hadj hx hxn
      exact hj i' (by have := hi'.lt; omega) hi'.new hi'.rdy
end Go.Di
end
section
/-
  Contracts: the reference's components, whole.
-/
namespace Go.Di
open Go.Ev Go.Di.T Go.Sort
open Nat (reduceAdd reduceMul reduceSub reduceLeDiff reduceEqDiff reduceShiftRight reduceAnd)
variable {C : Nat → Ev.Call}
theorem qzd {n : Nat} {ms : List Nat} {i k : Nat} (hi : i < n) (hk : k < n) : k ∈ qci (qcc n ms) i ↔ Adj n ms i k := by
  rw [qej]
  constructor
  · rintro ⟨e, he, rfl, rfl⟩; exact qv1 he
  · intro h; exact q0y hi hk h
theorem zc3 {n : Nat} {ms : List Nat} {i k : Nat} (h : k ∈ qci (qcc n ms) i) : i < n ∧ k < n := by
  obtain ⟨e, he, rfl, rfl⟩ := qej.1 h
  exact (qte n ms).rng e he
theorem zfq {n : Nat} {ms : List Nat} : ∀ (L i k : Nat), i < n → k < n → wS (Adj n ms) n i k L → Rc (qci (qcc n ms)) i k
  | 0, i, k, hi, hk, h => Rc.one ((qzd hi hk).2 h)
  | L + 1, i, k, hi, hk, ⟨x, hx, ha, hw⟩ => (Rc.one ((qzd hi hx).2 ha)).trans (zfq L x k hx hk hw)
theorem rc_wk {n : Nat} {ms : List Nat} {i k : Nat} (hi : i < n) (h : Rc (qci (qcc n ms)) i k) : k < n ∧ ∃ L, wk (Adj n ms) n i k L := by
  induction h with
  | refl => exact ⟨hi, 0, rfl⟩
  | step _ e ih =>
    obtain ⟨hb, L, hL⟩ := ih
    have hc := (zc3 e).2
    exact ⟨hc, L + 1, zce (L2 := 1) hL hb ((qzd hb hc).1 e)⟩
theorem ze3 {n : Nat} {ms : List Nat} (hl : ms.length = n * n) : qwl n (qci (qcc n ms)) (dist n ms) := by
  refine ⟨zbm hl, fun i k hi hk => ⟨fun h => ?_, fun h => ?_⟩⟩
  · have h := zbl hl i k hi hk h
    cases hL : ((dist n ms).getD (i * n + k) 0).toNat with
    | zero => rw [hL] at h; have h : i = k := h; rw [h]; exact Rc.refl _
    | succ L => rw [hL] at h; exact zfq L i k hi hk h
  · obtain ⟨_, L, hL⟩ := rc_wk hi h
    exact (zbn hl i k L hi hk hL).1
theorem q4y {call : Ev.Call} {n nb : Nat} {adj : Nat → List Nat} {d : List Int} {dv : AV} {H0 : Hp} (hadj : ∀ u, ∀ k ∈ adj u, k < n) (hD : qwl n adj d) (hd : Rl H0 dv (ints d)) (hdv : ∀ j b o, idxS 1 dv (.int .i64 (.ofNat j)) = .val (.ptr b o) → b < H0.nx) (hn : n < 900)
    {q : AV → Hp → R1} {Q : AV → Hp → Prop} (hq : ∀ v H ins cs res, RI adj H0 n nb ins v cs res H → OrdF n adj [] res → (∀ x, x < n → x ∈ res.flatten) → Ok (q v H) Q) :
    ∀ (k : Nat) (v : AV) (H : Hp) (ins : List Int) (cs : List AV) (res : List (List Nat)), n - res.flatten.length < k → RI adj H0 n nb ins v cs res H → (∀ R, OrdF n adj res R → OrdF n adj [] (res ++ R)) →
      Ok (qct call q (.int .i64 (.ofNat n)) dv (.sl nb 0 n n true) k v (.int .i64 (.ofNat res.flatten.length)) H) Q
  | 0, v, H, ins, cs, res, h, _, _ => by omega
  | k + 1, v, H, ins, cs, res, h, hI, hP => by
    show Ok (q5c call _ _ _ _ (qct call _ _ _ _ k) _ _ H) Q
    unfold q5c
    obtain ⟨z1, z2⟩ := hI.len
    by_cases hlt : res.flatten.length < n
    · have hne : ∃ x, x < n ∧ x ∉ res.flatten := by
        refine Classical.byContradiction fun hno => ?_
        have hall : ∀ x ∈ List.range n, x ∈ res.flatten := fun x hx => Classical.byContradiction fun h => hno ⟨x, List.mem_range.1 hx, h⟩
        have := (List.nodup_range (n := n)).length_le_of_subset hall
        rw [List.length_range] at this
        omega
      simp (disch := first | omega | exact ti rfl | (simp only [np, nq]; first | done | omega)) only [go_sem, reduceAdd, reduceMul, reduceSub, reduceLeDiff, reduceEqDiff, reduceShiftRight, reduceAnd, hlt]
      unfold qxc q5d
      rw [qaq]
      refine qvw hadj hD hd hdv hn hI hne (fun v' H' ins' cs' i hN hI' => ?_) qam 0 (by rw [qai]; omega) (Nat.zero_le _) fun j hj => absurd hj (Nat.not_lt_zero _)
      have hC := q78 hD hN.lt
      have hii : i ∈ qco n d i n := (hC.2 i).2 ⟨hN.lt, Rc.refl _, Rc.refl _⟩
      have hcp : 0 < (qco n d i n).length := List.length_pos_iff.2 fun e => by rw [e] at hii; cases hii
      have hfl : (res ++ [qco n d i n]).flatten.length = res.flatten.length + (qco n d i n).length := by rw [List.flatten_append, List.length_append]; simp
      rw [← hfl]
      refine q4y hadj hD hd hdv hn hq k v' H' ins' cs' (res ++ [qco n d i n]) (by omega) hI' fun R hR => ?_
      rw [List.append_assoc]
      exact hP (qco n d i n :: R) ⟨⟨i, hN, hC⟩, hR⟩
    · simp (disch := first | omega | exact ti rfl | (simp only [np, nq]; first | done | omega)) only [go_sem, reduceAdd, reduceMul, reduceSub, reduceLeDiff, reduceEqDiff, reduceShiftRight, reduceAnd, hlt]
      have hall : ∀ x, x < n → x ∈ res.flatten := fun x hx => Classical.byContradiction fun hno => by
        have hnd : (x :: res.flatten).Nodup := List.nodup_cons.2 ⟨hno, hI.nd⟩
        have := hnd.length_le_of_subset (l₂ := List.range n) fun y hy => by
          rw [List.mem_range]
          rcases List.mem_cons.1 hy with rfl | hy
          · exact hx
          · exact hI.lt y hy
        rw [List.length_range, List.length_cons] at this
        omega
      have := hP [] hall
      rw [List.append_nil] at this
      exact hq v H ins cs res hI this hall
def negL (n : Nat) : Nat → List Int
  | 0 => List.replicate n 0
  | i + 1 => (negL n i).set i (.negSucc 0)
theorem qjk (n : Nat) : ∀ i, (negL n i).length = n
  | 0 => by simp [negL]
  | i + 1 => by rw [negL, List.length_set, qjk n i]
theorem q0g (n : Nat) : ∀ i x, x < i → x < n → (negL n i).getD x 0 = .negSucc 0
  | i + 1, x, h, hn => by
    rw [negL, List.getD_eq_getElem?_getD, List.getElem?_set]
    by_cases e : i = x
    · rw [if_pos e, if_pos (by rw [qjk]; omega)]; rfl
    · rw [if_neg e, ← List.getD_eq_getElem?_getD]
      exact q0g n i x (by omega) hn
theorem q0f {call : Ev.Call} {n nb : Nat} {H1 : Hp} (hn : n < 900) {q : Hp → R1} {Q : AV → Hp → Prop} (hq : ∀ H, H.get nb = qab 0 (ints (negL n n)) → Fm (fun b => b = nb) H1 H → Ok (q H) Q) :
    ∀ (k i : Nat) (H : Hp), n - i < k → i ≤ n → H.get nb = qab 0 (ints (negL n i)) → Fm (fun b => b = nb) H1 H →
      Ok (qkd call q (.int .i64 (.ofNat n)) (.sl nb 0 n n true) k (.int .i64 (.ofNat i)) H) Q
  | 0, i, H, h, _, _, _ => by omega
  | k + 1, i, H, h, hi, hg, hF => by
    show Ok (qxi call _ _ _ (qkd call _ _ _ k) _ H) Q
    unfold qxi
    by_cases hin : i < n
    · simp (disch := first | omega | exact ti rfl | (simp only [np, nq]; first | done | omega)) only [go_sem, reduceAdd, reduceMul, reduceSub, reduceLeDiff, reduceEqDiff, reduceShiftRight, reduceAnd, hin]
      unfold qxa
      have hle : i + 1 ≤ (negL n i).length := by rw [qjk]; omega
      simp (disch := first | omega | exact ti rfl | (simp only [np, nq]; first | done | omega)) only [go_sem, reduceAdd, reduceMul, reduceSub, reduceLeDiff, reduceEqDiff, reduceShiftRight, reduceAnd, hg, Nat.mul_one, Nat.zero_add, List.length_cons, List.length_nil, qeo, hle, if_true]
      rw [ints_set _ _ _ (by rw [qjk]; omega)]
      unfold qxb
      simp (disch := first | omega | exact ti rfl | (simp only [np, nq]; first | done | omega)) only [go_sem, reduceAdd, reduceMul, reduceSub, reduceLeDiff, reduceEqDiff, reduceShiftRight, reduceAnd]
      exact q0f hn hq k (i + 1) _ (by omega) (by omega) (qad _ _ _) (hF.put _ _ fun _ => rfl)
    · simp (disch := first | omega | exact ti rfl | (simp only [np, nq]; first | done | omega)) only [go_sem, reduceAdd, reduceMul, reduceSub, reduceLeDiff, reduceEqDiff, reduceShiftRight, reduceAnd, hin]
      have : i = n := by omega
      subst this
      exact hq H hg hF
theorem q9x (n : Nat) : List.replicate n (AV.int .i64 (.ofNat 0)) = ints (List.replicate n 0) := by simp [ints]
theorem qz4 (hC : qcd C) {k : Nat} (hk : 2 ≤ k) {n mb : Nat} {ms : List Nat} {mv : AV} {H : Hp} (hM : IsM H mv mb n ms) (hn : n < 13) :
    Ok (C k (.f qvo) [mv] H) fun r H' => ∃ v nb ins cs res H0, r = .tup [v, .sl nb 0 n n true] ∧ Fm No H H0 ∧ RI (qci (qcc n ms)) H0 n nb ins v cs res H' ∧ OrdF n (qci (qcc n ms)) [] res ∧ (∀ x, x < n → x ∈ res.flatten) := by
  obtain ⟨j, rfl⟩ : ∃ j, k = j + 1 := ⟨k - 1, by omega⟩
  have hl := hM.ok.len
  have hr := hM.hv
  subst hr
  rw [(hC j).rOf]
  unfold rOf zdp
  simp (disch := first | omega | exact ti rfl | (simp only [np, nq]; first | done | omega)) only [go_sem, reduceAdd, reduceMul, reduceSub, reduceLeDiff, reduceEqDiff, reduceShiftRight, reduceAnd]
  generalize hH1 : qan H (qab 0 [.int .i64 (.ofNat n), .sl mb 0 (n * n) (n * n) true]) = H1
  have n1 : H1.nx = H.nx + 1 := by rw [← hH1]; rfl
  have f1 : Fm No H H1 := by rw [← hH1]; exact (Fm.refl _ _).push _
  have g1 : H1.get H.nx = qab 0 [.int .i64 (.ofNat n), .sl mb 0 (n * n) (n * n) true] := by rw [← hH1, qaj]
  refine Ok.ve (qzj hC (k := j) (by omega) (hM.fm f1) (dbnd hl hn)) ?_
  rintro dv H2 ⟨rfl, d1, d2, f2⟩
  have mk := qe2 [.int .i64 (.ofNat 0)] 8 H2.nx n (by omega) (by omega)
  rw [qfe, q9x] at mk
  simp (disch := first | omega | exact ti rfl | (simp only [np, nq]; first | done | omega)) only [go_sem, reduceAdd, reduceMul, reduceSub, reduceLeDiff, reduceEqDiff, reduceShiftRight, reduceAnd, mk]
  unfold qxl
  rw [qaq]
  have hD := ze3 hl (ms := ms)
  have hdl : (dist n ms).length = n * n := hD.1
  have hd : Rl H2 (.sl (H1.nx + 1) 0 (n * n) (n * n) true) (ints (dist n ms)) := by
    refine Gl.rl (n := n * n) ⟨by rw [qeo, hdl, Nat.mul_one], .inr ⟨_, 0, true, 0, _, rfl, d1, Nat.zero_le _, List.drop_zero, Or.inl rfl, d2⟩⟩
  refine q0f (H1 := qan H2 (qab 0 (ints (List.replicate n 0)))) (by omega) (fun H3 k1 k2 => ?_) qam 0 _ (by rw [qai]; omega) (Nat.zero_le _) (qaj _ _) (Fm.refl _ _)
  unfold qij q5f
  rw [qaq]
  have f3 : Fm No H2 H3 := ((Fm.refl No H2).push _).then k2 fun c hc h => by omega
  have n3 := k2.nx
  rw [np] at n3
  have hI : RI (qci (qcc n ms)) H2 n H2.nx (negL n n) .nilsl [] [] H3 := by
    refine ⟨f3, k1, ⟨Nat.le_refl _, by omega⟩, qjk n n, ⟨Gl.nil _ _, rfl, fun b hb => (by obtain ⟨_, _, _, _, h⟩ := hb; cases h), fun i c o h => (by simp at h)⟩, fun b hb => (by obtain ⟨_, _, _, _, h⟩ := hb; cases h), fun i c b h => (by simp at h), List.nodup_nil, fun x h => (by simp at h), fun o h => (by cases h), fun x h => (by simp at h), fun x hx => ?_, fun j o x h => (by simp at h)⟩
    rw [q0g n n x hx hx]
    simp
  have f12 := f1.trans f2
  refine q4y (fun u k hk => (zc3 hk).2) hD hd (fun j b o e => ?_) (by omega) (fun v H4 ins cs res h1 h2 h3 => ?_) qam .nilsl H3 (negL n n) [] [] (by rw [qai]; simp; omega) hI fun R hR => hR
  · have : In (AV.sl (H1.nx + 1) 0 (n * n) (n * n) true) b := by
      by_cases hj : j < n * n
      · rw [qgx _ _ _ _ _ _ _ _ hj] at e
        cases e; exact ⟨_, _, _, _, rfl⟩
      · exfalso
        have : idxS 1 (.sl (H1.nx + 1) 0 (n * n) (n * n) true) (.int .i64 (.ofNat j)) = .bad := by
          show (bif Nat.blt j (n * n) then _ else R0.bad) = _
          rw [qfh, decide_eq_false hj]; rfl
        rw [this] at e; cases e
    obtain ⟨_, _, _, _, h⟩ := this
    cases h
    exact d2
  · unfold qcp
    exact Ok.ret ⟨v, H2.nx, ins, cs, res, H2, rfl, f12, h1, h2, h3⟩
end Go.Di
end
