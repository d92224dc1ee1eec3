/-
 For countersignlaw17.CompsKnown: the reference. No conditions beyond those that each theorem states.
-/
import Derived.Test.YtmdpdlnabcmlmaaCompD
import Derived.Test.YtmdpdlnabcmlmaaGraF
set_option linter.unusedSimpArgs false
set_option linter.unusedVariables false
open Nat (reduceAdd reduceMul reduceSub reduceLeDiff reduceEqDiff reduceShiftRight reduceAnd)
section
/-
 Contracts: the reference's components; whether a node fits, and its component.
-/
namespace Go.Di
open Go.Ev Go.Di.T Go.Sort
variable {C : Nat → Ev.Call}
end Go.Di
end
section
/-
 Contracts: the reference's component of a node.
-/
namespace Go.Di
open Go.Ev Go.Di.T Go.Sort
variable {C : Nat → Ev.Call}
end Go.Di
end
section
/-
 Contracts: the reference's components.
-/
namespace Go.Di
open Go.Ev Go.Di.T Go.Sort
variable {C : Nat → Ev.Call}
structure RI (adj : Nat → List Nat) (H0 : Hp) (n nb : Nat) (ins : List Int) (v : AV) (cs : List AV) (res : List (List Nat)) (H : Hp) : Prop where
 fm : Fm No H0 H
 ng : H.get nb = qae 0 (ints ins)
 nbl : H0.nx ≤ nb ∧ nb < H.nx
 il : ins.length = n
 ls : LsOk H0 H v cs res
 sv : ∀ b, In v b → b ≠ nb
 sc : ∀ (i : Nat) (c : AV) (b : Nat), cs[i]? = some c → In c b → b ≠ nb
 nd : res.flatten.Nodup
 lt : ∀ x ∈ res.flatten, x < n
 ne : ∀ o ∈ res, o ≠ []
 cl : ∀ x ∈ res.flatten, ∀ y, y < n → Rc adj x y → Rc adj y x → y ∈ res.flatten
 ix : ∀ x, x < n → (Int.ofNat 0 ≤ ins.getD x 0 ↔ x ∈ res.flatten)
 iv : ∀ (j : Nat) (o : List Nat) (x : Nat), res[j]? = some o → x ∈ o → ins.getD x 0 = Int.ofNat j
theorem RI.len {adj : Nat → List Nat} {H0 : Hp} {n nb : Nat} {ins : List Int} {v : AV} {cs : List AV} {res : List (List Nat)} {H : Hp} (h : RI adj H0 n nb ins v cs res H) : res.flatten.length ≤ n ∧ res.length ≤ res.flatten.length := by
 constructor
 ·have := h.nd.length_le_of_subset (l₂ := List.range n) fun x hx => List.mem_range.2 (h.lt x hx)
  rwa [List.length_range] at this
 ·have hne := h.ne
  generalize res = r at hne
  induction r with
  | nil => exact Nat.le_refl _
  | cons c r ih =>
   have h1 := ih fun c hc => hne c (List.mem_cons_of_mem _ hc)
   have h2 : 0 < c.length := List.length_pos_iff.2 (hne c List.mem_cons_self)
   rw [List.flatten_cons, List.length_append, List.length_cons]; omega
end Go.Di
end
section
/-
 Contracts: the reference's components, whole.
-/
namespace Go.Di
open Go.Ev Go.Di.T Go.Sort
variable {C : Nat → Ev.Call}
end Go.Di
end
section
/-
 Contracts: lists and components that are the same; the nodes, component by component.
-/
namespace Go.Di
open Go.Ev Go.Di.T Go.Sort
variable {C : Nat → Ev.Call} {LA LO : LP}
theorem qs8 {call : Ev.Call} {H : Hp} {v w : AV} {l : List AV} (hv : Rl H v l) (hw : Rl H w l) (hint : ∀ x ∈ l, ∃ z : Int, x = .int .i64 z) (hl : l.length < 900000) {q1 : AV → Hp → R1} {q2 : Hp → R1} {Q : AV → Hp → Prop} (hq : Ok (q2 H) Q) :
  ∀ (k i : Nat), l.length - i < k → i ≤ l.length → Ok (quy call q1 q2 v w k (.int .i64 (.ofNat i)) H) Q
 | 0, i, h, _ => by omega
 | k + 1, i, h, hi => by
  show Ok (zab call _ _ _ _ (quy call _ _ _ _ k) _ H) Q
  unfold zab
  have e0 := hw.len
  by_cases hil : i < l.length
  ·obtain ⟨b1, o1, e1, _, e2⟩ := hv.at' i hil
   obtain ⟨b2, o2, e3, _, e4⟩ := hw.at' i hil
   obtain ⟨z, hz⟩ := hint l[i] (List.getElem_mem _)
   rw [hz] at e2 e4
   simp (disch := omega) only [go_sem, reduceAdd, e0, hil]
   unfold q99
   simp (disch := omega) only [go_sem, reduceAdd, e1, e2, e3, e4]
   unfold zaa
   simp (disch := omega) only [go_sem, reduceAdd]
   exact qs8 hv hw hint hl hq k (i + 1) (by omega) (by omega)
  ·simp (disch := omega) only [go_sem, reduceAdd, e0, hil]
   exact hq
theorem qmg (hC : qbt C) {k : Nat} (hk : 1 ≤ k) {H : Hp} {v w : AV} {l : List AV} (hv : Rl H v l) (hw : Rl H w l) (hint : ∀ x ∈ l, ∃ z : Int, x = .int .i64 z) (hl : l.length < 900000) (hc : capV v = .val (.int .i64 (.ofNat l.length))) (z : Int) :
  Ok (C k (.f qj6) [v, .int .i64 z, w, .int .i64 z] H) fun r H' => r = .bool true ∧ H' = H := by
 obtain ⟨j, rfl⟩ : ∃ j, k = j + 1 := ⟨k - 1, by omega⟩
 rw [(hC j).lwL]
 unfold lwL zg1
 have e1 := hv.len
 have e2 := hw.len
 simp (disch := omega) only [go_sem, reduceAdd, e1, e2, hc]
 unfold q2c zac
 rw [qam]
 refine qs8 hv hw hint hl ?_ qak 0 (by rw [qag]; omega) (Nat.zero_le _)
 unfold qsv
 exact Ok.ret ⟨rfl, rfl⟩
theorem qpx (l : List Nat) : ∀ x ∈ nats l, ∃ z : Int, x = .int .i64 z := fun x hx => by
 obtain ⟨m, _, rfl⟩ := List.mem_map.1 hx
 exact ⟨_, rfl⟩
theorem qy2 (hC : qbt C) {j : Nat} (hj : 1 ≤ j) {H0 H : Hp} {v lv iv : AV} {os cs : List AV} {res : List (List Nat)} {g0 : Nat} (hg : H.get g0 = qae 0 [lv, iv]) (hos : Gl 1 H lv os.length os) (hlen : os.length = res.length) (hcl : os.length < 900)
  (hat : ∀ (j : Nat) (w : AV) (o : List Nat), os[j]? = some w → res[j]? = some o → Gl 1 H w o.length (nats o) ∧ capV w = .val (.int .i64 (.ofNat o.length)) ∧ o.length < 900) (hL : LsOk H0 H v cs res) {q1 : AV → Hp → R1} {q2 : Hp → R1} {Q : AV → Hp → Prop} (hq : Ok (q2 H) Q) :
  ∀ (k i : Nat), cs.length - i < k → i ≤ cs.length → Ok (qux (C j) q1 q2 v (.ptr g0 0) k (.int .i64 (.ofNat i)) H) Q
 | 0, i, h, _ => by omega
 | k + 1, i, h, hi => by
  show Ok (q97 (C j) _ _ _ _ (qux (C j) _ _ _ _ k) _ H) Q
  unfold q97
  have e0 := hL.gl.lenV
  have hl2 := hL.len
  by_cases hil : i < cs.length
  ·simp (disch := omega) only [go_sem, reduceAdd, e0, hil]
   unfold q2b
   obtain ⟨b1, o1, e1, _, _, e2⟩ := hos.at (i := i) (x := os[i]'(by omega)) (by simp)
   obtain ⟨b2, o2, e3, _, _, e4⟩ := hL.gl.at (i := i) (x := cs[i]) (by simp)
   obtain ⟨g1, g2, g3⟩ := hat i (os[i]'(by omega)) (res[i]'(by omega)) (by simp) (by simp)
   obtain ⟨_, k2, _⟩ := hL.at' i cs[i] (res[i]'(by omega)) (by simp) (by simp)
   have f1 := qcp hos.flat 63
   have f2 := qcp g1.flat 63
   have f3 := qcp k2.flat 63
   generalize hx : os[i]'(by omega) = x at *
   generalize hy : cs[i] = y at *
   generalize hz : res[i]'(by omega) = z at *
   have f1' : eqF 64 lv lv = true := f1
   have f2' : eqF 64 x x = true := f2
   have f3' : eqF 64 y y = true := f3
   simp (disch := omega) only [go_sem, reduceAdd, hg, e1, e2, e3, e4]
   refine Ok.deO (qmg hC hj (l := nats z) (g1.rl) (k2.rl) (qpx z) (by rw [qbg]; omega) (by rw [qbg]; exact g2) 0) ?_
   rintro r H' ⟨rfl, rfl⟩
   simp (disch := omega) only [go_sem, reduceAdd, hg, e1, e2, e3, e4, f1', f2', f3']
   unfold q96
   simp (disch := omega) only [go_sem, reduceAdd]
   exact qy2 hC hj hg hos hlen hcl hat hL hq k (i + 1) (by omega) (by omega)
  ·simp (disch := omega) only [go_sem, reduceAdd, e0, hil]
   exact hq
theorem Gs.room {w n k : Nat} {H : Hp} {b o m : Nat} {e : Bool} {l x : List AV} (h : Gs 1 H (.sl b o n m e) n l) (hx : x.length = k) (hk : n + k ≤ m) :
  ∃ H', qbc 1 w H (.sl b o n m e) (some ⟨k, x⟩) = .ok (.sl b o (n + k) m e) H' ∧ Gs 1 H' (.sl b o (n + k) m e) (n + k) (l ++ x) ∧ Fm (fun c => c = b) H H' ∧ H'.nx = H.nx := by
 rcases h.is with ⟨h, _⟩ | ⟨b', o', m', e', q, L, hv, h0, h1, h2, h3, h4, h5⟩
 ·cases h
 ·cases hv
  have hln := h.len
  refine ⟨H.put b (qae q (setL L (o + n * 1) x)), ?_, ⟨by rw [List.length_append, hln, hx]; omega, .inr ⟨b, o, m, e, q, _, rfl, hk, qai _ _ _, ?_, ?_, h4, h5⟩⟩, (Fm.refl _ _).put b _ fun _ => rfl, rfl⟩
  ·show (bif Nat.ble (n + k) m then storeAt H b (o + n * 1) x (.sl b o (n + k) m e) else _) = _
   rw [ble_eq, decide_eq_true hk]
   exact qm1 _ _ _ _ _ _ _ h1 (by omega)
  ·unfold setL
   simp only [List.length_append, List.length_take, List.length_drop]
   omega
  ·unfold setL
   have ht : (L.take (o + n * 1)).length = o + n * 1 := by rw [List.length_take]; omega
   rw [List.append_assoc, List.drop_append_of_le_length (by omega), List.drop_take, show o + n * 1 - o = n * 1 by omega]
   have hl2 : ((L.drop o).take (n * 1)).length = n * 1 := by rw [h3]; exact hln
   rw [List.take_append, List.take_of_length_le (by omega), hl2, h3, show (n + k) * 1 - n * 1 = k by omega]
   congr 1
   rw [List.take_append_of_le_length (by omega), List.take_of_length_le (by omega)]
theorem srcGl {H : Hp} {v : AV} {n : Nat} {l : List AV} (h : Gl 1 H v n l) : qb8 1 H v = some ⟨n, l⟩ := by
 have hl := h.len
 rcases h.is with ⟨rfl, rfl⟩ | ⟨b, o, e, q, L, rfl, h1, h2, h3, h4, h5⟩
 ·have : l = [] := List.length_eq_zero_iff.1 (by omega)
  rw [this]; rfl
 ·have hd : o + n * 1 ≤ L.length := by rw [← h3, List.length_drop] at hl; omega
  rw [q8p 1 H b o n n e q L h1 hd, h3, List.take_of_length_le (by omega)]
def flt (res : List (List Nat)) (i : Nat) : List Nat := (res.take i).flatten
theorem q46 (res : List (List Nat)) (i : Nat) (h : i < res.length) : flt res (i + 1) = flt res i ++ res[i] := by
 unfold flt
 rw [List.take_succ_eq_append_getElem h, List.flatten_append]
 simp
theorem zfo (res : List (List Nat)) (i : Nat) : (flt res i).length ≤ res.flatten.length := by
 have : res.flatten = (res.take i).flatten ++ (res.drop i).flatten := by rw [← List.flatten_append, List.take_append_drop]
 unfold flt
 rw [this, List.length_append]; omega
theorem q31 {call : Ev.Call} {H : Hp} {lv : AV} {os : List AV} {res : List (List Nat)} (hos : Gl 1 H lv os.length os) (hlen : os.length = res.length) (hs : res.flatten.length < 900) (hol : os.length < 900)
  (hat : ∀ (j : Nat) (w : AV) (o : List Nat), os[j]? = some w → res[j]? = some o → Gl 1 H w o.length (nats o)) {q : AV → Hp → R1} {Q : AV → Hp → Prop} (hq : Ok (q (.int .i64 (.ofNat res.flatten.length)) H) Q) :
  ∀ (k i : Nat), os.length - i < k → i ≤ os.length → Ok (qjo call q lv (.int .i64 (.ofNat os.length)) k (.int .i64 (.ofNat (flt res i).length)) (.int .i64 (.ofNat i)) H) Q
 | 0, i, h, _ => by omega
 | k + 1, i, h, hi => by
  show Ok (qwe call _ _ _ (qjo call _ _ _ k) _ _ H) Q
  unfold qwe
  by_cases hil : i < os.length
  ·simp (disch := omega) only [go_sem, reduceAdd, hil]
   unfold qwc
   obtain ⟨b1, o1, e1, _, _, e2⟩ := hos.at (i := i) (x := os[i]) (by simp)
   have g1 := hat i os[i] (res[i]'(by omega)) (by simp) (by simp)
   have e3 := g1.lenV
   have hf := q46 res i (by omega)
   have hfl := zfo res (i + 1)
   have hfe : (flt res (i + 1)).length = (flt res i).length + (res[i]'(by omega)).length := by rw [hf, List.length_append]
   have hnn : ¬ (Int.ofNat ((flt res i).length + (res[i]'(by omega)).length) < Int.ofNat 0) := by simp only [Int.ofNat_eq_natCast]; omega
   simp (disch := omega) only [go_sem, reduceAdd, e1, e2, e3, hnn]
   unfold qpq
   simp (disch := omega) only [go_sem, reduceAdd]
   rw [← hfe]
   exact q31 hos hlen hs hol hat hq k (i + 1) (by omega) (by omega)
  ·simp (disch := omega) only [go_sem, reduceAdd, hil]
   have : i = os.length := by omega
   subst this
   have e : flt res os.length = res.flatten := by unfold flt; rw [hlen, List.take_length]
   rw [e]
   exact hq
end Go.Di
end
