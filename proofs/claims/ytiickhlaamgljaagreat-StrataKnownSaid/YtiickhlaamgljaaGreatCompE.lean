/-
 For countersignlaw18.StrataKnown: the reference. No conditions beyond those that each theorem states.
-/
import Derived.Test.YtiickhlaamgljaaGreatCompD
import Derived.Test.YtiickhlaamgljaaGreatGraF
set_option linter.unusedSimpArgs false
set_option linter.unusedVariables false
section
/-
 Contracts: the reference's components; whether a node fits, and its component.
-/
namespace Go.Di
open Go.Ev Go.Di.T Go.Sort
variable {C : Nat → Ev.Call}
def dG (n : Nat) (d : List Int) (i k : Nat) : Int := d.getD (i * n + k) 0
end Go.Di
end
section
/-
 Contracts: the reference's component of a node.
-/
namespace Go.Di
open Go.Ev Go.Di.T Go.Sort
variable {C : Nat → Ev.Call}
end Go.Di
end
section
/-
 Contracts: the reference's components.
-/
namespace Go.Di
open Go.Ev Go.Di.T Go.Sort
variable {C : Nat → Ev.Call}
def zcs (n : Nat) (adj : Nat → List Nat) (d : List Int) : Prop := d.length = n * n ∧ ∀ i k, i < n → k < n → (Int.ofNat 0 ≤ dG n d i k ↔ Rc adj i k)
structure RI (adj : Nat → List Nat) (H0 : Hp) (n nb : Nat) (ins : List Int) (v : AV) (cs : List AV) (res : List (List Nat)) (H : Hp) : Prop where
 fm : Fm No H0 H
 ng : H.get nb = qaa 0 (ints ins)
 nbl : H0.nx ≤ nb ∧ nb < H.nx
 il : ins.length = n
 ls : LsOk H0 H v cs res
 sv : ∀ b, In v b → b ≠ nb
 sc : ∀ (i : Nat) (c : AV) (b : Nat), cs[i]? = some c → In c b → b ≠ nb
 nd : res.flatten.Nodup
 lt : ∀ x ∈ res.flatten, x < n
 ne : ∀ o ∈ res, o ≠ []
 cl : ∀ x ∈ res.flatten, ∀ y, y < n → Rc adj x y → Rc adj y x → y ∈ res.flatten
 ix : ∀ x, x < n → (Int.ofNat 0 ≤ ins.getD x 0 ↔ x ∈ res.flatten)
 iv : ∀ (j : Nat) (o : List Nat) (x : Nat), res[j]? = some o → x ∈ o → ins.getD x 0 = Int.ofNat j
theorem RI.len {adj : Nat → List Nat} {H0 : Hp} {n nb : Nat} {ins : List Int} {v : AV} {cs : List AV} {res : List (List Nat)} {H : Hp} (h : RI adj H0 n nb ins v cs res H) : res.flatten.length ≤ n ∧ res.length ≤ res.flatten.length := by
 constructor
 ·have := h.nd.length_le_of_subset (l₂ := List.range n) fun x hx => List.mem_range.2 (h.lt x hx)
  rwa [List.length_range] at this
 ·have hne := h.ne
  generalize res = r at hne
  induction r with
  | nil => exact Nat.le_refl _
  | cons c r ih =>
   have h1 := ih fun c hc => hne c (List.mem_cons_of_mem _ hc)
   have h2 : 0 < c.length := List.length_pos_iff.2 (hne c List.mem_cons_self)
   rw [List.flatten_cons, List.length_append, List.length_cons]; omega
end Go.Di
end
section
/-
 Contracts: the reference's components, whole.
-/
namespace Go.Di
open Go.Ev Go.Di.T Go.Sort
variable {C : Nat → Ev.Call}
theorem qup {n : Nat} {ms : List Nat} {i k : Nat} (hi : i < n) (hk : k < n) : k ∈ qa6 (qaj n ms) i ↔ Adj n ms i k := by
 rw [qbt]
 constructor
 ·rintro ⟨e, he, rfl, rfl⟩; exact qrx he
 ·intro h; exact qpq hi hk h
theorem zce {n : Nat} {ms : List Nat} {i k : Nat} (h : k ∈ qa6 (qaj n ms) i) : i < n ∧ k < n := by
 obtain ⟨e, he, rfl, rfl⟩ := qbt.1 h
 exact (qe9 n ms).rng e he
theorem q9o {n : Nat} {ms : List Nat} : ∀ (L i k : Nat), i < n → k < n → wS (Adj n ms) n i k L → Rc (qa6 (qaj n ms)) i k
 | 0, i, k, hi, hk, h => Rc.one ((qup hi hk).2 h)
 | L + 1, i, k, hi, hk, ⟨x, hx, ha, hw⟩ => (Rc.one ((qup hi hx).2 ha)).trans (q9o L x k hx hk hw)
theorem rc_wk {n : Nat} {ms : List Nat} {i k : Nat} (hi : i < n) (h : Rc (qa6 (qaj n ms)) i k) : k < n ∧ ∃ L, wk (Adj n ms) n i k L := by
 induction h with
 | refl => exact ⟨hi, 0, rfl⟩
 | step _ e ih =>
  obtain ⟨hb, L, hL⟩ := ih
  have hc := (zce e).2
  exact ⟨hc, L + 1, qyn (L2 := 1) hL hb ((qup hb hc).1 e)⟩
theorem q2i {n : Nat} {ms : List Nat} (hl : ms.length = n * n) : zcs n (qa6 (qaj n ms)) (dist n ms) := by
 refine ⟨q5u hl, fun i k hi hk => ⟨fun h => ?_, fun h => ?_⟩⟩
 ·have h := qj3 hl i k hi hk h
  cases hL : ((dist n ms).getD (i * n + k) 0).toNat with
  | zero => rw [hL] at h; have h : i = k := h; rw [h]; exact Rc.refl _
  | succ L => rw [hL] at h; exact q9o L i k hi hk h
 ·obtain ⟨_, L, hL⟩ := rc_wk hi h
  exact (qps hl i k L hi hk hL).1
end Go.Di
end
section
/-
 Contracts: lists and components that are the same; the nodes, component by component.
-/
namespace Go.Di
open Go.Ev Go.Di.T Go.Sort
variable {C : Nat → Ev.Call} {LA LO : LP}
theorem Gs.room {w n k : Nat} {H : Hp} {b o m : Nat} {e : Bool} {l x : List AV} (h : Gs 1 H (.sl b o n m e) n l) (hx : x.length = k) (hk : n + k ≤ m) :
  ∃ H', qaz 1 w H (.sl b o n m e) (some ⟨k, x⟩) = .ok (.sl b o (n + k) m e) H' ∧ Gs 1 H' (.sl b o (n + k) m e) (n + k) (l ++ x) ∧ Fm (fun c => c = b) H H' ∧ H'.nx = H.nx := by
 rcases h.is with ⟨h, _⟩ | ⟨b', o', m', e', q, L, hv, h0, h1, h2, h3, h4, h5⟩
 ·cases h
 ·cases hv
  have hln := h.len
  refine ⟨H.put b (qaa q (setL L (o + n * 1) x)), ?_, ⟨by rw [List.length_append, hln, hx]; omega, .inr ⟨b, o, m, e, q, _, rfl, hk, qac _ _ _, ?_, ?_, h4, h5⟩⟩, (Fm.refl _ _).put b _ fun _ => rfl, rfl⟩
  ·show (bif Nat.ble (n + k) m then storeAt H b (o + n * 1) x (.sl b o (n + k) m e) else _) = _
   rw [ble_eq, decide_eq_true hk]
   exact qcd _ _ _ _ _ _ _ h1 (by omega)
  ·unfold setL
   simp only [List.length_append, List.length_take, List.length_drop]
   omega
  ·unfold setL
   have ht : (L.take (o + n * 1)).length = o + n * 1 := by rw [List.length_take]; omega
   rw [List.append_assoc, List.drop_append_of_le_length (by omega), List.drop_take, show o + n * 1 - o = n * 1 by omega]
   have hl2 : ((L.drop o).take (n * 1)).length = n * 1 := by rw [h3]; exact hln
   rw [List.take_append, List.take_of_length_le (by omega), hl2, h3, show (n + k) * 1 - n * 1 = k by omega]
   congr 1
   rw [List.take_append_of_le_length (by omega), List.take_of_length_le (by omega)]
end Go.Di
end
