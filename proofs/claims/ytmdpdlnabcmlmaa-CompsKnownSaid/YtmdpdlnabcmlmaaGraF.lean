/-
 For countersignlaw17.CompsKnown: graphs without any program. No conditions beyond those that each theorem states.
-/
import Derived.Test.YtmdpdlnabcmlmaaGraC
set_option linter.unusedSimpArgs false
set_option linter.unusedVariables false
section
/-
 Graphs without any program: walks, their lengths.
-/
namespace Go.Di
open Go.Ev
variable {A : Nat → Nat → Prop}
/- the distances that are reckoned -/
def Les (d d' : List Int) : Prop := ∀ x, 0 ≤ d.getD x 0 → 0 ≤ d'.getD x 0 ∧ d'.getD x 0 ≤ d.getD x 0
theorem Les.refl (d : List Int) : Les d d := fun _ h => ⟨h, Int.le_refl _⟩
theorem Les.trans {a b c : List Int} (h : Les a b) (h' : Les b c) : Les a c := fun x hx => by
 obtain ⟨h1, h2⟩ := h x hx
 obtain ⟨h3, h4⟩ := h' x h1
 exact ⟨h3, Int.le_trans h4 h2⟩
theorem qf1 (d : List Int) (x y : Nat) (v : Int) (hy : y < d.length) : (d.set y v).getD x 0 = if x = y then v else d.getD x 0 := by
 simp only [List.getD_eq_getElem?_getD]
 by_cases h : x = y
 ·subst h; rw [if_pos rfl, List.getElem?_set_self hy]; rfl
 ·rw [if_neg h, List.getElem?_set_ne (fun e => h e.symm)]
theorem q2u {n i j i' j' : Nat} (hj : j < n) (hj' : j' < n) (h : i * n + j = i' * n + j') : i = i' ∧ j = j' := by
 have hn : 0 < n := by omega
 have h1 : (i * n + j) / n = i := by rw [Nat.mul_comm, Nat.mul_add_div hn, Nat.div_eq_of_lt hj, Nat.add_zero]
 have h2 : (i' * n + j') / n = i' := by rw [Nat.mul_comm, Nat.mul_add_div hn, Nat.div_eq_of_lt hj', Nat.add_zero]
 have : i = i' := by rw [← h1, ← h2, h]
 subst this
 exact ⟨rfl, by omega⟩
end Go.Di
end
section
/-
 Graphs without any program: distances are those of walks; they stay small.
-/
namespace Go.Di
open Go.Ev
/- they stay small -/
def Pb (B : Int) (d : List Int) : Prop := ∀ x, -1 ≤ d.getD x 0 ∧ d.getD x 0 ≤ B
def Dz (n : Nat) (d : List Int) : Prop := ∀ i, i < n → d.getD (i * n + i) 0 = 0
structure Rnd (n k : Nat) (B : Int) (d e : List Int) : Prop where
 len : e.length = n * n
 pb : Pb (2 * B) e
 dz : Dz n e
 col : ∀ i, i < n → e.getD (i * n + k) 0 = d.getD (i * n + k) 0
 row : ∀ j, j < n → e.getD (k * n + j) 0 = d.getD (k * n + j) 0
theorem Rnd.step {n k : Nat} {B : Int} {d e : List Int} (hB : Pb B d) (hk : k < n) (h : Rnd n k B d e) {i j : Nat} (hi : i < n) (hj : j < n) : Rnd n k B d (qh8 n e k i j) := by
 unfold qh8
 split
 ·rename_i hc
  have hx := zjn hi hj
  have hl := h.len
  have hkk := h.dz k hk
  have hik : i ≠ k := by
   rintro rfl
   rw [hkk] at hc
   omega
  have hjk : j ≠ k := by
   rintro rfl
   rw [hkk] at hc
   omega
  have hij : i ≠ j := by
   rintro rfl
   have := h.dz i hi
   rw [this] at hc
   omega
  refine ⟨by rw [List.length_set]; exact h.len, fun x => ?_, fun a ha => ?_, fun a ha => ?_, fun b hb => ?_⟩
  ·rw [qf1 _ _ _ _ (by omega)]
   split
   ·have h1 := hB (i * n + k)
    have h2 := hB (k * n + j)
    rw [← h.col i hi] at h1
    rw [← h.row j hj] at h2
    omega
   ·exact h.pb x
  ·rw [qf1 _ _ _ _ (by omega), if_neg]
   ·exact h.dz a ha
   ·intro e
    obtain ⟨rfl, rfl⟩ := q2u ha hj e
    exact hij rfl
  ·rw [qf1 _ _ _ _ (by omega), if_neg]
   ·exact h.col a ha
   ·intro e
    exact hjk (q2u hk hj e).2.symm
  ·rw [qf1 _ _ _ _ (by omega), if_neg]
   ·exact h.row b hb
   ·intro e
    exact hik (q2u hb hj e).1.symm
 ·exact h
theorem Rnd.start {n k : Nat} {B : Int} {d : List Int} (hl : d.length = n * n) (hB : Pb B d) (h0 : 0 ≤ B) (hz : Dz n d) : Rnd n k B d d :=
 ⟨hl, fun x => ⟨(hB x).1, by have := (hB x).2; omega⟩, hz, fun _ _ => rfl, fun _ _ => rfl⟩
theorem Rnd.J {n k : Nat} {B : Int} {d e : List Int} (hB : Pb B d) (hk : k < n) (h : Rnd n k B d e) {i : Nat} (hi : i < n) : ∀ j, j ≤ n → Rnd n k B d (fJ n e k i j)
 | 0, _ => h
 | j + 1, hj => (Rnd.J hB hk h hi j (by omega)).step hB hk hi (by omega)
theorem Rnd.I {n k : Nat} {B : Int} {d e : List Int} (hB : Pb B d) (hk : k < n) (h : Rnd n k B d e) : ∀ i, i ≤ n → Rnd n k B d (fI n e k i)
 | 0, _ => h
 | i + 1, hi => (Rnd.I hB hk h i (by omega)).J hB hk (by omega) n (Nat.le_refl n)
end Go.Di
end
section
/-
 Graphs without any program: the edges of a matrix, in order.
-/
namespace Go.Di
open Go.Ev
theorem zht {a b : Int} (h : a < b) : cmpI a b = -1 := by unfold cmpI; rw [if_pos h]
end Go.Di
end
