/-
 For countersignlaw18.StrataKnown: graphs without any program. No conditions beyond those that each theorem states.
-/
import Derived.Test.YtiickhlaamgljaaGreatGraC
set_option linter.unusedSimpArgs false
set_option linter.unusedVariables false
section
/-
 Graphs without any program: walks, their lengths.
-/
namespace Go.Di
open Go.Ev
def wS (A : Nat → Nat → Prop) (K : Nat) (i j : Nat) : Nat → Prop
 | 0 => A i j
 | L + 1 => ∃ x, x < K ∧ A i x ∧ wS A K x j L
def wk (A : Nat → Nat → Prop) (K : Nat) (i j : Nat) : Nat → Prop
 | 0 => i = j
 | L + 1 => wS A K i j L
variable {A : Nat → Nat → Prop}
theorem q6h {K : Nat} : ∀ (L1 L2 i x j : Nat), wS A K i x L1 → x < K → wS A K x j L2 → wS A K i j (L1 + L2 + 1)
 | 0, L2, i, x, j, h, hx, h2 => ⟨x, hx, h, by rw [Nat.zero_add]; exact h2⟩
 | L1 + 1, L2, i, x, j, ⟨y, hy, ha, hw⟩, hx, h2 => ⟨y, hy, ha, by
   have := q6h L1 L2 y x j hw hx h2
   rw [show L1 + 1 + L2 = L1 + L2 + 1 by omega]; exact this⟩
theorem qyn {K : Nat} {L1 L2 i x j : Nat} (h1 : wk A K i x L1) (hx : x < K) (h2 : wk A K x j L2) : wk A K i j (L1 + L2) := by
 cases L1 with
 | zero =>
  have : i = x := h1
  subst this; rw [Nat.zero_add]; exact h2
 | succ L1 =>
  cases L2 with
  | zero =>
   have : x = j := h2
   subst this; exact h1
  | succ L2 =>
   have := q6h L1 L2 i x j h1 hx h2
   rw [show L1 + 1 + (L2 + 1) = (L1 + L2 + 1) + 1 by omega]; exact this
theorem qux {K : Nat} : ∀ (L i j : Nat), wS A (K + 1) i j L → wS A K i j L ∨ ∃ L1 L2, wS A K i K L1 ∧ wS A K K j L2 ∧ L1 + L2 < L
 | 0, _, _, h => .inl h
 | L + 1, i, j, ⟨x, hx, ha, hw⟩ => by
  have hx' : x < K ∨ x = K := by omega
  rcases qux L x j hw with h | ⟨L1, L2, h1, h2, h3⟩
  ·rcases hx' with hx | rfl
   ·exact .inl ⟨x, hx, ha, h⟩
   ·exact .inr ⟨0, L, ha, h, by omega⟩
  ·rcases hx' with hx | rfl
   ·exact .inr ⟨L1 + 1, L2, ⟨x, hx, ha, h1⟩, h2, by omega⟩
   ·exact .inr ⟨0, L2, ha, h2, by omega⟩
theorem q3w {K : Nat} {L i j : Nat} (h : wk A (K + 1) i j L) : wk A K i j L ∨ ∃ L1 L2, wk A K i K L1 ∧ wk A K K j L2 ∧ L1 + L2 ≤ L := by
 cases L with
 | zero => exact .inl h
 | succ L =>
  rcases qux L i j h with h | ⟨L1, L2, h1, h2, h3⟩
  ·exact .inl h
  ·exact .inr ⟨L1 + 1, L2 + 1, h1, h2, by omega⟩
/- the distances that are reckoned -/
def Snd (A : Nat → Nat → Prop) (n : Nat) (d : List Int) : Prop := ∀ i j, i < n → j < n → 0 ≤ d.getD (i * n + j) 0 → wk A n i j (d.getD (i * n + j) 0).toNat
def Cmp (A : Nat → Nat → Prop) (n K : Nat) (d : List Int) : Prop := ∀ i j L, i < n → j < n → wk A K i j L → 0 ≤ d.getD (i * n + j) 0 ∧ d.getD (i * n + j) 0 ≤ L
def Les (d d' : List Int) : Prop := ∀ x, 0 ≤ d.getD x 0 → 0 ≤ d'.getD x 0 ∧ d'.getD x 0 ≤ d.getD x 0
theorem Les.refl (d : List Int) : Les d d := fun _ h => ⟨h, Int.le_refl _⟩
theorem Les.trans {a b c : List Int} (h : Les a b) (h' : Les b c) : Les a c := fun x hx => by
 obtain ⟨h1, h2⟩ := h x hx
 obtain ⟨h3, h4⟩ := h' x h1
 exact ⟨h3, Int.le_trans h4 h2⟩
theorem qbq (d : List Int) (x y : Nat) (v : Int) (hy : y < d.length) : (d.set y v).getD x 0 = if x = y then v else d.getD x 0 := by
 simp only [List.getD_eq_getElem?_getD]
 by_cases h : x = y
 ·subst h; rw [if_pos rfl, List.getElem?_set_self hy]; rfl
 ·rw [if_neg h, List.getElem?_set_ne (fun e => h e.symm)]
theorem qlg {n i j i' j' : Nat} (hj : j < n) (hj' : j' < n) (h : i * n + j = i' * n + j') : i = i' ∧ j = j' := by
 have hn : 0 < n := by omega
 have h1 : (i * n + j) / n = i := by rw [Nat.mul_comm, Nat.mul_add_div hn, Nat.div_eq_of_lt hj, Nat.add_zero]
 have h2 : (i' * n + j') / n = i' := by rw [Nat.mul_comm, Nat.mul_add_div hn, Nat.div_eq_of_lt hj', Nat.add_zero]
 have : i = i' := by rw [← h1, ← h2, h]
 subst this
 exact ⟨rfl, by omega⟩
theorem qqn (n : Nat) (d : List Int) (k i j : Nat) (hl : d.length = n * n) (hi : i < n) (hj : j < n) : Les d (qce n d k i j) := by
 have hx := qm3 hi hj
 unfold qce
 split
 ·rename_i h
  intro x hx0
  rw [qbq _ _ _ _ (by omega)]
  split
  ·rename_i e
   subst e
   exact ⟨Int.add_nonneg h.1 h.2.1, by rcases h.2.2 with h' | h' <;> omega⟩
  ·exact ⟨hx0, Int.le_refl _⟩
 ·exact Les.refl d
theorem qy2 (n : Nat) (d : List Int) (k i j : Nat) (hl : d.length = n * n) (hk : k < n) (hi : i < n) (hj : j < n) (h : Snd A n d) : Snd A n (qce n d k i j) := by
 have hx := qm3 hi hj
 unfold qce
 split
 ·rename_i hc
  intro a b ha hb h0
  rw [qbq _ _ _ _ (by omega)] at h0 ⊢
  split
  ·rename_i e
   obtain ⟨rfl, rfl⟩ := qlg hb hj e
   have w1 := h a k ha hk hc.1
   have w2 := h k b hk hb hc.2.1
   rw [Int.toNat_add hc.1 hc.2.1]
   exact qyn w1 hk w2
  ·rename_i e
   rw [if_neg e] at h0
   exact h a b ha hb h0
 ·exact h
theorem qv7 (n : Nat) (d : List Int) (k i : Nat) (hl : d.length = n * n) (hi : i < n) : ∀ j, j ≤ n → Les d (fJ n d k i j)
 | 0, _ => Les.refl d
 | j + 1, h => (qv7 n d k i hl hi j (by omega)).trans (qqn n _ k i j (by rw [qna]; exact hl) hi (by omega))
theorem q11 (n : Nat) (d : List Int) (k : Nat) (hl : d.length = n * n) : ∀ i, i ≤ n → Les d (fI n d k i)
 | 0, _ => Les.refl d
 | i + 1, h => (q11 n d k hl i (by omega)).trans (qv7 n _ k i (by rw [qjj]; exact hl) (by omega) n (Nat.le_refl n))
theorem q6w (n : Nat) (d : List Int) (k i : Nat) (hl : d.length = n * n) (hk : k < n) (hi : i < n) (h : Snd A n d) : ∀ j, j ≤ n → Snd A n (fJ n d k i j)
 | 0, _ => h
 | j + 1, hj => qy2 n _ k i j (by rw [qna]; exact hl) hk hi (by omega) (q6w n d k i hl hk hi h j (by omega))
theorem q6x (n : Nat) (d : List Int) (k : Nat) (hl : d.length = n * n) (hk : k < n) (h : Snd A n d) : ∀ i, i ≤ n → Snd A n (fI n d k i)
 | 0, _ => h
 | i + 1, hi => q6w n _ k i (by rw [qjj]; exact hl) hk (by omega) (q6x n d k hl hk h i (by omega)) n (Nat.le_refl n)
theorem zbg (n : Nat) (d : List Int) (k : Nat) (hl : d.length = n * n) (hk : k < n) (h : Cmp A n k d) : Cmp A n (k + 1) (fI n d k n) := by
 intro i j L hi hj hw
 have old : ∀ L, wk A k i j L → 0 ≤ (fI n d k n).getD (i * n + j) 0 ∧ (fI n d k n).getD (i * n + j) 0 ≤ L := fun L hw => by
  obtain ⟨h1, h2⟩ := h i j L hi hj hw
  obtain ⟨h3, h4⟩ := q11 n d k hl n (Nat.le_refl n) _ h1
  exact ⟨h3, by omega⟩
 rcases q3w hw with hw | ⟨L1, L2, w1, w2, h3⟩
 ·exact old L hw
 ·obtain ⟨a1, a2⟩ := h i k L1 hi hk w1
  obtain ⟨b1, b2⟩ := h k j L2 hk hj w2
  -- at the turn of i and j
  have lJ : (fJ n (fI n d k i) k i j).length = n * n := by rw [qna, qjj]; exact hl
  have l1 : Les d (fJ n (fI n d k i) k i j) := (q11 n d k hl i (by omega)).trans (qv7 n _ k i (by rw [qjj]; exact hl) hi j (by omega))
  obtain ⟨c1, c2⟩ := l1 _ a1
  obtain ⟨d1, d2⟩ := l1 _ b1
  have hx := qm3 hi hj
  have now : 0 ≤ (fJ n (fI n d k i) k i (j + 1)).getD (i * n + j) 0 ∧ (fJ n (fI n d k i) k i (j + 1)).getD (i * n + j) 0 ≤ L := by
   show 0 ≤ (qce n (fJ n (fI n d k i) k i j) k i j).getD (i * n + j) 0 ∧ (qce n (fJ n (fI n d k i) k i j) k i j).getD (i * n + j) 0 ≤ L
   unfold qce
   split
   ·rw [qbq _ _ _ _ (by omega), if_pos rfl]
    omega
   ·rename_i hn
    have : ¬ ((fJ n (fI n d k i) k i j).getD (i * n + j) 0 < 0 ∨ (fJ n (fI n d k i) k i j).getD (i * n + k) 0 + (fJ n (fI n d k i) k i j).getD (k * n + j) 0 < (fJ n (fI n d k i) k i j).getD (i * n + j) 0) := fun h => hn ⟨c1, d1, h⟩
    omega
  have l2 : ∀ m, Les (fJ n (fI n d k i) k i (j + 1)) (fJ n (fI n d k i) k i (j + 1 + m)) ∨ n < j + 1 + m := by
   intro m
   induction m with
   | zero => exact .inl (Les.refl _)
   | succ m ih =>
    by_cases hm : j + 1 + m < n
    ·rcases ih with h | h
     ·exact .inl (h.trans (qqn n _ k i (j + 1 + m) (by rw [qna, qjj]; exact hl) hi hm))
     ·omega
    ·exact .inr (by omega)
  have l3 : Les (fJ n (fI n d k i) k i (j + 1)) (fJ n (fI n d k i) k i n) := by
   rcases l2 (n - (j + 1)) with h | h
   ·rwa [show j + 1 + (n - (j + 1)) = n by omega] at h
   ·omega
  have l4 : ∀ m, Les (fI n d k (i + 1)) (fI n d k (i + 1 + m)) ∨ n < i + 1 + m := by
   intro m
   induction m with
   | zero => exact .inl (Les.refl _)
   | succ m ih =>
    by_cases hm : i + 1 + m < n
    ·rcases ih with h | h
     ·exact .inl (h.trans (qv7 n _ k (i + 1 + m) (by rw [qjj]; exact hl) hm n (Nat.le_refl n)))
     ·omega
    ·exact .inr (by omega)
  have l5 : Les (fI n d k (i + 1)) (fI n d k n) := by
   rcases l4 (n - (i + 1)) with h | h
   ·rwa [show i + 1 + (n - (i + 1)) = n by omega] at h
   ·omega
  obtain ⟨e1, e2⟩ := (l3.trans l5) _ now.1
  exact ⟨e1, Int.le_trans e2 now.2⟩
theorem q8r (n : Nat) (d : List Int) (hl : d.length = n * n) (hs : Snd A n d) (hc : Cmp A n 0 d) : ∀ k, k ≤ n → Snd A n (fK n d k) ∧ Cmp A n k (fK n d k)
 | 0, _ => ⟨hs, hc⟩
 | k + 1, hk => by
  obtain ⟨h1, h2⟩ := q8r n d hl hs hc k (by omega)
  exact ⟨q6x n _ k (by rw [qv6]; exact hl) (by omega) h1 n (Nat.le_refl n), zbg n _ k (by rw [qv6]; exact hl) (by omega) h2⟩
end Go.Di
end
section
/-
 Graphs without any program: distances are those of walks; they stay small.
-/
namespace Go.Di
open Go.Ev
def Adj (n : Nat) (ms : List Nat) (i j : Nat) : Prop := 0 < ms.getD (i * n + j) 0
theorem zb2 (ms : List Nat) (x : Nat) (h : x < ms.length) : (d1 ms).getD x 0 = if 0 < ms.getD x 0 then 1 else -1 := by
 unfold d1
 simp only [List.getD_eq_getElem?_getD, List.getElem?_map, List.getElem?_eq_getElem h]
 rfl
theorem q64 (n : Nat) (d : List Int) (hl : d.length = n * n) {a b : Nat} (ha : a < n) (hb : b < n) : ∀ m, m ≤ n → (dg n d m).getD (a * n + b) 0 = if a = b ∧ a < m then 0 else d.getD (a * n + b) 0
 | 0, _ => by rw [if_neg (by omega)]; rfl
 | m + 1, hm => by
  have hx := qm3 (show m < n by omega) (show m < n by omega)
  show ((dg n d m).set (m * n + m) 0).getD (a * n + b) 0 = _
  rw [qbq _ _ _ _ (by rw [q2k]; omega), q64 n d hl ha hb m (by omega)]
  by_cases e : a * n + b = m * n + m
  ·obtain ⟨rfl, rfl⟩ := qlg hb (show m < n by omega) e
   rw [if_pos rfl, if_pos (by omega)]
  ·rw [if_neg e]
   by_cases h : a = b ∧ a < m
   ·rw [if_pos h, if_pos (by omega)]
   ·rw [if_neg h, if_neg]
    rintro ⟨rfl, h2⟩
    have : a = m := by omega
    subst this
    exact e rfl
theorem q66 {n : Nat} {ms : List Nat} (hl : ms.length = n * n) {a b : Nat} (ha : a < n) (hb : b < n) : (dg n (d1 ms) n).getD (a * n + b) 0 = if a = b then 0 else if 0 < ms.getD (a * n + b) 0 then 1 else -1 := by
 have hx := qm3 ha hb
 rw [q64 n (d1 ms) (by unfold d1; rw [List.length_map]; exact hl) ha hb n (Nat.le_refl n), zb2 _ _ (by omega)]
 by_cases h : a = b
 ·rw [if_pos ⟨h, ha⟩, if_pos h]
 ·rw [if_neg (fun h' => h h'.1), if_neg h]
theorem q2m {n : Nat} {ms : List Nat} (hl : ms.length = n * n) : (dg n (d1 ms) n).length = n * n := by
 rw [q2k]; unfold d1; rw [List.length_map]; exact hl
theorem q65 {n : Nat} {ms : List Nat} (hl : ms.length = n * n) : Snd (Adj n ms) n (dg n (d1 ms) n) := by
 intro i j hi hj h
 rw [q66 hl hi hj] at h ⊢
 by_cases e : i = j
 ·rw [if_pos e]; exact e
 ·rw [if_neg e] at h ⊢
  by_cases ha : 0 < ms.getD (i * n + j) 0
  ·rw [if_pos ha]; exact ha
  ·rw [if_neg ha] at h; omega
theorem q67 {n : Nat} {ms : List Nat} (hl : ms.length = n * n) : Cmp (Adj n ms) n 0 (dg n (d1 ms) n) := by
 intro i j L hi hj hw
 rw [q66 hl hi hj]
 match L, hw with
 | 0, hw =>
  have : i = j := hw
  rw [if_pos this]; omega
 | 1, hw =>
  have ha : 0 < ms.getD (i * n + j) 0 := hw
  by_cases e : i = j
  ·rw [if_pos e]; omega
  ·rw [if_neg e, if_pos ha]; omega
 | L + 2, ⟨x, hx, _⟩ => omega
theorem q5u {n : Nat} {ms : List Nat} (hl : ms.length = n * n) : (dist n ms).length = n * n := by
 unfold dist; rw [qv6, q2m hl]
theorem qj3 {n : Nat} {ms : List Nat} (hl : ms.length = n * n) : Snd (Adj n ms) n (dist n ms) := (q8r n _ (q2m hl) (q65 hl) (q67 hl) n (Nat.le_refl n)).1
theorem qps {n : Nat} {ms : List Nat} (hl : ms.length = n * n) : Cmp (Adj n ms) n n (dist n ms) := (q8r n _ (q2m hl) (q65 hl) (q67 hl) n (Nat.le_refl n)).2
/- they stay small -/
def Pb (B : Int) (d : List Int) : Prop := ∀ x, -1 ≤ d.getD x 0 ∧ d.getD x 0 ≤ B
def Dz (n : Nat) (d : List Int) : Prop := ∀ i, i < n → d.getD (i * n + i) 0 = 0
structure Rnd (n k : Nat) (B : Int) (d e : List Int) : Prop where
 len : e.length = n * n
 pb : Pb (2 * B) e
 dz : Dz n e
 col : ∀ i, i < n → e.getD (i * n + k) 0 = d.getD (i * n + k) 0
 row : ∀ j, j < n → e.getD (k * n + j) 0 = d.getD (k * n + j) 0
theorem Rnd.step {n k : Nat} {B : Int} {d e : List Int} (hB : Pb B d) (hk : k < n) (h : Rnd n k B d e) {i j : Nat} (hi : i < n) (hj : j < n) : Rnd n k B d (qce n e k i j) := by
 unfold qce
 split
 ·rename_i hc
  have hx := qm3 hi hj
  have hl := h.len
  have hkk := h.dz k hk
  have hik : i ≠ k := by
   rintro rfl
   rw [hkk] at hc
   omega
  have hjk : j ≠ k := by
   rintro rfl
   rw [hkk] at hc
   omega
  have hij : i ≠ j := by
   rintro rfl
   have := h.dz i hi
   rw [this] at hc
   omega
  refine ⟨by rw [List.length_set]; exact h.len, fun x => ?_, fun a ha => ?_, fun a ha => ?_, fun b hb => ?_⟩
  ·rw [qbq _ _ _ _ (by omega)]
   split
   ·have h1 := hB (i * n + k)
    have h2 := hB (k * n + j)
    rw [← h.col i hi] at h1
    rw [← h.row j hj] at h2
    omega
   ·exact h.pb x
  ·rw [qbq _ _ _ _ (by omega), if_neg]
   ·exact h.dz a ha
   ·intro e
    obtain ⟨rfl, rfl⟩ := qlg ha hj e
    exact hij rfl
  ·rw [qbq _ _ _ _ (by omega), if_neg]
   ·exact h.col a ha
   ·intro e
    exact hjk (qlg hk hj e).2.symm
  ·rw [qbq _ _ _ _ (by omega), if_neg]
   ·exact h.row b hb
   ·intro e
    exact hik (qlg hb hj e).1.symm
 ·exact h
theorem Rnd.start {n k : Nat} {B : Int} {d : List Int} (hl : d.length = n * n) (hB : Pb B d) (h0 : 0 ≤ B) (hz : Dz n d) : Rnd n k B d d :=
 ⟨hl, fun x => ⟨(hB x).1, by have := (hB x).2; omega⟩, hz, fun _ _ => rfl, fun _ _ => rfl⟩
theorem Rnd.J {n k : Nat} {B : Int} {d e : List Int} (hB : Pb B d) (hk : k < n) (h : Rnd n k B d e) {i : Nat} (hi : i < n) : ∀ j, j ≤ n → Rnd n k B d (fJ n e k i j)
 | 0, _ => h
 | j + 1, hj => (Rnd.J hB hk h hi j (by omega)).step hB hk hi (by omega)
theorem Rnd.I {n k : Nat} {B : Int} {d e : List Int} (hB : Pb B d) (hk : k < n) (h : Rnd n k B d e) : ∀ i, i ≤ n → Rnd n k B d (fI n e k i)
 | 0, _ => h
 | i + 1, hi => (Rnd.I hB hk h i (by omega)).J hB hk (by omega) n (Nat.le_refl n)
end Go.Di
end
section
/-
 Graphs without any program: the edges of a matrix, in order.
-/
namespace Go.Di
open Go.Ev
def kT (n : Nat) (e : T3) : Nat := (e.f * n + e.t) * 2 + e.s
theorem qt1 {n : Nat} {ms : List Nat} {i k : Nat} {e : T3} (h : e ∈ ent n ms i k) : e.f = i ∧ e.t = k ∧ e.s < 2 ∧ 0 < ms.getD (i * n + k) 0 := by
 unfold ent at h
 rcases List.mem_append.1 h with h | h
 ·split at h
  ·rw [List.mem_singleton] at h; subst h
   refine ⟨rfl, rfl, Nat.zero_lt_two, ?_⟩
   rcases Nat.eq_zero_or_pos (ms.getD (i * n + k) 0) with h0 | h0
   ·rename_i h1; rw [h0] at h1; omega
   ·exact h0
  ·cases h
 ·split at h
  ·rename_i h1
   rw [List.mem_singleton] at h; subst h
   exact ⟨rfl, rfl, Nat.one_lt_two, by omega⟩
  ·cases h
theorem zbn {n : Nat} {ms : List Nat} {i k : Nat} (h : 0 < ms.getD (i * n + k) 0) : ∃ e ∈ ent n ms i k, e.f = i ∧ e.t = k := by
 unfold ent
 by_cases h1 : 1 < ms.getD (i * n + k) 0
 ·exact ⟨⟨i, k, 1⟩, List.mem_append_right _ (by rw [if_pos h1]; exact List.mem_singleton.2 rfl), rfl, rfl⟩
 ·exact ⟨⟨i, k, 0⟩, List.mem_append_left _ (by rw [if_pos (by omega)]; exact List.mem_singleton.2 rfl), rfl, rfl⟩
theorem zbm (n : Nat) (ms : List Nat) (i k : Nat) : (ent n ms i k).Pairwise (fun a b => kT n a < kT n b) := by
 unfold ent
 split <;> split <;> simp [kT]
theorem qnc {n : Nat} {ms : List Nat} {i : Nat} {e : T3} : ∀ {k : Nat}, e ∈ eR n ms i k → e.f = i ∧ e.t < k ∧ e.s < 2 ∧ 0 < ms.getD (i * n + e.t) 0
 | 0, h => by cases h
 | k + 1, h => by
  rcases List.mem_append.1 h with h | h
  ·obtain ⟨h1, h2, h3, h4⟩ := qnc h
   exact ⟨h1, by omega, h3, h4⟩
  ·obtain ⟨h1, h2, h3, h4⟩ := qt1 h
   exact ⟨h1, by omega, h3, by rw [h2]; exact h4⟩
theorem zbt {n : Nat} {ms : List Nat} {i j : Nat} (h : 0 < ms.getD (i * n + j) 0) : ∀ {k : Nat}, j < k → ∃ e ∈ eR n ms i k, e.f = i ∧ e.t = j
 | 0, hj => by omega
 | k + 1, hj => by
  by_cases e : j = k
  ·subst e
   obtain ⟨x, hx, h1⟩ := zbn h
   exact ⟨x, List.mem_append_right _ hx, h1⟩
  ·obtain ⟨x, hx, h1⟩ := zbt h (show j < k by omega)
   exact ⟨x, List.mem_append_left _ hx, h1⟩
theorem zbs (n : Nat) (ms : List Nat) (i : Nat) : ∀ k, (eR n ms i k).Pairwise (fun a b => kT n a < kT n b)
 | 0 => List.Pairwise.nil
 | k + 1 => by
  refine List.pairwise_append.2 ⟨zbs n ms i k, zbm n ms i k, fun a ha b hb => ?_⟩
  obtain ⟨a1, a2, a3, _⟩ := qnc ha
  obtain ⟨b1, b2, b3, _⟩ := qt1 hb
  unfold kT
  rw [a1, b1, b2]; omega
theorem qhx {n : Nat} {ms : List Nat} {e : T3} : ∀ {i : Nat}, e ∈ eM n ms i → e.f < i ∧ e.t < n ∧ e.s < 2 ∧ 0 < ms.getD (e.f * n + e.t) 0
 | 0, h => by cases h
 | i + 1, h => by
  rcases List.mem_append.1 h with h | h
  ·obtain ⟨h1, h2, h3, h4⟩ := qhx h
   exact ⟨by omega, h2, h3, h4⟩
  ·obtain ⟨h1, h2, h3, h4⟩ := qnc h
   exact ⟨by omega, h2, h3, by rw [h1]; exact h4⟩
theorem zbv {n : Nat} {ms : List Nat} {i j : Nat} (h : 0 < ms.getD (i * n + j) 0) (hj : j < n) : ∀ {m : Nat}, i < m → ∃ e ∈ eM n ms m, e.f = i ∧ e.t = j
 | 0, hi => by omega
 | m + 1, hi => by
  by_cases e : i = m
  ·subst e
   obtain ⟨x, hx, h1⟩ := zbt h hj
   exact ⟨x, List.mem_append_right _ hx, h1⟩
  ·obtain ⟨x, hx, h1⟩ := zbv h hj (show i < m by omega)
   exact ⟨x, List.mem_append_left _ hx, h1⟩
theorem q8y (n : Nat) (ms : List Nat) : ∀ i, (eM n ms i).Pairwise (fun a b => kT n a < kT n b)
 | 0 => List.Pairwise.nil
 | i + 1 => by
  refine List.pairwise_append.2 ⟨q8y n ms i, zbs n ms i n, fun a ha b hb => ?_⟩
  obtain ⟨a1, a2, a3, _⟩ := qhx ha
  obtain ⟨b1, b2, b3, _⟩ := qnc hb
  have h1 : (a.f + 1) * n ≤ i * n := Nat.mul_le_mul_right n a1
  rw [Nat.add_mul, Nat.one_mul] at h1
  unfold kT
  rw [b1]; omega
theorem qt3 {a b : Int} (h : a < b) : cmpI a b = -1 := by unfold cmpI; rw [if_pos h]
theorem qiq (a : Int) : cmpI a a = 0 := by unfold cmpI; rw [if_neg (Int.lt_irrefl a), if_neg (Int.lt_irrefl a)]
theorem za8 {n : Nat} {a b : T3} (ha : a.t < n) (hb : b.t < n) (sa : a.s < 2) (sb : b.s < 2) (h : kT n a < kT n b) : cmpE (toE a) (toE b) < 0 := by
 unfold kT at h
 unfold cmpE toE
 rcases Nat.lt_trichotomy a.f b.f with hf | hf | hf
 ·show orI [cmpI (.ofNat a.f) (.ofNat b.f), _, _] < 0
  rw [qt3 (by simp only [Int.ofNat_eq_natCast]; omega)]; exact Int.negSucc_lt_zero 0
 ·have hft : a.f * n = b.f * n := by rw [hf]
  rcases Nat.lt_trichotomy a.t b.t with ht | ht | ht
  ·show orI [cmpI (.ofNat a.f) (.ofNat b.f), cmpI (.ofNat a.t) (.ofNat b.t), _] < 0
   rw [hf, qiq, qt3 (a := .ofNat a.t) (by simp only [Int.ofNat_eq_natCast]; omega)]; exact Int.negSucc_lt_zero 0
  ·have hs : a.s = 0 ∧ b.s = 1 := by omega
   show orI [cmpI (.ofNat a.f) (.ofNat b.f), cmpI (.ofNat a.t) (.ofNat b.t), cmpI (sgn (decide (a.s = 1))) (sgn (decide (b.s = 1)))] < 0
   rw [hf, ht, qiq, qiq, hs.1, hs.2]; decide
  ·omega
 ·have h1 : (b.f + 1) * n ≤ a.f * n := Nat.mul_le_mul_right n hf
  rw [Nat.add_mul, Nat.one_mul] at h1
  omega
theorem qe9 (n : Nat) (ms : List Nat) : qb2 n (qaj n ms) := by
 refine ⟨fun e he => ?_, fun i hi => ?_⟩
 ·obtain ⟨x, hx, rfl⟩ := List.mem_map.1 he
  obtain ⟨h1, h2, _⟩ := qhx hx
  exact ⟨h1, h2⟩
 ·unfold qaj at hi ⊢
  rw [List.length_map] at hi
  rw [List.getElem_map, List.getElem_map]
  have hp := q8y n ms n
  have := List.pairwise_iff_getElem.1 hp i (i + 1) (by omega) hi (Nat.lt_succ_self i)
  obtain ⟨_, a2, a3, _⟩ := qhx (List.getElem_mem (show i < (eM n ms n).length by omega))
  obtain ⟨_, b2, b3, _⟩ := qhx (List.getElem_mem hi)
  exact za8 a2 b2 a3 b3 this
theorem qrx {n : Nat} {ms : List Nat} {e : Edge} (h : e ∈ qaj n ms) : Adj n ms e.f e.t := by
 obtain ⟨x, hx, rfl⟩ := List.mem_map.1 h
 exact (qhx hx).2.2.2
theorem qpq {n : Nat} {ms : List Nat} {i j : Nat} (hi : i < n) (hj : j < n) (h : Adj n ms i j) : ∃ e ∈ qaj n ms, e.f = i ∧ e.t = j := by
 obtain ⟨x, hx, h1, h2⟩ := zbv (show 0 < ms.getD (i * n + j) 0 from h) hj hi
 exact ⟨toE x, List.mem_map_of_mem hx, h1, h2⟩
theorem qrw (n : Nat) (ms : List Nat) : (qaj n ms).Pairwise (fun a b => a.f = b.f → a.t ≤ b.t) := by
 unfold qaj
 rw [List.pairwise_map]
 refine (q8y n ms n).imp_of_mem fun {a b} ha hb h hf => ?_
 obtain ⟨_, _, a3, _⟩ := qhx ha
 obtain ⟨_, _, b3, _⟩ := qhx hb
 have hf' : a.f = b.f := hf
 unfold kT at h
 show a.t ≤ b.t
 rw [hf'] at h; omega
end Go.Di
end
