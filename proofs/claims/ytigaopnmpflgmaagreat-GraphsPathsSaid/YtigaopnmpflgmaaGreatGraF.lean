/-
  For countersignlaw16.GraphsPaths: graphs without any program: least numbers of edges, the first nodes of least paths. No conditions beyond those that each theorem states.
-/
import Derived.Test.YtigaopnmpflgmaaGreatGraE
set_option linter.unusedSimpArgs false
set_option linter.unusedVariables false
section
/-
  Graphs without any program: walks, their lengths.
-/
namespace Go.Di
open Go.Ev
/-- a walk of L + 1 edges whose inner nodes are less than K -/
def wS (A : Nat → Nat → Prop) (K : Nat) (i j : Nat) : Nat → Prop
  | 0 => A i j
  | L + 1 => ∃ x, x < K ∧ A i x ∧ wS A K x j L
/-- a walk of L edges whose inner nodes are less than K -/
def wk (A : Nat → Nat → Prop) (K : Nat) (i j : Nat) : Nat → Prop
  | 0 => i = j
  | L + 1 => wS A K i j L
variable {A : Nat → Nat → Prop}
theorem wS_mono {K K' : Nat} (h : K ≤ K') : ∀ (L i j : Nat), wS A K i j L → wS A K' i j L
  | 0, _, _, h => h
  | L + 1, i, j, ⟨x, hx, ha, hw⟩ => ⟨x, by omega, ha, wS_mono h L x j hw⟩
theorem wk_mono {K K' : Nat} (h : K ≤ K') : ∀ (L i j : Nat), wk A K i j L → wk A K' i j L
  | 0, _, _, h => h
  | L + 1, i, j, hw => wS_mono h L i j hw
theorem wS_app {K : Nat} : ∀ (L1 L2 i x j : Nat), wS A K i x L1 → x < K → wS A K x j L2 → wS A K i j (L1 + L2 + 1)
  | 0, L2, i, x, j, h, hx, h2 => ⟨x, hx, h, by rw [Nat.zero_add]; exact h2⟩
  | L1 + 1, L2, i, x, j, ⟨y, hy, ha, hw⟩, hx, h2 => ⟨y, hy, ha, by
      have := wS_app L1 L2 y x j hw hx h2
      rw [show L1 + 1 + L2 = L1 + L2 + 1 by omega]; exact this⟩
theorem wk_app {K : Nat} {L1 L2 i x j : Nat} (h1 : wk A K i x L1) (hx : x < K) (h2 : wk A K x j L2) : wk A K i j (L1 + L2) := by
  cases L1 with
  | zero =>
    have : i = x := h1
    subst this; rw [Nat.zero_add]; exact h2
  | succ L1 =>
    cases L2 with
    | zero =>
      have : x = j := h2
      subst this; exact h1
    | succ L2 =>
      have := wS_app L1 L2 i x j h1 hx h2
      rw [show L1 + 1 + (L2 + 1) = (L1 + L2 + 1) + 1 by omega]; exact this
/-- a walk goes through K, or not -/
theorem wS_split {K : Nat} : ∀ (L i j : Nat), wS A (K + 1) i j L → wS A K i j L ∨ ∃ L1 L2, wS A K i K L1 ∧ wS A K K j L2 ∧ L1 + L2 < L
  | 0, _, _, h => .inl h
  | L + 1, i, j, ⟨x, hx, ha, hw⟩ => by
    have hx' : x < K ∨ x = K := by omega
    rcases wS_split L x j hw with h | ⟨L1, L2, h1, h2, h3⟩
    · rcases hx' with hx | rfl
      · exact .inl ⟨x, hx, ha, h⟩
      · exact .inr ⟨0, L, ha, h, by omega⟩
    · rcases hx' with hx | rfl
      · exact .inr ⟨L1 + 1, L2, ⟨x, hx, ha, h1⟩, h2, by omega⟩
      · exact .inr ⟨0, L2, ha, h2, by omega⟩
theorem wk_split {K : Nat} {L i j : Nat} (h : wk A (K + 1) i j L) : wk A K i j L ∨ ∃ L1 L2, wk A K i K L1 ∧ wk A K K j L2 ∧ L1 + L2 ≤ L := by
  cases L with
  | zero => exact .inl h
  | succ L =>
    rcases wS_split L i j h with h | ⟨L1, L2, h1, h2, h3⟩
    · exact .inl h
    · exact .inr ⟨L1 + 1, L2 + 1, h1, h2, by omega⟩

/- the distances that are reckoned -/
/-- each number that is not negative is the length of a walk -/
def Snd (A : Nat → Nat → Prop) (n : Nat) (d : List Int) : Prop := ∀ i j, i < n → j < n → 0 ≤ d.getD (i * n + j) 0 → wk A n i j (d.getD (i * n + j) 0).toNat
/-- as short as walks through nodes less than K -/
def Cmp (A : Nat → Nat → Prop) (n K : Nat) (d : List Int) : Prop := ∀ i j L, i < n → j < n → wk A K i j L → 0 ≤ d.getD (i * n + j) 0 ∧ d.getD (i * n + j) 0 ≤ L
/-- nothing gets worse -/
def Les (d d' : List Int) : Prop := ∀ x, 0 ≤ d.getD x 0 → 0 ≤ d'.getD x 0 ∧ d'.getD x 0 ≤ d.getD x 0
theorem Les.refl (d : List Int) : Les d d := fun _ h => ⟨h, Int.le_refl _⟩
theorem Les.trans {a b c : List Int} (h : Les a b) (h' : Les b c) : Les a c := fun x hx => by
  obtain ⟨h1, h2⟩ := h x hx
  obtain ⟨h3, h4⟩ := h' x h1
  exact ⟨h3, Int.le_trans h4 h2⟩
theorem getD_set (d : List Int) (x y : Nat) (v : Int) (hy : y < d.length) : (d.set y v).getD x 0 = if x = y then v else d.getD x 0 := by
  simp only [List.getD_eq_getElem?_getD]
  by_cases h : x = y
  · subst h; rw [if_pos rfl, List.getElem?_set_self hy]; rfl
  · rw [if_neg h, List.getElem?_set_ne (fun e => h e.symm)]
theorem idx_inj {n i j i' j' : Nat} (hj : j < n) (hj' : j' < n) (h : i * n + j = i' * n + j') : i = i' ∧ j = j' := by
  have hn : 0 < n := by omega
  have h1 : (i * n + j) / n = i := by rw [Nat.mul_comm, Nat.mul_add_div hn, Nat.div_eq_of_lt hj, Nat.add_zero]
  have h2 : (i' * n + j') / n = i' := by rw [Nat.mul_comm, Nat.mul_add_div hn, Nat.div_eq_of_lt hj', Nat.add_zero]
  have : i = i' := by rw [← h1, ← h2, h]
  subst this
  exact ⟨rfl, by omega⟩
theorem stepD_les (n : Nat) (d : List Int) (k i j : Nat) (hl : d.length = n * n) (hi : i < n) (hj : j < n) : Les d (stepD n d k i j) := by
  have hx := idx_lt hi hj
  unfold stepD
  split
  · rename_i h
    intro x hx0
    rw [getD_set _ _ _ _ (by omega)]
    split
    · rename_i e
      subst e
      exact ⟨Int.add_nonneg h.1 h.2.1, by rcases h.2.2 with h' | h' <;> omega⟩
    · exact ⟨hx0, Int.le_refl _⟩
  · exact Les.refl d
theorem stepD_snd (n : Nat) (d : List Int) (k i j : Nat) (hl : d.length = n * n) (hk : k < n) (hi : i < n) (hj : j < n) (h : Snd A n d) : Snd A n (stepD n d k i j) := by
  have hx := idx_lt hi hj
  unfold stepD
  split
  · rename_i hc
    intro a b ha hb h0
    rw [getD_set _ _ _ _ (by omega)] at h0 ⊢
    split
    · rename_i e
      obtain ⟨rfl, rfl⟩ := idx_inj hb hj e
      have w1 := h a k ha hk hc.1
      have w2 := h k b hk hb hc.2.1
      rw [Int.toNat_add hc.1 hc.2.1]
      exact wk_app w1 hk w2
    · rename_i e
      rw [if_neg e] at h0
      exact h a b ha hb h0
  · exact h
theorem fJ_les (n : Nat) (d : List Int) (k i : Nat) (hl : d.length = n * n) (hi : i < n) : ∀ j, j ≤ n → Les d (fJ n d k i j)
  | 0, _ => Les.refl d
  | j + 1, h => (fJ_les n d k i hl hi j (by omega)).trans (stepD_les n _ k i j (by rw [fJ_len]; exact hl) hi (by omega))
theorem fI_les (n : Nat) (d : List Int) (k : Nat) (hl : d.length = n * n) : ∀ i, i ≤ n → Les d (fI n d k i)
  | 0, _ => Les.refl d
  | i + 1, h => (fI_les n d k hl i (by omega)).trans (fJ_les n _ k i (by rw [fI_len]; exact hl) (by omega) n (Nat.le_refl n))
theorem fJ_snd (n : Nat) (d : List Int) (k i : Nat) (hl : d.length = n * n) (hk : k < n) (hi : i < n) (h : Snd A n d) : ∀ j, j ≤ n → Snd A n (fJ n d k i j)
  | 0, _ => h
  | j + 1, hj => stepD_snd n _ k i j (by rw [fJ_len]; exact hl) hk hi (by omega) (fJ_snd n d k i hl hk hi h j (by omega))
theorem fI_snd (n : Nat) (d : List Int) (k : Nat) (hl : d.length = n * n) (hk : k < n) (h : Snd A n d) : ∀ i, i ≤ n → Snd A n (fI n d k i)
  | 0, _ => h
  | i + 1, hi => fJ_snd n _ k i (by rw [fI_len]; exact hl) hk (by omega) (fI_snd n d k hl hk h i (by omega)) n (Nat.le_refl n)
/-- one round has looked at all pairs -/
theorem fI_cmp (n : Nat) (d : List Int) (k : Nat) (hl : d.length = n * n) (hk : k < n) (h : Cmp A n k d) : Cmp A n (k + 1) (fI n d k n) := by
  intro i j L hi hj hw
  have old : ∀ L, wk A k i j L → 0 ≤ (fI n d k n).getD (i * n + j) 0 ∧ (fI n d k n).getD (i * n + j) 0 ≤ L := fun L hw => by
    obtain ⟨h1, h2⟩ := h i j L hi hj hw
    obtain ⟨h3, h4⟩ := fI_les n d k hl n (Nat.le_refl n) _ h1
    exact ⟨h3, by omega⟩
  rcases wk_split hw with hw | ⟨L1, L2, w1, w2, h3⟩
  · exact old L hw
  · obtain ⟨a1, a2⟩ := h i k L1 hi hk w1
    obtain ⟨b1, b2⟩ := h k j L2 hk hj w2
    -- at the turn of i and j
    have lJ : (fJ n (fI n d k i) k i j).length = n * n := by rw [fJ_len, fI_len]; exact hl
    have l1 : Les d (fJ n (fI n d k i) k i j) := (fI_les n d k hl i (by omega)).trans (fJ_les n _ k i (by rw [fI_len]; exact hl) hi j (by omega))
    obtain ⟨c1, c2⟩ := l1 _ a1
    obtain ⟨d1, d2⟩ := l1 _ b1
    have hx := idx_lt hi hj
    have now : 0 ≤ (fJ n (fI n d k i) k i (j + 1)).getD (i * n + j) 0 ∧ (fJ n (fI n d k i) k i (j + 1)).getD (i * n + j) 0 ≤ L := by
      show 0 ≤ (stepD n (fJ n (fI n d k i) k i j) k i j).getD (i * n + j) 0 ∧ (stepD n (fJ n (fI n d k i) k i j) k i j).getD (i * n + j) 0 ≤ L
      unfold stepD
      split
      · rw [getD_set _ _ _ _ (by omega), if_pos rfl]
        omega
      · rename_i hn
        have : ¬ ((fJ n (fI n d k i) k i j).getD (i * n + j) 0 < 0 ∨ (fJ n (fI n d k i) k i j).getD (i * n + k) 0 + (fJ n (fI n d k i) k i j).getD (k * n + j) 0 < (fJ n (fI n d k i) k i j).getD (i * n + j) 0) := fun h => hn ⟨c1, d1, h⟩
        omega
    have l2 : ∀ m, Les (fJ n (fI n d k i) k i (j + 1)) (fJ n (fI n d k i) k i (j + 1 + m)) ∨ n < j + 1 + m := by
      intro m
      induction m with
      | zero => exact .inl (Les.refl _)
      | succ m ih =>
        by_cases hm : j + 1 + m < n
        · rcases ih with h | h
          · exact .inl (h.trans (stepD_les n _ k i (j + 1 + m) (by rw [fJ_len, fI_len]; exact hl) hi hm))
          · omega
        · exact .inr (by omega)
    have l3 : Les (fJ n (fI n d k i) k i (j + 1)) (fJ n (fI n d k i) k i n) := by
      rcases l2 (n - (j + 1)) with h | h
      · rwa [show j + 1 + (n - (j + 1)) = n by omega] at h
      · omega
    have l4 : ∀ m, Les (fI n d k (i + 1)) (fI n d k (i + 1 + m)) ∨ n < i + 1 + m := by
      intro m
      induction m with
      | zero => exact .inl (Les.refl _)
      | succ m ih =>
        by_cases hm : i + 1 + m < n
        · rcases ih with h | h
          · exact .inl (h.trans (fJ_les n _ k (i + 1 + m) (by rw [fI_len]; exact hl) hm n (Nat.le_refl n)))
          · omega
        · exact .inr (by omega)
    have l5 : Les (fI n d k (i + 1)) (fI n d k n) := by
      rcases l4 (n - (i + 1)) with h | h
      · rwa [show i + 1 + (n - (i + 1)) = n by omega] at h
      · omega
    obtain ⟨e1, e2⟩ := (l3.trans l5) _ now.1
    exact ⟨e1, Int.le_trans e2 now.2⟩
theorem fK_ok (n : Nat) (d : List Int) (hl : d.length = n * n) (hs : Snd A n d) (hc : Cmp A n 0 d) : ∀ k, k ≤ n → Snd A n (fK n d k) ∧ Cmp A n k (fK n d k)
  | 0, _ => ⟨hs, hc⟩
  | k + 1, hk => by
    obtain ⟨h1, h2⟩ := fK_ok n d hl hs hc k (by omega)
    exact ⟨fI_snd n _ k (by rw [fK_len]; exact hl) (by omega) h1 n (Nat.le_refl n), fI_cmp n _ k (by rw [fK_len]; exact hl) (by omega) h2⟩
end Go.Di
end

section
/-
  Graphs without any program: distances are those of walks; they stay small.
-/
namespace Go.Di
open Go.Ev
def Adj (n : Nat) (ms : List Nat) (i j : Nat) : Prop := 0 < ms.getD (i * n + j) 0
theorem d1_get (ms : List Nat) (x : Nat) (h : x < ms.length) : (d1 ms).getD x 0 = if 0 < ms.getD x 0 then 1 else -1 := by
  unfold d1
  simp only [List.getD_eq_getElem?_getD, List.getElem?_map, List.getElem?_eq_getElem h]
  rfl
theorem dg_get (n : Nat) (d : List Int) (hl : d.length = n * n) {a b : Nat} (ha : a < n) (hb : b < n) : ∀ m, m ≤ n → (dg n d m).getD (a * n + b) 0 = if a = b ∧ a < m then 0 else d.getD (a * n + b) 0
  | 0, _ => by rw [if_neg (by omega)]; rfl
  | m + 1, hm => by
    have hx := idx_lt (show m < n by omega) (show m < n by omega)
    show ((dg n d m).set (m * n + m) 0).getD (a * n + b) 0 = _
    rw [getD_set _ _ _ _ (by rw [dg_len]; omega), dg_get n d hl ha hb m (by omega)]
    by_cases e : a * n + b = m * n + m
    · obtain ⟨rfl, rfl⟩ := idx_inj hb (show m < n by omega) e
      rw [if_pos rfl, if_pos (by omega)]
    · rw [if_neg e]
      by_cases h : a = b ∧ a < m
      · rw [if_pos h, if_pos (by omega)]
      · rw [if_neg h, if_neg]
        rintro ⟨rfl, h2⟩
        have : a = m := by omega
        subst this
        exact e rfl
theorem d0_get {n : Nat} {ms : List Nat} (hl : ms.length = n * n) {a b : Nat} (ha : a < n) (hb : b < n) : (dg n (d1 ms) n).getD (a * n + b) 0 = if a = b then 0 else if 0 < ms.getD (a * n + b) 0 then 1 else -1 := by
  have hx := idx_lt ha hb
  rw [dg_get n (d1 ms) (by unfold d1; rw [List.length_map]; exact hl) ha hb n (Nat.le_refl n), d1_get _ _ (by omega)]
  by_cases h : a = b
  · rw [if_pos ⟨h, ha⟩, if_pos h]
  · rw [if_neg (fun h' => h h'.1), if_neg h]
theorem d0_len {n : Nat} {ms : List Nat} (hl : ms.length = n * n) : (dg n (d1 ms) n).length = n * n := by
  rw [dg_len]; unfold d1; rw [List.length_map]; exact hl
theorem d0_snd {n : Nat} {ms : List Nat} (hl : ms.length = n * n) : Snd (Adj n ms) n (dg n (d1 ms) n) := by
  intro i j hi hj h
  rw [d0_get hl hi hj] at h ⊢
  by_cases e : i = j
  · rw [if_pos e]; exact e
  · rw [if_neg e] at h ⊢
    by_cases ha : 0 < ms.getD (i * n + j) 0
    · rw [if_pos ha]; exact ha
    · rw [if_neg ha] at h; omega
theorem d0_cmp {n : Nat} {ms : List Nat} (hl : ms.length = n * n) : Cmp (Adj n ms) n 0 (dg n (d1 ms) n) := by
  intro i j L hi hj hw
  rw [d0_get hl hi hj]
  match L, hw with
  | 0, hw =>
    have : i = j := hw
    rw [if_pos this]; omega
  | 1, hw =>
    have ha : 0 < ms.getD (i * n + j) 0 := hw
    by_cases e : i = j
    · rw [if_pos e]; omega
    · rw [if_neg e, if_pos ha]; omega
  | L + 2, ⟨x, hx, _⟩ => omega
theorem dist_len {n : Nat} {ms : List Nat} (hl : ms.length = n * n) : (dist n ms).length = n * n := by
  unfold dist; rw [fK_len, d0_len hl]
theorem dist_snd {n : Nat} {ms : List Nat} (hl : ms.length = n * n) : Snd (Adj n ms) n (dist n ms) := (fK_ok n _ (d0_len hl) (d0_snd hl) (d0_cmp hl) n (Nat.le_refl n)).1
theorem dist_cmp {n : Nat} {ms : List Nat} (hl : ms.length = n * n) : Cmp (Adj n ms) n n (dist n ms) := (fK_ok n _ (d0_len hl) (d0_snd hl) (d0_cmp hl) n (Nat.le_refl n)).2

/- they stay small -/
def Pb (B : Int) (d : List Int) : Prop := ∀ x, -1 ≤ d.getD x 0 ∧ d.getD x 0 ≤ B
def Dz (n : Nat) (d : List Int) : Prop := ∀ i, i < n → d.getD (i * n + i) 0 = 0
/-- within one round -/
structure Rnd (n k : Nat) (B : Int) (d e : List Int) : Prop where
  len : e.length = n * n
  pb : Pb (2 * B) e
  dz : Dz n e
  col : ∀ i, i < n → e.getD (i * n + k) 0 = d.getD (i * n + k) 0
  row : ∀ j, j < n → e.getD (k * n + j) 0 = d.getD (k * n + j) 0
theorem Rnd.step {n k : Nat} {B : Int} {d e : List Int} (hB : Pb B d) (hk : k < n) (h : Rnd n k B d e) {i j : Nat} (hi : i < n) (hj : j < n) : Rnd n k B d (stepD n e k i j) := by
  unfold stepD
  split
  · rename_i hc
    have hx := idx_lt hi hj
    have hl := h.len
    have hkk := h.dz k hk
    have hik : i ≠ k := by
      rintro rfl
      rw [hkk] at hc
      omega
    have hjk : j ≠ k := by
      rintro rfl
      rw [hkk] at hc
      omega
    have hij : i ≠ j := by
      rintro rfl
      have := h.dz i hi
      rw [this] at hc
      omega
    refine ⟨by rw [List.length_set]; exact h.len, fun x => ?_, fun a ha => ?_, fun a ha => ?_, fun b hb => ?_⟩
    · rw [getD_set _ _ _ _ (by omega)]
      split
      · have h1 := hB (i * n + k)
        have h2 := hB (k * n + j)
        rw [← h.col i hi] at h1
        rw [← h.row j hj] at h2
        omega
      · exact h.pb x
    · rw [getD_set _ _ _ _ (by omega), if_neg]
      · exact h.dz a ha
      · intro e
        obtain ⟨rfl, rfl⟩ := idx_inj ha hj e
        exact hij rfl
    · rw [getD_set _ _ _ _ (by omega), if_neg]
      · exact h.col a ha
      · intro e
        exact hjk (idx_inj hk hj e).2.symm
    · rw [getD_set _ _ _ _ (by omega), if_neg]
      · exact h.row b hb
      · intro e
        exact hik (idx_inj hb hj e).1.symm
  · exact h
theorem Rnd.start {n k : Nat} {B : Int} {d : List Int} (hl : d.length = n * n) (hB : Pb B d) (h0 : 0 ≤ B) (hz : Dz n d) : Rnd n k B d d :=
  ⟨hl, fun x => ⟨(hB x).1, by have := (hB x).2; omega⟩, hz, fun _ _ => rfl, fun _ _ => rfl⟩
theorem Rnd.J {n k : Nat} {B : Int} {d e : List Int} (hB : Pb B d) (hk : k < n) (h : Rnd n k B d e) {i : Nat} (hi : i < n) : ∀ j, j ≤ n → Rnd n k B d (fJ n e k i j)
  | 0, _ => h
  | j + 1, hj => (Rnd.J hB hk h hi j (by omega)).step hB hk hi (by omega)
theorem Rnd.I {n k : Nat} {B : Int} {d e : List Int} (hB : Pb B d) (hk : k < n) (h : Rnd n k B d e) : ∀ i, i ≤ n → Rnd n k B d (fI n e k i)
  | 0, _ => h
  | i + 1, hi => (Rnd.I hB hk h i (by omega)).J hB hk (by omega) n (Nat.le_refl n)
theorem fK_pb (n : Nat) (d : List Int) (hl : d.length = n * n) (hB : Pb 1 d) (hz : Dz n d) : ∀ k, k ≤ n → Pb (2 ^ k) (fK n d k) ∧ Dz n (fK n d k)
  | 0, _ => ⟨hB, hz⟩
  | k + 1, hk => by
    obtain ⟨h1, h2⟩ := fK_pb n d hl hB hz k (by omega)
    have := (Rnd.start (k := k) (by rw [fK_len]; exact hl) h1 (Int.le_of_lt (Int.pow_pos (by omega))) h2).I h1 (by omega) n (Nat.le_refl n)
    refine ⟨?_, this.dz⟩
    have h3 := this.pb
    rw [Int.pow_succ, Int.mul_comm]
    exact h3
theorem d0_pb {n : Nat} {ms : List Nat} (hl : ms.length = n * n) : Pb 1 (dg n (d1 ms) n) := by
  intro x
  by_cases hx : x < n * n
  · have hn : 0 < n := by
      rcases Nat.eq_zero_or_pos n with h | h
      · subst h; omega
      · exact h
    have h1 : x / n < n := Nat.div_lt_of_lt_mul hx
    have h2 : x % n < n := Nat.mod_lt _ hn
    have h3 : x = x / n * n + x % n := by rw [Nat.mul_comm]; exact (Nat.div_add_mod x n).symm
    rw [h3, d0_get hl h1 h2]
    split
    · omega
    · split <;> omega
  · rw [List.getD_eq_getElem?_getD, List.getElem?_eq_none (by rw [d0_len hl]; omega)]
    simp
theorem d0_dz {n : Nat} {ms : List Nat} (hl : ms.length = n * n) : Dz n (dg n (d1 ms) n) := fun i hi => by rw [d0_get hl hi hi, if_pos rfl]
theorem pow_small {k : Nat} (h : k < 13) : (2 : Int) ^ k ≤ 4096 := by
  have : (2 : Nat) ^ k ≤ 2 ^ 12 := Nat.pow_le_pow_right (by omega) (by omega)
  have h2 : ((2 ^ k : Nat) : Int) = (2 : Int) ^ k := by simp
  omega
theorem dbnd {n : Nat} {ms : List Nat} (hl : ms.length = n * n) (hn : n < 13) : DBnd n ms := by
  intro k i j hk hi hj x
  obtain ⟨h1, h2⟩ := fK_pb n _ (d0_len hl) (d0_pb hl) (d0_dz hl) k (by omega)
  have h3 := (((Rnd.start (k := k) (by rw [fK_len]; exact d0_len hl) h1 (Int.le_of_lt (Int.pow_pos (by omega))) h2).I h1 hk i (by omega)).J h1 hk hi j hj).pb x
  have h4 := pow_small (show k < 13 by omega)
  omega
theorem dbnd2 {n : Nat} {ms : List Nat} (hl : ms.length = n * n) (hn : n < 13) : Bnd (dist n ms) := by
  intro x
  have h1 := (fK_pb n _ (d0_len hl) (d0_pb hl) (d0_dz hl) n (Nat.le_refl n)).1 x
  have h4 := pow_small hn
  unfold dist
  omega
end Go.Di
end

section
/-
  Graphs without any program: the edges of a matrix, in order.
-/
namespace Go.Di
open Go.Ev
def kT (n : Nat) (e : T3) : Nat := (e.f * n + e.t) * 2 + e.s
theorem ent_mem {n : Nat} {ms : List Nat} {i k : Nat} {e : T3} (h : e ∈ ent n ms i k) : e.f = i ∧ e.t = k ∧ e.s < 2 ∧ 0 < ms.getD (i * n + k) 0 := by
  unfold ent at h
  rcases List.mem_append.1 h with h | h
  · split at h
    · rw [List.mem_singleton] at h; subst h
      refine ⟨rfl, rfl, Nat.zero_lt_two, ?_⟩
      rcases Nat.eq_zero_or_pos (ms.getD (i * n + k) 0) with h0 | h0
      · rename_i h1; rw [h0] at h1; omega
      · exact h0
    · cases h
  · split at h
    · rename_i h1
      rw [List.mem_singleton] at h; subst h
      exact ⟨rfl, rfl, Nat.one_lt_two, by omega⟩
    · cases h
theorem ent_ne {n : Nat} {ms : List Nat} {i k : Nat} (h : 0 < ms.getD (i * n + k) 0) : ∃ e ∈ ent n ms i k, e.f = i ∧ e.t = k := by
  unfold ent
  by_cases h1 : 1 < ms.getD (i * n + k) 0
  · exact ⟨⟨i, k, 1⟩, List.mem_append_right _ (by rw [if_pos h1]; exact List.mem_singleton.2 rfl), rfl, rfl⟩
  · exact ⟨⟨i, k, 0⟩, List.mem_append_left _ (by rw [if_pos (by omega)]; exact List.mem_singleton.2 rfl), rfl, rfl⟩
theorem ent_pw (n : Nat) (ms : List Nat) (i k : Nat) : (ent n ms i k).Pairwise (fun a b => kT n a < kT n b) := by
  unfold ent
  split <;> split <;> simp [kT]
theorem eR_mem {n : Nat} {ms : List Nat} {i : Nat} {e : T3} : ∀ {k : Nat}, e ∈ eR n ms i k → e.f = i ∧ e.t < k ∧ e.s < 2 ∧ 0 < ms.getD (i * n + e.t) 0
  | 0, h => by cases h
  | k + 1, h => by
    rcases List.mem_append.1 h with h | h
    · obtain ⟨h1, h2, h3, h4⟩ := eR_mem h
      exact ⟨h1, by omega, h3, h4⟩
    · obtain ⟨h1, h2, h3, h4⟩ := ent_mem h
      exact ⟨h1, by omega, h3, by rw [h2]; exact h4⟩
theorem eR_ne {n : Nat} {ms : List Nat} {i j : Nat} (h : 0 < ms.getD (i * n + j) 0) : ∀ {k : Nat}, j < k → ∃ e ∈ eR n ms i k, e.f = i ∧ e.t = j
  | 0, hj => by omega
  | k + 1, hj => by
    by_cases e : j = k
    · subst e
      obtain ⟨x, hx, h1⟩ := ent_ne h
      exact ⟨x, List.mem_append_right _ hx, h1⟩
    · obtain ⟨x, hx, h1⟩ := eR_ne h (show j < k by omega)
      exact ⟨x, List.mem_append_left _ hx, h1⟩
theorem eR_pw (n : Nat) (ms : List Nat) (i : Nat) : ∀ k, (eR n ms i k).Pairwise (fun a b => kT n a < kT n b)
  | 0 => List.Pairwise.nil
  | k + 1 => by
    refine List.pairwise_append.2 ⟨eR_pw n ms i k, ent_pw n ms i k, fun a ha b hb => ?_⟩
    obtain ⟨a1, a2, a3, _⟩ := eR_mem ha
    obtain ⟨b1, b2, b3, _⟩ := ent_mem hb
    unfold kT
    rw [a1, b1, b2]; omega
theorem eM_mem {n : Nat} {ms : List Nat} {e : T3} : ∀ {i : Nat}, e ∈ eM n ms i → e.f < i ∧ e.t < n ∧ e.s < 2 ∧ 0 < ms.getD (e.f * n + e.t) 0
  | 0, h => by cases h
  | i + 1, h => by
    rcases List.mem_append.1 h with h | h
    · obtain ⟨h1, h2, h3, h4⟩ := eM_mem h
      exact ⟨by omega, h2, h3, h4⟩
    · obtain ⟨h1, h2, h3, h4⟩ := eR_mem h
      exact ⟨by omega, h2, h3, by rw [h1]; exact h4⟩
theorem eM_ne {n : Nat} {ms : List Nat} {i j : Nat} (h : 0 < ms.getD (i * n + j) 0) (hj : j < n) : ∀ {m : Nat}, i < m → ∃ e ∈ eM n ms m, e.f = i ∧ e.t = j
  | 0, hi => by omega
  | m + 1, hi => by
    by_cases e : i = m
    · subst e
      obtain ⟨x, hx, h1⟩ := eR_ne h hj
      exact ⟨x, List.mem_append_right _ hx, h1⟩
    · obtain ⟨x, hx, h1⟩ := eM_ne h hj (show i < m by omega)
      exact ⟨x, List.mem_append_left _ hx, h1⟩
theorem eM_pw (n : Nat) (ms : List Nat) : ∀ i, (eM n ms i).Pairwise (fun a b => kT n a < kT n b)
  | 0 => List.Pairwise.nil
  | i + 1 => by
    refine List.pairwise_append.2 ⟨eM_pw n ms i, eR_pw n ms i n, fun a ha b hb => ?_⟩
    obtain ⟨a1, a2, a3, _⟩ := eM_mem ha
    obtain ⟨b1, b2, b3, _⟩ := eR_mem hb
    have h1 : (a.f + 1) * n ≤ i * n := Nat.mul_le_mul_right n a1
    rw [Nat.add_mul, Nat.one_mul] at h1
    unfold kT
    rw [b1]; omega
theorem cmpI_lt {a b : Int} (h : a < b) : cmpI a b = -1 := by unfold cmpI; rw [if_pos h]
theorem cmpI_eq (a : Int) : cmpI a a = 0 := by unfold cmpI; rw [if_neg (Int.lt_irrefl a), if_neg (Int.lt_irrefl a)]
theorem kT_cmp {n : Nat} {a b : T3} (ha : a.t < n) (hb : b.t < n) (sa : a.s < 2) (sb : b.s < 2) (h : kT n a < kT n b) : cmpE (toE a) (toE b) < 0 := by
  unfold kT at h
  unfold cmpE toE
  rcases Nat.lt_trichotomy a.f b.f with hf | hf | hf
  · show orI [cmpI (.ofNat a.f) (.ofNat b.f), _, _] < 0
    rw [cmpI_lt (by simp only [Int.ofNat_eq_natCast]; omega)]; exact Int.negSucc_lt_zero 0
  · have hft : a.f * n = b.f * n := by rw [hf]
    rcases Nat.lt_trichotomy a.t b.t with ht | ht | ht
    · show orI [cmpI (.ofNat a.f) (.ofNat b.f), cmpI (.ofNat a.t) (.ofNat b.t), _] < 0
      rw [hf, cmpI_eq, cmpI_lt (a := .ofNat a.t) (by simp only [Int.ofNat_eq_natCast]; omega)]; exact Int.negSucc_lt_zero 0
    · have hs : a.s = 0 ∧ b.s = 1 := by omega
      show orI [cmpI (.ofNat a.f) (.ofNat b.f), cmpI (.ofNat a.t) (.ofNat b.t), cmpI (sgn (decide (a.s = 1))) (sgn (decide (b.s = 1)))] < 0
      rw [hf, ht, cmpI_eq, cmpI_eq, hs.1, hs.2]; decide
    · omega
  · have h1 : (b.f + 1) * n ≤ a.f * n := Nat.mul_le_mul_right n hf
    rw [Nat.add_mul, Nat.one_mul] at h1
    omega
theorem edges_ok (n : Nat) (ms : List Nat) : EdgesOk n (edgesOf n ms) := by
  refine ⟨fun e he => ?_, fun i hi => ?_⟩
  · obtain ⟨x, hx, rfl⟩ := List.mem_map.1 he
    obtain ⟨h1, h2, _⟩ := eM_mem hx
    exact ⟨h1, h2⟩
  · unfold edgesOf at hi ⊢
    rw [List.length_map] at hi
    rw [List.getElem_map, List.getElem_map]
    have hp := eM_pw n ms n
    have := List.pairwise_iff_getElem.1 hp i (i + 1) (by omega) hi (Nat.lt_succ_self i)
    obtain ⟨_, a2, a3, _⟩ := eM_mem (List.getElem_mem (show i < (eM n ms n).length by omega))
    obtain ⟨_, b2, b3, _⟩ := eM_mem (List.getElem_mem hi)
    exact kT_cmp a2 b2 a3 b3 this
theorem edges_len {n : Nat} (ms : List Nat) (hn : n < 13) : (edgesOf n ms).length < 1000 := by
  unfold edgesOf
  rw [List.length_map]
  have h1 := eM_len n ms n
  have h2 : n * n ≤ 12 * 12 := Nat.mul_le_mul (by omega) (by omega)
  omega
theorem edges_adj {n : Nat} {ms : List Nat} {e : Edge} (h : e ∈ edgesOf n ms) : Adj n ms e.f e.t := by
  obtain ⟨x, hx, rfl⟩ := List.mem_map.1 h
  exact (eM_mem hx).2.2.2
theorem edges_ne {n : Nat} {ms : List Nat} {i j : Nat} (hi : i < n) (hj : j < n) (h : Adj n ms i j) : ∃ e ∈ edgesOf n ms, e.f = i ∧ e.t = j := by
  obtain ⟨x, hx, h1, h2⟩ := eM_ne (show 0 < ms.getD (i * n + j) 0 from h) hj hi
  exact ⟨toE x, List.mem_map_of_mem hx, h1, h2⟩
/-- edges from one node stand in the order of where they lead to -/
theorem edges_sorted (n : Nat) (ms : List Nat) : (edgesOf n ms).Pairwise (fun a b => a.f = b.f → a.t ≤ b.t) := by
  unfold edgesOf
  rw [List.pairwise_map]
  refine (eM_pw n ms n).imp_of_mem fun {a b} ha hb h hf => ?_
  obtain ⟨_, _, a3, _⟩ := eM_mem ha
  obtain ⟨_, _, b3, _⟩ := eM_mem hb
  have hf' : a.f = b.f := hf
  unfold kT at h
  show a.t ≤ b.t
  rw [hf'] at h; omega
end Go.Di
end

section
/-
  Graphs without any program: the walk reaches each node by the least of all ways.
-/
namespace Go.Di
open Go.Ev
/-- the node that a way from a ends at; the way is told backwards, without a -/
def hd (s : List Nat) (a : Nat) : Nat := match s with | [] => a | v :: _ => v
/-- a way -/
def Rw (n : Nat) (ms : List Nat) (a : Nat) : List Nat → Prop
  | [] => True
  | v :: s => v < n ∧ Adj n ms (hd s a) v ∧ Rw n ms a s
/-- a way as a number -/
def cd' (B : Nat) : List Nat → Nat
  | [] => 0
  | v :: s => cd' B s * B + (v + 1)
/-- what is known of the walk between two nodes: the ways, in the order in which their ends were found; how many were looked at -/
structure Inv (n : Nat) (ms : List Nat) (a : Nat) (T : List (List Nat)) (t : Nat) (s : Wk) : Prop where
  len : s.f.length = 256
  nil : T[0]? = some []
  pw : T.Pairwise (fun x y => cd' (n + 1) x < cd' (n + 1) y)
  rw' : ∀ x ∈ T, Rw n ms a x
  q : s.q = (T.drop t).map (hd · a)
  iff : ∀ v, v < 256 → (0 ≤ s.f.getD v 0 ↔ ∃ x ∈ T, hd x a = v)
  par : ∀ v x, v :: x ∈ T → v ≠ a ∧ s.f[v]? = some (.ofNat (hd x a))
  fst : ∀ v x, v :: x ∈ T → ∃ i, i < t ∧ T[i]? = some x ∧ ∀ j, j < i → ∀ y, T[j]? = some y → ¬ Adj n ms (hd y a) v
  cls : ∀ i, i < t → ∀ x, T[i]? = some x → ∀ v, v < n → Adj n ms (hd x a) v → ∃ y ∈ T, hd y a = v
  nd : (T.map (hd · a)).Nodup
  le : t ≤ T.length
/-- within the look at one node -/
structure Inn (n : Nat) (ms : List Nat) (a : Nat) (T : List (List Nat)) (t : Nat) (su : List Nat) (done : List Edge) (s : Wk) : Prop where
  len : s.f.length = 256
  nil : T[0]? = some []
  at' : T[t]? = some su
  pw : T.Pairwise (fun x y => cd' (n + 1) x < cd' (n + 1) y)
  rw' : ∀ x ∈ T, Rw n ms a x
  q : s.q = (T.drop t).map (hd · a)
  iff : ∀ v, v < 256 → (0 ≤ s.f.getD v 0 ↔ ∃ x ∈ T, hd x a = v)
  par : ∀ v x, v :: x ∈ T → v ≠ a ∧ s.f[v]? = some (.ofNat (hd x a))
  fst : ∀ v x, v :: x ∈ T → ∃ i, i < t + 1 ∧ T[i]? = some x ∧ ∀ j, j < i → ∀ y, T[j]? = some y → ¬ Adj n ms (hd y a) v
  cls : ∀ i, i < t → ∀ x, T[i]? = some x → ∀ v, v < n → Adj n ms (hd x a) v → ∃ y ∈ T, hd y a = v
  nd : (T.map (hd · a)).Nodup
  dn : ∀ e ∈ done, e.f = hd su a → ∃ y ∈ T, hd y a = e.t
  ord : ∀ x ∈ T, cd' (n + 1) x ≤ cd' (n + 1) su * (n + 1) ∨ ∃ v, x = v :: su ∧ ∃ e ∈ done, e.f = hd su a ∧ e.t = v
theorem Inn.step {n : Nat} {ms : List Nat} {a : Nat} {T : List (List Nat)} {t : Nat} {su : List Nat} {done : List Edge} {s : Wk} (hn : n ≤ 256) (ha : a < n) (h : Inn n ms a T t su done s) {e : Edge} (he : e ∈ edgesOf n ms)
    (hs : ∀ d ∈ done, d.f = e.f → d.t ≤ e.t) : ∃ T', Inn n ms a T' t su (done ++ [e]) (stepE (hd su a) s e) := by
  obtain ⟨hef, het⟩ := (edges_ok n ms).rng e he
  unfold stepE
  by_cases hc : e.f = hd su a ∧ s.f.getD e.t 0 < 0
  · rw [if_pos hc]
    obtain ⟨hf, hneg⟩ := hc
    have hnot : ¬ ∃ x ∈ T, hd x a = e.t := fun hx => by have := (h.iff e.t (by omega)).2 hx; omega
    have hadj : Adj n ms (hd su a) e.t := hf ▸ edges_adj he
    have hsu : su ∈ T := List.mem_of_getElem? h.at'
    have hlt : t < T.length := by
      rcases Nat.lt_or_ge t T.length with h' | h'
      · exact h'
      · have := h.at'; rw [List.getElem?_eq_none h'] at this; cases this
    have h0 : [] ∈ T := List.mem_of_getElem? h.nil
    have hta : e.t ≠ a := fun e' => hnot ⟨[], h0, e'.symm⟩
    refine ⟨T ++ [e.t :: su], ?_⟩
    refine ⟨by simp only [List.length_set]; exact h.len, ?_, ?_, ?_, ?_, ?_, ?_, ?_, ?_, ?_, ?_, ?_, ?_⟩
    · rw [List.getElem?_append_left (by omega)]; exact h.nil
    · rw [List.getElem?_append_left hlt]; exact h.at'
    · refine List.pairwise_append.2 ⟨h.pw, List.pairwise_singleton _ _, fun x hx y hy => ?_⟩
      rw [List.mem_singleton] at hy
      subst hy
      show _ < cd' (n + 1) su * (n + 1) + (e.t + 1)
      rcases h.ord x hx with h' | ⟨v, rfl, d, hd', hdf, rfl⟩
      · omega
      · have h1 := hs d hd' (by rw [hdf, hf])
        have h2 : d.t ≠ e.t := fun e' => hnot ⟨_, hx, e'⟩
        show cd' (n + 1) su * (n + 1) + (d.t + 1) < _
        omega
    · intro x hx
      rcases List.mem_append.1 hx with hx | hx
      · exact h.rw' x hx
      · rw [List.mem_singleton] at hx
        subst hx
        exact ⟨het, hadj, h.rw' su hsu⟩
    · show s.q ++ [e.t] = _
      rw [h.q, List.drop_append_of_le_length (by omega), List.map_append]; rfl
    · intro v hv
      show 0 ≤ (s.f.set e.t (.ofNat e.f)).getD v 0 ↔ _
      rw [getD_set _ _ _ _ (by rw [h.len]; omega)]
      by_cases hve : v = e.t
      · subst hve
        rw [if_pos rfl]
        exact ⟨fun _ => ⟨_, List.mem_append_right _ (List.mem_singleton.2 rfl), rfl⟩, fun _ => Int.natCast_nonneg _⟩
      · rw [if_neg hve, h.iff v hv]
        constructor
        · rintro ⟨x, hx, h1⟩; exact ⟨x, List.mem_append_left _ hx, h1⟩
        · rintro ⟨x, hx, h1⟩
          rcases List.mem_append.1 hx with hx | hx
          · exact ⟨x, hx, h1⟩
          · rw [List.mem_singleton] at hx
            subst hx
            exact absurd h1.symm hve
    · intro v x hx
      rcases List.mem_append.1 hx with hx | hx
      · obtain ⟨h1, h2⟩ := h.par v x hx
        refine ⟨h1, ?_⟩
        have : v ≠ e.t := fun e' => hnot ⟨_, hx, e'⟩
        show (s.f.set e.t (.ofNat e.f))[v]? = _
        rw [List.getElem?_set_ne (fun e' => this e'.symm)]; exact h2
      · rw [List.mem_singleton] at hx
        cases hx
        refine ⟨hta, ?_⟩
        show (s.f.set e.t (.ofNat e.f))[e.t]? = _
        rw [List.getElem?_set_self (by rw [h.len]; omega), hf]
    · intro v x hx
      rcases List.mem_append.1 hx with hx | hx
      · obtain ⟨i, h1, h2, h3⟩ := h.fst v x hx
        have hi : i < T.length := by omega
        refine ⟨i, h1, by rw [List.getElem?_append_left hi]; exact h2, fun j hj y hy => h3 j hj y ?_⟩
        rwa [List.getElem?_append_left (by omega)] at hy
      · rw [List.mem_singleton] at hx
        cases hx
        refine ⟨t, by omega, by rw [List.getElem?_append_left hlt]; exact h.at', fun j hj y hy hadj' => ?_⟩
        rw [List.getElem?_append_left (by omega)] at hy
        exact hnot (h.cls j hj y hy e.t het hadj')
    · intro i hi x hx v hv hadj'
      rw [List.getElem?_append_left (by omega)] at hx
      obtain ⟨y, hy, h1⟩ := h.cls i hi x hx v hv hadj'
      exact ⟨y, List.mem_append_left _ hy, h1⟩
    · rw [List.map_append]
      refine List.nodup_append.2 ⟨h.nd, by simp, fun x hx y hy => ?_⟩
      obtain ⟨z, hz, rfl⟩ := List.mem_map.1 hx
      simp only [List.map_cons, List.map_nil, List.mem_singleton] at hy
      subst hy
      exact fun e' => hnot ⟨z, hz, e'⟩
    · intro d hd' hdf
      rcases List.mem_append.1 hd' with hd' | hd'
      · obtain ⟨y, hy, h1⟩ := h.dn d hd' hdf
        exact ⟨y, List.mem_append_left _ hy, h1⟩
      · rw [List.mem_singleton] at hd'
        subst hd'
        exact ⟨_, List.mem_append_right _ (List.mem_singleton.2 rfl), rfl⟩
    · intro x hx
      rcases List.mem_append.1 hx with hx | hx
      · rcases h.ord x hx with h' | ⟨v, h1, d, hd', h2⟩
        · exact .inl h'
        · exact .inr ⟨v, h1, d, List.mem_append_left _ hd', h2⟩
      · rw [List.mem_singleton] at hx
        exact .inr ⟨e.t, hx, e, List.mem_append_right _ (List.mem_singleton.2 rfl), hf, rfl⟩
  · rw [if_neg hc]
    refine ⟨T, h.len, h.nil, h.at', h.pw, h.rw', h.q, h.iff, h.par, h.fst, h.cls, h.nd, ?_, ?_⟩
    · intro d hd' hdf
      rcases List.mem_append.1 hd' with hd' | hd'
      · exact h.dn d hd' hdf
      · rw [List.mem_singleton] at hd'
        subst hd'
        exact (h.iff d.t (by omega)).1 (Int.not_lt.1 fun h' => hc ⟨hdf, h'⟩)
    · intro x hx
      rcases h.ord x hx with h' | ⟨v, h1, d, hd', h2⟩
      · exact .inl h'
      · exact .inr ⟨v, h1, d, List.mem_append_left _ hd', h2⟩
theorem Inn.all {n : Nat} {ms : List Nat} {a : Nat} {t : Nat} {su : List Nat} (hn : n ≤ 256) (ha : a < n) : ∀ (rest done : List Edge) (T : List (List Nat)) (s : Wk), done ++ rest = edgesOf n ms → Inn n ms a T t su done s →
    ∃ T', Inn n ms a T' t su (edgesOf n ms) (inner rest (hd su a) s)
  | [], done, T, s, h, hi => ⟨T, by rw [List.append_nil] at h; rw [← h]; exact hi⟩
  | e :: rest, done, T, s, h, hi => by
    have hp := edges_sorted n ms
    rw [← h] at hp
    obtain ⟨_, _, h3⟩ := List.pairwise_append.1 hp
    have he : e ∈ edgesOf n ms := by rw [← h]; exact List.mem_append_right _ (List.mem_cons_self ..)
    obtain ⟨T1, h1⟩ := hi.step hn ha he (fun d hd' hdf => h3 d hd' e (List.mem_cons_self ..) hdf)
    exact Inn.all hn ha rest (done ++ [e]) T1 _ (by rw [List.append_assoc]; exact h) h1
end Go.Di
end

section
/-
  Graphs without any program: the walk ends, and what holds then.
-/
namespace Go.Di
open Go.Ev
theorem nodup_len : ∀ (n : Nat) (l : List Nat), l.Nodup → (∀ x ∈ l, x < n) → l.length ≤ n
  | 0, l, _, h => by
    cases l with
    | nil => exact Nat.le_refl _
    | cons x l => exact absurd (h x (List.mem_cons_self ..)) (Nat.not_lt_zero _)
  | n + 1, l, hn, h => by
    by_cases hm : n ∈ l
    · have h1 := nodup_len n (l.erase n) (hn.erase n) (fun x hx => by
        have h2 := (hn.mem_erase_iff).1 hx
        have := h x h2.2
        have := h2.1
        omega)
      rw [List.length_erase_of_mem hm] at h1; omega
    · have := nodup_len n l hn (fun x hx => by
        have := h x hx
        have : x ≠ n := fun e => hm (e ▸ hx)
        omega)
      omega
theorem Inv.start {n : Nat} (ms : List Nat) {a : Nat} (ha : a < n) (hn : n ≤ 256) : Inv n ms a [[]] 0 (startW a) := by
  refine ⟨by unfold startW; rw [List.length_set, List.length_replicate], rfl, List.pairwise_singleton _ _, fun x hx => ?_, rfl, fun v hv => ?_, fun v x hx => ?_, fun v x hx => ?_, fun i hi => by omega, by simp, Nat.zero_le _⟩
  · rw [List.mem_singleton] at hx; subst hx; trivial
  · show 0 ≤ ((List.replicate 256 (-1)).set a (.ofNat a)).getD v 0 ↔ _
    rw [getD_set _ _ _ _ (by rw [List.length_replicate]; omega)]
    by_cases h : v = a
    · rw [if_pos h]
      exact ⟨fun _ => ⟨[], List.mem_singleton.2 rfl, h.symm⟩, fun _ => Int.natCast_nonneg _⟩
    · rw [if_neg h]
      have : (List.replicate 256 (-1 : Int)).getD v 0 = -1 := by
        simp only [List.getD_eq_getElem?_getD, List.getElem?_replicate, if_pos hv]; rfl
      rw [this]
      refine ⟨fun h' => by omega, fun ⟨x, hx, h1⟩ => ?_⟩
      rw [List.mem_singleton] at hx; subst hx
      exact absurd h1.symm h
  · rw [List.mem_singleton] at hx; cases hx
  · rw [List.mem_singleton] at hx; cases hx
theorem hd_lt {n : Nat} {ms : List Nat} {a : Nat} (ha : a < n) {x : List Nat} (h : Rw n ms a x) : hd x a < n := by
  cases x with
  | nil => exact ha
  | cons v x => exact h.1
theorem Inv.step {n : Nat} {ms : List Nat} {a : Nat} {T : List (List Nat)} {t : Nat} {s : Wk} (hn : n ≤ 256) (ha : a < n) (h : Inv n ms a T t s) (hq : s.q ≠ []) : ∃ T', Inv n ms a T' (t + 1) (nextW (edgesOf n ms) s) := by
  have hlt : t < T.length := by
    rcases Nat.lt_or_ge t T.length with h' | h'
    · exact h'
    · exact absurd (by rw [h.q, List.drop_eq_nil_of_le h']; rfl) hq
  obtain ⟨su, hsu⟩ : ∃ su, T[t]? = some su := ⟨T[t], List.getElem?_eq_getElem hlt⟩
  have hsm : su ∈ T := List.mem_of_getElem? hsu
  have hd0 : T.drop t = su :: T.drop (t + 1) := by
    rw [List.drop_eq_getElem_cons hlt]
    rw [List.getElem?_eq_getElem hlt] at hsu
    cases hsu; rfl
  have start : Inn n ms a T t su [] s := by
    refine ⟨h.len, h.nil, hsu, h.pw, h.rw', h.q, h.iff, h.par, fun v x hx => ?_, h.cls, h.nd, fun e he => (by cases he), fun x hx => .inl ?_⟩
    · obtain ⟨i, h1, h2⟩ := h.fst v x hx
      exact ⟨i, by omega, h2⟩
    · cases x with
      | nil => exact Nat.zero_le _
      | cons v x =>
        obtain ⟨i, h1, h2, _⟩ := h.fst v x hx
        have hv : v < n := (h.rw' _ hx).1
        have hcd : cd' (n + 1) x < cd' (n + 1) su := by
          have hi : i < T.length := by omega
          have := List.pairwise_iff_getElem.1 h.pw i t hi hlt h1
          rw [List.getElem?_eq_getElem hi] at h2
          rw [List.getElem?_eq_getElem hlt] at hsu
          cases h2; cases hsu
          exact this
        have h3 : (cd' (n + 1) x + 1) * (n + 1) ≤ cd' (n + 1) su * (n + 1) := Nat.mul_le_mul_right _ hcd
        rw [Nat.add_mul, Nat.one_mul] at h3
        show cd' (n + 1) x * (n + 1) + (v + 1) ≤ _
        omega
  obtain ⟨T', h'⟩ := Inn.all hn ha (edgesOf n ms) [] T s rfl start
  refine ⟨T', ?_⟩
  have hq0 : s.q = hd su a :: (T.drop (t + 1)).map (hd · a) := by rw [h.q, hd0]; rfl
  have hlt' : t < T'.length := by
    rcases Nat.lt_or_ge t T'.length with h1 | h1
    · exact h1
    · have := h'.at'; rw [List.getElem?_eq_none h1] at this; cases this
  have hd1 : T'.drop t = su :: T'.drop (t + 1) := by
    have := h'.at'
    rw [List.drop_eq_getElem_cons hlt']
    rw [List.getElem?_eq_getElem hlt'] at this
    cases this; rfl
  have hnx : nextW (edgesOf n ms) s = ⟨(inner (edgesOf n ms) (hd su a) s).f, (inner (edgesOf n ms) (hd su a) s).q.tail⟩ := by
    unfold nextW; rw [hq0]
  rw [hnx]
  refine ⟨h'.len, h'.nil, h'.pw, h'.rw', ?_, h'.iff, h'.par, h'.fst, fun i hi x hx v hv hadj => ?_, h'.nd, hlt'⟩
  · show (inner (edgesOf n ms) (hd su a) s).q.tail = _
    rw [h'.q, hd1]; rfl
  · by_cases e : i = t
    · subst e
      rw [h'.at'] at hx
      cases hx
      obtain ⟨e, he, h1, h2⟩ := edges_ne (hd_lt ha (h'.rw' su (List.mem_of_getElem? h'.at'))) hv hadj
      obtain ⟨y, hy, h3⟩ := h'.dn e he h1
      exact ⟨y, hy, by rw [h3, h2]⟩
    · exact h'.cls i (by omega) x hx v hv hadj
theorem Inv.card {n : Nat} {ms : List Nat} {a : Nat} {T : List (List Nat)} {t : Nat} {s : Wk} (ha : a < n) (h : Inv n ms a T t s) : T.length ≤ n := by
  have := nodup_len n (T.map (hd · a)) h.nd (fun x hx => by
    obtain ⟨y, hy, rfl⟩ := List.mem_map.1 hx
    exact hd_lt ha (h.rw' y hy))
  rwa [List.length_map] at this
/-- the walk ends; what it has is what is known at its end -/
theorem bfs_ok {n : Nat} {ms : List Nat} {a : Nat} (hn : n ≤ 256) (ha : a < n) : ∀ (m : Nat) (T : List (List Nat)) (t : Nat) (s : Wk), n - t ≤ m → Inv n ms a T t s →
    endsW (edgesOf n ms) m s ∧ ∃ T' q, Inv n ms a T' T'.length ⟨bfs (edgesOf n ms) m s, q⟩
  | 0, T, t, s, hm, h => by
    have hc := h.card ha
    have ht : t = T.length := by have := h.le; omega
    have hq : s.q = [] := by rw [h.q, List.drop_eq_nil_of_le (by omega)]; rfl
    exact ⟨hq, T, s.q, by subst ht; exact h⟩
  | m + 1, T, t, s, hm, h => by
    cases hq : s.q with
    | nil =>
      have ht : t = T.length := by
        have h1 := h.q
        rw [hq] at h1
        have h2 := congrArg List.length h1
        rw [List.length_map, List.length_drop, List.length_nil] at h2
        have := h.le; omega
      refine ⟨.inl hq, T, s.q, ?_⟩
      have : bfs (edgesOf n ms) (m + 1) s = s.f := by simp [bfs, hq]
      rw [this]; subst ht; exact h
    | cons u r =>
      obtain ⟨T1, h1⟩ := h.step hn ha (by rw [hq]; simp)
      obtain ⟨h2, T2, q2, h3⟩ := bfs_ok hn ha m T1 (t + 1) _ (by omega) h1
      refine ⟨.inr h2, T2, q2, ?_⟩
      have : bfs (edgesOf n ms) (m + 1) s = bfs (edgesOf n ms) m (nextW (edgesOf n ms) s) := by simp [bfs, hq]
      rw [this]; exact h3
/-- no way is less than the one that was found -/
theorem least {n : Nat} {ms : List Nat} {a : Nat} {T : List (List Nat)} {s : Wk} (h : Inv n ms a T T.length s) : ∀ w, Rw n ms a w → ∃ x ∈ T, hd x a = hd w a ∧ cd' (n + 1) x ≤ cd' (n + 1) w
  | [], _ => ⟨[], List.mem_of_getElem? h.nil, rfl, Nat.le_refl _⟩
  | v :: w, ⟨hv, hadj, hw⟩ => by
    obtain ⟨y, hy, h1, h2⟩ := least h w hw
    obtain ⟨j, hj, rfl⟩ := List.mem_iff_getElem.1 hy
    obtain ⟨x, hx, h3⟩ := h.cls j hj T[j] (List.getElem?_eq_getElem hj) v hv (by rw [h1]; exact hadj)
    refine ⟨x, hx, h3, ?_⟩
    cases x with
    | nil => exact Nat.zero_le _
    | cons v' x =>
      have hvv : v' = v := h3
      subst hvv
      obtain ⟨i, hi, h4, h5⟩ := h.fst v' x hx
      have hij : i ≤ j := by
        rcases Nat.lt_or_ge j i with h' | h'
        · exact absurd (by rw [h1]; exact hadj) (h5 j h' T[j] (List.getElem?_eq_getElem hj))
        · exact h'
      have h6 : cd' (n + 1) x ≤ cd' (n + 1) T[j] := by
        rw [List.getElem?_eq_getElem hi] at h4
        cases h4
        rcases Nat.eq_or_lt_of_le hij with e | e
        · subst e; exact Nat.le_refl _
        · exact Nat.le_of_lt (List.pairwise_iff_getElem.1 h.pw i j hi hj e)
      show cd' (n + 1) x * (n + 1) + (v' + 1) ≤ cd' (n + 1) w * (n + 1) + (v' + 1)
      exact Nat.add_le_add_right (Nat.mul_le_mul_right _ (Nat.le_trans h6 h2)) _
end Go.Di
end

section
/-
  Graphs without any program: the way that the walk found is the least path of the reference.
-/
namespace Go.Di
open Go.Ev
variable {n : Nat} {ms : List Nat}
theorem lt_or_nn (x y : Int) : x < y ∨ y ≤ x := by omega
theorem hd_app (s r : List Nat) (a : Nat) : hd (s ++ r) a = hd s (hd r a) := by cases s <;> rfl
theorem Rw_app {a : Nat} : ∀ {s r : List Nat}, Rw n ms a r → Rw n ms (hd r a) s → Rw n ms a (s ++ r)
  | [], _, h, _ => h
  | v :: s, r, h, ⟨h1, h2, h3⟩ => ⟨h1, by show Adj n ms (hd (s ++ r) a) v; rw [hd_app]; exact h2, Rw_app h h3⟩
theorem Rw_split {a : Nat} : ∀ {s r : List Nat}, Rw n ms a (s ++ r) → Rw n ms a r ∧ Rw n ms (hd r a) s
  | [], _, h => ⟨h, trivial⟩
  | v :: s, r, ⟨h1, h2, h3⟩ => by
    obtain ⟨h4, h5⟩ := Rw_split h3
    exact ⟨h4, h1, by rw [← hd_app]; exact h2, h5⟩
theorem Rw_mem {a : Nat} : ∀ {s : List Nat}, Rw n ms a s → ∀ v ∈ s, v < n
  | [], _, _, h => by cases h
  | v :: s, ⟨h1, _, h3⟩, w, h => by
    rcases List.mem_cons.1 h with rfl | h
    · exact h1
    · exact Rw_mem h3 w h
theorem Rw_wk {a : Nat} (ha : a < n) : ∀ {s : List Nat}, Rw n ms a s → wk (Adj n ms) n a (hd s a) s.length
  | [], _ => rfl
  | v :: s, ⟨h1, h2, h3⟩ => wk_app (Rw_wk ha h3) (hd_lt ha h3) (show wk (Adj n ms) n (hd s a) v 1 from h2)
theorem wS_Rw {b : Nat} (hb : b < n) : ∀ (L a : Nat), wS (Adj n ms) n a b L → ∃ w, w.length = L + 1 ∧ hd w a = b ∧ Rw n ms a w
  | 0, a, h => ⟨[b], rfl, rfl, hb, h, trivial⟩
  | L + 1, a, ⟨x, hx, h1, h2⟩ => by
    obtain ⟨w, h3, h4, h5⟩ := wS_Rw hb L x h2
    refine ⟨w ++ [x], by simp [h3], ?_, ?_⟩
    · rw [hd_app]; exact h4
    · exact Rw_app (r := [x]) ⟨hx, h1, trivial⟩ h5
theorem wk_Rw {a b L : Nat} (hb : b < n) (h : wk (Adj n ms) n a b L) : ∃ w, w.length = L ∧ hd w a = b ∧ Rw n ms a w := by
  cases L with
  | zero => exact ⟨[], rfl, h, trivial⟩
  | succ L => exact wS_Rw hb L a h
theorem cd_app (B : Nat) : ∀ (s r : List Nat), cd' B (s ++ r) = cd' B r * B ^ s.length + cd' B s
  | [], r => by simp [cd']
  | v :: s, r => by
    show cd' B (s ++ r) * B + (v + 1) = _
    rw [cd_app B s r, List.length_cons, Nat.pow_succ, Nat.add_mul, Nat.mul_assoc]
    show _ = _ + (cd' B s * B + (v + 1))
    omega
theorem cd_lt (n : Nat) : ∀ (s : List Nat), (∀ v ∈ s, v < n) → cd' (n + 1) s + 1 ≤ (n + 1) ^ s.length
  | [], _ => Nat.le_refl _
  | v :: s, h => by
    have h1 := cd_lt n s (fun w hw => h w (List.mem_cons_of_mem _ hw))
    have h2 := h v (List.mem_cons_self ..)
    have h3 : (cd' (n + 1) s + 1) * (n + 1) ≤ (n + 1) ^ s.length * (n + 1) := Nat.mul_le_mul_right _ h1
    rw [Nat.add_mul, Nat.one_mul] at h3
    rw [List.length_cons, Nat.pow_succ]
    show cd' (n + 1) s * (n + 1) + (v + 1) + 1 ≤ _
    omega
theorem cd_ge (n : Nat) : ∀ (v : Nat) (s : List Nat), (n + 1) ^ s.length ≤ cd' (n + 1) (v :: s)
  | v, [] => by simp [cd']
  | v, w :: s => by
    have h1 := cd_ge n w s
    have h2 : (n + 1) ^ s.length * (n + 1) ≤ cd' (n + 1) (w :: s) * (n + 1) := Nat.mul_le_mul_right _ h1
    rw [List.length_cons, Nat.pow_succ]
    show _ ≤ cd' (n + 1) (w :: s) * (n + 1) + (v + 1)
    omega
theorem cd_short {x w : List Nat} (hw : ∀ v ∈ w, v < n) (h : w.length < x.length) : cd' (n + 1) w < cd' (n + 1) x := by
  cases x with
  | nil => simp at h
  | cons v x =>
    have h1 := cd_lt n w hw
    have h2 := cd_ge n v x
    have h3 : (n + 1) ^ w.length ≤ (n + 1) ^ x.length := Nat.pow_le_pow_right (by omega) (by simp at h; omega)
    omega
theorem cd_less {s s' r : List Nat} {z z' : Nat} (hs' : ∀ v ∈ s', v < n) (hl : s'.length = s.length) (hz : z' < z) : cd' (n + 1) (s' ++ z' :: r) < cd' (n + 1) (s ++ z :: r) := by
  rw [cd_app, cd_app, hl]
  have h1 := cd_lt n s' hs'
  rw [hl] at h1
  have h2 : cd' (n + 1) (z' :: r) + 1 ≤ cd' (n + 1) (z :: r) := by
    show cd' (n + 1) r * (n + 1) + (z' + 1) + 1 ≤ cd' (n + 1) r * (n + 1) + (z + 1)
    omega
  have h3 := Nat.mul_le_mul_right ((n + 1) ^ s.length) h2
  rw [Nat.add_mul, Nat.one_mul] at h3
  omega
theorem T_uniq {a : Nat} {T : List (List Nat)} (hnd : (T.map (hd · a)).Nodup) {x y : List Nat} (hx : x ∈ T) (hy : y ∈ T) (h : hd x a = hd y a) : x = y := by
  obtain ⟨i, hi, rfl⟩ := List.mem_iff_getElem.1 hx
  obtain ⟨j, hj, rfl⟩ := List.mem_iff_getElem.1 hy
  have hp := List.pairwise_iff_getElem.1 hnd
  rcases Nat.lt_trichotomy i j with e | e | e
  · exact absurd (by rw [List.getElem_map, List.getElem_map]; exact h) (hp i j (by simpa using hi) (by simpa using hj) e)
  · subst e; rfl
  · exact absurd (by rw [List.getElem_map, List.getElem_map]; exact h.symm) (hp j i (by simpa using hj) (by simpa using hi) e)
theorem dist_of (hl : ms.length = n * n) {y b k : Nat} (hy : y < n) (hb : b < n) (hw : wk (Adj n ms) n y b k) (hmin : ∀ w, Rw n ms y w → hd w y = b → k ≤ w.length) : (dist n ms).getD (y * n + b) 0 = k := by
  obtain ⟨h1, h2⟩ := dist_cmp hl y b k hy hb hw
  obtain ⟨w, h3, h4, h5⟩ := wk_Rw hb (dist_snd hl y b hy hb h1)
  have := hmin w h5 h4
  omega
/-- the least way goes by the least next nodes -/
theorem Gp_of (hl : ms.length = n * n) {a b : Nat} (ha : a < n) (hb : b < n) {x : List Nat} (hx : Rw n ms a x) (hxb : hd x a = b) (hmin : ∀ w, Rw n ms a w → hd w a = b → cd' (n + 1) x ≤ cd' (n + 1) w) :
    ∀ (p r : List Nat), p.reverse ++ r = x → Gp n ms (dist n ms) b (hd r a) p
  | [], r, h => by
    have : r = x := h
    subst this; rw [hxb]; exact .nil
  | z :: s, r, h => by
    rw [List.reverse_cons, List.append_assoc] at h
    have h' : s.reverse ++ z :: r = x := h
    subst h'
    obtain ⟨⟨hz, hadj, hr⟩, hs⟩ := Rw_split hx
    have hxb' : hd s.reverse z = b := by rw [← hxb, hd_app]; rfl
    have hyn := hd_lt ha hr
    have hls : s.reverse.length = s.length := List.length_reverse
    -- a shorter way on is none
    have key : ∀ (w r' : List Nat), Rw n ms a r' → Rw n ms (hd r' a) w → hd w (hd r' a) = b → (s.reverse ++ z :: r).length ≤ (w ++ r').length := by
      intro w r' hr' hw hwb
      rcases Nat.lt_or_ge (w ++ r').length (s.reverse ++ z :: r).length with e | e
      · have h1 := hmin (w ++ r') (Rw_app hr' hw) (by rw [hd_app]; exact hwb)
        have h2 := cd_short (Rw_mem (Rw_app hr' hw)) e
        omega
      · exact e
    have dz : (dist n ms).getD (z * n + b) 0 = s.length := by
      refine dist_of hl hz hb ?_ fun w hw hwb => ?_
      · have := Rw_wk hz hs
        rw [hls] at this
        have h9 : hd s.reverse (hd (z :: r) a) = b := hxb'
        rw [show hd s.reverse z = b from hxb'] at this
        exact this
      · have := key w (z :: r) ⟨hz, hadj, hr⟩ hw hwb
        simp only [List.length_append, List.length_cons, hls] at this; omega
    have dy : (dist n ms).getD (hd r a * n + b) 0 = (s.length + 1 : Nat) := by
      refine dist_of hl hyn hb ?_ fun w hw hwb => ?_
      · have h1 : Rw n ms (hd r a) (s.reverse ++ [z]) := Rw_app (r := [z]) ⟨hz, hadj, trivial⟩ hs
        have := Rw_wk hyn h1
        rw [hd_app] at this
        rw [show hd s.reverse (hd [z] (hd r a)) = b from hxb'] at this
        rw [show (s.reverse ++ [z]).length = s.length + 1 by simp] at this
        exact this
      · have := key w r hr hw hwb
        simp only [List.length_append, List.length_cons, hls] at this; omega
    refine .cons (fun e => ?_) ⟨hz, ⟨hadj, by rw [dz]; omega, by rw [dz, dy]; omega⟩, fun k hk hnx => ?_⟩ (Gp_of hl ha hb hx hxb hmin s (z :: r) rfl)
    · have := key [] r hr trivial e
      simp only [List.length_append, List.length_cons, List.length_nil] at this; omega
    · obtain ⟨h1, h2, h3⟩ := hnx
      rw [dy] at h3
      have hkn : k < n := by omega
      obtain ⟨w, h4, h5, h6⟩ := wk_Rw hb (dist_snd hl k b hkn hb h2)
      rw [h3] at h4
      have hr' : Rw n ms a (k :: r) := ⟨hkn, h1, hr⟩
      have h7 := hmin (w ++ k :: r) (Rw_app hr' h6) (by rw [hd_app]; exact h5)
      have h8 := cd_less (s := s.reverse) (s' := w) (r := r) (z := z) (z' := k) (Rw_mem h6) (by rw [h4, hls]; omega) hk
      omega
theorem Ch_of {a : Nat} (hn : n ≤ 256) {T : List (List Nat)} {t : Nat} {s : Wk} (h : Inv n ms a T t s) : ∀ (x : List Nat), x ∈ T → Ch s.f a (x ++ [a])
  | [], _ => .one
  | v :: x, hx => by
    obtain ⟨h1, h2⟩ := h.par v x hx
    obtain ⟨i, _, h3, _⟩ := h.fst v x hx
    have ih := Ch_of hn h x (List.mem_of_getElem? h3)
    have hv : v < 256 := by have : v < n := (h.rw' _ hx).1; omega
    cases x with
    | nil => exact .cons h1 hv h2 ih
    | cons w x => exact .cons h1 hv h2 ih
theorem T_short {a : Nat} {T : List (List Nat)} {t : Nat} {s : Wk} (h : Inv n ms a T t s) : ∀ (x : List Nat) (i : Nat), T[i]? = some x → x.length ≤ i
  | [], _, _ => Nat.zero_le _
  | v :: x, i, hi => by
    obtain ⟨j, _, h3, _⟩ := h.fst v x (List.mem_of_getElem? hi)
    have ih := T_short h x j h3
    have hit : i < T.length := by
      rcases Nat.lt_or_ge i T.length with h | h
      · exact h
      · rw [List.getElem?_eq_none h] at hi; cases hi
    have hjt : j < T.length := by
      rcases Nat.lt_or_ge j T.length with h | h
      · exact h
      · rw [List.getElem?_eq_none h] at h3; cases h3
    rw [List.getElem?_eq_getElem hit] at hi
    rw [List.getElem?_eq_getElem hjt] at h3
    have hlt : cd' (n + 1) x < cd' (n + 1) (v :: x) := by
      show _ < cd' (n + 1) x * (n + 1) + (v + 1)
      rw [Nat.mul_add, Nat.mul_one]; omega
    rcases Nat.lt_or_ge j i with e | e
    · rw [List.length_cons]; omega
    · exfalso
      rcases Nat.eq_or_lt_of_le e with e | e
      · subst e
        rw [Option.some.injEq] at hi h3
        rw [← hi, ← h3] at hlt
        omega
      · have := List.pairwise_iff_getElem.1 h.pw i j hit hjt e
        rw [Option.some.injEq] at hi h3
        rw [hi, h3] at this
        omega
theorem paths_pure {n : Nat} {ms : List Nat} (hn : n < 13) (hM : MOk n ms) : PathsPure n ms := by
  have hl := hM.len
  refine ⟨dbnd hl hn, dbnd2 hl hn, fun a ha => ?_⟩
  obtain ⟨hends, T, q, hI⟩ := bfs_ok (ms := ms) hM.hn ha n [[]] 0 (startW a) (by omega) (Inv.start ms ha hM.hn)
  have iff : ∀ b, b < n → ((bfs (edgesOf n ms) n (startW a)).getD b 0 < 0 ↔ (dist n ms).getD (a * n + b) 0 < 0) := by
    intro b hb
    have h1 := hI.iff b (by omega)
    constructor
    · intro h
      rcases lt_or_nn ((dist n ms).getD (a * n + b) 0) 0 with h2 | h2
      · exact h2
      · obtain ⟨w, _, h4, h5⟩ := wk_Rw hb (dist_snd hl a b ha hb h2)
        obtain ⟨x, hx, h6, _⟩ := least hI w h5
        have := h1.2 ⟨x, hx, by rw [h6, h4]⟩
        exact absurd this (Int.not_le.2 h)
    · intro h
      rcases lt_or_nn ((bfs (edgesOf n ms) n (startW a)).getD b 0) 0 with h2 | h2
      · exact h2
      · obtain ⟨x, hx, h3⟩ := h1.1 h2
        have h4 := Rw_wk ha (hI.rw' x hx)
        rw [h3] at h4
        have := (dist_cmp hl a b _ ha hb h4).1
        omega
  refine ⟨n, ⟨edges_ok n ms, hM.hn, edges_len ms hn, by omega, hends⟩, ?_, fun b hb => ⟨iff b hb, fun hneg => ?_⟩⟩
  · have main : ∀ i, i ≤ 256 → reachL (bfs (edgesOf n ms) n (startW a)) i = wantL n (dist n ms) a (min i n) := by
      intro i
      induction i with
      | zero => intro _; rw [Nat.zero_min]; rfl
      | succ i ih =>
        intro hi
        rw [reachL_succ, ih (by omega)]
        by_cases h : i < n
        · rw [show min (i + 1) n = min i n + 1 by omega, show min i n = i by omega, wantL_succ]
          by_cases h2 : (bfs (edgesOf n ms) n (startW a)).getD i 0 < 0
          · rw [if_pos h2, if_pos ((iff i h).1 h2)]
          · rw [if_neg h2, if_neg (fun h3 => h2 ((iff i h).2 h3))]
        · rw [show min (i + 1) n = min i n by omega]
          have : (bfs (edgesOf n ms) n (startW a)).getD i 0 < 0 := by
            rcases lt_or_nn ((bfs (edgesOf n ms) n (startW a)).getD i 0) 0 with h2 | h2
            · exact h2
            · obtain ⟨x, hx, h3⟩ := (hI.iff i (by omega)).1 h2
              have := hd_lt ha (hI.rw' x hx)
              omega
          rw [if_pos this, List.append_nil]
    rw [main 256 (Nat.le_refl _), show min 256 n = n by omega]
  · have hpos : 0 ≤ (bfs (edgesOf n ms) n (startW a)).getD b 0 := by
      rcases lt_or_nn ((bfs (edgesOf n ms) n (startW a)).getD b 0) 0 with h2 | h2
      · exact absurd ((iff b hb).1 h2) hneg
      · exact h2
    obtain ⟨x, hx, hxb⟩ := (hI.iff b (by omega)).1 hpos
    have hch := Ch_of hM.hn hI x hx
    have hmin : ∀ w, Rw n ms a w → hd w a = b → cd' (n + 1) x ≤ cd' (n + 1) w := by
      intro w hw hwb
      obtain ⟨y, hy, h1, h2⟩ := least hI w hw
      have := T_uniq hI.nd hy hx (by rw [h1, hwb, hxb])
      subst this
      exact h2
    have hgp := Gp_of hl ha hb (hI.rw' x hx) hxb hmin x.reverse [] (by rw [List.reverse_reverse, List.append_nil])
    obtain ⟨i, hi, hxi⟩ := List.mem_iff_getElem.1 hx
    have hsh := T_short hI x i (by rw [List.getElem?_eq_getElem hi, hxi])
    have hcard := hI.card ha
    have hsplit : x ++ [a] = b :: (x ++ [a]).tail := by
      cases x with
      | nil => rw [show b = a from hxb.symm]; rfl
      | cons v x => rw [show b = v from hxb.symm]; rfl
    refine ⟨(x ++ [a]).tail, x.reverse, by rw [← hsplit]; exact hch, ?_, hgp, by rw [← hsplit, List.reverse_append]; rfl⟩
    simp only [List.length_tail, List.length_append, List.length_cons, List.length_nil]
    omega
end Go.Di
end
