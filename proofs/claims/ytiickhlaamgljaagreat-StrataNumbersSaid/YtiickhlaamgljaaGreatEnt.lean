/-
 For countersignlaw18.StrataNumbers: the arguments of the law as the memory has them. No conditions beyond those that each theorem states.
-/
import Derived.Test.YtiickhlaamgljaaGreatGraC
import Derived.Test.YtiickhlaamgljaaGreatEv3
import Derived.ChangeArms
import Derived.DataReads
set_option linter.unusedSimpArgs false
set_option linter.unusedVariables false
noncomputable section
/-
 Arguments: a slice of triples of bytes, as the evaluator's memory has it.
-/
namespace Go.Di
open Go.Ev
noncomputable section
variable {Hd : Type} {enc : TypeId × Value → Hd} {P : Program} {w : World} {base : Nat} {spare : Nat → Bool} {held : Bool} {fuel : Nat} {t : TypeId} {cs : List Value} {x : DataW Hd × List MemPlace}
theorem trod_array {n : Nat} {e : TypeId} (ht : P.underlying t = some (.array n e)) (h : DataW.trod enc P w base spare held fuel t cs = some x) :
  ∃ (xs : List (DataW Hd × List MemPlace)) (m : Nat), cs.length = P.cellsOf t ∧ xs.length = n ∧ ∀ i, i < n → DataW.trod enc P w base spare held m e ((cs.drop (i * P.cellsOf e)).take (P.cellsOf e)) = xs[i]? := by
 cases fuel with
 | zero => simp [DataW.trod] at h
 | succ m =>
  unfold DataW.trod at h
  rw [ht] at h
  split at h <;> simp_all
  obtain ⟨hl, xs, hp, hd⟩ := h
  exact ⟨xs, by simpa using mapM_some_length hp, m, fun i hi => by simpa using mapM_some_get hp i i (by simp [hi])⟩
end
def qi7 (l : List AV) : Blk := .cells (qau l.length) l.length (cellsOf l) true 0
theorem q50 (l : List AV) (o : Nat) : qa6 (qi7 l) o = match l[o]? with | some v => .val v | none => .bad := by
 show (bif Nat.blt o l.length then R0.val ((qap _ o).f (cellsOf l)) else .bad) = _
 rw [qgh]
 by_cases h : o < l.length
 ·rw [decide_eq_true h, qcz _ _ (Nat.lt_of_lt_of_le h (qbt _))]
  simp [h]
 ·rw [decide_eq_false h]
  simp [Nat.le_of_not_lt h]
theorem qha (b : Nat) : Hp.empty.get b = .dead := by
 show (bif Nat.blt b 2097152 then (qap HD b).f (same Blk.dead HD) else Blk.dead) = Blk.dead
 rw [qhq]; cases Nat.blt b 2097152 <;> rfl
theorem HR_ro {w : World} {l : List AV} {blk off : Nat} (hb : blk < w.heap.size)
  (hc : ∀ i (h : i < l.length), ∃ V, w.cell? ⟨blk, off + i, none⟩ = some V ∧ Rep (fun b => if b = 0 then some ⟨blk, off, 0, 0⟩ else none) l[i] V ∧ V.oneCell = true) :
  HR (fun b => if b = 0 then some ⟨blk, off, 0, 0⟩ else none) (qak Hp.empty (qi7 l)) w := by
 have g0 : (qak Hp.empty (qi7 l)).get 0 = qi7 l := qaj Hp.empty (qi7 l)
 have g1 : ∀ b, b ≠ 0 → (qak Hp.empty (qi7 l)).get b = .dead := fun b h => by
  rw [qhr, if_neg (show ¬ b = Hp.empty.nx from h)]; exact qha b
 have hw : ∀ b, ((qak Hp.empty (qi7 l)).get b).wr = false := fun b => by
  by_cases h : b = 0
  ·subst h; rw [g0]; rfl
  ·rw [g1 b h]; rfl
 refine ⟨inH, fun b _ => ?_, fun b m _ hd hm => ?_, fun b c m m' _ _ h => ?_, fun b h => ?_, fun b h _ => ?_⟩
 ·by_cases h : b = 0
  ·subst h
   rw [g0]
   refine ⟨⟨blk, off, 0, 0⟩, rfl, ⟨qbt _, rfl⟩, fun i hi => ?_, fun h => by cases h⟩
   obtain ⟨V, h1, h2, h3⟩ := hc i hi
   refine ⟨V, h1, ?_, h3, fun h => by cases h⟩
   rw [qcz _ _ (Nat.lt_of_lt_of_le hi (qbt _))]
   simpa [hi] using h2
  ·rw [g1 b h]; trivial
 ·by_cases h : b = 0
  ·subst h
   have hm' : (some ⟨blk, off, 0, 0⟩ : Option Ev.Loc) = some m := hm
   cases hm'
   exact hb
  ·rw [g1 b h] at hd; cases hd
 ·rw [hw b] at h; cases h
 ·show (if b = 0 then some (⟨blk, off, 0, 0⟩ : Ev.Loc) else none) = none
  have : 0 + 1 ≤ b := h
  rw [if_neg (by omega)]
 ·have : 0 + 1 ≤ b := h
  exact g1 b (by omega)
theorem add_add (a : Addr) (x y : Nat) : (a.add x).add y = a.add (x + y) := by
 unfold Addr.add
 by_cases hx : x = 0
 ·subst hx; simp
 ·by_cases hy : y = 0
  ·subst hy; simp
  ·simp [hx, hy, Nat.add_assoc]
theorem zcl {a : Addr} (h : a.spot = none) (x : Nat) : a.add x = ⟨a.block, a.off + x, none⟩ := by
 obtain ⟨ab, ao, as⟩ := a
 cases h
 unfold Addr.add
 by_cases hx : x = 0
 ·subst hx; simp
 ·simp [hx]
theorem zh3 {Hd : Type} {enc : TypeId × Value → Hd} {P : Program} {w : World} {fuel : Nat} {t e u : TypeId} {v : Value} {x : DataW Hd × List MemPlace} (ht : P.underlying t = some (.slice e)) (he : P.underlying e = some (.array 3 u)) (hu : P.underlying u = some (.int .u8))
  (hce : P.cellsOf e = 3) (hcu : P.cellsOf u = 1) (h : DataW.trod enc P w 0 (fun _ => true) true fuel t [v] = some x) :
  ∃ ι H a cnt, HR ι H w ∧ Rep ι a v ∧ Arg3 H a cnt ∧ ∀ b, (H.get b).wr = false := by
 have hempty : ∀ b, (Hp.empty.get b).wr = false := fun b => by rw [qha]; rfl
 rcases DataW.trod_slice ht h with ⟨h0, _⟩ | ⟨a, len, cap, elems, rest, n, _, hcs, _, _, hl, _, hlen, hel, _⟩
 ·cases h0
  exact ⟨_, _, .nilsl, 0, HR.empty, by simp only [Rep], ⟨rfl, rfl, fun i hi => by omega⟩, hempty⟩
 ·cases hcs
  have cell : ∀ i, i < len → ∀ j, j < 3 → ∃ y : Nat, y < 256 ∧ w.cell? (a.add (i * 3 + j)) = some (.int .u8 (.ofNat y)) := by
   intro i hi j hj
   have h1 := hel i hi
   rw [List.getElem?_eq_getElem (by omega), hce, Option.bind_eq_some_iff] at h1
   obtain ⟨cs', h2, h3⟩ := h1
   obtain ⟨xs, m, hxl, hxn, hx⟩ := trod_array he h3
   have h4 := hx j hj
   rw [hcu, List.getElem?_eq_getElem (by omega)] at h4
   obtain ⟨y, h5, _, h6⟩ := DataW.trod_int hu h4
   have h7 := (World.cells?_some h2).2.2 j hj
   have h8 : cs'[j]? = some (.int .u8 y) := by
    rw [Nat.mul_one] at h5
    have := congrArg (·[0]?) h5
    simpa [List.getElem?_take, List.getElem?_drop] using this
   rw [h8] at h7
   simp only [Lit.wf, Bool.and_eq_true, decide_eq_true_eq] at h6
   have h9 : 0 ≤ y ∧ y ≤ 255 := ⟨h6.1, h6.2⟩
   refine ⟨y.toNat, by omega, ?_⟩
   have h10 : (a.add (i * 3)).add j = a.add (i * 3 + j) := add_add _ _ _
   rw [← h10, h7]
   congr 2
   show y = ((y.toNat : Nat) : Int)
   omega
  rcases Nat.eq_zero_or_pos len with h0 | h0
  ·subst h0
   exact ⟨_, _, .sle, 0, HR.empty, by simp only [Rep]; exact ⟨_, _, rfl⟩, ⟨rfl, rfl, fun i hi => by omega⟩, hempty⟩
  ·obtain ⟨y0, _, hc0⟩ := cell 0 h0 0 (by omega)
   have hspot : a.spot = none := by
    unfold World.cell? at hc0
    split at hc0
    ·split at hc0
     ·cases hc0
     ·rename_i h; simpa [Addr.add] using h
    ·cases hc0
   have hblk : a.block < w.heap.size := by
    unfold World.cell? at hc0
    split at hc0
    ·rename_i h
     exact (Array.getElem?_eq_some_iff.1 h).1
    ·cases hc0
   have cell' : ∀ i, i < len * 3 → ∃ y : Nat, y < 256 ∧ w.cell? ⟨a.block, a.off + i, none⟩ = some (.int .u8 (.ofNat y)) := by
    intro i hi
    obtain ⟨y, h1, h2⟩ := cell (i / 3) (by omega) (i % 3) (by omega)
    refine ⟨y, h1, ?_⟩
    rw [← h2, show i / 3 * 3 + i % 3 = i by omega]
    rw [zcl hspot]
   obtain ⟨g, hg⟩ : ∃ g : Nat → Nat, ∀ i, i < len * 3 → g i < 256 ∧ w.cell? ⟨a.block, a.off + i, none⟩ = some (.int .u8 (.ofNat (g i))) := by
    refine ⟨fun i => if h : i < len * 3 then Classical.choose (cell' i h) else 0, fun i hi => ?_⟩
    simp only [hi, dif_pos]
    exact Classical.choose_spec (cell' i hi)
   let l : List AV := (List.range (len * 3)).map fun i => .int .u8 (.ofNat (g i))
   have hll : l.length = len * 3 := by simp [l]
   have hli : ∀ i, i < len * 3 → l[i]? = some (.int .u8 (.ofNat (g i))) := fun i hi => by simp [l, hi]
   refine ⟨fun b => if b = 0 then some ⟨a.block, a.off, 0, 0⟩ else none, qak Hp.empty (qi7 l), .sl 0 0 len cap true, len, HR_ro hblk fun i hi => ?_, ?_, ⟨rfl, rfl, fun i hi => ?_⟩, fun b => ?_⟩
   ·rw [hll] at hi
    refine ⟨_, (hg i hi).2, ?_, rfl⟩
    have h1 := hli i hi
    rw [List.getElem?_eq_getElem (by omega)] at h1
    rw [Option.some.inj h1]
    simp only [Rep]
   ·simp only [Rep]
    refine ⟨hl, ⟨a.block, a.off, 0, 0⟩, rfl, ?_⟩
    obtain ⟨ab, ao, as⟩ := a
    cases hspot
    rfl
   ·refine ⟨0, 0 + i * 3, qgg _ _ _ _ _ _ _ _ hi, Nat.zero_lt_one, fun j hj => ⟨g (i * 3 + j), (hg _ (by omega)).1, ?_⟩⟩
    rw [show (qak Hp.empty (qi7 l)).get 0 = qi7 l from qaj Hp.empty (qi7 l), q50, show 0 + i * 3 + j = i * 3 + j by omega, hli _ (by omega)]
   ·by_cases h : b = 0
    ·subst h; rw [show (qak Hp.empty (qi7 l)).get 0 = qi7 l from qaj Hp.empty (qi7 l)]; rfl
    ·rw [qhr, if_neg (show ¬ b = Hp.empty.nx from h), qha]; rfl
end Go.Di
end
