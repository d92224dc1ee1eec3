/-
 For countersignlaw18.StrataErrors: the arguments of the law as the memory has them. No conditions beyond those that each theorem states.
-/
import Derived.Test.YtiickhlaamgljaaGreatGraC
import Derived.Test.YtiickhlaamgljaaGreatEv3
import Derived.ChangeArms
import Derived.DataReads
import Derived.Test.YtiickhlaamgljaaGreatLawB
set_option linter.unusedSimpArgs false
set_option linter.unusedVariables false
noncomputable section
/-
 Arguments: a slice of triples of bytes, as the evaluator's memory has it.
-/
namespace Go.Di
open Go.Ev
noncomputable section
variable {Hd : Type} {enc : TypeId × Value → Hd} {P : Program} {w : World} {base : Nat} {spare : Nat → Bool} {held : Bool} {fuel : Nat} {t : TypeId} {cs : List Value} {x : DataW Hd × List MemPlace}
end
def qhz (l : List AV) : Blk := .cells (qas l.length) l.length (cellsOf l) true 0
theorem qf5 (b : Nat) : Hp.empty.get b = .dead := by
 show (bif Nat.blt b 2097152 then (qak HD b).f (same Blk.dead HD) else Blk.dead) = Blk.dead
 rw [qgl]; cases Nat.blt b 2097152 <;> rfl
theorem HR_ro {w : World} {l : List AV} {blk off : Nat} (hb : blk < w.heap.size)
  (hc : ∀ i (h : i < l.length), ∃ V, w.cell? ⟨blk, off + i, none⟩ = some V ∧ Rep (fun b => if b = 0 then some ⟨blk, off, 0, 0⟩ else none) l[i] V ∧ V.oneCell = true) :
  HR (fun b => if b = 0 then some ⟨blk, off, 0, 0⟩ else none) (qan Hp.empty (qhz l)) w := by
 have g0 : (qan Hp.empty (qhz l)).get 0 = qhz l := qah Hp.empty (qhz l)
 have g1 : ∀ b, b ≠ 0 → (qan Hp.empty (qhz l)).get b = .dead := fun b h => by
  rw [qgm, if_neg (show ¬ b = Hp.empty.nx from h)]; exact qf5 b
 have hw : ∀ b, ((qan Hp.empty (qhz l)).get b).wr = false := fun b => by
  by_cases h : b = 0
  ·subst h; rw [g0]; rfl
  ·rw [g1 b h]; rfl
 refine ⟨inH, fun b _ => ?_, fun b m _ hd hm => ?_, fun b c m m' _ _ h => ?_, fun b h => ?_, fun b h _ => ?_⟩
 ·by_cases h : b = 0
  ·subst h
   rw [g0]
   refine ⟨⟨blk, off, 0, 0⟩, rfl, ⟨qbx _, rfl⟩, fun i hi => ?_, fun h => by cases h⟩
   obtain ⟨V, h1, h2, h3⟩ := hc i hi
   refine ⟨V, h1, ?_, h3, fun h => by cases h⟩
   rw [qdp _ _ (Nat.lt_of_lt_of_le hi (qbx _))]
   simpa [hi] using h2
  ·rw [g1 b h]; trivial
 ·by_cases h : b = 0
  ·subst h
   have hm' : (some ⟨blk, off, 0, 0⟩ : Option Ev.Loc) = some m := hm
   cases hm'
   exact hb
  ·rw [g1 b h] at hd; cases hd
 ·rw [hw b] at h; cases h
 ·show (if b = 0 then some (⟨blk, off, 0, 0⟩ : Ev.Loc) else none) = none
  have : 0 + 1 ≤ b := h
  rw [if_neg (by omega)]
 ·have : 0 + 1 ≤ b := h
  exact g1 b (by omega)
theorem add_add (a : Addr) (x y : Nat) : (a.add x).add y = a.add (x + y) := by
 unfold Addr.add
 by_cases hx : x = 0
 ·subst hx; simp
 ·by_cases hy : y = 0
  ·subst hy; simp
  ·simp [hx, hy, Nat.add_assoc]
theorem q77 {a : Addr} (h : a.spot = none) (x : Nat) : a.add x = ⟨a.block, a.off + x, none⟩ := by
 obtain ⟨ab, ao, as⟩ := a
 cases h
 unfold Addr.add
 by_cases hx : x = 0
 ·subst hx; simp
 ·simp [hx]
end Go.Di
end
noncomputable section
/-
  Arguments: a slice of edges, as the evaluator's memory has it.
-/
namespace Go.Di
open Go.Ev
def qil (al : List AE) : List AV := (al.map AE.cells).flatten
theorem q5l (al : List AE) : (qil al).length = al.length * 3 := by
 induction al with
 | nil => rfl
 | cons x l ih =>
  show (x.cells ++ qil l).length = _
  rw [List.length_append, ih, List.length_cons]
  show 3 + _ = _
  omega
theorem qrm : ∀ (al : List AE) (i : Nat) (h : i < al.length), ((qil al).drop (i * 3)).take 3 = al[i].cells
 | x :: l, 0, _ => by
  show ((x.cells ++ qil l).drop (0 * 3)).take 3 = _
  rw [Nat.zero_mul, List.drop_zero, List.take_append_of_le_length (by show 3 ≤ 3; omega)]; rfl
 | x :: l, i + 1, h => by
  show ((x.cells ++ qil l).drop ((i + 1) * 3)).take 3 = _
  have e : (i + 1) * 3 = x.cells.length + i * 3 := by show _ = 3 + _; omega
  rw [e, ← List.drop_drop, List.drop_left]
  exact qrm l i (by simpa using h)
theorem q5m (al : List AE) (i j : Nat) (h : i < al.length) (hj : j < 3) : (qil al)[i * 3 + j]? = al[i].cells[j]? := by
 have := qrm al i h
 rw [← this, List.getElem?_take, if_pos hj, List.getElem?_drop]
theorem zcc (l : List AV) (o k : Nat) : qbc (qhz l) o k = qbc (qaa 0 l) o k := rfl
def aval (x : AE) : Nat → Value
 | 0 => .int .i64 x.f
 | 1 => .int .i64 x.t
 | _ => .bool x.s
theorem q0g {Hd : Type} {enc : TypeId × Value → Hd} {P : Program} {w : World} {base : Nat} {spare : Nat → Bool} {held : Bool} {fuel : Nat} {e ti tb : TypeId} {f0 f1 f2 : Field} {cs : List Value} {x : DataW Hd × List MemPlace} (he : P.underlying e = some (.struct #[f0, f1, f2])) (h0 : f0.type = ti ∧ f0.offset = 0) (h1 : f1.type = ti ∧ f1.offset = 1) (h2 : f2.type = tb ∧ f2.offset = 2)
  (hi : P.underlying ti = some (.int .i64)) (hb : P.underlying tb = some .bool) (hce : P.cellsOf e = 3) (hci : P.cellsOf ti = 1) (hcb : P.cellsOf tb = 1) (h : DataW.trod enc P w base spare held fuel e cs = some x) : ∃ y : AE, ∀ j, j < 3 → cs[j]? = some (aval y j) := by
 obtain ⟨xs, n, _, rfl, hl, hlen, hf⟩ := DataW.trod_struct he h
 rw [hce] at hl
 have k0 := hf 0 f0 rfl
 have k1 := hf 1 f1 rfl
 have k2 := hf 2 f2 rfl
 have hxs : xs.length = 3 := by simpa using hlen
 rw [h0.1, h0.2, hci, List.getElem?_eq_getElem (by omega)] at k0
 rw [h1.1, h1.2, hci, List.getElem?_eq_getElem (by omega)] at k1
 rw [h2.1, h2.2, hcb, List.getElem?_eq_getElem (by omega)] at k2
 obtain ⟨a, e0, _⟩ := DataW.trod_int hi k0
 obtain ⟨b, e1, _⟩ := DataW.trod_int hi k1
 obtain ⟨c, e2, _⟩ := DataW.trod_bool hb k2
 refine ⟨⟨a, b, c⟩, fun j hj => ?_⟩
 have g0 := congrArg (·[0]?) e0
 have g1 := congrArg (·[0]?) e1
 have g2 := congrArg (·[0]?) e2
 simp [List.getElem?_take, List.getElem?_drop] at g0 g1 g2
 match j, hj with
 | 0, _ => simpa [aval] using g0
 | 1, _ => simpa [aval] using g1
 | 2, _ => simpa [aval] using g2
theorem zdl {Hd : Type} {enc : TypeId × Value → Hd} {P : Program} {w : World} {fuel : Nat} {t e ti tb : TypeId} {f0 f1 f2 : Field} {v : Value} {x : DataW Hd × List MemPlace} (ht : P.underlying t = some (.slice e)) (he : P.underlying e = some (.struct #[f0, f1, f2])) (h0 : f0.type = ti ∧ f0.offset = 0) (h1 : f1.type = ti ∧ f1.offset = 1) (h2 : f2.type = tb ∧ f2.offset = 2)
  (hi : P.underlying ti = some (.int .i64)) (hb : P.underlying tb = some .bool) (hce : P.cellsOf e = 3) (hci : P.cellsOf ti = 1) (hcb : P.cellsOf tb = 1) (h : DataW.trod enc P w 0 (fun _ => true) true fuel t [v] = some x) :
  ∃ ι H a al, HR ι H w ∧ Rep ι a v ∧ IsA H a al ∧ ∀ b, (H.get b).wr = false := by
 have hempty : ∀ b, (Hp.empty.get b).wr = false := fun b => by rw [qf5]; rfl
 rcases DataW.trod_slice ht h with ⟨hn, _⟩ | ⟨a, len, cap, elems, rest, n, _, hcs, _, _, hl, _, hlen, hel, _⟩
 ·cases hn
  exact ⟨_, _, .nilsl, [], HR.empty, by simp only [Rep], ⟨rfl, rfl, fun b hb => (by obtain ⟨_, _, _, _, h⟩ := hb; cases h), fun i hi => by simp at hi⟩, hempty⟩
 ·cases hcs
  have cell : ∀ i, i < len → ∃ y : AE, ∀ j, j < 3 → w.cell? (a.add (i * 3 + j)) = some (aval y j) := by
   intro i hi'
   have h3 := hel i hi'
   rw [List.getElem?_eq_getElem (by omega), hce, Option.bind_eq_some_iff] at h3
   obtain ⟨cs', h4, h5⟩ := h3
   obtain ⟨y, hy⟩ := q0g he h0 h1 h2 hi hb hce hci hcb h5
   refine ⟨y, fun j hj => ?_⟩
   have h7 := (World.cells?_some h4).2.2 j hj
   rw [hy j hj] at h7
   rw [← add_add]
   exact h7
  rcases Nat.eq_zero_or_pos len with hz | hz
  ·subst hz
   exact ⟨_, _, .sle, [], HR.empty, by simp only [Rep]; exact ⟨_, _, rfl⟩, ⟨rfl, rfl, fun b hb => (by obtain ⟨_, _, _, _, h⟩ := hb; cases h), fun i hi => by simp at hi⟩, hempty⟩
  ·obtain ⟨y0, hy0⟩ := cell 0 hz
   have hc0 := hy0 0 (by omega)
   have hspot : a.spot = none := by
    unfold World.cell? at hc0
    split at hc0
    ·split at hc0
     ·cases hc0
     ·rename_i h; simpa [Addr.add] using h
    ·cases hc0
   have hblk : a.block < w.heap.size := by
    unfold World.cell? at hc0
    split at hc0
    ·rename_i h
     exact (Array.getElem?_eq_some_iff.1 h).1
    ·cases hc0
   obtain ⟨g, hg⟩ : ∃ g : Nat → AE, ∀ i, i < len → ∀ j, j < 3 → w.cell? ⟨a.block, a.off + (i * 3 + j), none⟩ = some (aval (g i) j) := by
    refine ⟨fun i => if h : i < len then Classical.choose (cell i h) else ⟨0, 0, false⟩, fun i hi j hj => ?_⟩
    simp only [hi, dif_pos]
    rw [← q77 hspot]
    exact Classical.choose_spec (cell i hi) j hj
   let al : List AE := (List.range len).map g
   have hal : al.length = len := by simp [al]
   have hai : ∀ i (h : i < al.length), al[i] = g i := fun i h => by simp [al]
   have hll : (qil al).length = len * 3 := by rw [q5l, hal]
   refine ⟨fun b => if b = 0 then some ⟨a.block, a.off, 0, 0⟩ else none, qan Hp.empty (qhz (qil al)), .sl 0 0 len cap true, al, HR_ro hblk fun i hi' => ?_, ?_, ⟨rfl, by rw [hal]; rfl, fun b hb => ?_, fun i hi' => ?_⟩, fun b => ?_⟩
   ·have hi3 : i / 3 < al.length := by rw [hll] at hi'; omega
    have hm : i % 3 < 3 := Nat.mod_lt _ (by omega)
    have hsum : i / 3 * 3 + i % 3 = i := by omega
    have hc := hg (i / 3) (by omega) (i % 3) hm
    rw [hsum] at hc
    have hv := q5m al (i / 3) (i % 3) hi3 hm
    rw [hsum, List.getElem?_eq_getElem hi', hai _ hi3] at hv
    refine ⟨_, hc, ?_, ?_⟩
    ·have : ∀ j, j < 3 → ∀ z, some z = (g (i / 3)).cells[j]? → Rep (fun b => if b = 0 then some ⟨a.block, a.off, 0, 0⟩ else none) z (aval (g (i / 3)) j) := fun j hj z hz => by
      match j, hj with
      | 0, _ => cases hz; simp only [Rep, aval]
      | 1, _ => cases hz; simp only [Rep, aval]
      | 2, _ => cases hz; simp only [Rep, aval]
     exact this _ hm _ hv
    ·generalize i % 3 = j
     match j with
     | 0 => rfl
     | 1 => rfl
     | j + 2 => rfl
   ·simp only [Rep]
    refine ⟨hl, ⟨a.block, a.off, 0, 0⟩, rfl, ?_⟩
    obtain ⟨ab, ao, as⟩ := a
    cases hspot
    rfl
   ·obtain ⟨_, _, _, _, h⟩ := hb
    cases h
    exact Nat.zero_lt_one
   ·refine ⟨0, 0 + i * 3, qfk _ _ _ _ _ _ _ _ (by omega), Nat.zero_lt_one, ?_⟩
    have hi2 : i < al.length := hi'
    rw [show (qan Hp.empty (qhz (qil al))).get 0 = qhz (qil al) from qah Hp.empty (qhz (qil al)), zcc, qcy, if_pos (by rw [hll]; omega), Nat.zero_add, qrm al i hi2]
   ·by_cases h : b = 0
    ·subst h; rw [show (qan Hp.empty (qhz (qil al))).get 0 = qhz (qil al) from qah Hp.empty (qhz (qil al))]; rfl
    ·rw [qgm, if_neg (show ¬ b = Hp.empty.nx from h), qf5]; rfl
end Go.Di
end
