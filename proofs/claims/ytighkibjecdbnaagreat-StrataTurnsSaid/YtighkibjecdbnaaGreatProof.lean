/-
 countersign/countersignlaw18.StrataTurns: the given statement Rows.StrataTurnsSaid. The walk: the evaluator's O at the arguments as its memory has them (runZ). No conditions.
-/
import Derived.Test.YtighkibjecdbnaaGreatRows
import Derived.Test.YtighkibjecdbnaaGreatInst
import Derived.WalkKit
import Derived.ProofKit
import Derived.OpenShut
set_option linter.unusedSimpArgs false
set_option linter.unusedVariables false
namespace Go.Proofs.YtighkibjecdbnaaGreat
open Go.ChangeShapes Go.WideShapes Go.ChangeAt Go.RowKit Go.Ev Go.Di
set_option linter.unusedVariables false
theorem own : ownKnob Tryz.prog.godebug = none := by kernel_rfl
theorem laid : laidOutB Tryz.prog = true := by kernel_rfl
theorem reads : z6i Tryz.prog Tryz.f4.params.toList = true := by kernel_rfl
theorem z3s : Tryz.prog.cellsOf 24 = 1 := by kernel_rfl
theorem z3t : Tryz.prog.cellsOf 22 = 1 := by kernel_rfl
theorem zuu : Tryz.prog.cellsOf 132 = 1 := by kernel_rfl
theorem cells5 : Tryz.prog.cellsOf 5 = 1 := by kernel_rfl
theorem zn3 : Tryz.prog.cellsOf 61 = 2 := by kernel_rfl
section
variable {H : Type} {enc : TypeId × Value → H} {W : World} {n : Nat} {cs : List Value} {x : DataW H × List MemPlace}
set_option maxRecDepth 100000 in
theorem el2 (h : DataW.trod enc Tryz.prog W 0 (fun _ => true) true n 61 cs = some x) : ∃ a : Q2, ∀ j, j < 2 → ∃ u V, a.cells[j]? = some u ∧ cs[j]? = some V ∧ (∀ ι : Im, aL ι u V) ∧ V.oneCell = true := by
 obtain ⟨k, l, n, _, c, d, e⟩ := trod_struct2 Tryz.underlying61 h
 rw [zn3] at c
 match cs, c with
 | [c0, c1], _ =>
 rw [cells5] at d e
 obtain ⟨a, g⟩ := q7j Tryz.underlying5 d
 obtain ⟨b, i⟩ := q7j Tryz.underlying5 e
 cases g
 cases i
 refine ⟨⟨a, b, a.isLt, b.isLt⟩, fun j f => ?_⟩
 match j, f with
 | 0, _ => exact ⟨_, _, rfl, rfl, fun ι => by simp only [aL], rfl⟩
 | 1, _ => exact ⟨_, _, rfl, rfl, fun ι => by simp only [aL], rfl⟩
end
set_option maxRecDepth 100000 in
theorem walk {H : Type} {enc : TypeId × Value → H} {W : World} {k m : Value} {d1 w : DataW H} {p1 x : List MemPlace} (j : Value.okWide Tryz.prog W .any 0 24 k) (t : Value.okWide Tryz.prog W .any 0 56 m)
  (c : DataW.Trod enc Tryz.prog W 0 (fun _ => true) true 24 k d1 p1) (d : DataW.Trod enc Tryz.prog W 0 (fun _ => true) true 56 m w x) :
  Calls Tryz.prog 4 #[k, m] W fun e w' => e = .returned (.bool true) ∧ Below W.heap.size W w' := by
 obtain ⟨cs, rfl, f⟩ := okWide_struct Tryz.underlying24 j
 obtain ⟨A, g, i, rfl⟩ := okWide_slice Tryz.underlying56 t
 obtain ⟨u, c⟩ := c
 rw [z3s] at f
 obtain ⟨cs⟩ := cs
 match cs, f with
 | [c0], _ =>
 obtain ⟨B, n, _, _, a⟩ := trod_struct1 Tryz.underlying24 (cs := [c0]) c
 rw [z3t] at a
 have a : DataW.trod enc Tryz.prog W 0 (fun _ => true) true n 22 [c0] = some B := a
 obtain ⟨p, d⟩ := d
 obtain ⟨ι, H0, w1, P, C, q, L, Q, D, E, F, R, G, I, J, K, M, s⟩ := z8o Tryz.underlying22 Tryz.underlying132 Tryz.underlying5 zuu cells5 Tryz.underlying56 zn3 el2 a d
 cases D
 cases E
 obtain ⟨r, S, N, rfl⟩ := aVO K M
 have z : aK ι [.agg [C], q] [.agg #[c0], .slice A g i] := by
  refine ⟨_, _, rfl, ⟨[c0], ⟨_, _, rfl, I, rfl⟩, rfl, fun v y => ?_⟩, _, _, rfl, J, rfl⟩
  obtain rfl := gq.1 y
  exact F
 have := ((qg5 aCR aUv 2000).fn _ _ _ _ _ N ι W _ G z).2 0
 refine (callsIn_wide.1 this).mono fun e w' o => ?_
 cases e with
 | returned V =>
  obtain ⟨T, j, t, O⟩ := o
  simp only [aL] at j
  exact ⟨by rw [j], O.below _ (lh _) fun b l _ h _ => by rw [s b] at h; cases h⟩
 | panicked => exact o.elim
 | outgrown => exact o.elim
set_option maxRecDepth 100000 in
theorem lifted (m : Os) (a : m.Started) (H : Type) (enc : TypeId × Value → H) :
  ReturnsInHanded {} Tryz.checked m 4 .any (Rows.strataTurnsSpec.pre6 enc Tryz.prog Tryz.f4 Rows.strataTurnsRow.domain false) (Rows.strataTurnsSpec.post enc Tryz.prog Tryz.f4 false true false false) := by
 refine returnsInHanded_of_change (C := Tryz.checked) own a (by kernel_rfl) Tryz.func4
  (ChangeSpec.witness6 (enc := enc) (C := Tryz.checked) false ⟨#[], #[.agg #[.slice none 0 0], .slice none 0 0], []⟩ 8 (by kernel_rfl) (by kernel_rfl) (by kernel_rfl) (by kernel_rfl)) ?_
 intro W base args ds F d c o r _
 have b : ∀ (j : Nat) t v, Tryz.f4.params[j]? = some t → args[j]? = some v → Value.okWide Tryz.prog W .any base t v := c
 have f := o
 obtain ⟨p, q, g, G, _, _, _⟩ := o
 have n : DataW.TrodAll enc Tryz.prog W 0 (fun _ => true) true Tryz.f4.params.toList args.toList ds p := g
 rw [Tryz.params4] at n b
 obtain ⟨w, x, d1, y, p1, I, z, rfl, rfl, h, i⟩ := trodAll_cons n
 obtain ⟨A, B, J, D, K, L, rfl, rfl, rfl, k, l⟩ := trodAll_cons i
 obtain ⟨rfl, rfl, rfl⟩ := trodAll_nil l
 obtain ⟨args⟩ := args
 obtain rfl : args = [w, A] := z
 refine (walk (b 0 _ _ rfl rfl) (b 1 _ _ rfl rfl) h k).mono fun e E ⟨s, u⟩ => ?_
 subst s
 exact ⟨_, rfl, ztd laid f rfl reads rfl rfl Tryz.underlying4 u⟩
theorem over : Rows.strataTurnsRow.holds Tryz.pinned (OpenSpec.ofChange Rows.strataTurnsSpec) :=
 OpenClaim.holds_of_wide 4 Tryz.f4 rfl rfl rfl rfl rfl rfl rfl ⟨rfl, rfl, rfl, rfl, rfl⟩ rfl rfl rfl rfl rfl (by kernel_rfl) Tryz.func4 (by kernel_rfl)
  (of_decide_eq_true (by kernel_rfl)) (by unfold Func.isWrapper; first | (rw [kz (by decide +kernel)]; kernel_rfl) | (rw [lu (by decide +kernel)]; exact ⟨rfl, rfl⟩))
  (fun b a H enc _ => lifted b a H enc)
theorem strataTurns_holds : Rows.StrataTurnsSaid :=
 over
#print axioms strataTurns_holds
end Go.Proofs.YtighkibjecdbnaaGreat
