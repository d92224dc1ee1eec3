/-
 countersign/countersignlaw16.GraphsOf: the given statement Rows.GraphsOfSaid. The walk: the evaluator's call at the argument as its memory has it (runZ). No conditions.
-/
import Derived.Test.YtigaopnmpflgmaaGreatRows
import Derived.Test.YtigaopnmpflgmaaGreatInst
import Derived.WalkKit
import Derived.ProofKit
import Derived.OpenShut
set_option linter.unusedSimpArgs false
set_option linter.unusedVariables false
namespace Go.Proofs.YtigaopnmpflgmaaGreat
open Go.ChangeShapes Go.WideShapes Go.ChangeAt Go.RowKit Go.Ev Go.Di
set_option linter.unusedVariables false
theorem own : ownKnob Tryz.prog.godebug = none := by kernel_rfl
theorem laid : laidOutB Tryz.prog = true := by kernel_rfl
theorem reads : zks Tryz.prog Tryz.f3.params.toList = true := by kernel_rfl
theorem zjo : Tryz.prog.cellsOf 24 = 1 := by kernel_rfl
theorem zjq : Tryz.prog.cellsOf 22 = 1 := by kernel_rfl
theorem zej : Tryz.prog.cellsOf 118 = 1 := by kernel_rfl
theorem cells5 : Tryz.prog.cellsOf 5 = 1 := by kernel_rfl
set_option maxRecDepth 100000 in
theorem walk {H : Type} {enc : TypeId × Value → H} {W : World} {v1 : Value} {d1 : DataW H} {p1 : List MemPlace} (h1 : Value.okWide Tryz.prog W .any 0 24 v1)
  (ht : DataW.Trod enc Tryz.prog W 0 (fun _ => true) true 24 v1 d1 p1) :
  Calls Tryz.prog 3 #[v1] W fun e w' => e = .returned (.bool true) ∧ Below W.heap.size W w' := by
 obtain ⟨cs, rfl, hcs⟩ := okWide_struct Tryz.underlying24 h1
 obtain ⟨fuel, ht⟩ := ht
 rw [zjo] at hcs
 obtain ⟨cs⟩ := cs
 match cs, hcs with
 | [c0], _ =>
 obtain ⟨y0, n, _, _, hy0⟩ := trod_struct1 Tryz.underlying24 (cs := [c0]) ht
 rw [zjq] at hy0
 have hy0 : DataW.trod enc Tryz.prog W 0 (fun _ => true) true n 22 [c0] = some y0 := hy0
 have one : c0.oneCell = true := by
  rcases DataW.trod_slice Tryz.underlying22 hy0 with ⟨h, _⟩ | ⟨_, _, _, _, _, _, _, h, _⟩
  ·cases h; rfl
  ·cases h; rfl
 obtain ⟨ι, H0, av, L, hR, hrep, harg, hwr⟩ := zl4 Tryz.underlying22 Tryz.underlying118 Tryz.underlying5 zej cells5 hy0
 have run := runZ harg
 obtain ⟨r, H', he, rfl⟩ := run
 have hL : RepL ι [.agg [av]] [.agg #[c0]] := by
  refine ⟨_, _, rfl, ⟨[c0], ⟨_, _, rfl, hrep, rfl⟩, rfl, fun v hv => ?_⟩, rfl⟩
  obtain rfl := List.mem_singleton.1 hv
  exact one
 have := ((qku folZ extZ 100).fn _ _ _ _ _ he ι W _ hR hL).2 0
 refine (callsIn_wide.1 this).mono fun e w' hp => ?_
 cases e with
 | returned V =>
  obtain ⟨ι', h1, h2, h3⟩ := hp
  simp only [Rep] at h1
  exact ⟨by rw [h1], h3.below _ (Nat.le_refl _) fun b l _ h _ => by rw [hwr b] at h; cases h⟩
 | panicked => exact hp.elim
 | outgrown => exact hp.elim
set_option maxRecDepth 100000 in
theorem lifted (os : Os) (started : os.Started) (H : Type) (enc : TypeId × Value → H) :
  ReturnsInHanded {} Tryz.checked os 3 .any (Rows.graphsOfSpec.pre6 enc Tryz.prog Tryz.f3 Rows.graphsOfRow.domain false) (Rows.graphsOfSpec.post enc Tryz.prog Tryz.f3 false true false false) := by
 refine returnsInHanded_of_change (C := Tryz.checked) own started (by kernel_rfl) Tryz.func3
  (ChangeSpec.witness6 (enc := enc) (C := Tryz.checked) false ⟨#[], #[.agg #[.slice none 0 0]], []⟩ 8 (by kernel_rfl) (by kernel_rfl) (by kernel_rfl) (by kernel_rfl)) ?_
 intro W base args ds gs before hval0 hW hcnd _
 have hval : ∀ (j : Nat) t v, Tryz.f3.params[j]? = some t → args[j]? = some v → Value.okWide Tryz.prog W .any base t v := hval0
 have hW' := hW
 obtain ⟨p, q, hA0, hV, _, _, _⟩ := hW
 have hA : DataW.TrodAll enc Tryz.prog W 0 (fun _ => true) true Tryz.f3.params.toList args.toList ds p := hA0
 rw [Tryz.params3] at hA hval
 obtain ⟨v1, vs1, d1, ds1, p1, q1, e1, rfl, rfl, ht1, hA1⟩ := trodAll_cons hA
 obtain ⟨rfl, rfl, rfl⟩ := trodAll_nil hA1
 obtain ⟨args⟩ := args
 obtain rfl : args = [v1] := e1
 refine (walk (hval 0 _ _ rfl rfl) ht1).mono fun e W' ⟨he, hg⟩ => ?_
 subst he
 exact ⟨_, rfl, zde laid hW' rfl reads rfl rfl Tryz.underlying4 hg⟩
theorem over : Rows.graphsOfRow.holds Tryz.pinned (OpenSpec.ofChange Rows.graphsOfSpec) :=
 OpenClaim.holds_of_wide 3 Tryz.f3 rfl rfl rfl rfl rfl rfl rfl ⟨rfl, rfl, rfl, rfl, rfl⟩ rfl rfl rfl rfl rfl (by kernel_rfl) Tryz.func3 (by kernel_rfl)
  (of_decide_eq_true (by kernel_rfl)) (by unfold Func.isWrapper; first | (rw [if_pos (by decide +kernel)]; kernel_rfl) | (rw [if_neg (by decide +kernel)]; exact ⟨rfl, rfl⟩))
  (fun os started H enc _ => lifted os started H enc)
theorem graphsOf_holds : Rows.GraphsOfSaid :=
 over
#print axioms graphsOf_holds
end Go.Proofs.YtigaopnmpflgmaaGreat
