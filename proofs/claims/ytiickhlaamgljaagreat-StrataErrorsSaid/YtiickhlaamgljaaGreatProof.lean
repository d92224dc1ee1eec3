/-
 countersign/countersignlaw18.StrataErrors: the given statement Rows.StrataErrorsSaid. The walk: the evaluator's call at the arguments as its memory has them (runZ). No conditions.
-/
import Derived.Test.YtiickhlaamgljaaGreatRows
import Derived.Test.YtiickhlaamgljaaGreatInst
import Derived.WalkKit
import Derived.ProofKit
import Derived.OpenShut
set_option linter.unusedSimpArgs false
set_option linter.unusedVariables false
namespace Go.Proofs.YtiickhlaamgljaaGreat
open Go.ChangeShapes Go.WideShapes Go.ChangeAt Go.RowKit Go.Ev Go.Di
set_option linter.unusedVariables false
theorem own : ownKnob Tryz.prog.godebug = none := by kernel_rfl
theorem laid : laidOutB Tryz.prog = true := by kernel_rfl
theorem reads : zca Tryz.prog Tryz.f6.params.toList = true := by kernel_rfl
theorem za8 : Tryz.prog.cellsOf 31 = 2 := by kernel_rfl
theorem za9 : Tryz.prog.cellsOf 29 = 1 := by kernel_rfl
theorem za7 : Tryz.prog.cellsOf 87 = 3 := by kernel_rfl
theorem zd5 : Tryz.prog.cellsOf 4 = 1 := by kernel_rfl
theorem cells3 : Tryz.prog.cellsOf 3 = 1 := by kernel_rfl
set_option maxRecDepth 100000 in
theorem walk {H : Type} {enc : TypeId × Value → H} {W : World} {v1 : Value} {d1 : DataW H} {p1 : List MemPlace} (h1 : Value.okWide Tryz.prog W .any 0 31 v1)
  (ht : DataW.Trod enc Tryz.prog W 0 (fun _ => true) true 31 v1 d1 p1) :
  Calls Tryz.prog 6 #[v1] W fun e w' => e = .returned (.bool true) ∧ Below W.heap.size W w' := by
 obtain ⟨cs, rfl, hcs⟩ := okWide_struct Tryz.underlying31 h1
 obtain ⟨fuel, ht⟩ := ht
 rw [za8] at hcs
 obtain ⟨cs⟩ := cs
 match cs, hcs with
 | [c0, c1], _ =>
 obtain ⟨y0, y1, n, _, _, hy0, hy1⟩ := trod_struct2 Tryz.underlying31 (cs := [c0, c1]) ht
 rw [cells3] at hy0
 rw [za9] at hy1
 obtain ⟨N, hN, _, hw⟩ := DataW.trod_int Tryz.underlying3 (cs := [c0]) hy0
 obtain rfl : c0 = .int .i64 N := by simpa using hN
 have hy1 : DataW.trod enc Tryz.prog W 0 (fun _ => true) true n 29 [c1] = some y1 := hy1
 have one : c1.oneCell = true := by
  rcases DataW.trod_slice Tryz.underlying29 hy1 with ⟨h, _⟩ | ⟨_, _, _, _, _, _, _, h, _⟩
  ·cases h; rfl
  ·cases h; rfl
 obtain ⟨ι, H0, av, cnt, hR, hrep, harg, hwr⟩ := zdl Tryz.underlying29 Tryz.underlying87 ⟨rfl, rfl⟩ ⟨rfl, rfl⟩ ⟨rfl, rfl⟩ Tryz.underlying3 Tryz.underlying4 za7 cells3 zd5 hy1
 have run := runZ (N := N) harg
 obtain ⟨r, H', he, rfl⟩ := run
 have hL : RepL ι [.agg [.int .i64 N, av]] [.agg #[.int .i64 N, c1]] := by
  refine ⟨_, _, rfl, ⟨[.int .i64 N, c1], ⟨_, _, rfl, rfl, _, _, rfl, hrep, rfl⟩, rfl, fun v hv => ?_⟩, rfl⟩
  rcases List.mem_cons.1 hv with rfl | hv
  ·rfl
  ·obtain rfl := List.mem_singleton.1 hv
   exact one
 have := ((qkn folZ extZ 2000).fn _ _ _ _ _ he ι W _ hR hL).2 0
 refine (callsIn_wide.1 this).mono fun e w' hp => ?_
 cases e with
 | returned V =>
  obtain ⟨ι', h1, h2, h3⟩ := hp
  simp only [Rep] at h1
  exact ⟨by rw [h1], h3.below _ (Nat.le_refl _) fun b l _ h _ => by rw [hwr b] at h; cases h⟩
 | panicked => exact hp.elim
 | outgrown => exact hp.elim
set_option maxRecDepth 100000 in
theorem lifted (os : Os) (started : os.Started) (H : Type) (enc : TypeId × Value → H) :
  ReturnsInHanded {} Tryz.checked os 6 .any (Rows.strataErrorsSpec.pre6 enc Tryz.prog Tryz.f6 Rows.strataErrorsRow.domain false) (Rows.strataErrorsSpec.post enc Tryz.prog Tryz.f6 false true false false) := by
 refine returnsInHanded_of_change (C := Tryz.checked) own started (by kernel_rfl) Tryz.func6
  (ChangeSpec.witness6 (enc := enc) (C := Tryz.checked) false ⟨#[], #[.agg #[.int .i64 0, .slice none 0 0]], []⟩ 8 (by kernel_rfl) (by kernel_rfl) (by kernel_rfl) (by kernel_rfl)) ?_
 intro W base args ds gs before hval0 hW hcnd _
 have hval : ∀ (j : Nat) t v, Tryz.f6.params[j]? = some t → args[j]? = some v → Value.okWide Tryz.prog W .any base t v := hval0
 have hW' := hW
 obtain ⟨p, q, hA0, hV, _, _, _⟩ := hW
 have hA : DataW.TrodAll enc Tryz.prog W 0 (fun _ => true) true Tryz.f6.params.toList args.toList ds p := hA0
 rw [Tryz.params6] at hA hval
 obtain ⟨v1, vs1, d1, ds1, p1, q1, e1, rfl, rfl, ht1, hA1⟩ := trodAll_cons hA
 obtain ⟨rfl, rfl, rfl⟩ := trodAll_nil hA1
 obtain ⟨args⟩ := args
 obtain rfl : args = [v1] := e1
 refine (walk (hval 0 _ _ rfl rfl) ht1).mono fun e W' ⟨he, hg⟩ => ?_
 subst he
 exact ⟨_, rfl, q6n laid hW' rfl reads rfl rfl Tryz.underlying4 hg⟩
theorem over : Rows.strataErrorsRow.holds Tryz.pinned (OpenSpec.ofChange Rows.strataErrorsSpec) :=
 OpenClaim.holds_of_wide 6 Tryz.f6 rfl rfl rfl rfl rfl rfl rfl ⟨rfl, rfl, rfl, rfl, rfl⟩ rfl rfl rfl rfl rfl (by kernel_rfl) Tryz.func6 (by kernel_rfl)
  (of_decide_eq_true (by kernel_rfl)) (by unfold Func.isWrapper; first | (rw [if_pos (by decide +kernel)]; kernel_rfl) | (rw [if_neg (by decide +kernel)]; exact ⟨rfl, rfl⟩))
  (fun os started H enc _ => lifted os started H enc)
theorem strataErrors_holds : Rows.StrataErrorsSaid :=
 over
#print axioms strataErrors_holds
end Go.Proofs.YtiickhlaamgljaaGreat
