/-
  countersign/countersignlaw20.FitsKnown: the given statement Rows.FitsKnownSaid (the closed law returns true, in every world, on every schedule), by kernel runs of the evaluator over calls that are known ahead. No conditions. (The frame: the kit's proof-skeleton for this function.)
-/
import Derived.Test.YtkeeggehhlhjnacGreatRows
import Derived.Test.YtkeeggehhlhjnacGreatRun1
import Derived.Test.YtkeeggehhlhjnacGreatRun2
import Derived.Test.YtkeeggehhlhjnacGreatRun3
import Derived.Test.YtkeeggehhlhjnacGreatRun4
import Derived.Test.YtkeeggehhlhjnacGreatRun5
import Derived.Test.YtkeeggehhlhjnacGreatRun6
import Derived.Test.YtkeeggehhlhjnacGreatRunRoot
import Derived.WalkKit
import Derived.ProofKit
import Derived.OpenShut
namespace Go.Proofs.YtkeeggehhlhjnacGreat
open Go.ChangeShapes Go.WideShapes Go.ChangeAt Go.RowKit Go.Ev
set_option linter.unusedVariables false

theorem own : ownKnob Tryz.prog.godebug = none := by kernel_rfl

theorem fol : Tryz.prog.follows .mixedOrders = true := by kernel_rfl
theorem knAll : ∀ e ∈ lAll, KnOk Tryz.prog e ∧ e.wf = true := by
  intro e he
  refine ⟨?_, List.all_eq_true.1 wfAll e he⟩
  simp only [lAll, List.mem_append] at he
  rcases he with ((((h1 | h2) | h3) | h4) | h5) | h6
  · exact kn_of_run fol noExt_ok (List.all_eq_true.1 run1 e h1)
  · exact kn_of_run fol noExt_ok (List.all_eq_true.1 run2 e h2)
  · exact kn_of_run fol noExt_ok (List.all_eq_true.1 run3 e h3)
  · exact kn_of_run fol noExt_ok (List.all_eq_true.1 run4 e h4)
  · exact kn_of_run fol noExt_ok (List.all_eq_true.1 run5 e h5)
  · exact kn_of_run fol noExt_ok (List.all_eq_true.1 run6 e h6)
theorem yesRoot : Yes Tryz.prog 3 := yes_of_run fol (knExt_ok knAll) runRoot
theorem walk (w : World) : Calls Tryz.prog 3 #[] w fun e w' => e = .returned (.bool true) ∧ Below w.heap.size w w' := yesRoot w

set_option maxRecDepth 100000 in
theorem lifted (os : Os) (started : os.Started) (H : Type) (enc : TypeId × Value → H) :
    ReturnsInHanded {} Tryz.checked os 3 .any (Rows.fitsKnownSpec.pre6 enc Tryz.prog Tryz.f3 Rows.fitsKnownRow.domain false) (Rows.fitsKnownSpec.post enc Tryz.prog Tryz.f3 false true false false) := by
  refine returnsInHanded_of_change (C := Tryz.checked) own started (by kernel_rfl) Tryz.func3
    (ChangeSpec.witness6 (enc := enc) (C := Tryz.checked) false ⟨#[], #[], []⟩ 8 (by kernel_rfl) (by kernel_rfl) (by kernel_rfl) (by kernel_rfl)) ?_
  intro W base args ds gs before hval0 hW hcnd _
  have hval : ∀ (j : Nat) t v, Tryz.f3.params[j]? = some t → args[j]? = some v → Value.okWide Tryz.prog W .any base t v := hval0
  have hW' := hW
  obtain ⟨p, q, hA0, hV, rfl, hfz, hnd⟩ := hW
  have hA : DataW.TrodAll enc Tryz.prog W 0 (fun _ => true) true Tryz.f3.params.toList args.toList ds p := hA0
  rw [Tryz.params3] at hA hval
  obtain ⟨rfl, rfl, rfl⟩ := trodAll_none hA
  obtain ⟨rfl, rfl⟩ := trodVars_none hV
  clear hA0 hval0
  simp only [List.append_nil] at hW'
  refine (walk  W).mono fun e W' ⟨he, hg⟩ => ?_
  subst he
  exact ⟨_, rfl, post_below (pa := []) (pv := []) hW' (fun _ _ _ => (trodAll_cons_mk (shut_bool Tryz.underlying4 _) trodAll_mk0)) (fun sp _ => rfl) (fun _ _ => rfl) rfl
    hg (ok_one (by kernel_rfl) rfl (okWide_bool_mk Tryz.underlying4 _))⟩

theorem over : Rows.fitsKnownRow.holds Tryz.pinned (OpenSpec.ofChange Rows.fitsKnownSpec) :=
  OpenClaim.holds_of_wide 3 Tryz.f3 rfl rfl rfl rfl rfl rfl rfl ⟨rfl, rfl, rfl, rfl, rfl⟩ rfl rfl rfl rfl rfl (by kernel_rfl) Tryz.func3 (by kernel_rfl)
    (of_decide_eq_true (by kernel_rfl)) (by unfold Func.isWrapper; first | (rw [if_pos (by decide +kernel)]; kernel_rfl) | (rw [if_neg (by decide +kernel)]; exact ⟨rfl, rfl⟩))
    (fun os started H enc _ => lifted os started H enc)

theorem fitsKnown_holds : Rows.FitsKnownSaid :=
  over
#print axioms fitsKnown_holds
end Go.Proofs.YtkeeggehhlhjnacGreat
