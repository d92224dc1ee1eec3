/-
  countersign/countersignlaw22.ReachesKnown: the given statement Rows.ReachesKnownSaid (the closed law returns true, in every world, on every schedule), by kernel runs of the evaluator over calls that are known ahead. No conditions. (The frame: the kit's proof-skeleton for this function.)
-/
import Derived.Test.YtfdannfpbcealaaGreatRows
import Derived.Test.YtfdannfpbcealaaGreatRun1
import Derived.Test.YtfdannfpbcealaaGreatRun2
import Derived.Test.YtfdannfpbcealaaGreatRun3
import Derived.Test.YtfdannfpbcealaaGreatRun4
import Derived.Test.YtfdannfpbcealaaGreatRun5
import Derived.Test.YtfdannfpbcealaaGreatRun6
import Derived.Test.YtfdannfpbcealaaGreatRun7
import Derived.Test.YtfdannfpbcealaaGreatRun8
import Derived.Test.YtfdannfpbcealaaGreatRun9
import Derived.Test.YtfdannfpbcealaaGreatRun10
import Derived.Test.YtfdannfpbcealaaGreatRun11
import Derived.Test.YtfdannfpbcealaaGreatRun12
import Derived.Test.YtfdannfpbcealaaGreatRun13
import Derived.Test.YtfdannfpbcealaaGreatRun14
import Derived.Test.YtfdannfpbcealaaGreatRun15
import Derived.Test.YtfdannfpbcealaaGreatRun16
import Derived.Test.YtfdannfpbcealaaGreatRun17
import Derived.Test.YtfdannfpbcealaaGreatRun18
import Derived.Test.YtfdannfpbcealaaGreatRun19
import Derived.Test.YtfdannfpbcealaaGreatRunRoot
import Derived.WalkKit
import Derived.ProofKit
import Derived.OpenShut
namespace Go.Proofs.YtfdannfpbcealaaGreat
open Go.ChangeShapes Go.WideShapes Go.ChangeAt Go.RowKit Go.Ev
set_option linter.unusedVariables false

theorem own : ownKnob Tryz.prog.godebug = none := by kernel_rfl

theorem fol : Tryz.prog.follows .mixedOrders = true := by kernel_rfl
theorem knh0 : ∀ e ∈ h0, KnOk Tryz.prog e := by
  intro e he
  simp only [h0, List.mem_append] at he
  rcases he with ((((((((((((((q0 | q1) | q2) | q3) | q4) | q5) | q6) | q7) | q8) | q9) | q10) | q11) | q12) | q13) | q14) | q15
  · exact kn_of_run fol noExt_ok (List.all_eq_true.1 run1 e q0)
  · exact kn_of_run fol noExt_ok (List.all_eq_true.1 run2 e q1)
  · exact kn_of_run fol noExt_ok (List.all_eq_true.1 run3 e q2)
  · exact kn_of_run fol noExt_ok (List.all_eq_true.1 run4 e q3)
  · exact kn_of_run fol noExt_ok (List.all_eq_true.1 run5 e q4)
  · exact kn_of_run fol noExt_ok (List.all_eq_true.1 run6 e q5)
  · exact kn_of_run fol noExt_ok (List.all_eq_true.1 run7 e q6)
  · exact kn_of_run fol noExt_ok (List.all_eq_true.1 run8 e q7)
  · exact kn_of_run fol noExt_ok (List.all_eq_true.1 run9 e q8)
  · exact kn_of_run fol noExt_ok (List.all_eq_true.1 run10 e q9)
  · exact kn_of_run fol noExt_ok (List.all_eq_true.1 run11 e q10)
  · exact kn_of_run fol noExt_ok (List.all_eq_true.1 run12 e q11)
  · exact kn_of_run fol noExt_ok (List.all_eq_true.1 run13 e q12)
  · exact kn_of_run fol noExt_ok (List.all_eq_true.1 run14 e q13)
  · exact kn_of_run fol noExt_ok (List.all_eq_true.1 run15 e q14)
  · exact kn_of_run fol noExt_ok (List.all_eq_true.1 run16 e q15)
theorem sub0 : ∀ e ∈ h0, e ∈ h3 := fun e he => List.mem_append_left _ (List.mem_append_left _ (List.mem_append_left _ he))
theorem kw0 : ∀ e ∈ h0, KnOk Tryz.prog e ∧ e.wf = true := fun e he => ⟨knh0 e he, List.all_eq_true.1 wfAll e (sub0 e he)⟩
theorem knh1 : ∀ e ∈ h1, KnOk Tryz.prog e := by
  intro e he
  simp only [h1, List.mem_append] at he
  rcases he with q0 | q1
  · exact knh0 e q0
  · exact kn_of_run fol (knExt_ok (kw0)) (List.all_eq_true.1 run17 e q1)
theorem sub1 : ∀ e ∈ h1, e ∈ h3 := fun e he => List.mem_append_left _ (List.mem_append_left _ he)
theorem kw1 : ∀ e ∈ h1, KnOk Tryz.prog e ∧ e.wf = true := fun e he => ⟨knh1 e he, List.all_eq_true.1 wfAll e (sub1 e he)⟩
theorem knh2 : ∀ e ∈ h2, KnOk Tryz.prog e := by
  intro e he
  simp only [h2, List.mem_append] at he
  rcases he with q0 | q1
  · exact knh1 e q0
  · exact kn_of_run fol (knExt_ok (kw1)) (List.all_eq_true.1 run18 e q1)
theorem sub2 : ∀ e ∈ h2, e ∈ h3 := fun e he => List.mem_append_left _ he
theorem kw2 : ∀ e ∈ h2, KnOk Tryz.prog e ∧ e.wf = true := fun e he => ⟨knh2 e he, List.all_eq_true.1 wfAll e (sub2 e he)⟩
theorem knh3 : ∀ e ∈ h3, KnOk Tryz.prog e := by
  intro e he
  simp only [h3, List.mem_append] at he
  rcases he with q0 | q1
  · exact knh2 e q0
  · exact kn_of_run fol (knExt_ok (kw2)) (List.all_eq_true.1 run19 e q1)
theorem sub3 : ∀ e ∈ h3, e ∈ h3 := fun e he => he
theorem kw3 : ∀ e ∈ h3, KnOk Tryz.prog e ∧ e.wf = true := fun e he => ⟨knh3 e he, List.all_eq_true.1 wfAll e (sub3 e he)⟩
theorem yesRoot : Yes Tryz.prog 3 := yes_of_run fol (knExt_ok kw3) runRoot
theorem walk (w : World) : Calls Tryz.prog 3 #[] w fun e w' => e = .returned (.bool true) ∧ Below w.heap.size w w' := yesRoot w

set_option maxRecDepth 100000 in
theorem lifted (os : Os) (started : os.Started) (H : Type) (enc : TypeId × Value → H) :
    ReturnsInHanded {} Tryz.checked os 3 .any (Rows.reachesKnownSpec.pre6 enc Tryz.prog Tryz.f3 Rows.reachesKnownRow.domain false) (Rows.reachesKnownSpec.post enc Tryz.prog Tryz.f3 false true false false) := by
  refine returnsInHanded_of_change (C := Tryz.checked) own started (by kernel_rfl) Tryz.func3
    (ChangeSpec.witness6 (enc := enc) (C := Tryz.checked) false ⟨#[], #[], []⟩ 8 (by kernel_rfl) (by kernel_rfl) (by kernel_rfl) (by kernel_rfl)) ?_
  intro W base args ds gs before hval0 hW hcnd _
  have hval : ∀ (j : Nat) t v, Tryz.f3.params[j]? = some t → args[j]? = some v → Value.okWide Tryz.prog W .any base t v := hval0
  have hW' := hW
  obtain ⟨p, q, hA0, hV, rfl, hfz, hnd⟩ := hW
  have hA : DataW.TrodAll enc Tryz.prog W 0 (fun _ => true) true Tryz.f3.params.toList args.toList ds p := hA0
  rw [Tryz.params3] at hA hval
  obtain ⟨rfl, rfl, rfl⟩ := trodAll_none hA
  obtain ⟨rfl, rfl⟩ := trodVars_none hV
  clear hA0 hval0
  simp only [List.append_nil] at hW'
  refine (walk  W).mono fun e W' ⟨he, hg⟩ => ?_
  subst he
  exact ⟨_, rfl, post_below (pa := []) (pv := []) hW' (fun _ _ _ => (trodAll_cons_mk (shut_bool Tryz.underlying4 _) trodAll_mk0)) (fun sp _ => rfl) (fun _ _ => rfl) rfl
    hg (ok_one (by kernel_rfl) rfl (okWide_bool_mk Tryz.underlying4 _))⟩

theorem over : Rows.reachesKnownRow.holds Tryz.pinned (OpenSpec.ofChange Rows.reachesKnownSpec) :=
  OpenClaim.holds_of_wide 3 Tryz.f3 rfl rfl rfl rfl rfl rfl rfl ⟨rfl, rfl, rfl, rfl, rfl⟩ rfl rfl rfl rfl rfl (by kernel_rfl) Tryz.func3 (by kernel_rfl)
    (of_decide_eq_true (by kernel_rfl)) (by unfold Func.isWrapper; first | (rw [if_pos (by decide +kernel)]; kernel_rfl) | (rw [if_neg (by decide +kernel)]; exact ⟨rfl, rfl⟩))
    (fun os started H enc _ => lifted os started H enc)

theorem reachesKnown_holds : Rows.ReachesKnownSaid :=
  over
#print axioms reachesKnown_holds
end Go.Proofs.YtfdannfpbcealaaGreat
