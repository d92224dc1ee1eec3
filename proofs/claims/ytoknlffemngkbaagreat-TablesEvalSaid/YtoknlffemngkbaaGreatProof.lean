/-
 countersign/countersignlaw19.TablesEval: the given statement Rows.TablesEvalSaid. The walk: the evaluator's call at the arguments as its memory has them, in two parts (preZ, q8y). No conditions.
-/
import Derived.Test.YtoknlffemngkbaaGreatRows
import Derived.Test.YtoknlffemngkbaaGreatInst
import Derived.WalkKit
import Derived.ProofKit
import Derived.OpenShut
set_option linter.unusedSimpArgs false
set_option linter.unusedVariables false
namespace Go.Proofs.YtoknlffemngkbaaGreat
open Go.ChangeShapes Go.WideShapes Go.ChangeAt Go.RowKit Go.Ev Go.Di
set_option linter.unusedVariables false
theorem own : ownKnob Tryz.prog.godebug = none := by kernel_rfl
theorem laid : laidOutB Tryz.prog = true := by kernel_rfl
theorem reads : q9f Tryz.prog Tryz.f3.params.toList = true := by kernel_rfl
theorem q8a : Tryz.prog.cellsOf 24 = 1 := by kernel_rfl
theorem q8b : Tryz.prog.cellsOf 22 = 1 := by kernel_rfl
theorem cells5 : Tryz.prog.cellsOf 5 = 1 := by kernel_rfl
theorem ntm8 : 8 < Tryz.f3.ntmps := by decide +kernel
theorem ntm2 : 2 ≤ Tryz.f3.ntmps := by decide +kernel
theorem ntmB : Tryz.f3.ntmps + 1 ≤ 262144 := by decide +kernel
theorem bodyZ : Tryz.f3.body = some (codeOf Tryz.f3) := by kernel_rfl
theorem spZ : spB 10 (codeOf Tryz.f3) = true := by kernel_rfl
theorem nrZ : qa3 (codeOf Tryz.f3) = true := by kernel_rfl
set_option maxRecDepth 100000 in
theorem walk {H : Type} {enc : TypeId × Value → H} {W : World} {v1 v2 : Value} {d1 d2 : DataW H} {p1 p2 : List MemPlace} (h1 : Value.okWide Tryz.prog W .any 0 24 v1) (h2 : Value.okWide Tryz.prog W .any 0 22 v2)
  (ht1 : DataW.Trod enc Tryz.prog W 0 (fun _ => true) true 24 v1 d1 p1) (ht2 : DataW.Trod enc Tryz.prog W 0 (fun _ => true) true 22 v2 d2 p2) :
  Calls Tryz.prog 3 #[v1, v2] W fun e w' => e = .returned (.bool true) ∧ Below W.heap.size W w' := by
 obtain ⟨cs, rfl, hcs⟩ := okWide_struct Tryz.underlying24 h1
 obtain ⟨a2, len2, cap2, rfl⟩ := okWide_slice Tryz.underlying22 h2
 obtain ⟨fuel, ht1⟩ := ht1
 rw [q8a] at hcs
 obtain ⟨cs⟩ := cs
 match cs, hcs with
 | [c0], _ =>
 obtain ⟨y0, n, _, _, hy0⟩ := trod_struct1 Tryz.underlying24 (cs := [c0]) ht1
 rw [q8b] at hy0
 have hy0 : DataW.trod enc Tryz.prog W 0 (fun _ => true) true n 22 [c0] = some y0 := hy0
 obtain ⟨fuel2, ht2⟩ := ht2
 obtain ⟨ι, H0, w1, w2, y1, y2, L1, L2, e1, e2, one, hR, r1, r2, rl1, rl2, lt1, lt2, hf, hwr⟩ := zat Tryz.underlying22 Tryz.underlying5 cells5 hy0 ht2
 cases e1
 cases e2
 obtain ⟨La, Ha, N, hpre, h7, hM⟩ := preZ rl1 lt1 hf rl2 lt2
 have hL : RepL ι [.agg [y1], y2] [.agg #[c0], .slice a2 len2 cap2] := by
  refine ⟨_, _, rfl, ⟨[c0], ⟨_, _, rfl, r1, rfl⟩, rfl, fun v hv => ?_⟩, _, _, rfl, r2, rfl⟩
  obtain rfl := List.mem_singleton.1 hv
  exact one
 have := q7h (P := Tryz.prog) (call := CZ 100) (qq2 folZ extZ 100) folZ Tryz.func3 bodyZ spZ nrZ (args := [.agg [y1], y2]) ntm2 ntmB hR hL hpre
  (fun ι1 w1 a1 hH1 hLR => by
   obtain ⟨ι2, Lb, Hb, q1, q2, q3, q4, q6, q7, hT⟩ := q06 ntm8 hH1 hLR hM
   obtain ⟨ex, L3, H3, t1, t2, t3⟩ := q8y (by rw [q7]; exact h7) hT
   exact ⟨ι2, Lb, Hb, ex, L3, H3, q1, q2, q3, q4, t1, t2, t3⟩) 0
 refine (callsIn_wide.1 this).mono fun e w' ⟨he, ι', H', g1, g2⟩ => ?_
 exact ⟨he, g2.below _ (Nat.le_refl _) fun b l _ h _ => by rw [hwr b] at h; cases h⟩
set_option maxRecDepth 100000 in
theorem lifted (os : Os) (started : os.Started) (H : Type) (enc : TypeId × Value → H) :
  ReturnsInHanded {} Tryz.checked os 3 .any (Rows.tablesEvalSpec.pre6 enc Tryz.prog Tryz.f3 Rows.tablesEvalRow.domain false) (Rows.tablesEvalSpec.post enc Tryz.prog Tryz.f3 false true false false) := by
 refine returnsInHanded_of_change (C := Tryz.checked) own started (by kernel_rfl) Tryz.func3
  (ChangeSpec.witness6 (enc := enc) (C := Tryz.checked) false ⟨#[], #[.agg #[.slice none 0 0], .slice none 0 0], []⟩ 8 (by kernel_rfl) (by kernel_rfl) (by kernel_rfl) (by kernel_rfl)) ?_
 intro W base args ds gs before hval0 hW hcnd _
 have hval : ∀ (j : Nat) t v, Tryz.f3.params[j]? = some t → args[j]? = some v → Value.okWide Tryz.prog W .any base t v := hval0
 have hW' := hW
 obtain ⟨p, q, hA0, hV, _, _, _⟩ := hW
 have hA : DataW.TrodAll enc Tryz.prog W 0 (fun _ => true) true Tryz.f3.params.toList args.toList ds p := hA0
 rw [Tryz.params3] at hA hval
 obtain ⟨v1, vs1, d1, ds1, p1, q1, e1, rfl, rfl, ht1, hA1⟩ := trodAll_cons hA
 obtain ⟨v2, vs2, d2, ds2, p2, q2, rfl, rfl, rfl, ht2, hA2⟩ := trodAll_cons hA1
 obtain ⟨rfl, rfl, rfl⟩ := trodAll_nil hA2
 obtain ⟨args⟩ := args
 obtain rfl : args = [v1, v2] := e1
 refine (walk (hval 0 _ _ rfl rfl) (hval 1 _ _ rfl rfl) ht1 ht2).mono fun e W' ⟨he, hg⟩ => ?_
 subst he
 exact ⟨_, rfl, q3s laid hW' rfl reads rfl rfl Tryz.underlying4 hg⟩
theorem over : Rows.tablesEvalRow.holds Tryz.pinned (OpenSpec.ofChange Rows.tablesEvalSpec) :=
 OpenClaim.holds_of_wide 3 Tryz.f3 rfl rfl rfl rfl rfl rfl rfl ⟨rfl, rfl, rfl, rfl, rfl⟩ rfl rfl rfl rfl rfl (by kernel_rfl) Tryz.func3 (by kernel_rfl)
  (of_decide_eq_true (by kernel_rfl)) (by unfold Func.isWrapper; first | (rw [if_pos (by decide +kernel)]; kernel_rfl) | (rw [if_neg (by decide +kernel)]; exact ⟨rfl, rfl⟩))
  (fun os started H enc _ => lifted os started H enc)
theorem tablesEval_holds : Rows.TablesEvalSaid :=
 over
#print axioms tablesEval_holds
end Go.Proofs.YtoknlffemngkbaaGreat
