/-
 countersign/countersignlaw20.FitsAll: the given statement Rows.FitsAllSaid. The walk: the evaluator's O at the arguments as its memory has them (runZ). No conditions.
-/
import Derived.Test.YtbfjjkjiokfdgaaGreatRows
import Derived.Test.YtbfjjkjiokfdgaaGreatInst
import Derived.WalkKit
import Derived.ProofKit
import Derived.OpenShut
set_option linter.unusedSimpArgs false
set_option linter.unusedVariables false
namespace Go.Proofs.YtbfjjkjiokfdgaaGreat
open Go.ChangeShapes Go.WideShapes Go.ChangeAt Go.RowKit Go.Ev Go.Di
set_option linter.unusedVariables false
theorem own : ownKnob Tryz.prog.godebug = none := by kernel_rfl
theorem laid : laidOutB Tryz.prog = true := by kernel_rfl
theorem reads : z5t Tryz.prog Tryz.f4.params.toList = true := by kernel_rfl
theorem z2z : Tryz.prog.cellsOf 27 = 2 := by kernel_rfl
theorem z3a : Tryz.prog.cellsOf 25 = 1 := by kernel_rfl
theorem z3b : Tryz.prog.cellsOf 24 = 1 := by kernel_rfl
theorem z3c : Tryz.prog.cellsOf 22 = 1 := by kernel_rfl
theorem zt3 : Tryz.prog.cellsOf 151 = 1 := by kernel_rfl
theorem cells5 : Tryz.prog.cellsOf 5 = 1 := by kernel_rfl
theorem zm1 : Tryz.prog.cellsOf 78 = 4 := by kernel_rfl
section
variable {H : Type} {enc : TypeId × Value → H} {W : World} {n : Nat} {cs : List Value} {x : DataW H × List MemPlace}
set_option maxRecDepth 100000 in
theorem el2 (h : DataW.trod enc Tryz.prog W 0 (fun _ => true) true n 78 cs = some x) : ∃ a : Q4, ∀ j, j < 4 → ∃ u V, a.cells[j]? = some u ∧ cs[j]? = some V ∧ (∀ ι : Im, aL ι u V) ∧ V.oneCell = true := by
 obtain ⟨xs, m, _, _, hl, hx, hg⟩ := DataW.trod_array Tryz.underlying78 h
 rw [zm1] at hl
 rw [cells5] at hg
 match cs, hl with
 | [c0, c1, c2, c3], _ =>
 have g : ∀ i, i < 4 → ∃ a : Fin 256, (([c0, c1, c2, c3].drop (i * 1)).take 1) = [Value.int .u8 (.ofNat a.val)] := fun i hi => by
  have h := hg i hi
  rw [lh (by omega)] at h
  exact q53 Tryz.underlying5 h
 obtain ⟨a, ea⟩ := g 0 (by decide)
 obtain ⟨b, eb⟩ := g 1 (by decide)
 obtain ⟨c, ec⟩ := g 2 (by decide)
 obtain ⟨d, ed⟩ := g 3 (by decide)
 cases ea
 cases eb
 cases ec
 cases ed
 refine ⟨⟨a, b, c, d, a.isLt, b.isLt, c.isLt, d.isLt⟩, fun j hj => ?_⟩
 match j, hj with
 | 0, _ => exact ⟨_, _, rfl, rfl, fun ι => by simp only [aL], rfl⟩
 | 1, _ => exact ⟨_, _, rfl, rfl, fun ι => by simp only [aL], rfl⟩
 | 2, _ => exact ⟨_, _, rfl, rfl, fun ι => by simp only [aL], rfl⟩
 | 3, _ => exact ⟨_, _, rfl, rfl, fun ι => by simp only [aL], rfl⟩
end
set_option maxRecDepth 100000 in
theorem walk {H : Type} {enc : TypeId × Value → H} {W : World} {v1 v2 : Value} {d1 d2 : DataW H} {p1 p2 : List MemPlace} (h1 : Value.okWide Tryz.prog W .any 0 27 v1) (h2 : Value.okWide Tryz.prog W .any 0 5 v2)
  (ht1 : DataW.Trod enc Tryz.prog W 0 (fun _ => true) true 27 v1 d1 p1) (ht2 : DataW.Trod enc Tryz.prog W 0 (fun _ => true) true 5 v2 d2 p2) :
  Calls Tryz.prog 4 #[v1, v2] W fun e w' => e = .returned (.bool true) ∧ Below W.heap.size W w' := by
 obtain ⟨cs, rfl, hcs⟩ := okWide_struct Tryz.underlying27 h1
 obtain ⟨a, rfl⟩ := okWide_int Tryz.underlying5 h2
 obtain ⟨fuel, ht1⟩ := ht1
 rw [z2z] at hcs
 obtain ⟨cs⟩ := cs
 match cs, hcs with
 | [c0, c1], _ =>
 obtain ⟨y0, y1, n, _, _, hy0, hy1⟩ := trod_struct2 Tryz.underlying27 (cs := [c0, c1]) ht1
 rw [z3b] at hy0
 rw [z3a] at hy1
 have hy0 : DataW.trod enc Tryz.prog W 0 (fun _ => true) true n 24 [c0] = some y0 := hy0
 have hy1 : DataW.trod enc Tryz.prog W 0 (fun _ => true) true n 25 [c1] = some y1 := hy1
 obtain ⟨z0, m, _, _, hz0⟩ := trod_struct1 Tryz.underlying24 hy0
 rw [z3c] at hz0
 have hz0 : DataW.trod enc Tryz.prog W 0 (fun _ => true) true m 22 [c0] = some z0 := hz0
 obtain ⟨fuel2, ht2⟩ := ht2
 obtain ⟨a3, e3⟩ := q53 Tryz.underlying5 ht2
 obtain rfl : a = .ofNat a3.val := by
  have : [Value.int .u8 a] = [Value.int .u8 (.ofNat a3.val)] := e3
  cases this; rfl
 obtain ⟨ι, H0, w1, w2, a1, a2', L, ls, e1, e2, o1, o2, hR, r1, r2, b1, b2, hwr⟩ := z8e Tryz.underlying22 Tryz.underlying151 Tryz.underlying5 zt3 cells5 Tryz.underlying25 zm1 el2 hz0 hy1
 cases e1
 cases e2
 obtain ⟨r, H', he, rfl⟩ := aVK (m := a3.val) b1 b2
 have hL : aI ι [.agg [a1, a2'], .int .u8 (.ofNat a3.val)] [.agg #[c0, c1], .int .u8 (.ofNat a3.val)] := by
  refine ⟨_, _, rfl, ⟨[c0, c1], ⟨_, _, rfl, r1, _, _, rfl, r2, rfl⟩, rfl, fun v hv => ?_⟩, _, _, rfl, ?_, rfl⟩
  ·simp at hv
   rcases hv with rfl | rfl
   ·exact o1
   ·exact o2
  ·simp only [aL]
 have := ((qjv aDH aUo 2000).fn _ _ _ _ _ he ι W _ hR hL).2 0
 refine (callsIn_wide.1 this).mono fun e w' hp => ?_
 cases e with
 | returned V =>
  obtain ⟨ι', h1, h2, h3⟩ := hp
  simp only [aL] at h1
  exact ⟨by rw [h1], h3.below _ (lg _) fun b l _ h _ => by rw [hwr b] at h; cases h⟩
 | panicked => exact hp.elim
 | outgrown => exact hp.elim
set_option maxRecDepth 100000 in
theorem lifted (os : Os) (started : os.Started) (H : Type) (enc : TypeId × Value → H) :
  ReturnsInHanded {} Tryz.checked os 4 .any (Rows.fitsAllSpec.pre6 enc Tryz.prog Tryz.f4 Rows.fitsAllRow.domain false) (Rows.fitsAllSpec.post enc Tryz.prog Tryz.f4 false true false false) := by
 refine returnsInHanded_of_change (C := Tryz.checked) own started (by kernel_rfl) Tryz.func4
  (ChangeSpec.witness6 (enc := enc) (C := Tryz.checked) false ⟨#[], #[.agg #[.slice none 0 0, .slice none 0 0], .int .u8 0], []⟩ 8 (by kernel_rfl) (by kernel_rfl) (by kernel_rfl) (by kernel_rfl)) ?_
 intro W base args ds gs before hval0 hW hcnd _
 have hval : ∀ (j : Nat) t v, Tryz.f4.params[j]? = some t → args[j]? = some v → Value.okWide Tryz.prog W .any base t v := hval0
 have hW' := hW
 obtain ⟨p, q, hA0, hV, _, _, _⟩ := hW
 have hA : DataW.TrodAll enc Tryz.prog W 0 (fun _ => true) true Tryz.f4.params.toList args.toList ds p := hA0
 rw [Tryz.params4] at hA hval
 obtain ⟨v1, vs1, d1, ds1, p1, q1, e1, rfl, rfl, ht1, hA1⟩ := trodAll_cons hA
 obtain ⟨v2, vs2, d2, ds2, p2, q2, rfl, rfl, rfl, ht2, hA2⟩ := trodAll_cons hA1
 obtain ⟨rfl, rfl, rfl⟩ := trodAll_nil hA2
 obtain ⟨args⟩ := args
 obtain rfl : args = [v1, v2] := e1
 refine (walk (hval 0 _ _ rfl rfl) (hval 1 _ _ rfl rfl) ht1 ht2).mono fun e W' ⟨he, hg⟩ => ?_
 subst he
 exact ⟨_, rfl, zsh laid hW' rfl reads rfl rfl Tryz.underlying4 hg⟩
theorem over : Rows.fitsAllRow.holds Tryz.pinned (OpenSpec.ofChange Rows.fitsAllSpec) :=
 OpenClaim.holds_of_wide 4 Tryz.f4 rfl rfl rfl rfl rfl rfl rfl ⟨rfl, rfl, rfl, rfl, rfl⟩ rfl rfl rfl rfl rfl (by kernel_rfl) Tryz.func4 (by kernel_rfl)
  (of_decide_eq_true (by kernel_rfl)) (by unfold Func.isWrapper; first | (rw [pz (by decide +kernel)]; kernel_rfl) | (rw [kz (by decide +kernel)]; exact ⟨rfl, rfl⟩))
  (fun os started H enc _ => lifted os started H enc)
theorem fitsAll_holds : Rows.FitsAllSaid :=
 over
#print axioms fitsAll_holds
end Go.Proofs.YtbfjjkjiokfdgaaGreat
