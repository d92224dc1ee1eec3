/-
 countersign/countersignlaw17.CompsErrors: the given statement Rows.CompsErrorsSaid. The walk: the evaluator's call at the arguments as its memory has them (runZ). No conditions.
-/
import Derived.Test.YtmdpdlnabcmlmaaRows
import Derived.Test.YtmdpdlnabcmlmaaInst
import Derived.WalkKit
import Derived.ProofKit
import Derived.OpenShut
set_option linter.unusedSimpArgs false
set_option linter.unusedVariables false
namespace Go.Proofs.Ytmdpdlnabcmlmaa
open Go.ChangeShapes Go.WideShapes Go.ChangeAt Go.RowKit Go.Ev Go.Di
set_option linter.unusedVariables false
theorem own : ownKnob Try.prog.godebug = none := by kernel_rfl
theorem laid : laidOutB Try.prog = true := by kernel_rfl
theorem reads : zh9 Try.prog Try.f6.params.toList = true := by kernel_rfl
theorem zhe : Try.prog.cellsOf 31 = 2 := by kernel_rfl
theorem zhf : Try.prog.cellsOf 29 = 1 := by kernel_rfl
theorem zhd : Try.prog.cellsOf 43 = 3 := by kernel_rfl
theorem zju : Try.prog.cellsOf 4 = 1 := by kernel_rfl
theorem cells3 : Try.prog.cellsOf 3 = 1 := by kernel_rfl
set_option maxRecDepth 100000 in
theorem walk {H : Type} {enc : TypeId × Value → H} {W : World} {v1 v2 : Value} {d1 : DataW H} {p1 : List MemPlace} (h1 : Value.okWide Try.prog W .any 0 31 v1) (h2 : Value.okWide Try.prog W .any 0 3 v2)
  (ht : DataW.Trod enc Try.prog W 0 (fun _ => true) true 31 v1 d1 p1) :
  Calls Try.prog 6 #[v1, v2] W fun e w' => e = .returned (.bool true) ∧ Below W.heap.size W w' := by
 obtain ⟨cs, rfl, hcs⟩ := okWide_struct Try.underlying31 h1
 obtain ⟨a, rfl⟩ := okWide_int Try.underlying3 h2
 obtain ⟨fuel, ht⟩ := ht
 rw [zhe] at hcs
 obtain ⟨cs⟩ := cs
 match cs, hcs with
 | [c0, c1], _ =>
 obtain ⟨y0, y1, n, _, _, hy0, hy1⟩ := trod_struct2 Try.underlying31 (cs := [c0, c1]) ht
 rw [cells3] at hy0
 rw [zhf] at hy1
 obtain ⟨N, hN, _, hw⟩ := DataW.trod_int Try.underlying3 (cs := [c0]) hy0
 obtain rfl : c0 = .int .i64 N := by simpa using hN
 have hy1 : DataW.trod enc Try.prog W 0 (fun _ => true) true n 29 [c1] = some y1 := hy1
 have one : c1.oneCell = true := by
  rcases DataW.trod_slice Try.underlying29 hy1 with ⟨h, _⟩ | ⟨_, _, _, _, _, _, _, h, _⟩
  ·cases h; rfl
  ·cases h; rfl
 obtain ⟨ι, H0, av, cnt, hR, hrep, harg, hwr⟩ := zji Try.underlying29 Try.underlying43 ⟨rfl, rfl⟩ ⟨rfl, rfl⟩ ⟨rfl, rfl⟩ Try.underlying3 Try.underlying4 zhd cells3 zju hy1
 have run := runZ (N := N) harg a
 obtain ⟨r, H', he, rfl⟩ := run
 have hL : RepL ι [.agg [.int .i64 N, av], .int .i64 a] [.agg #[.int .i64 N, c1], .int .i64 a] := by
  refine ⟨_, _, rfl, ⟨[.int .i64 N, c1], ⟨_, _, rfl, rfl, _, _, rfl, hrep, rfl⟩, rfl, fun v hv => ?_⟩, _, _, rfl, rfl, rfl⟩
  rcases List.mem_cons.1 hv with rfl | hv
  ·rfl
  ·obtain rfl := List.mem_singleton.1 hv
   exact one
 have := ((qx7 folZ extZ 2000).fn _ _ _ _ _ he ι W _ hR hL).2 0
 refine (callsIn_wide.1 this).mono fun e w' hp => ?_
 cases e with
 | returned V =>
  obtain ⟨ι', h1, h2, h3⟩ := hp
  simp only [Rep] at h1
  exact ⟨by rw [h1], h3.below _ (Nat.le_refl _) fun b l _ h _ => by rw [hwr b] at h; cases h⟩
 | panicked => exact hp.elim
 | outgrown => exact hp.elim
set_option maxRecDepth 100000 in
theorem lifted (os : Os) (started : os.Started) (H : Type) (enc : TypeId × Value → H) :
  ReturnsInHanded {} Try.checked os 6 .any (Rows.compsErrorsSpec.pre6 enc Try.prog Try.f6 Rows.compsErrorsRow.domain false) (Rows.compsErrorsSpec.post enc Try.prog Try.f6 false true false false) := by
 refine returnsInHanded_of_change (C := Try.checked) own started (by kernel_rfl) Try.func6
  (ChangeSpec.witness6 (enc := enc) (C := Try.checked) false ⟨#[], #[.agg #[.int .i64 0, .slice none 0 0], .int .i64 0], []⟩ 8 (by kernel_rfl) (by kernel_rfl) (by kernel_rfl) (by kernel_rfl)) ?_
 intro W base args ds gs before hval0 hW hcnd _
 have hval : ∀ (j : Nat) t v, Try.f6.params[j]? = some t → args[j]? = some v → Value.okWide Try.prog W .any base t v := hval0
 have hW' := hW
 obtain ⟨p, q, hA0, hV, _, _, _⟩ := hW
 have hA : DataW.TrodAll enc Try.prog W 0 (fun _ => true) true Try.f6.params.toList args.toList ds p := hA0
 rw [Try.params6] at hA hval
 obtain ⟨v1, vs1, d1, ds1, p1, q1, e1, rfl, rfl, ht1, hA1⟩ := trodAll_cons hA
 obtain ⟨v2, vs2, d2, ds2, p2, q2, rfl, rfl, rfl, ht2, hA2⟩ := trodAll_cons hA1
 obtain ⟨rfl, rfl, rfl⟩ := trodAll_nil hA2
 obtain ⟨args⟩ := args
 obtain rfl : args = [v1, v2] := e1
 refine (walk (hval 0 _ _ rfl rfl) (hval 1 _ _ rfl rfl) ht1).mono fun e W' ⟨he, hg⟩ => ?_
 subst he
 exact ⟨_, rfl, zdd laid hW' rfl reads rfl rfl Try.underlying4 hg⟩
theorem over : Rows.compsErrorsRow.holds Try.pinned (OpenSpec.ofChange Rows.compsErrorsSpec) :=
 OpenClaim.holds_of_wide 6 Try.f6 rfl rfl rfl rfl rfl rfl rfl ⟨rfl, rfl, rfl, rfl, rfl⟩ rfl rfl rfl rfl rfl (by kernel_rfl) Try.func6 (by kernel_rfl)
  (of_decide_eq_true (by kernel_rfl)) (by unfold Func.isWrapper; first | (rw [if_pos (by decide +kernel)]; kernel_rfl) | (rw [if_neg (by decide +kernel)]; exact ⟨rfl, rfl⟩))
  (fun os started H enc _ => lifted os started H enc)
theorem compsErrors_holds : Rows.CompsErrorsSaid :=
 over
#print axioms compsErrors_holds
end Go.Proofs.Ytmdpdlnabcmlmaa
