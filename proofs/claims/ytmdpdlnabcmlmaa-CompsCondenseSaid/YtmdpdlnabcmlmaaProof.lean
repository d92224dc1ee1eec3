/-
  countersign/countersignlaw17.CompsCondense: the given statement Rows.CompsCondenseSaid. The walk: the evaluator's call at the arguments as its memory has them (runZ). No conditions.
-/
import Derived.Test.YtmdpdlnabcmlmaaRows
import Derived.Test.YtmdpdlnabcmlmaaInst
import Derived.WalkKit
import Derived.ProofKit
import Derived.OpenShut
set_option linter.unusedSimpArgs false
set_option linter.unusedVariables false
namespace Go.Proofs.Ytmdpdlnabcmlmaa
open Go.ChangeShapes Go.WideShapes Go.ChangeAt Go.RowKit Go.Ev Go.Di
set_option linter.unusedVariables false
theorem own : ownKnob Try.prog.godebug = none := by kernel_rfl
theorem laid : laidOutB Try.prog = true := by kernel_rfl
theorem reads : zf8 Try.prog Try.f4.params.toList = true := by kernel_rfl
theorem zfa : Try.prog.cellsOf 24 = 2 := by kernel_rfl
theorem zfb : Try.prog.cellsOf 22 = 1 := by kernel_rfl
theorem ze9 : Try.prog.cellsOf 61 = 3 := by kernel_rfl
theorem cells5 : Try.prog.cellsOf 5 = 1 := by kernel_rfl
set_option maxRecDepth 100000 in
theorem walk {H : Type} {enc : TypeId × Value → H} {W : World} {v1 v2 : Value} {d1 : DataW H} {p1 : List MemPlace} (h1 : Value.okWide Try.prog W .any 0 24 v1) (h2 : Value.okWide Try.prog W .any 0 3 v2)
    (ht : DataW.Trod enc Try.prog W 0 (fun _ => true) true 24 v1 d1 p1) :
    Calls Try.prog 4 #[v1, v2] W fun e w' => e = .returned (.bool true) ∧ Below W.heap.size W w' := by
  obtain ⟨cs, rfl, hcs⟩ := okWide_struct Try.underlying24 h1
  obtain ⟨a, rfl⟩ := okWide_int Try.underlying3 h2
  obtain ⟨fuel, ht⟩ := ht
  rw [zfa] at hcs
  obtain ⟨cs⟩ := cs
  match cs, hcs with
  | [c0, c1], _ =>
  obtain ⟨y0, y1, n, _, _, hy0, hy1⟩ := trod_struct2 Try.underlying24 (cs := [c0, c1]) ht
  rw [cells5] at hy0
  rw [zfb] at hy1
  obtain ⟨N, hN, _, hw⟩ := DataW.trod_int Try.underlying5 (cs := [c0]) hy0
  obtain rfl : c0 = .int .u8 N := by simpa using hN
  have hy1 : DataW.trod enc Try.prog W 0 (fun _ => true) true n 22 [c1] = some y1 := hy1
  have one : c1.oneCell = true := by
    rcases DataW.trod_slice Try.underlying22 hy1 with ⟨h, _⟩ | ⟨_, _, _, _, _, _, _, h, _⟩
    · cases h; rfl
    · cases h; rfl
  have hN0 : 0 ≤ N := by
    simp only [Lit.wf, Bool.and_eq_true, decide_eq_true_eq] at hw
    exact hw.1
  obtain ⟨N, rfl⟩ : ∃ m : Nat, N = .ofNat m := ⟨N.toNat, by simp only [Int.ofNat_eq_natCast]; omega⟩
  obtain ⟨ι, H0, av, cnt, hR, hrep, harg, hwr⟩ := zhg Try.underlying22 Try.underlying61 Try.underlying5 ze9 cells5 hy1
  have run := runZ (N := N) harg a
  obtain ⟨r, H', he, rfl⟩ := run
  have hL : RepL ι [.agg [.int .u8 (.ofNat N), av], .int .i64 a] [.agg #[.int .u8 (.ofNat N), c1], .int .i64 a] := by
    refine ⟨_, _, rfl, ⟨[.int .u8 (.ofNat N), c1], ⟨_, _, rfl, rfl, _, _, rfl, hrep, rfl⟩, rfl, fun v hv => ?_⟩, _, _, rfl, rfl, rfl⟩
    rcases List.mem_cons.1 hv with rfl | hv
    · rfl
    · obtain rfl := List.mem_singleton.1 hv
      exact one
  have := ((qtk folZ extZ 2000).fn _ _ _ _ _ he ι W _ hR hL).2 0
  refine (callsIn_wide.1 this).mono fun e w' hp => ?_
  cases e with
  | returned V =>
    obtain ⟨ι', h1, h2, h3⟩ := hp
    simp only [Rep] at h1
    exact ⟨by rw [h1], h3.below _ (Nat.le_refl _) fun b l _ h _ => by rw [hwr b] at h; cases h⟩
  | panicked => exact hp.elim
  | outgrown => exact hp.elim
set_option maxRecDepth 100000 in
theorem lifted (os : Os) (started : os.Started) (H : Type) (enc : TypeId × Value → H) :
    ReturnsInHanded {} Try.checked os 4 .any (Rows.compsCondenseSpec.pre6 enc Try.prog Try.f4 Rows.compsCondenseRow.domain false) (Rows.compsCondenseSpec.post enc Try.prog Try.f4 false true false false) := by
  refine returnsInHanded_of_change (C := Try.checked) own started (by kernel_rfl) Try.func4
    (ChangeSpec.witness6 (enc := enc) (C := Try.checked) false ⟨#[], #[.agg #[.int .u8 0, .slice none 0 0], .int .i64 0], []⟩ 8 (by kernel_rfl) (by kernel_rfl) (by kernel_rfl) (by kernel_rfl)) ?_
  intro W base args ds gs before hval0 hW hcnd _
  have hval : ∀ (j : Nat) t v, Try.f4.params[j]? = some t → args[j]? = some v → Value.okWide Try.prog W .any base t v := hval0
  have hW' := hW
  obtain ⟨p, q, hA0, hV, _, _, _⟩ := hW
  have hA : DataW.TrodAll enc Try.prog W 0 (fun _ => true) true Try.f4.params.toList args.toList ds p := hA0
  rw [Try.params4] at hA hval
  obtain ⟨v1, vs1, d1, ds1, p1, q1, e1, rfl, rfl, ht1, hA1⟩ := trodAll_cons hA
  obtain ⟨v2, vs2, d2, ds2, p2, q2, rfl, rfl, rfl, ht2, hA2⟩ := trodAll_cons hA1
  obtain ⟨rfl, rfl, rfl⟩ := trodAll_nil hA2
  obtain ⟨args⟩ := args
  obtain rfl : args = [v1, v2] := e1
  refine (walk (hval 0 _ _ rfl rfl) (hval 1 _ _ rfl rfl) ht1).mono fun e W' ⟨he, hg⟩ => ?_
  subst he
  exact ⟨_, rfl, zab laid hW' rfl reads rfl rfl Try.underlying4 hg⟩
theorem over : Rows.compsCondenseRow.holds Try.pinned (OpenSpec.ofChange Rows.compsCondenseSpec) :=
  OpenClaim.holds_of_wide 4 Try.f4 rfl rfl rfl rfl rfl rfl rfl ⟨rfl, rfl, rfl, rfl, rfl⟩ rfl rfl rfl rfl rfl (by kernel_rfl) Try.func4 (by kernel_rfl)
    (of_decide_eq_true (by kernel_rfl)) (by unfold Func.isWrapper; first | (rw [if_pos (by decide +kernel)]; kernel_rfl) | (rw [if_neg (by decide +kernel)]; exact ⟨rfl, rfl⟩))
    (fun os started H enc _ => lifted os started H enc)
theorem compsCondense_holds : Rows.CompsCondenseSaid :=
  over
#print axioms compsCondense_holds
end Go.Proofs.Ytmdpdlnabcmlmaa
