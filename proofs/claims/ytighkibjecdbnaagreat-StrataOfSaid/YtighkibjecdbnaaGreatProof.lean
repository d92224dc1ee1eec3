/-
 countersign/countersignlaw18.StrataOf: the given statement Rows.StrataOfSaid. The walk: the evaluator's call at the arguments as its memory has them (runZ). No conditions.
-/
import Derived.Test.YtighkibjecdbnaaGreatRows
import Derived.Test.YtighkibjecdbnaaGreatInst
import Derived.WalkKit
import Derived.ProofKit
import Derived.OpenShut
set_option linter.unusedSimpArgs false
set_option linter.unusedVariables false
namespace Go.Proofs.YtighkibjecdbnaaGreat
open Go.ChangeShapes Go.WideShapes Go.ChangeAt Go.RowKit Go.Ev Go.Di
set_option linter.unusedVariables false
theorem own : ownKnob Tryz.prog.godebug = none := by kernel_rfl
theorem laid : laidOutB Tryz.prog = true := by kernel_rfl
theorem reads : zv8 Tryz.prog Tryz.f3.params.toList = true := by kernel_rfl
theorem zum : Tryz.prog.cellsOf 24 = 1 := by kernel_rfl
theorem zun : Tryz.prog.cellsOf 22 = 1 := by kernel_rfl
theorem zmh : Tryz.prog.cellsOf 132 = 1 := by kernel_rfl
theorem cells5 : Tryz.prog.cellsOf 5 = 1 := by kernel_rfl
theorem zx7 : Tryz.prog.cellsOf 9 = 1 := by kernel_rfl
set_option maxRecDepth 100000 in
theorem zsg {H : Type} {enc : TypeId × Value → H} {W : World} {v : Value} {d : DataW H} {p : List MemPlace} (h : Value.okWide Tryz.prog W .any 0 25 v) (ht : DataW.Trod enc Tryz.prog W 0 (fun _ => true) true 25 v d p) :
  ∃ a b : ByteArray, v = .agg #[.string a, .string b] := by
 simp only [Value.okWide, Tryz.underlying25] at h
 obtain ⟨cs, rfl, _, _⟩ := h
 obtain ⟨fuel, ht⟩ := ht
 obtain ⟨xs, n, rfl, _, hsz, hx, hg⟩ := DataW.trod_array Tryz.underlying25 ht
 rw [zx7] at hg
 rw [show Tryz.prog.cellsOf 25 = 2 by kernel_rfl] at hsz
 obtain ⟨cs⟩ := cs
 match cs, hsz with
 | [c0, c1], _ =>
 have g0 := hg 0 (by omega)
 have g1 := hg 1 (by omega)
 rw [List.getElem?_eq_getElem (by omega)] at g0 g1
 obtain ⟨a, ea, _, _⟩ := DataW.trod_string Tryz.underlying9 g0
 obtain ⟨b, eb, _, _⟩ := DataW.trod_string Tryz.underlying9 g1
 simp [Value.cells] at ea eb
 subst ea; subst eb
 exact ⟨a, b, rfl⟩
set_option maxRecDepth 100000 in
theorem walk {H : Type} {enc : TypeId × Value → H} {W : World} {v1 v2 v3 : Value} {d1 d3 : DataW H} {p1 p3 : List MemPlace} (h1 : Value.okWide Tryz.prog W .any 0 24 v1) (h2 : Value.okWide Tryz.prog W .any 0 3 v2) (h3 : Value.okWide Tryz.prog W .any 0 25 v3)
  (ht : DataW.Trod enc Tryz.prog W 0 (fun _ => true) true 24 v1 d1 p1) (ht3 : DataW.Trod enc Tryz.prog W 0 (fun _ => true) true 25 v3 d3 p3) :
  Calls Tryz.prog 3 #[v1, v2, v3] W fun e w' => e = .returned (.bool true) ∧ Below W.heap.size W w' := by
 obtain ⟨x, rfl⟩ := okWide_int Tryz.underlying3 h2
 obtain ⟨sa, sb, rfl⟩ := zsg h3 ht3
 obtain ⟨cs, rfl, hcs⟩ := okWide_struct Tryz.underlying24 h1
 obtain ⟨fuel, ht⟩ := ht
 rw [zum] at hcs
 obtain ⟨cs⟩ := cs
 match cs, hcs with
 | [c0], _ =>
 obtain ⟨y0, n, _, _, hy0⟩ := trod_struct1 Tryz.underlying24 (cs := [c0]) ht
 rw [zun] at hy0
 have hy0 : DataW.trod enc Tryz.prog W 0 (fun _ => true) true n 22 [c0] = some y0 := hy0
 have one : c0.oneCell = true := by
  rcases DataW.trod_slice Tryz.underlying22 hy0 with ⟨h, _⟩ | ⟨_, _, _, _, _, _, _, h, _⟩
  ·cases h; rfl
  ·cases h; rfl
 obtain ⟨ι, H0, av, L, hR, hrep, aWN, hwr⟩ := zxo Tryz.underlying22 Tryz.underlying132 Tryz.underlying5 zmh cells5 hy0
 have run := aSi aWN x ⟨sa.data.toList.length, jA sa.data.toList⟩ ⟨sb.data.toList.length, jA sb.data.toList⟩
 obtain ⟨r, H', he, rfl⟩ := run
 have hL : aN ι [.agg [av], .int .i64 x, .agg [.str sa.data.toList.length (jA sa.data.toList), .str sb.data.toList.length (jA sb.data.toList)]] [.agg #[c0], .int .i64 x, .agg #[.string sa, .string sb]] := by
  refine ⟨_, _, rfl, ⟨[c0], ⟨_, _, rfl, hrep, rfl⟩, rfl, fun v hv => ?_⟩, _, _, rfl, rfl, _, _, rfl, ⟨[.string sa, .string sb], ⟨_, _, rfl, ⟨sa, rfl, rfl, rfl⟩, _, _, rfl, ⟨sb, rfl, rfl, rfl⟩, rfl⟩, rfl, fun v hv => ?_⟩, rfl⟩
  ·obtain rfl := List.mem_singleton.1 hv
   exact one
  ·simp at hv
   rcases hv with rfl | rfl <;> rfl
 have := ((qhy aC1 aTe 2000).fn _ _ _ _ _ he ι W _ hR hL).2 0
 refine (callsIn_wide.1 this).mono fun e w' hp => ?_
 cases e with
 | returned V =>
  obtain ⟨ι', h1, h2, h3⟩ := hp
  simp only [aQ] at h1
  exact ⟨by rw [h1], h3.below _ (Nat.le_refl _) fun b l _ h _ => by rw [hwr b] at h; cases h⟩
 | panicked => exact hp.elim
 | outgrown => exact hp.elim
set_option maxRecDepth 100000 in
theorem lifted (os : Os) (started : os.Started) (H : Type) (enc : TypeId × Value → H) :
  ReturnsInHanded {} Tryz.checked os 3 .any (Rows.strataOfSpec.pre6 enc Tryz.prog Tryz.f3 Rows.strataOfRow.domain false) (Rows.strataOfSpec.post enc Tryz.prog Tryz.f3 false true false false) := by
 refine returnsInHanded_of_change (C := Tryz.checked) own started (by kernel_rfl) Tryz.func3
  (ChangeSpec.witness6 (enc := enc) (C := Tryz.checked) false ⟨#[], #[.agg #[.slice none 0 0], .int .i64 0, .agg #[.string ⟨#[]⟩, .string ⟨#[]⟩]], []⟩ 8 (by kernel_rfl) (by kernel_rfl) (by kernel_rfl) (by kernel_rfl)) ?_
 intro W base args ds gs before hval0 hW hcnd _
 have hval : ∀ (j : Nat) t v, Tryz.f3.params[j]? = some t → args[j]? = some v → Value.okWide Tryz.prog W .any base t v := hval0
 have hW' := hW
 obtain ⟨p, q, hA0, hV, _, _, _⟩ := hW
 have hA : DataW.TrodAll enc Tryz.prog W 0 (fun _ => true) true Tryz.f3.params.toList args.toList ds p := hA0
 rw [Tryz.params3] at hA hval
 obtain ⟨v1, vs1, d1, ds1, p1, q1, e1, rfl, rfl, ht1, hA1⟩ := trodAll_cons hA
 obtain ⟨v2, vs2, d2, ds2, p2, q2, rfl, rfl, rfl, ht2, hA2⟩ := trodAll_cons hA1
 obtain ⟨v3, vs3, d3, ds3, p3, q3, rfl, rfl, rfl, ht3, hA3⟩ := trodAll_cons hA2
 obtain ⟨rfl, rfl, rfl⟩ := trodAll_nil hA3
 obtain ⟨args⟩ := args
 obtain rfl : args = [v1, v2, v3] := e1
 refine (walk (hval 0 _ _ rfl rfl) (hval 1 _ _ rfl rfl) (hval 2 _ _ rfl rfl) ht1 ht3).mono fun e W' ⟨he, hg⟩ => ?_
 subst he
 exact ⟨_, rfl, zk0 laid hW' rfl reads rfl rfl Tryz.underlying4 hg⟩
theorem over : Rows.strataOfRow.holds Tryz.pinned (OpenSpec.ofChange Rows.strataOfSpec) :=
 OpenClaim.holds_of_wide 3 Tryz.f3 rfl rfl rfl rfl rfl rfl rfl ⟨rfl, rfl, rfl, rfl, rfl⟩ rfl rfl rfl rfl rfl (by kernel_rfl) Tryz.func3 (by kernel_rfl)
  (of_decide_eq_true (by kernel_rfl)) (by unfold Func.isWrapper; first | (rw [if_pos (by decide +kernel)]; kernel_rfl) | (rw [if_neg (by decide +kernel)]; exact ⟨rfl, rfl⟩))
  (fun os started H enc _ => lifted os started H enc)
theorem strataOf_holds : Rows.StrataOfSaid :=
 over
#print axioms strataOf_holds
end Go.Proofs.YtighkibjecdbnaaGreat
