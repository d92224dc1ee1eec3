/-
 countersign/countersignlaw20.FitsObjects: the given statement Rows.FitsObjectsSaid. The walk: the evaluator's call at the arguments as its memory has them (runZ). No conditions.
-/
import Derived.Test.YtbfjjkjiokfdgaaGreatRows
import Derived.Test.YtbfjjkjiokfdgaaGreatInst
import Derived.WalkKit
import Derived.ProofKit
import Derived.OpenShut
set_option linter.unusedSimpArgs false
set_option linter.unusedVariables false
namespace Go.Proofs.YtbfjjkjiokfdgaaGreat
open Go.ChangeShapes Go.WideShapes Go.ChangeAt Go.RowKit Go.Ev Go.Di
set_option linter.unusedVariables false
theorem own : ownKnob Tryz.prog.godebug = none := by kernel_rfl
theorem laid : laidOutB Tryz.prog = true := by kernel_rfl
theorem reads : zzs Tryz.prog Tryz.f3.params.toList = true := by kernel_rfl
theorem zx1 : Tryz.prog.cellsOf 27 = 2 := by kernel_rfl
theorem zx2 : Tryz.prog.cellsOf 25 = 1 := by kernel_rfl
theorem zx3 : Tryz.prog.cellsOf 24 = 1 := by kernel_rfl
theorem zx4 : Tryz.prog.cellsOf 22 = 1 := by kernel_rfl
theorem zpa : Tryz.prog.cellsOf 151 = 1 := by kernel_rfl
theorem cells5 : Tryz.prog.cellsOf 5 = 1 := by kernel_rfl
theorem zib : Tryz.prog.cellsOf 9 = 1 := by kernel_rfl
theorem zic : Tryz.prog.cellsOf 78 = 4 := by kernel_rfl
theorem zid : Tryz.prog.cellsOf 56 = 6 := by kernel_rfl
theorem zie : Tryz.prog.cellsOf 54 = 3 := by kernel_rfl
theorem zif : Tryz.prog.cellsOf 53 = 3 := by kernel_rfl
theorem q1w : Tryz.prog.cellsOf 51 = 2 := by kernel_rfl
section
variable {H : Type} {enc : TypeId × Value → H} {W : World} {n : Nat} {cs : List Value} {x : DataW H × List MemPlace}
theorem zej (h : DataW.trod enc Tryz.prog W 0 (fun _ => true) true n 9 cs = some x) : ∃ a, cs = [.string a] := by
 obtain ⟨a, ea, _, _⟩ := DataW.trod_string Tryz.underlying9 h
 exact ⟨a, ea⟩
set_option maxRecDepth 100000 in
theorem zz9 (h : DataW.trod enc Tryz.prog W 0 (fun _ => true) true n 51 cs = some x) : ∃ a b, cs = [.string a, .string b] := by
 obtain ⟨y0, y1, n, _, hl, h0, h1⟩ := trod_struct2 Tryz.underlying51 h
 rw [q1w] at hl
 match cs, hl with
 | [c0, c1], _ =>
 rw [zib] at h0 h1
 obtain ⟨a, ea⟩ := zej h0
 obtain ⟨b, eb⟩ := zej h1
 cases ea
 cases eb
 exact ⟨a, b, rfl⟩
set_option maxRecDepth 100000 in
theorem zg2 {t : TypeId} (ht : t = 54 ∨ t = 53) (h : DataW.trod enc Tryz.prog W 0 (fun _ => true) true n t cs = some x) : ∃ a b c, cs = [.string a, .string b, .string c] := by
 have : ∃ y0 y1 n, cs.length = 3 ∧ DataW.trod enc Tryz.prog W 0 (fun _ => true) true n 51 ((cs.drop 0).take 2) = some y0 ∧ DataW.trod enc Tryz.prog W 0 (fun _ => true) true n 9 ((cs.drop 2).take 1) = some y1 := by
  rcases ht with rfl | rfl
  ·obtain ⟨y0, y1, n, _, hl, h0, h1⟩ := trod_struct2 Tryz.underlying54 h
   rw [zie] at hl
   rw [q1w] at h0
   rw [zib] at h1
   exact ⟨y0, y1, n, hl, h0, h1⟩
  ·obtain ⟨y0, y1, n, _, hl, h0, h1⟩ := trod_struct2 Tryz.underlying53 h
   rw [zif] at hl
   rw [q1w] at h0
   rw [zib] at h1
   exact ⟨y0, y1, n, hl, h0, h1⟩
 obtain ⟨y0, y1, n, hl, h0, h1⟩ := this
 match cs, hl with
 | [c0, c1, c2], _ =>
 obtain ⟨a, b, e⟩ := zz9 h0
 obtain ⟨c, e2⟩ := zej h1
 cases e
 cases e2
 exact ⟨a, b, c, rfl⟩
def rC (s : ByteArray) : SS := ⟨s.data.toList.length, jI s.data.toList⟩
theorem zzd (s : ByteArray) : (rC s).n = 0 → (rC s).a = 0 := fun h => by
 have : s.data.toList = [] := List.length_eq_zero_iff.1 h
 unfold rC
 rw [this]; rfl
theorem qpt (s : ByteArray) (ι : Im) : aL ι (rC s).v (.string s) := ⟨s, rfl, rfl, rfl⟩
set_option maxRecDepth 100000 in
theorem el3 (h : DataW.trod enc Tryz.prog W 0 (fun _ => true) true n 56 cs = some x) : ∃ a : Tu, WfT a ∧ ∀ j, j < 6 → ∃ u V, a.cells[j]? = some u ∧ cs[j]? = some V ∧ (∀ ι : Im, aL ι u V) ∧ V.oneCell = true := by
 obtain ⟨y0, y1, n, _, hl, h0, h1⟩ := trod_struct2 Tryz.underlying56 h
 rw [zid] at hl
 match cs, hl with
 | [c0, c1, c2, c3, c4, c5], _ =>
 rw [zie] at h0
 rw [zif] at h1
 obtain ⟨a, b, c, e⟩ := zg2 (.inl rfl) h0
 obtain ⟨p, q, r, e2⟩ := zg2 (.inr rfl) h1
 cases e
 cases e2
 refine ⟨⟨rC a, rC b, rC c, rC p, rC q, rC r, zzd r⟩, ⟨⟨⟨_, rfl⟩, _, rfl⟩, ⟨_, rfl⟩, _, rfl⟩, fun j hj => ?_⟩
 match j, hj with
 | 0, _ => exact ⟨_, _, rfl, rfl, qpt a, rfl⟩
 | 1, _ => exact ⟨_, _, rfl, rfl, qpt b, rfl⟩
 | 2, _ => exact ⟨_, _, rfl, rfl, qpt c, rfl⟩
 | 3, _ => exact ⟨_, _, rfl, rfl, qpt p, rfl⟩
 | 4, _ => exact ⟨_, _, rfl, rfl, qpt q, rfl⟩
 | 5, _ => exact ⟨_, _, rfl, rfl, qpt r, rfl⟩
set_option maxRecDepth 100000 in
theorem el2 (h : DataW.trod enc Tryz.prog W 0 (fun _ => true) true n 78 cs = some x) : ∃ a : Q4, ∀ j, j < 4 → ∃ u V, a.cells[j]? = some u ∧ cs[j]? = some V ∧ (∀ ι : Im, aL ι u V) ∧ V.oneCell = true := by
 obtain ⟨xs, m, _, _, hl, hx, hg⟩ := DataW.trod_array Tryz.underlying78 h
 rw [zic] at hl
 rw [cells5] at hg
 match cs, hl with
 | [c0, c1, c2, c3], _ =>
 have g : ∀ i, i < 4 → ∃ a : Fin 256, (([c0, c1, c2, c3].drop (i * 1)).take 1) = [Value.int .u8 (.ofNat a.val)] := fun i hi => by
  have h := hg i hi
  rw [List.getElem?_eq_getElem (by omega)] at h
  exact zih Tryz.underlying5 h
 obtain ⟨a, ea⟩ := g 0 (by decide)
 obtain ⟨b, eb⟩ := g 1 (by decide)
 obtain ⟨c, ec⟩ := g 2 (by decide)
 obtain ⟨d, ed⟩ := g 3 (by decide)
 cases ea
 cases eb
 cases ec
 cases ed
 refine ⟨⟨a, b, c, d, a.isLt, b.isLt, c.isLt, d.isLt⟩, fun j hj => ?_⟩
 match j, hj with
 | 0, _ => exact ⟨_, _, rfl, rfl, fun ι => by simp only [aL], rfl⟩
 | 1, _ => exact ⟨_, _, rfl, rfl, fun ι => by simp only [aL], rfl⟩
 | 2, _ => exact ⟨_, _, rfl, rfl, fun ι => by simp only [aL], rfl⟩
 | 3, _ => exact ⟨_, _, rfl, rfl, fun ι => by simp only [aL], rfl⟩
end
set_option maxRecDepth 100000 in
theorem walk {H : Type} {enc : TypeId × Value → H} {W : World} {v1 v2 : Value} {d1 d2 : DataW H} {p1 p2 : List MemPlace} (h1 : Value.okWide Tryz.prog W .any 0 27 v1) (h2 : Value.okWide Tryz.prog W .any 0 28 v2)
  (ht1 : DataW.Trod enc Tryz.prog W 0 (fun _ => true) true 27 v1 d1 p1) (ht2 : DataW.Trod enc Tryz.prog W 0 (fun _ => true) true 28 v2 d2 p2) :
  Calls Tryz.prog 3 #[v1, v2] W fun e w' => e = .returned (.bool true) ∧ Below W.heap.size W w' := by
 obtain ⟨cs, rfl, hcs⟩ := okWide_struct Tryz.underlying27 h1
 obtain ⟨a2, len2, cap2, rfl⟩ := okWide_slice Tryz.underlying28 h2
 obtain ⟨fuel, ht1⟩ := ht1
 rw [zx1] at hcs
 obtain ⟨cs⟩ := cs
 match cs, hcs with
 | [c0, c1], _ =>
 obtain ⟨y0, y1, n, _, _, hy0, hy1⟩ := trod_struct2 Tryz.underlying27 (cs := [c0, c1]) ht1
 rw [zx3] at hy0
 rw [zx2] at hy1
 have hy0 : DataW.trod enc Tryz.prog W 0 (fun _ => true) true n 24 [c0] = some y0 := hy0
 have hy1 : DataW.trod enc Tryz.prog W 0 (fun _ => true) true n 25 [c1] = some y1 := hy1
 obtain ⟨z0, m, _, _, hz0⟩ := trod_struct1 Tryz.underlying24 hy0
 rw [zx4] at hz0
 have hz0 : DataW.trod enc Tryz.prog W 0 (fun _ => true) true m 22 [c0] = some z0 := hz0
 obtain ⟨fuel2, ht2⟩ := ht2
 obtain ⟨ι, H0, w1, w2, w3, a1, a2', a3, L, ls, l, e1, e2, e3, o1, o2, o3, hR, r1, r2, r3, b1, b2, b3, b4, hwr⟩ := z1j Tryz.underlying22 Tryz.underlying151 Tryz.underlying5 zpa cells5 Tryz.underlying25 zic el2 Tryz.underlying28 zid el3 hz0 hy1 ht2
 cases e1
 cases e2
 cases e3
 obtain ⟨r, H', he, rfl⟩ := aRV b1 b2 b3 b4
 have hL : aI ι [.agg [a1, a2'], a3] [.agg #[c0, c1], .slice a2 len2 cap2] := by
  refine ⟨_, _, rfl, ⟨[c0, c1], ⟨_, _, rfl, r1, _, _, rfl, r2, rfl⟩, rfl, fun v hv => ?_⟩, _, _, rfl, r3, rfl⟩
  simp at hv
  rcases hv with rfl | rfl
  ·exact o1
  ·exact o2
 have := ((qii aCz aTN 2000).fn _ _ _ _ _ he ι W _ hR hL).2 0
 refine (callsIn_wide.1 this).mono fun e w' hp => ?_
 cases e with
 | returned V =>
  obtain ⟨ι', h1, h2, h3⟩ := hp
  simp only [aL] at h1
  exact ⟨by rw [h1], h3.below _ (Nat.le_refl _) fun b l _ h _ => by rw [hwr b] at h; cases h⟩
 | panicked => exact hp.elim
 | outgrown => exact hp.elim
set_option maxRecDepth 100000 in
theorem lifted (os : Os) (started : os.Started) (H : Type) (enc : TypeId × Value → H) :
  ReturnsInHanded {} Tryz.checked os 3 .any (Rows.fitsObjectsSpec.pre6 enc Tryz.prog Tryz.f3 Rows.fitsObjectsRow.domain false) (Rows.fitsObjectsSpec.post enc Tryz.prog Tryz.f3 false true false false) := by
 refine returnsInHanded_of_change (C := Tryz.checked) own started (by kernel_rfl) Tryz.func3
  (ChangeSpec.witness6 (enc := enc) (C := Tryz.checked) false ⟨#[], #[.agg #[.slice none 0 0, .slice none 0 0], .slice none 0 0], []⟩ 8 (by kernel_rfl) (by kernel_rfl) (by kernel_rfl) (by kernel_rfl)) ?_
 intro W base args ds gs before hval0 hW hcnd _
 have hval : ∀ (j : Nat) t v, Tryz.f3.params[j]? = some t → args[j]? = some v → Value.okWide Tryz.prog W .any base t v := hval0
 have hW' := hW
 obtain ⟨p, q, hA0, hV, _, _, _⟩ := hW
 have hA : DataW.TrodAll enc Tryz.prog W 0 (fun _ => true) true Tryz.f3.params.toList args.toList ds p := hA0
 rw [Tryz.params3] at hA hval
 obtain ⟨v1, vs1, d1, ds1, p1, q1, e1, rfl, rfl, ht1, hA1⟩ := trodAll_cons hA
 obtain ⟨v2, vs2, d2, ds2, p2, q2, rfl, rfl, rfl, ht2, hA2⟩ := trodAll_cons hA1
 obtain ⟨rfl, rfl, rfl⟩ := trodAll_nil hA2
 obtain ⟨args⟩ := args
 obtain rfl : args = [v1, v2] := e1
 refine (walk (hval 0 _ _ rfl rfl) (hval 1 _ _ rfl rfl) ht1 ht2).mono fun e W' ⟨he, hg⟩ => ?_
 subst he
 exact ⟨_, rfl, znr laid hW' rfl reads rfl rfl Tryz.underlying4 hg⟩
theorem over : Rows.fitsObjectsRow.holds Tryz.pinned (OpenSpec.ofChange Rows.fitsObjectsSpec) :=
 OpenClaim.holds_of_wide 3 Tryz.f3 rfl rfl rfl rfl rfl rfl rfl ⟨rfl, rfl, rfl, rfl, rfl⟩ rfl rfl rfl rfl rfl (by kernel_rfl) Tryz.func3 (by kernel_rfl)
  (of_decide_eq_true (by kernel_rfl)) (by unfold Func.isWrapper; first | (rw [if_pos (by decide +kernel)]; kernel_rfl) | (rw [if_neg (by decide +kernel)]; exact ⟨rfl, rfl⟩))
  (fun os started H enc _ => lifted os started H enc)
theorem fitsObjects_holds : Rows.FitsObjectsSaid :=
 over
#print axioms fitsObjects_holds
end Go.Proofs.YtbfjjkjiokfdgaaGreat
