/-
 countersign/countersignlaw22.ReachesGoals: the given statement Rows.ReachesGoalsSaid. The walk: the evaluator's O at the arguments as its memory has them (runZ). No conditions.
-/
import Derived.Test.YtnojgpkbpnimhaaGreatRows
import Derived.Test.YtnojgpkbpnimhaaGreatInst
import Derived.Test.YtnojgpkbpnimhaaGreatRunL
import Derived.WalkKit
import Derived.ProofKit
import Derived.OpenShut
set_option linter.unusedSimpArgs false
set_option linter.unusedVariables false
namespace Go.Proofs.YtnojgpkbpnimhaaGreat
open Go.ChangeShapes Go.WideShapes Go.ChangeAt Go.RowKit Go.Ev Go.Di
set_option linter.unusedVariables false
theorem own : ownKnob Tryz.prog.godebug = none := by kernel_rfl
theorem laid : laidOutB Tryz.prog = true := by kernel_rfl
theorem reads : z7h Tryz.prog Tryz.f3.params.toList = true := by kernel_rfl
theorem z4i : Tryz.prog.cellsOf 27 = 2 := by kernel_rfl
theorem z4j : Tryz.prog.cellsOf 25 = 1 := by kernel_rfl
theorem z4k : Tryz.prog.cellsOf 24 = 1 := by kernel_rfl
theorem z4l : Tryz.prog.cellsOf 22 = 1 := by kernel_rfl
theorem zt4 : Tryz.prog.cellsOf 203 = 1 := by kernel_rfl
theorem cells5 : Tryz.prog.cellsOf 5 = 1 := by kernel_rfl
theorem zmq : Tryz.prog.cellsOf 67 = 4 := by kernel_rfl
theorem zx8 : Tryz.prog.cellsOf 9 = 1 := by kernel_rfl
theorem zmr : Tryz.prog.cellsOf 29 = 2 := by kernel_rfl
theorem z4h : Tryz.prog.cellsOf 31 = 3 := by kernel_rfl
section
variable {H : Type} {enc : TypeId × Value → H} {W : World} {n : Nat} {cs : List Value} {x : DataW H × List MemPlace}
set_option maxRecDepth 100000 in
theorem el2 (h : DataW.trod enc Tryz.prog W 0 (fun _ => true) true n 67 cs = some x) : ∃ a : Q4, ∀ j, j < 4 → ∃ u V, a.cells[j]? = some u ∧ cs[j]? = some V ∧ (∀ ι : Im, aO ι u V) ∧ V.oneCell = true := by
 obtain ⟨xs, m, _, _, e, s, f⟩ := DataW.trod_array Tryz.underlying67 h
 rw [zmq] at e
 rw [cells5] at f
 match cs, e with
 | [c0, c1, c2, c3], _ =>
 have g : ∀ i, i < 4 → ∃ a : Fin 256, (([c0, c1, c2, c3].drop (i * 1)).take 1) = [Value.int .u8 (.ofNat a.val)] := fun i k => by
  have h := f i k
  rw [lq (by omega)] at h
  exact q4o Tryz.underlying5 h
 obtain ⟨a, o⟩ := g 0 (by decide)
 obtain ⟨b, p⟩ := g 1 (by decide)
 obtain ⟨c, q⟩ := g 2 (by decide)
 obtain ⟨d, r⟩ := g 3 (by decide)
 cases o
 cases p
 cases q
 cases r
 refine ⟨⟨a, b, c, d, a.isLt, b.isLt, c.isLt, d.isLt⟩, fun j l => ?_⟩
 match j, l with
 | 0, _ => exact ⟨_, _, rfl, rfl, fun ι => by simp only [aO], rfl⟩
 | 1, _ => exact ⟨_, _, rfl, rfl, fun ι => by simp only [aO], rfl⟩
 | 2, _ => exact ⟨_, _, rfl, rfl, fun ι => by simp only [aO], rfl⟩
 | 3, _ => exact ⟨_, _, rfl, rfl, fun ι => by simp only [aO], rfl⟩
theorem zis (h : DataW.trod enc Tryz.prog W 0 (fun _ => true) true n 9 cs = some x) : ∃ a, cs = [.string a] := by
 obtain ⟨a, b, _, _⟩ := DataW.trod_string Tryz.underlying9 h
 exact ⟨a, b⟩
set_option maxRecDepth 100000 in
theorem z7u (h : DataW.trod enc Tryz.prog W 0 (fun _ => true) true n 29 cs = some x) : ∃ a b, cs = [.string a, .string b] := by
 obtain ⟨i, j, n, _, c, d, e⟩ := trod_struct2 Tryz.underlying29 h
 rw [zmr] at c
 match cs, c with
 | [c0, c1], _ =>
 rw [zx8] at d e
 obtain ⟨a, f⟩ := zis d
 obtain ⟨b, g⟩ := zis e
 cases f
 cases g
 exact ⟨a, b, rfl⟩
set_option maxRecDepth 100000 in
theorem z3s (h : DataW.trod enc Tryz.prog W 0 (fun _ => true) true n 31 cs = some x) : ∃ a b c, cs = [.string a, .string b, .string c] := by
 obtain ⟨j, k, n, _, d, f, g⟩ := trod_struct2 Tryz.underlying31 h
 rw [z4h] at d
 rw [zmr] at f
 rw [zx8] at g
 match cs, d with
 | [c0, c1, c2], _ =>
 obtain ⟨a, b, e⟩ := z7u f
 obtain ⟨c, i⟩ := zis g
 cases e
 cases i
 exact ⟨a, b, c, rfl⟩
def aBm (s : ByteArray) : SS := ⟨s.data.toList.length, kD s.data.toList⟩
theorem zi0 (s : ByteArray) (ι : Im) : aO ι (aBm s).v (.string s) := ⟨s, rfl, rfl, rfl⟩
end
set_option maxRecDepth 100000 in
theorem walk {H : Type} {enc : TypeId × Value → H} {W : World} {w x y : Value} {J K M : DataW H} {p1 N O : List MemPlace} (q : Value.okWide Tryz.prog W .any 0 27 w) (E : Value.okWide Tryz.prog W .any 0 5 x) (z : Value.okWide Tryz.prog W .any 0 31 y)
  (g : DataW.Trod enc Tryz.prog W 0 (fun _ => true) true 27 w J p1) (i : DataW.Trod enc Tryz.prog W 0 (fun _ => true) true 5 x K N) (j : DataW.Trod enc Tryz.prog W 0 (fun _ => true) true 31 y M O) :
  Calls Tryz.prog 3 #[w, x, y] W fun e w' => e = .returned (.bool true) ∧ Below W.heap.size W w' := by
 obtain ⟨cs, rfl, p⟩ := okWide_struct Tryz.underlying27 q
 obtain ⟨a, rfl⟩ := okWide_int Tryz.underlying5 E
 obtain ⟨F, rfl, _⟩ := okWide_struct Tryz.underlying31 z
 obtain ⟨Q, j⟩ := j
 obtain ⟨s, t, u, G⟩ := z3s j
 obtain ⟨F⟩ := F
 simp only [Value.cells] at G
 subst G
 obtain ⟨I, g⟩ := g
 rw [z4i] at p
 obtain ⟨cs⟩ := cs
 match cs, p with
 | [c0, c1], _ =>
 obtain ⟨R, S, n, _, _, c, d⟩ := trod_struct2 Tryz.underlying27 (cs := [c0, c1]) g
 rw [z4k] at c
 rw [z4j] at d
 have c : DataW.trod enc Tryz.prog W 0 (fun _ => true) true n 24 [c0] = some R := c
 have d : DataW.trod enc Tryz.prog W 0 (fun _ => true) true n 25 [c1] = some S := d
 obtain ⟨T, m, _, _, f⟩ := trod_struct1 Tryz.underlying24 c
 rw [z4l] at f
 have f : DataW.trod enc Tryz.prog W 0 (fun _ => true) true m 22 [c0] = some T := f
 obtain ⟨B, i⟩ := i
 obtain ⟨k, U⟩ := q4o Tryz.underlying5 i
 obtain rfl : a = .ofNat k.val := by
  have : [Value.int .u8 a] = [Value.int .u8 (.ofNat k.val)] := U
  cases this; rfl
 obtain ⟨ι, H0, w1, w2, X, C, L, ls, Y, Z, o1, o2, hR, r1, r2, b1, b2, D⟩ := z9i Tryz.underlying22 Tryz.underlying203 Tryz.underlying5 zt4 cells5 Tryz.underlying25 zmq el2 f d
 cases Y
 cases Z
 obtain ⟨r, H', he, rfl⟩ := aWO (m := k.val) b1 b2 k.isLt ((aBm s, aBm t), aBm u)
 have P : aL ι [.agg [X, C], .int .u8 (.ofNat k.val), .agg (gC ((aBm s, aBm t), aBm u))] [.agg #[c0, c1], .int .u8 (.ofNat k.val), .agg #[.string s, .string t, .string u]] := by
  refine ⟨_, _, rfl, ⟨[c0, c1], ⟨_, _, rfl, r1, _, _, rfl, r2, rfl⟩, rfl, fun v o => ?_⟩, _, _, rfl, ?_, _, _, rfl, ⟨[.string s, .string t, .string u], ⟨_, _, rfl, zi0 _ _, _, _, rfl, zi0 _ _, _, _, rfl, zi0 _ _, rfl⟩, rfl, fun v o => ?_⟩, rfl⟩
  ·simp at o
   rcases o with rfl | rfl
   ·exact o1
   ·exact o2
  ·simp only [aO]
  ·simp at o
   rcases o with rfl | rfl | rfl <;> rfl
 have := ((qhv aCv aVK 2000).fn _ _ _ _ _ he ι W _ hR P).2 0
 refine (callsIn_wide.1 this).mono fun e w' A => ?_
 cases e with
 | returned V =>
  obtain ⟨ι', q, E, z⟩ := A
  simp only [aO] at q
  exact ⟨by rw [q], z.below _ (lu _) fun b l _ h _ => by rw [D b] at h; cases h⟩
 | panicked => exact A.elim
 | outgrown => exact A.elim
set_option maxRecDepth 100000 in
theorem lifted (o : Os) (b : o.Started) (H : Type) (enc : TypeId × Value → H) :
  ReturnsInHanded {} Tryz.checked o 3 .any (Rows.reachesGoalsSpec.pre6 enc Tryz.prog Tryz.f3 Rows.reachesGoalsRow.domain false) (Rows.reachesGoalsSpec.post enc Tryz.prog Tryz.f3 false true false false) := by
 refine returnsInHanded_of_change (C := Tryz.checked) own b (by kernel_rfl) Tryz.func3
  (ChangeSpec.witness6 (enc := enc) (C := Tryz.checked) false ⟨#[], #[.agg #[.slice none 0 0, .slice none 0 0], .int .u8 0, .agg #[.string ⟨#[]⟩, .string ⟨#[]⟩, .string ⟨#[]⟩]], []⟩ 8 (by kernel_rfl) (by kernel_rfl) (by kernel_rfl) (by kernel_rfl)) ?_
 intro W base args ds L d c s u _
 have a : ∀ (j : Nat) t v, Tryz.f3.params[j]? = some t → args[j]? = some v → Value.okWide Tryz.prog W .any base t v := c
 have f := s
 obtain ⟨p, q, g, M, _, _, _⟩ := s
 have r : DataW.TrodAll enc Tryz.prog W 0 (fun _ => true) true Tryz.f3.params.toList args.toList ds p := g
 rw [Tryz.params3] at r a
 obtain ⟨y, z, N, A, p1, q1, B, rfl, rfl, h, i⟩ := trodAll_cons r
 obtain ⟨D, E, O, F, P, q2, rfl, rfl, rfl, k, l⟩ := trodAll_cons i
 obtain ⟨G, I, Q, J, R, q3, rfl, rfl, rfl, m, n⟩ := trodAll_cons l
 obtain ⟨rfl, rfl, rfl⟩ := trodAll_nil n
 obtain ⟨args⟩ := args
 obtain rfl : args = [y, D, G] := B
 refine (walk (a 0 _ _ rfl rfl) (a 1 _ _ rfl rfl) (a 2 _ _ rfl rfl) h k m).mono fun e K ⟨w, x⟩ => ?_
 subst w
 exact ⟨_, rfl, zsp laid f rfl reads rfl rfl Tryz.underlying4 x⟩
theorem over : Rows.reachesGoalsRow.holds Tryz.pinned (OpenSpec.ofChange Rows.reachesGoalsSpec) :=
 OpenClaim.holds_of_wide 3 Tryz.f3 rfl rfl rfl rfl rfl rfl rfl ⟨rfl, rfl, rfl, rfl, rfl⟩ rfl rfl rfl rfl rfl (by kernel_rfl) Tryz.func3 jf
  (of_decide_eq_true (by kernel_rfl)) (by unfold Func.isWrapper; first | (rw [qj (by decide +kernel)]; kernel_rfl) | (rw [pg (by decide +kernel)]; exact ⟨rfl, rfl⟩))
  (fun b a H enc _ => lifted b a H enc)
theorem reachesGoals_holds : Rows.ReachesGoalsSaid :=
 over
#print axioms reachesGoals_holds
end Go.Proofs.YtnojgpkbpnimhaaGreat
