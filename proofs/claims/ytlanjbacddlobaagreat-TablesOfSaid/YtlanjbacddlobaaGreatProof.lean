/-
 countersign/countersignlaw19.TablesOf: the given statement Rows.TablesOfSaid. The walk: the evaluator's O at the arguments as its memory has them (runZ). No conditions.
-/
import Derived.Test.YtlanjbacddlobaaGreatConA
import Derived.Test.YtlanjbacddlobaaGreatRows
import Derived.Test.YtlanjbacddlobaaGreatInst
import Derived.WalkKit
import Derived.ProofKit
import Derived.OpenShut
set_option linter.unusedSimpArgs false
set_option linter.unusedVariables false
namespace Go.Proofs.YtlanjbacddlobaaGreat
open Go.ChangeShapes Go.WideShapes Go.ChangeAt Go.RowKit Go.Ev Go.Di
set_option linter.unusedVariables false
theorem own : ownKnob Tryz.prog.godebug = none := kr
theorem laid : laidOutB Tryz.prog = true := kr
theorem reads : xcn Tryz.prog Tryz.f3.params.toList = true := kr
theorem xao : Tryz.prog.cellsOf 24 = 1 := kr
theorem xap : Tryz.prog.cellsOf 22 = 1 := kr
theorem xan : Tryz.prog.cellsOf 76 = 1 := kr
theorem cells5 : Tryz.prog.cellsOf 5 = 1 := kr
theorem xeh : Tryz.prog.cellsOf 9 = 1 := kr
set_option maxRecDepth 100000 in
theorem z7z {H : Type} {enc : TypeId × Value → H} {W : World} {v : Value} {d : DataW H} {p : List MemPlace} (h : Value.okWide Tryz.prog W .any 0 25 v) (e : DataW.Trod enc Tryz.prog W 0 (fun _ => true) true 25 v d p) :
  ∃ a b : ByteArray, v = .agg #[.string a, .string b] := by
 simp only [Value.okWide, Tryz.underlying25] at h
 obtain ⟨cs, rfl, _, _⟩ := h
 obtain ⟨g, e⟩ := e
 obtain ⟨xs, n, rfl, _, c, k, f⟩ := DataW.trod_array Tryz.underlying25 e
 rw [xeh] at f
 rw [show Tryz.prog.cellsOf 25 = 2 by kernel_rfl] at c
 obtain ⟨cs⟩ := cs
 match cs, c with
 | [c0, c1], _ =>
 have g0 := f 0 om
 have g1 := f 1 om
 rw [gp om] at g0 g1
 obtain ⟨a, i, _, _⟩ := DataW.trod_string Tryz.underlying9 g0
 obtain ⟨b, j, _, _⟩ := DataW.trod_string Tryz.underlying9 g1
 simp [Value.cells] at i j
 subst i; subst j
 exact ⟨a, b, rfl⟩
set_option maxRecDepth 100000 in
theorem walk {H : Type} {enc : TypeId × Value → H} {W : World} {j y k : Value} {B C : DataW H} {p1 D : List MemPlace} (g : Value.okWide Tryz.prog W .any 0 24 j) (z : Value.okWide Tryz.prog W .any 0 3 y) (m : Value.okWide Tryz.prog W .any 0 25 k)
  (o : DataW.Trod enc Tryz.prog W 0 (fun _ => true) true 24 j B p1) (p : DataW.Trod enc Tryz.prog W 0 (fun _ => true) true 25 k C D) :
  Calls Tryz.prog 3 #[j, y, k] W fun e w' => e = .returned (.bool true) ∧ Below W.heap.size W w' := by
 obtain ⟨x, rfl⟩ := okWide_int Tryz.underlying3 z
 obtain ⟨c, sb, rfl⟩ := z7z m p
 obtain ⟨cs, rfl, d⟩ := okWide_struct Tryz.underlying24 g
 obtain ⟨A, o⟩ := o
 rw [xao] at d
 obtain ⟨cs⟩ := cs
 match cs, d with
 | [c0], _ =>
 obtain ⟨F, n, _, _, a⟩ := trod_struct1 Tryz.underlying24 (cs := [c0]) o
 rw [xap] at a
 have a : DataW.trod enc Tryz.prog W 0 (fun _ => true) true n 22 [c0] = some F := a
 have s : c0.oneCell = true := by
  rcases DataW.trod_slice Tryz.underlying22 a with ⟨h, _⟩ | ⟨_, _, _, _, _, _, _, h, _⟩
  ·cases h; rfl
  ·cases h; rfl
 obtain ⟨ι, H0, G, L, I, f, u, w⟩ := xd2 Tryz.underlying22 Tryz.underlying76 Tryz.underlying5 xan cells5 a
 have t := aY5 u x ⟨c.data.toList.length, jY c.data.toList⟩ ⟨sb.data.toList.length, jY sb.data.toList⟩
 obtain ⟨r, K, J, rfl⟩ := t
 have E : aL ι [.agg [G], .int .i64 x, .agg [.str c.data.toList.length (jY c.data.toList), .str sb.data.toList.length (jY sb.data.toList)]] [.agg #[c0], .int .i64 x, .agg #[.string c, .string sb]] := by
  refine ⟨_, _, rfl, ⟨[c0], ⟨_, _, rfl, f, rfl⟩, rfl, fun v i => ?_⟩, _, _, rfl, rfl, _, _, rfl, ⟨[.string c, .string sb], ⟨_, _, rfl, ⟨c, rfl, rfl, rfl⟩, _, _, rfl, ⟨sb, rfl, rfl, rfl⟩, rfl⟩, rfl, fun v i => ?_⟩, rfl⟩
  ·obtain rfl := lI3.1 i
   exact s
  ·simp at i
   rcases i with rfl | rfl <;> rfl
 have := ((qka aEp aXC 2000).fn _ _ _ _ _ J ι W _ I E).2 0
 refine (callsIn_wide.1 this).mono fun e w' q => ?_
 cases e with
 | returned V =>
  obtain ⟨M, g, z, m⟩ := q
  simp only [aR] at g
  exact ⟨by rw [g], m.below _ (lEO _) fun b l _ h _ => by rw [w b] at h; cases h⟩
 | panicked => exact q.elim
 | outgrown => exact q.elim
set_option maxRecDepth 100000 in
theorem lifted (n : Os) (b : n.Started) (H : Type) (enc : TypeId × Value → H) :
  ReturnsInHanded {} Tryz.checked n 3 .any (Rows.tablesOfSpec.pre6 enc Tryz.prog Tryz.f3 Rows.tablesOfRow.domain false) (Rows.tablesOfSpec.post enc Tryz.prog Tryz.f3 false true false false) := by
 refine returnsInHanded_of_change (C := Tryz.checked) own b kr Tryz.func3
  (ChangeSpec.witness6 (enc := enc) (C := Tryz.checked) false ⟨#[], #[.agg #[.slice none 0 0], .int .i64 0, .agg #[.string ⟨#[]⟩, .string ⟨#[]⟩]], []⟩ 8 kr kr kr kr) ?_
 intro W base args ds L d c r s _
 have a : ∀ (j : Nat) t v, Tryz.f3.params[j]? = some t → args[j]? = some v → Value.okWide Tryz.prog W .any base t v := c
 have f := r
 obtain ⟨p, q, g, M, _, _, _⟩ := r
 have o : DataW.TrodAll enc Tryz.prog W 0 (fun _ => true) true Tryz.f3.params.toList args.toList ds p := g
 rw [Tryz.params3] at o a
 obtain ⟨x, y, N, z, p1, O, A, rfl, rfl, h, i⟩ := trodAll_cons o
 obtain ⟨B, D, P, E, Q, R, rfl, rfl, rfl, F, k⟩ := trodAll_cons i
 obtain ⟨G, I, S, J, T, U, rfl, rfl, rfl, l, m⟩ := trodAll_cons k
 obtain ⟨rfl, rfl, rfl⟩ := trodAll_nil m
 obtain ⟨args⟩ := args
 obtain rfl : args = [x, B, G] := A
 refine (walk (a 0 _ _ rfl rfl) (a 1 _ _ rfl rfl) (a 2 _ _ rfl rfl) h l).mono fun e K ⟨u, w⟩ => ?_
 subst u
 exact ⟨_, rfl, zx1 laid f rfl reads rfl rfl Tryz.underlying4 w⟩
theorem over : Rows.tablesOfRow.holds Tryz.pinned (OpenSpec.ofChange Rows.tablesOfSpec) :=
 OpenClaim.holds_of_wide 3 Tryz.f3 rfl rfl rfl rfl rfl rfl rfl ⟨rfl, rfl, rfl, rfl, rfl⟩ rfl rfl rfl rfl rfl kr Tryz.func3 kr
  (of_decide_eq_true kr) (by unfold Func.isWrapper; first | (rw [lEZ (by decide +kernel)]; kernel_rfl) | (rw [lEU (by decide +kernel)]; exact ⟨rfl, rfl⟩))
  (fun b a H enc _ => lifted b a H enc)
theorem tablesOf_holds : Rows.TablesOfSaid :=
 over
#print axioms tablesOf_holds
end Go.Proofs.YtlanjbacddlobaaGreat
