/-
 countersign/countersignlaw22.ReachesElse: the given statement Rows.ReachesElseSaid. The walk: the evaluator's O at the arguments as its memory has them (runZ). No conditions.
-/
import Derived.Test.YtfkgaaibbfcaoaaGreatRows
import Derived.WalkKit
import Derived.ProofKit
import Derived.OpenShut
import Derived.Test.YtfkgaaibbfcaoaaGreatInst
import Derived.Deep.Strs
set_option linter.all false
namespace Go.Proofs.YtfkgaaibbfcaoaaGreat
open Go.ChangeShapes Go.WideShapes Go.ChangeAt Go.RowKit
theorem j1 : Tryz.pinned.checked.prog.inPlace 7 = Rows.reachesElseRow.inPlace := by kernel_rfl
theorem j2 : Tryz.pinned.checked.prog.unfollowed 7 = true := by kernel_rfl
theorem j3 : Tryz.pinned.checked.prog.recurses 7 = true := by kernel_rfl
theorem j4 : Tryz.pinned.checked.prog.varsNamed 7 = Rows.reachesElseRow.named := by kernel_rfl
theorem jf : joinedFacts Tryz.pinned.checked.prog 7 Tryz.f7 Rows.reachesElseSpec Rows.reachesElseRow = true := by
 unfold joinedFacts
 rw [j1, j2, j3, j4]
 kernel_rfl
end Go.Proofs.YtfkgaaibbfcaoaaGreat
namespace Go.Proofs.YtfkgaaibbfcaoaaGreat
open Go.ChangeShapes Go.WideShapes Go.ChangeAt Go.RowKit Go.Ev Go.Di
set_option linter.unusedVariables false
theorem own : ownKnob Tryz.prog.godebug = none := by kernel_rfl
theorem laid : laidOutB Tryz.prog = true := by kernel_rfl
theorem reads : X6 Tryz.prog Tryz.f7.params.toList = true := by kernel_rfl
theorem z13 : Tryz.prog.cellsOf 27 = 2 := by kernel_rfl
theorem z14 : Tryz.prog.cellsOf 25 = 1 := by kernel_rfl
theorem z15 : Tryz.prog.cellsOf 24 = 1 := by kernel_rfl
theorem z16 : Tryz.prog.cellsOf 22 = 1 := by kernel_rfl
theorem z11 : Tryz.prog.cellsOf 96 = 1 := by kernel_rfl
theorem zv1 : Tryz.prog.cellsOf 101 = 3 := by kernel_rfl
theorem cells5 : Tryz.prog.cellsOf 5 = 1 := by kernel_rfl
theorem za0 : Tryz.prog.cellsOf 132 = 4 := by kernel_rfl
section
variable {H : Type} {enc : TypeId × Value → H} {W : World} {n : Nat} {cs : List Value} {x : DataW H × List MemPlace}
set_option maxRecDepth 100000 in
theorem el2 (h : DataW.trod enc Tryz.prog W 0 (λ_ => true) true n 132 cs = some x) : ∃a : Q4, ∀j, j < 4 → ∃u V, a.cells[j]? = some u ∧ cs[j]? = some V ∧ (∀ι : Im, aQ ι u V) ∧ V.oneCell = true := by
 obtain ⟨xs, m, _, _, e, s, f⟩ := DataW.trod_array Tryz.underlying132 h
 rw [za0] at e
 rw [cells5] at f
 match cs, e with
 | [c0, c1, c2, c3], _ =>
 have g : ∀i, i < 4 → ∃a : Fin 256, (([c0, c1, c2, c3].drop (i * 1)).take 1) = [Value.int .u8 (.ofNat a.val)] := λi k => by
  have h := f i k
  rw [j0 (by omega)] at h
  exact zb Tryz.underlying5 h
 obtain ⟨a, o⟩ := g 0 (by decide)
 obtain ⟨b, p⟩ := g 1 (by decide)
 obtain ⟨c, q⟩ := g 2 (by decide)
 obtain ⟨d, r⟩ := g 3 (by decide)
 cases o
 cases p
 cases q
 cases r
 refine ⟨⟨a, b, c, d, a.isLt, b.isLt, c.isLt, d.isLt⟩, λj l => ?_⟩
 match j, l with
 | 0, _ => exact ⟨_, _, rfl, rfl, λι => by simp only [aQ], rfl⟩
 | 1, _ => exact ⟨_, _, rfl, rfl, λι => by simp only [aQ], rfl⟩
 | 2, _ => exact ⟨_, _, rfl, rfl, λι => by simp only [aQ], rfl⟩
 | 3, _ => exact ⟨_, _, rfl, rfl, λι => by simp only [aQ], rfl⟩
set_option maxRecDepth 100000 in
theorem bD3 (h : DataW.trod enc Tryz.prog W 0 (λ_ => true) true n 101 cs = some x) : ∃a b c : Fin 256, cs = [.int .u8 (.ofNat a.val), .int .u8 (.ofNat b.val), .int .u8 (.ofNat c.val)] := by
 obtain ⟨l, m, o, n, _, d, e, f, g⟩ := Go.Deep.trod_struct3 Tryz.underlying101 h
 rw [zv1] at d
 match cs, d with
 | [c0, c1, c2], _ =>
 rw [cells5] at e f g
 obtain ⟨a, i⟩ := zb Tryz.underlying5 e
 obtain ⟨b, j⟩ := zb Tryz.underlying5 f
 obtain ⟨c, k⟩ := zb Tryz.underlying5 g
 cases i
 cases j
 cases k
 exact ⟨a, b, c, rfl⟩
end
set_option maxRecDepth 100000 in
theorem walk {H : Type} {enc : TypeId × Value → H} {W : World} {x y z : Value} {K M N : DataW H} {p1 O P : List MemPlace} (q : Value.okWide Tryz.prog W .any 0 27 x) (F : Value.okWide Tryz.prog W .any 0 101 y) (A : Value.okWide Tryz.prog W .any 0 5 z)
  (g : DataW.Trod enc Tryz.prog W 0 (λ_ => true) true 27 x K p1) (i : DataW.Trod enc Tryz.prog W 0 (λ_ => true) true 101 y M O) (j : DataW.Trod enc Tryz.prog W 0 (λ_ => true) true 5 z N P) :
  Calls Tryz.prog 7 #[x, y, z] W λe w' => e = .returned (.bool true) ∧ Below W.heap.size W w' := by
 obtain ⟨cs, rfl, p⟩ := okWide_struct Tryz.underlying27 q
 obtain ⟨G, rfl, _⟩ := okWide_struct Tryz.underlying101 F
 obtain ⟨a, rfl⟩ := okWide_int Tryz.underlying5 A
 obtain ⟨C, i⟩ := i
 obtain ⟨t, u, w, I⟩ := bD3 i
 obtain ⟨G⟩ := G
 simp only [Value.cells] at I
 subst I
 obtain ⟨J, g⟩ := g
 rw [z13] at p
 obtain ⟨cs⟩ := cs
 match cs, p with
 | [c0, c1], _ =>
 obtain ⟨R, S, n, _, _, c, d⟩ := trod_struct2 Tryz.underlying27 (cs := [c0, c1]) g
 rw [z15] at c
 rw [z14] at d
 have c : DataW.trod enc Tryz.prog W 0 (λ_ => true) true n 24 [c0] = some R := c
 have d : DataW.trod enc Tryz.prog W 0 (λ_ => true) true n 25 [c1] = some S := d
 obtain ⟨T, m, _, _, f⟩ := trod_struct1 Tryz.underlying24 c
 rw [z16] at f
 have f : DataW.trod enc Tryz.prog W 0 (λ_ => true) true m 22 [c0] = some T := f
 obtain ⟨U, j⟩ := j
 obtain ⟨k, X⟩ := zb Tryz.underlying5 j
 obtain rfl : a = .ofNat k.val := by
  have : [Value.int .u8 a] = [Value.int .u8 (.ofNat k.val)] := X
  cases this; rfl
 obtain ⟨ι, H0, w1, w2, Y, D, L, ls, Z, e2, o1, o2, hR, r1, r2, b1, b2, E⟩ := xbl Tryz.underlying22 Tryz.underlying96 Tryz.underlying5 z11 cells5 Tryz.underlying25 za0 el2 f d
 cases Z
 cases e2
 obtain ⟨r, H', he, rfl⟩ := aXW (m := k.val) b1 b2 k.isLt t.isLt u.isLt w.isLt
 have s : ∀(n : Nat), aQ ι (.int .u8 (.ofNat n)) (.int .u8 (.ofNat n)) := λn => by simp only [aQ]
 have Q : aK ι [.agg [Y, D], .agg [.int .u8 (.ofNat t.val), .int .u8 (.ofNat u.val), .int .u8 (.ofNat w.val)], .int .u8 (.ofNat k.val)] [.agg #[c0, c1], .agg #[.int .u8 (.ofNat t.val), .int .u8 (.ofNat u.val), .int .u8 (.ofNat w.val)], .int .u8 (.ofNat k.val)] := by
  refine ⟨_, _, rfl, ⟨[c0, c1], ⟨_, _, rfl, r1, _, _, rfl, r2, rfl⟩, rfl, λv o => ?_⟩, _, _, rfl, ⟨[.int .u8 (.ofNat t.val), .int .u8 (.ofNat u.val), .int .u8 (.ofNat w.val)], ⟨_, _, rfl, s _, _, _, rfl, s _, _, _, rfl, s _, rfl⟩, rfl, λv o => ?_⟩, _, _, rfl, s _, rfl⟩
  ·simp at o
   rcases o with rfl | rfl
   ·exact o1
   ·exact o2
  ·simp at o
   rcases o with rfl | rfl | rfl <;> rfl
 have := ((w6 vi aW8 2000).fn _ _ _ _ _ he ι W _ hR Q).2 0
 refine (callsIn_wide.1 this).mono λe w' B => ?_
 cases e with
 | returned V =>
  obtain ⟨ι', q, F, A⟩ := B
  simp only [aQ] at q
  exact ⟨by rw [q], A.below _ (AF _) λb l _ h _ => by rw [E b] at h; cases h⟩
 | panicked => exact B.elim
 | outgrown => exact B.elim
set_option maxRecDepth 100000 in
theorem lifted (o : Os) (b : o.Started) (H : Type) (enc : TypeId × Value → H) :
  ReturnsInHanded {} Tryz.checked o 7 .any (Rows.reachesElseSpec.pre6 enc Tryz.prog Tryz.f7 Rows.reachesElseRow.domain false) (Rows.reachesElseSpec.post enc Tryz.prog Tryz.f7 false true false false) := by
 refine returnsInHanded_of_change (C := Tryz.checked) own b (by kernel_rfl) Tryz.func7
  (ChangeSpec.witness6 (enc := enc) (C := Tryz.checked) false ⟨#[], #[.agg #[.slice none 0 0, .slice none 0 0], .agg #[.int .u8 0, .int .u8 0, .int .u8 0], .int .u8 0], []⟩ 8 (by kernel_rfl) (by kernel_rfl) (by kernel_rfl) (by kernel_rfl)) ?_
 intro W base args ds L d c s u _
 have a : ∀(j : Nat) t v, Tryz.f7.params[j]? = some t → args[j]? = some v → Value.okWide Tryz.prog W .any base t v := c
 have f := s
 obtain ⟨p, q, g, M, _, _, _⟩ := s
 have r : DataW.TrodAll enc Tryz.prog W 0 (λ_ => true) true Tryz.f7.params.toList args.toList ds p := g
 rw [Tryz.params7] at r a
 obtain ⟨y, z, N, A, p1, q1, B, rfl, rfl, h, i⟩ := trodAll_cons r
 obtain ⟨D, E, O, F, P, q2, rfl, rfl, rfl, k, l⟩ := trodAll_cons i
 obtain ⟨G, I, Q, J, R, q3, rfl, rfl, rfl, m, n⟩ := trodAll_cons l
 obtain ⟨rfl, rfl, rfl⟩ := trodAll_nil n
 obtain ⟨args⟩ := args
 obtain rfl : args = [y, D, G] := B
 refine (walk (a 0 _ _ rfl rfl) (a 1 _ _ rfl rfl) (a 2 _ _ rfl rfl) h k m).mono λe K ⟨w, x⟩ => ?_
 subst w
 exact ⟨_, rfl, zuj laid f rfl reads rfl rfl Tryz.underlying4 x⟩
theorem over : Rows.reachesElseRow.holds Tryz.pinned (OpenSpec.ofChange Rows.reachesElseSpec) :=
 OpenClaim.holds_of_wide 7 Tryz.f7 rfl rfl rfl rfl rfl rfl rfl ⟨rfl, rfl, rfl, rfl, rfl⟩ rfl rfl rfl rfl rfl (by kernel_rfl) Tryz.func7 jf
  (of_decide_eq_true (by kernel_rfl)) (by unfold Func.isWrapper; first | (rw [sB (by decide +kernel)]; kernel_rfl) | (rw [sy (by decide +kernel)]; exact ⟨rfl, rfl⟩))
  (λb a H enc _ => lifted b a H enc)
theorem reachesElse_holds : Rows.ReachesElseSaid :=
 over
#print axioms reachesElse_holds
end Go.Proofs.YtfkgaaibbfcaoaaGreat
