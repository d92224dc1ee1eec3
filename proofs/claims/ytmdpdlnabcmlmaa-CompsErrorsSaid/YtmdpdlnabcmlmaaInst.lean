/-
 For countersignlaw17.CompsErrors: the law at all arguments, over the evaluator. No conditions beyond those that each theorem states.
-/
import Derived.Test.YtmdpdlnabcmlmaaLinkA
import Derived.Test.YtmdpdlnabcmlmaaLinkB
import Derived.Test.YtmdpdlnabcmlmaaLaw
import Derived.Test.YtmdpdlnabcmlmaaLive
import Derived.Test.YtmdpdlnabcmlmaaEnt
set_option linter.unusedSimpArgs false
set_option linter.unusedVariables false
noncomputable section
/-
 The evaluator's calls, by number, are the direct functions.
-/
namespace Go.Di
open Go.Ev Go.Proofs
theorem q7d {P : Program} {ext : Ext} {f : FuncId} {args : List AV} {H : Hp} (h : ext f args H = none) (k : Nat) :
  callF P ext (k + 1) (.f f) args H = (funS P f).f (callF P ext k) args H := by
 show @Option.rec R1 (fun _ => R1) ((funF P f).f (callF P ext k) args H) (fun r => r) (ext f args H) = _
 rw [h, q2t]
theorem q23 {P : Program} {ext : Ext} {f : FuncId} {args : List AV} {H : Hp} {r : R1} (h : ext f args H = some r) (k : Nat) :
  callF P ext (k + 1) (.f f) args H = r := by
 show @Option.rec R1 (fun _ => R1) ((funF P f).f (callF P ext k) args H) (fun r => r) (ext f args H) = _
 rw [h]
theorem zhh {P : Program} {ext : Ext} {l : Nat} {args : List AV} {H : Hp} (k : Nat) :
  callF P ext (k + 1) (.y l) args H = qkb P (callF P ext k) l args H := by
 show qy2 P (callF P ext k) l args H = _
 rw [qy1]
attribute [local irreducible] Go.Ev.callF Go.Ev.funS Go.Ev.funF
def CZ (k : Nat) : Ev.Call := callF Try.prog (qum [15]) k
theorem qar (k : Nat) (f : FuncId) (a : AV) (l : List AV) (H : Hp) : CZ (k + 1) (.f f) (a :: l) H = (funS Try.prog f).f (CZ k) (a :: l) H :=
 q7d (P := Try.prog) (ext := qum [15]) (f := f) (args := a :: l) (H := H) rfl k
theorem cz_y (k l : Nat) (a : List AV) (H : Hp) : CZ (k + 1) (.y l) a H = qkb Try.prog (CZ k) l a H := zhh k
theorem zbb (k : Nat) (H : Hp) : CZ (k + 1) (.f qca) [] H = .ok (.bool true) H :=
 q23 (P := Try.prog) (ext := qum [15]) (f := qca) (args := []) (H := H) rfl k
theorem zec (k : Nat) (H : Hp) (h : 1 ≤ k) : CZ k (.f qca) [] H = .ok (.bool true) H := by
 have : k = (k - 1) + 1 := by omega
 rw [this]
 exact zbb _ H
theorem links : qb1 CZ := fun k => ⟨
 fun x0 x1 H => (qar _ _ _ _ _).trans (q4q _ x0 x1 H),
 fun x0 H => (qar _ _ _ _ _).trans (zas _ x0 H),
 fun x0 H => (qar _ _ _ _ _).trans (zb0 _ x0 H),
 fun x0 x1 H => (qar _ _ _ _ _).trans (zbo _ x0 x1 H),
 fun x0 H => (qar _ _ _ _ _).trans (zbz _ x0 H),
 fun x0 H => (qar _ _ _ _ _).trans (zbr _ x0 H),
 fun x0 x1 H => (qar _ _ _ _ _).trans (zaq _ x0 x1 H),
 fun x0 H => (qar _ _ _ _ _).trans (q26 _ x0 H),
 fun x0 x1 H => (qar _ _ _ _ _).trans (zbp _ x0 x1 H),
 fun x0 H => (qar _ _ _ _ _).trans (q8v _ x0 H),
 fun x0 H => (qar _ _ _ _ _).trans (q56 _ x0 H),
 fun x0 x1 x2 H => (qar _ _ _ _ _).trans (zbi _ x0 x1 x2 H),
 fun x0 x1 H => (qar _ _ _ _ _).trans (q8r _ x0 x1 H),
 fun x0 H => (qar _ _ _ _ _).trans (q57 _ x0 H),
 fun x0 x1 H => (qar _ _ _ _ _).trans (q8c _ x0 x1 H),
 fun x0 H => (qar _ _ _ _ _).trans (q8w _ x0 H),
 fun x0 x1 H => (qar _ _ _ _ _).trans (zb1 _ x0 x1 H),
 fun x0 H => (qar _ _ _ _ _).trans (zan _ x0 H),
 fun x0 H => (qar _ _ _ _ _).trans (zeg _ x0 H),
 fun x0 x1 H => (qar _ _ _ _ _).trans (q7e _ x0 x1 H),
 fun x0 x1 H => (qar _ _ _ _ _).trans (q89 _ x0 x1 H),
 fun x0 x1 x2 x3 H => (qar _ _ _ _ _).trans (q87 _ x0 x1 x2 x3 H),
 fun x0 x1 H => (qar _ _ _ _ _).trans (q8m _ x0 x1 H),
 fun x0 x1 H => (qar _ _ _ _ _).trans (q8q _ x0 x1 H),
 fun x0 H => (qar _ _ _ _ _).trans (zbx _ x0 H),
 fun x0 x1 H => (qar _ _ _ _ _).trans (q3e _ x0 x1 H),
 fun x0 x1 H => (qar _ _ _ _ _).trans (q3d _ x0 x1 H),
 fun x0 x1 H => (qar _ _ _ _ _).trans (q8o _ x0 x1 H),
 fun x0 H => (qar _ _ _ _ _).trans (q8h _ x0 H),
 fun x0 H => (qar _ _ _ _ _).trans (q8j _ x0 H),
 fun x0 x1 H => (qar _ _ _ _ _).trans (q55 _ x0 x1 H),
 fun x0 H => (qar _ _ _ _ _).trans (q8t _ x0 H)⟩
theorem zi0 : qby CZ := fun k => ⟨
 fun x0 x1 H => (qar _ _ _ _ _).trans (qro _ x0 x1 H),
 fun x0 H => (qar _ _ _ _ _).trans (q54 _ x0 H),
 fun x0 x1 x2 x3 x4 H => (qar _ _ _ _ _).trans (q50 _ x0 x1 x2 x3 x4 H),
 fun x0 H => (qar _ _ _ _ _).trans (qze _ x0 H),
 fun x0 H => (qar _ _ _ _ _).trans (qzd _ x0 H),
 fun x0 x1 x2 x3 H => (qar _ _ _ _ _).trans (q52 _ x0 x1 x2 x3 H),
 fun x0 x1 x2 x3 H => (qar _ _ _ _ _).trans (q1f _ x0 x1 x2 x3 H),
 fun x0 x1 x2 x3 H => (qar _ _ _ _ _).trans (q53 _ x0 x1 x2 x3 H),
 fun x0 x1 x2 x3 H => (qar _ _ _ _ _).trans (q5x _ x0 x1 x2 x3 H),
 fun x0 x1 x2 x3 H => (qar _ _ _ _ _).trans (q5w _ x0 x1 x2 x3 H),
 fun x0 x1 x2 x3 H => (qar _ _ _ _ _).trans (q09 _ x0 x1 x2 x3 H),
 fun x0 x1 x2 x3 x4 H => (qar _ _ _ _ _).trans (q5y _ x0 x1 x2 x3 x4 H),
 fun x0 x1 x2 x3 x4 H => (qar _ _ _ _ _).trans (q1b _ x0 x1 x2 x3 x4 H),
 fun x0 H => (qar _ _ _ _ _).trans (q1d _ x0 H),
 fun x0 H => (qar _ _ _ _ _).trans (qud _ x0 H),
 fun x0 x1 x2 x3 x4 H => (qar _ _ _ _ _).trans (q06 _ x0 x1 x2 x3 x4 H),
 fun x0 x1 x2 x3 H => (qar _ _ _ _ _).trans (qv4 _ x0 x1 x2 x3 H),
 fun x0 x1 x2 x3 x4 x5 H => (qar _ _ _ _ _).trans (q51 _ x0 x1 x2 x3 x4 x5 H),
 fun x0 x1 x2 x3 x4 H => (qar _ _ _ _ _).trans (q1c _ x0 x1 x2 x3 x4 H)⟩
theorem zi2 : qdj CZ := fun k => ⟨
 fun x0 H => (qar _ _ _ _ _).trans (q2i _ x0 H),
 fun x0 H => (qar _ _ _ _ _).trans (quf _ x0 H),
 fun x0 x1 x2 x3 H => (qar _ _ _ _ _).trans (q6k _ x0 x1 x2 x3 H),
 fun x0 x1 x2 H => (qar _ _ _ _ _).trans (q6m _ x0 x1 x2 H),
 fun x0 x1 x2 H => (qar _ _ _ _ _).trans (q2g _ x0 x1 x2 H),
 fun x0 x1 x2 H => (qar _ _ _ _ _).trans (q6n _ x0 x1 x2 H),
 fun x0 x1 x2 H => (qar _ _ _ _ _).trans (q6i _ x0 x1 x2 H),
 fun x0 x1 x2 H => (qar _ _ _ _ _).trans (q6h _ x0 x1 x2 H),
 fun x0 x1 x2 H => (qar _ _ _ _ _).trans (q19 _ x0 x1 x2 H),
 fun x0 x1 H => (qar _ _ _ _ _).trans (q2f _ x0 x1 H),
 fun x0 x1 x2 x3 H => (qar _ _ _ _ _).trans (q6j _ x0 x1 x2 x3 H),
 fun x0 x1 x2 x3 H => (qar _ _ _ _ _).trans (q2b _ x0 x1 x2 x3 H),
 fun x0 x1 x2 x3 H => (qar _ _ _ _ _).trans (q15 _ x0 x1 x2 x3 H),
 fun x0 x1 x2 H => (qar _ _ _ _ _).trans (qw5 _ x0 x1 x2 H),
 fun x0 x1 x2 x3 x4 H => (qar _ _ _ _ _).trans (q6l _ x0 x1 x2 x3 x4 H),
 fun x0 x1 x2 x3 H => (qar _ _ _ _ _).trans (q2c _ x0 x1 x2 x3 H)⟩
theorem zi1 : qcy LAc LOc CZ := fun k => ⟨
 fun x0 x1 H => (qar _ _ _ _ _).trans (qul _ x0 x1 H),
 fun L l v H h => (cz_y _ _ _ _).trans (qua _ L l v H h),
 fun x0 H => (qar _ _ _ _ _).trans (zei _ x0 H),
 fun L l v H h => (cz_y _ _ _ _).trans (zbw _ L l v H h)⟩
set_option maxRecDepth 100000
theorem folZ : Try.prog.follows .mixedOrders = true := by kernel_rfl
theorem zdl : Yes Try.prog 15 := q5k folZ zdj zdm
theorem extZ : zcl Try.prog (qum [15]) := q7s (fun f hf => by obtain rfl := List.mem_singleton.1 hf; exact zdl) (by kernel_rfl)
theorem runZ {N : Int} {v : AV} {al : List AE} {H : Hp} (hv : IsA H v al) (z : Int) :
  Ok (CZ 2000 (.f 6) [.agg [.int .i64 N, v], .int .i64 z] H) fun r _ => r = .bool true := by
 have h : CZ 2000 (.f 6) [.agg [.int .i64 N, v], .int .i64 z] H = lwE (CZ 1999) (.agg [.int .i64 N, v]) (.int .i64 z) H :=
  (qar _ _ _ _ _).trans (q4q _ _ _ H)
 rw [h]
 exact quj links zi2 zi0 zi1 (k := 1999) (by omega) zec rfl hv
end Go.Di
end
