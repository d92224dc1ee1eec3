/-
  For countersignlaw17.CompsCondense: the law at all arguments, over the evaluator. No conditions beyond those that each theorem states.
-/
import Derived.Test.YtmdpdlnabcmlmaaLinkA
import Derived.Test.YtmdpdlnabcmlmaaLinkB
import Derived.Test.YtmdpdlnabcmlmaaLaw
import Derived.Test.YtmdpdlnabcmlmaaGraF
import Derived.Test.YtmdpdlnabcmlmaaLive
import Derived.Test.YtmdpdlnabcmlmaaEnt
set_option linter.unusedSimpArgs false
set_option linter.unusedVariables false
noncomputable section
/-
  The evaluator's calls, by number, are the direct functions.
-/
namespace Go.Di
open Go.Ev Go.Proofs
theorem q29 {P : Program} {ext : Ext} {f : FuncId} {args : List AV} {H : Hp} (h : ext f args H = none) (k : Nat) :
    callF P ext (k + 1) (.f f) args H = (funS P f).f (callF P ext k) args H := by
  show @Option.rec R1 (fun _ => R1) ((funF P f).f (callF P ext k) args H) (fun r => r) (ext f args H) = _
  rw [h, qyn]
theorem qyy {P : Program} {ext : Ext} {f : FuncId} {args : List AV} {H : Hp} {r : R1} (h : ext f args H = some r) (k : Nat) :
    callF P ext (k + 1) (.f f) args H = r := by
  show @Option.rec R1 (fun _ => R1) ((funF P f).f (callF P ext k) args H) (fun r => r) (ext f args H) = _
  rw [h]
theorem zfd {P : Program} {ext : Ext} {l : Nat} {args : List AV} {H : Hp} (k : Nat) :
    callF P ext (k + 1) (.y l) args H = qh7 P (callF P ext k) l args H := by
  show qub P (callF P ext k) l args H = _
  rw [qua]
attribute [local irreducible] Go.Ev.callF Go.Ev.funS Go.Ev.funF
def CZ (k : Nat) : Ev.Call := callF Try.prog (qpj [15]) k
theorem qa0 (k : Nat) (f : FuncId) (a : AV) (l : List AV) (H : Hp) : CZ (k + 1) (.f f) (a :: l) H = (funS Try.prog f).f (CZ k) (a :: l) H :=
  q29 (P := Try.prog) (ext := qpj [15]) (f := f) (args := a :: l) (H := H) rfl k
theorem cz_y (k l : Nat) (a : List AV) (H : Hp) : CZ (k + 1) (.y l) a H = qh7 Try.prog (CZ k) l a H := zfd k
theorem q71 (k : Nat) (H : Hp) : CZ (k + 1) (.f qc7) [] H = .ok (.bool true) H :=
  qyy (P := Try.prog) (ext := qpj [15]) (f := qc7) (args := []) (H := H) rfl k
theorem zbq (k : Nat) (H : Hp) (h : 1 ≤ k) : CZ k (.f qc7) [] H = .ok (.bool true) H := by
  have : k = (k - 1) + 1 := by omega
  rw [this]
  exact q71 _ H
theorem links : qcd CZ := fun k => ⟨
  fun x0 x1 H => (qa0 _ _ _ _ _).trans (q0i _ x0 x1 H),
  fun x0 H => (qa0 _ _ _ _ _).trans (q63 _ x0 H),
  fun x0 H => (qa0 _ _ _ _ _).trans (zau _ x0 H),
  fun x0 H => (qa0 _ _ _ _ _).trans (q8t _ x0 H),
  fun x0 H => (qa0 _ _ _ _ _).trans (q5m _ x0 H),
  fun x0 x1 H => (qa0 _ _ _ _ _).trans (zal _ x0 x1 H),
  fun x0 x1 H => (qa0 _ _ _ _ _).trans (q8i _ x0 x1 H),
  fun x0 H => (qa0 _ _ _ _ _).trans (q90 _ x0 H),
  fun x0 x1 H => (qa0 _ _ _ _ _).trans (q5i _ x0 x1 H),
  fun x0 H => (qa0 _ _ _ _ _).trans (q5k _ x0 H),
  fun x0 x1 x2 H => (qa0 _ _ _ _ _).trans (q8c _ x0 x1 x2 H),
  fun x0 x1 H => (qa0 _ _ _ _ _).trans (q4m _ x0 x1 H),
  fun x0 H => (qa0 _ _ _ _ _).trans (q1u _ x0 H),
  fun x0 H => (qa0 _ _ _ _ _).trans (q7c _ x0 H),
  fun x0 H => (qa0 _ _ _ _ _).trans (qy0 _ x0 H),
  fun x0 x1 H => (qa0 _ _ _ _ _).trans (q8k _ x0 x1 H),
  fun x0 H => (qa0 _ _ _ _ _).trans (q4q _ x0 H),
  fun x0 H => (qa0 _ _ _ _ _).trans (q1t _ x0 H),
  fun x0 x1 H => (qa0 _ _ _ _ _).trans (q38 _ x0 x1 H),
  fun x0 H => (qa0 _ _ _ _ _).trans (q1x _ x0 H),
  fun x0 H => (qa0 _ _ _ _ _).trans (q5g _ x0 H),
  fun x0 x1 x2 x3 H => (qa0 _ _ _ _ _).trans (q49 _ x0 x1 x2 x3 H),
  fun x0 x1 H => (qa0 _ _ _ _ _).trans (q4i _ x0 x1 H),
  fun x0 x1 H => (qa0 _ _ _ _ _).trans (q69 _ x0 x1 H),
  fun x0 x1 H => (qa0 _ _ _ _ _).trans (q3a _ x0 x1 H),
  fun x0 x1 H => (qa0 _ _ _ _ _).trans (q44 _ x0 x1 H),
  fun x0 x1 x2 x3 H => (qa0 _ _ _ _ _).trans (q42 _ x0 x1 x2 x3 H),
  fun x0 x1 H => (qa0 _ _ _ _ _).trans (q8v _ x0 x1 H),
  fun x0 H => (qa0 _ _ _ _ _).trans (q67 _ x0 H),
  fun x0 H => (qa0 _ _ _ _ _).trans (zby _ x0 H),
  fun x0 x1 H => (qa0 _ _ _ _ _).trans (qy8 _ x0 x1 H),
  fun x0 x1 H => (qa0 _ _ _ _ _).trans (qy7 _ x0 x1 H),
  fun x0 H => (qa0 _ _ _ _ _).trans (q8r _ x0 H),
  fun x0 x1 H => (qa0 _ _ _ _ _).trans (q4k _ x0 x1 H),
  fun x0 H => (qa0 _ _ _ _ _).trans (q4d _ x0 H),
  fun x0 H => (qa0 _ _ _ _ _).trans (q4f _ x0 H),
  fun x0 x1 H => (qa0 _ _ _ _ _).trans (q1s _ x0 x1 H),
  fun x0 H => (qa0 _ _ _ _ _).trans (q4o _ x0 H)⟩
theorem zgw : qde CZ := fun k => ⟨
  fun x0 x1 H => (qa0 _ _ _ _ _).trans (qmp _ x0 x1 H),
  fun x0 H => (qa0 _ _ _ _ _).trans (q1r _ x0 H),
  fun x0 x1 x2 x3 x4 H => (qa0 _ _ _ _ _).trans (q1p _ x0 x1 x2 x3 x4 H),
  fun x0 H => (qa0 _ _ _ _ _).trans (qut _ x0 H),
  fun x0 x1 x2 x3 H => (qa0 _ _ _ _ _).trans (q1q _ x0 x1 x2 x3 H)⟩
theorem zgy : qd2 CZ := fun k => ⟨
  fun x0 H => (qa0 _ _ _ _ _).trans (qx3 _ x0 H),
  fun x0 x1 x2 x3 H => (qa0 _ _ _ _ _).trans (q2a _ x0 x1 x2 x3 H),
  fun x0 x1 x2 H => (qa0 _ _ _ _ _).trans (q2b _ x0 x1 x2 H),
  fun x0 x1 H => (qa0 _ _ _ _ _).trans (qx1 _ x0 x1 H)⟩
theorem zgx : qd1 LAc LOc CZ := fun k => ⟨
  fun x0 x1 H => (qa0 _ _ _ _ _).trans (qpi _ x0 x1 H),
  fun L l v H h => (cz_y _ _ _ _).trans (qpc _ L l v H h),
  fun x0 H => (qa0 _ _ _ _ _).trans (zb0 _ x0 H),
  fun L l v H h => (cz_y _ _ _ _).trans (q8q _ L l v H h)⟩
set_option maxRecDepth 100000
theorem folZ : Try.prog.follows .mixedOrders = true := by kernel_rfl
theorem zan : Yes Try.prog 15 := q1d folZ zai zao
theorem extZ : q9e Try.prog (qpj [15]) := q3l (fun f hf => by obtain rfl := List.mem_singleton.1 hf; exact zan) (by kernel_rfl)
theorem runZ {N cnt : Nat} {v : AV} {H : Hp} (hv : Arg3 H v cnt) (z : Int) :
    Ok (CZ 2000 (.f 4) [.agg [.int .u8 (.ofNat N), v], .int .i64 z] H) fun r _ => r = .bool true := by
  have h : CZ 2000 (.f 4) [.agg [.int .u8 (.ofNat N), v], .int .i64 z] H = lwD (CZ 1999) (.agg [.int .u8 (.ofNat N), v]) (.int .i64 z) H :=
    (qa0 _ _ _ _ _).trans (q0i _ _ _ H)
  rw [h]
  exact qlo links zgy zgw zgx (k := 1999) (by omega) zbq rfl hv
end Go.Di
end
