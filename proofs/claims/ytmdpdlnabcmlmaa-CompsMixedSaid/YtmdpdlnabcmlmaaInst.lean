/-
 For countersignlaw17.CompsMixed: the law at all arguments, over the evaluator. No conditions beyond those that each theorem states.
-/
import Derived.Test.YtmdpdlnabcmlmaaLinkA
import Derived.Test.YtmdpdlnabcmlmaaLinkB
import Derived.Test.YtmdpdlnabcmlmaaLaw
import Derived.Test.YtmdpdlnabcmlmaaGraF
import Derived.Test.YtmdpdlnabcmlmaaLive
import Derived.Test.YtmdpdlnabcmlmaaEnt
set_option linter.unusedSimpArgs false
set_option linter.unusedVariables false
noncomputable section
/-
 The evaluator's calls, by number, are the direct functions.
-/
namespace Go.Di
open Go.Ev Go.Proofs
theorem q47 {P : Program} {ext : Ext} {f : FuncId} {args : List AV} {H : Hp} (h : ext f args H = none) (k : Nat) :
  callF P ext (k + 1) (.f f) args H = (funS P f).f (callF P ext k) args H := by
 show @Option.rec R1 (fun _ => R1) ((funF P f).f (callF P ext k) args H) (fun r => r) (ext f args H) = _
 rw [h, qz8]
theorem q0i {P : Program} {ext : Ext} {f : FuncId} {args : List AV} {H : Hp} {r : R1} (h : ext f args H = some r) (k : Nat) :
  callF P ext (k + 1) (.f f) args H = r := by
 show @Option.rec R1 (fun _ => R1) ((funF P f).f (callF P ext k) args H) (fun r => r) (ext f args H) = _
 rw [h]
theorem zgy {P : Program} {ext : Ext} {l : Nat} {args : List AV} {H : Hp} (k : Nat) :
  callF P ext (k + 1) (.y l) args H = qis P (callF P ext k) l args H := by
 show qvf P (callF P ext k) l args H = _
 rw [qve]
attribute [local irreducible] Go.Ev.callF Go.Ev.funS Go.Ev.funF
def CZ (k : Nat) : Ev.Call := callF Try.prog (qrg [15]) k
theorem qau (k : Nat) (f : FuncId) (a : AV) (l : List AV) (H : Hp) : CZ (k + 1) (.f f) (a :: l) H = (funS Try.prog f).f (CZ k) (a :: l) H :=
 q47 (P := Try.prog) (ext := qrg [15]) (f := f) (args := a :: l) (H := H) rfl k
theorem cz_y (k l : Nat) (a : List AV) (H : Hp) : CZ (k + 1) (.y l) a H = qis Try.prog (CZ k) l a H := zgy k
theorem q9x (k : Nat) (H : Hp) : CZ (k + 1) (.f qck) [] H = .ok (.bool true) H :=
 q0i (P := Try.prog) (ext := qrg [15]) (f := qck) (args := []) (H := H) rfl k
theorem zc8 (k : Nat) (H : Hp) (h : 1 ≤ k) : CZ k (.f qck) [] H = .ok (.bool true) H := by
 have : k = (k - 1) + 1 := by omega
 rw [this]
 exact q9x _ H
theorem links : qbf CZ := fun k => ⟨
 fun x0 H => (qau _ _ _ _ _).trans (q2j _ x0 H),
 fun x0 H => (qau _ _ _ _ _).trans (q8y _ x0 H),
 fun x0 H => (qau _ _ _ _ _).trans (zce _ x0 H),
 fun x0 H => (qau _ _ _ _ _).trans (zai _ x0 H),
 fun x0 H => (qau _ _ _ _ _).trans (q7b _ x0 H),
 fun x0 x1 x2 x3 H => (qau _ _ _ _ _).trans (zb6 _ x0 x1 x2 x3 H),
 fun x0 H => (qau _ _ _ _ _).trans (q3x _ x0 H),
 fun x0 H => (qau _ _ _ _ _).trans (zbn _ x0 H),
 fun x0 x1 H => (qau _ _ _ _ _).trans (q7d _ x0 x1 H),
 fun x0 H => (qau _ _ _ _ _).trans (q7f _ x0 H),
 fun x0 H => (qau _ _ _ _ _).trans (q6k _ x0 H),
 fun x0 H => (qau _ _ _ _ _).trans (q69 _ x0 H),
 fun x0 x1 x2 x3 H => (qau _ _ _ _ _).trans (q63 _ x0 x1 x2 x3 H),
 fun x0 H => (qau _ _ _ _ _).trans (q87 _ x0 H),
 fun x0 H => (qau _ _ _ _ _).trans (q0k _ x0 H),
 fun x0 x1 H => (qau _ _ _ _ _).trans (q98 _ x0 x1 H),
 fun x0 H => (qau _ _ _ _ _).trans (q3u _ x0 H),
 fun x0 x1 H => (qau _ _ _ _ _).trans (q84 _ x0 x1 H),
 fun x0 x1 H => (qau _ _ _ _ _).trans (q48 _ x0 x1 H),
 fun x0 x1 H => (qau _ _ _ _ _).trans (q6x _ x0 x1 H),
 fun x0 x1 x2 x3 H => (qau _ _ _ _ _).trans (q6v _ x0 x1 x2 x3 H),
 fun x0 x1 H => (qau _ _ _ _ _).trans (zak _ x0 x1 H),
 fun x0 H => (qau _ _ _ _ _).trans (q82 _ x0 H),
 fun x0 H => (qau _ _ _ _ _).trans (zdb _ x0 H),
 fun x0 x1 H => (qau _ _ _ _ _).trans (q0t _ x0 x1 H),
 fun x0 x1 H => (qau _ _ _ _ _).trans (q0s _ x0 x1 H),
 fun x0 H => (qau _ _ _ _ _).trans (zaf _ x0 H),
 fun x0 x1 H => (qau _ _ _ _ _).trans (q6g _ x0 x1 H),
 fun x0 H => (qau _ _ _ _ _).trans (q6b _ x0 H),
 fun x0 H => (qau _ _ _ _ _).trans (q6d _ x0 H),
 fun x0 x1 H => (qau _ _ _ _ _).trans (q3t _ x0 x1 H),
 fun x0 H => (qau _ _ _ _ _).trans (q6i _ x0 H)⟩
theorem ziq : qb4 CZ := fun k => ⟨
 fun x0 H => (qau _ _ _ _ _).trans (q3s _ x0 H),
 fun x0 x1 H => (qau _ _ _ _ _).trans (qoe _ x0 x1 H),
 fun x0 H => (qau _ _ _ _ _).trans (qvw _ x0 H),
 fun x0 H => (qau _ _ _ _ _).trans (qvv _ x0 H),
 fun x0 x1 x2 x3 x4 H => (qau _ _ _ _ _).trans (q3q _ x0 x1 x2 x3 x4 H),
 fun x0 H => (qau _ _ _ _ _).trans (qxu _ x0 H),
 fun x0 H => (qau _ _ _ _ _).trans (qq8 _ x0 H),
 fun x0 x1 x2 x3 H => (qau _ _ _ _ _).trans (q3r _ x0 x1 x2 x3 H)⟩
theorem zis : qc7 CZ := fun k => ⟨
 fun x0 H => (qau _ _ _ _ _).trans (qzb _ x0 H),
 fun x0 H => (qau _ _ _ _ _).trans (qra _ x0 H),
 fun x0 x1 x2 x3 H => (qau _ _ _ _ _).trans (q4a _ x0 x1 x2 x3 H),
 fun x0 x1 x2 H => (qau _ _ _ _ _).trans (q4c _ x0 x1 x2 H),
 fun x0 x1 x2 H => (qau _ _ _ _ _).trans (qy9 _ x0 x1 x2 H),
 fun x0 x1 x2 H => (qau _ _ _ _ _).trans (q4d _ x0 x1 x2 H),
 fun x0 x1 x2 H => (qau _ _ _ _ _).trans (q38 _ x0 x1 x2 H),
 fun x0 x1 x2 H => (qau _ _ _ _ _).trans (q37 _ x0 x1 x2 H),
 fun x0 x1 x2 H => (qau _ _ _ _ _).trans (qy3 _ x0 x1 x2 H),
 fun x0 x1 H => (qau _ _ _ _ _).trans (qy8 _ x0 x1 H),
 fun x0 x1 x2 x3 H => (qau _ _ _ _ _).trans (q39 _ x0 x1 x2 x3 H),
 fun x0 x1 x2 x3 H => (qau _ _ _ _ _).trans (qy5 _ x0 x1 x2 x3 H),
 fun x0 x1 x2 x3 H => (qau _ _ _ _ _).trans (qy0 _ x0 x1 x2 x3 H),
 fun x0 x1 x2 H => (qau _ _ _ _ _).trans (qtr _ x0 x1 x2 H),
 fun x0 x1 x2 x3 x4 H => (qau _ _ _ _ _).trans (q4b _ x0 x1 x2 x3 x4 H),
 fun x0 x1 x2 x3 H => (qau _ _ _ _ _).trans (qy6 _ x0 x1 x2 x3 H)⟩
theorem zir : qdy LAc LOc CZ := fun k => ⟨
 fun x0 x1 H => (qau _ _ _ _ _).trans (qrf _ x0 x1 H),
 fun L l v H h => (cz_y _ _ _ _).trans (qq6 _ L l v H h),
 fun x0 H => (qau _ _ _ _ _).trans (zdd _ x0 H),
 fun L l v H h => (cz_y _ _ _ _).trans (zae _ L l v H h)⟩
set_option maxRecDepth 100000
theorem folZ : Try.prog.follows .mixedOrders = true := by kernel_rfl
theorem zb8 : Yes Try.prog 15 := q3g folZ zb2 zb9
theorem extZ : za2 Try.prog (qrg [15]) := q5l (fun f hf => by obtain rfl := List.mem_singleton.1 hf; exact zb8) (by kernel_rfl)
theorem runZ {N cnt : Nat} {v : AV} {H : Hp} (hv : Arg3 H v cnt) :
  Ok (CZ 2000 (.f 5) [.agg [.int .u8 (.ofNat N), v]] H) fun r _ => r = .bool true := by
 have h : CZ 2000 (.f 5) [.agg [.int .u8 (.ofNat N), v]] H = lwM (CZ 1999) (.agg [.int .u8 (.ofNat N), v]) H :=
  (qau _ _ _ _ _).trans (q2j _ _ H)
 rw [h]
 exact qvb links zis ziq zir (k := 1999) (by omega) zc8 rfl hv
end Go.Di
end
