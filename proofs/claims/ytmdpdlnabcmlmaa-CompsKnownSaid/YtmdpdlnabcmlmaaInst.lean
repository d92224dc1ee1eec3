/-
 For countersignlaw17.CompsKnown: the law at all arguments, over the evaluator. No conditions beyond those that each theorem states.
-/
import Derived.Test.YtmdpdlnabcmlmaaLinkA
import Derived.Test.YtmdpdlnabcmlmaaLinkB
import Derived.Test.YtmdpdlnabcmlmaaLaw
import Derived.Test.YtmdpdlnabcmlmaaLive
import Derived.Test.YtmdpdlnabcmlmaaEv3
set_option linter.unusedSimpArgs false
set_option linter.unusedVariables false
noncomputable section
/-
 The evaluator's calls, by number, are the direct functions.
-/
namespace Go.Di
open Go.Ev Go.Proofs
theorem qve {P : Program} {ext : Ext} {f : FuncId} {args : List AV} {H : Hp} (h : ext f args H = none) (k : Nat) :
  callF P ext (k + 1) (.f f) args H = (funS P f).f (callF P ext k) args H := by
 show @Option.rec R1 (fun _ => R1) ((funF P f).f (callF P ext k) args H) (fun r => r) (ext f args H) = _
 rw [h, q25]
theorem q3d {P : Program} {ext : Ext} {f : FuncId} {args : List AV} {H : Hp} {r : R1} (h : ext f args H = some r) (k : Nat) :
  callF P ext (k + 1) (.f f) args H = r := by
 show @Option.rec R1 (fun _ => R1) ((funF P f).f (callF P ext k) args H) (fun r => r) (ext f args H) = _
 rw [h]
theorem zhv {P : Program} {ext : Ext} {l : Nat} {args : List AV} {H : Hp} (k : Nat) :
  callF P ext (k + 1) (.y l) args H = qj2 P (callF P ext k) l args H := by
 show qyr P (callF P ext k) l args H = _
 rw [qyq]
attribute [local irreducible] Go.Ev.callF Go.Ev.funS Go.Ev.funF
def CZ (k : Nat) : Ev.Call := callF Try.prog (qpc [15]) k
theorem qat (k : Nat) (f : FuncId) (a : AV) (l : List AV) (H : Hp) : CZ (k + 1) (.f f) (a :: l) H = (funS Try.prog f).f (CZ k) (a :: l) H :=
 qve (P := Try.prog) (ext := qpc [15]) (f := f) (args := a :: l) (H := H) rfl k
theorem cz_y (k l : Nat) (a : List AV) (H : Hp) : CZ (k + 1) (.y l) a H = qj2 Try.prog (CZ k) l a H := zhv k
theorem zbu (k : Nat) (H : Hp) : CZ (k + 1) (.f qcm) [] H = .ok (.bool true) H :=
 q3d (P := Try.prog) (ext := qpc [15]) (f := qcm) (args := []) (H := H) rfl k
theorem zev (k : Nat) (H : Hp) (h : 1 ≤ k) : CZ k (.f qcm) [] H = .ok (.bool true) H := by
 have : k = (k - 1) + 1 := by omega
 rw [this]
 exact zbu _ H
theorem q5h (k : Nat) (H : Hp) : CZ (k + 1) (.f qz1) [] H = (funS Try.prog qz1).f (CZ k) [] H :=
 qve (P := Try.prog) (ext := qpc [15]) (f := qz1) (args := []) (H := H) rfl k
theorem links : qbt CZ := fun k => ⟨
 fun H => (q5h _ _).trans (q4y _ H),
 fun x0 H => (qat _ _ _ _ _).trans (zb5 _ x0 H),
 fun x0 H => (qat _ _ _ _ _).trans (zce _ x0 H),
 fun x0 x1 x2 x3 H => (qat _ _ _ _ _).trans (zd0 _ x0 x1 x2 x3 H),
 fun x0 x1 x2 H => (qat _ _ _ _ _).trans (zdz _ x0 x1 x2 H),
 fun x0 H => (qat _ _ _ _ _).trans (za8 _ x0 H),
 fun x0 H => (qat _ _ _ _ _).trans (q3f _ x0 H),
 fun x0 x1 H => (qat _ _ _ _ _).trans (zb3 _ x0 x1 H),
 fun x0 H => (qat _ _ _ _ _).trans (q83 _ x0 H),
 fun x0 H => (qat _ _ _ _ _).trans (q59 _ x0 H),
 fun x0 H => (qat _ _ _ _ _).trans (q84 _ x0 H),
 fun x0 x1 H => (qat _ _ _ _ _).trans (za5 _ x0 x1 H),
 fun x0 x1 H => (qat _ _ _ _ _).trans (q7s _ x0 x1 H),
 fun x0 x1 H => (qat _ _ _ _ _).trans (q9h _ x0 x1 H),
 fun x0 x1 x2 x3 H => (qat _ _ _ _ _).trans (q9f _ x0 x1 x2 x3 H),
 fun x0 x1 H => (qat _ _ _ _ _).trans (q80 _ x0 x1 H),
 fun x0 x1 H => (qat _ _ _ _ _).trans (zcg _ x0 x1 H),
 fun x0 H => (qat _ _ _ _ _).trans (za3 _ x0 H),
 fun x0 H => (qat _ _ _ _ _).trans (ze0 _ x0 H),
 fun x0 x1 H => (qat _ _ _ _ _).trans (q3n _ x0 x1 H),
 fun x0 x1 H => (qat _ _ _ _ _).trans (q3m _ x0 x1 H),
 fun x0 H => (qat _ _ _ _ _).trans (zcc _ x0 H),
 fun x0 x1 H => (qat _ _ _ _ _).trans (q8y _ x0 x1 H),
 fun x0 H => (qat _ _ _ _ _).trans (q8t _ x0 H),
 fun x0 H => (qat _ _ _ _ _).trans (q8v _ x0 H),
 fun x0 x1 H => (qat _ _ _ _ _).trans (q58 _ x0 x1 H),
 fun x0 H => (qat _ _ _ _ _).trans (q81 _ x0 H)⟩
theorem zje : qbe CZ := fun k => ⟨
 fun x0 x1 H => (qat _ _ _ _ _).trans (qrg _ x0 x1 H),
 fun x0 H => (qat _ _ _ _ _).trans (q57 _ x0 H),
 fun x0 x1 x2 x3 x4 H => (qat _ _ _ _ _).trans (q53 _ x0 x1 x2 x3 x4 H),
 fun x0 H => (qat _ _ _ _ _).trans (qy4 _ x0 H),
 fun x0 H => (qat _ _ _ _ _).trans (qy3 _ x0 H),
 fun x0 x1 x2 x3 H => (qat _ _ _ _ _).trans (q55 _ x0 x1 x2 x3 H),
 fun x0 x1 x2 x3 H => (qat _ _ _ _ _).trans (q1b _ x0 x1 x2 x3 H),
 fun x0 x1 x2 x3 H => (qat _ _ _ _ _).trans (q56 _ x0 x1 x2 x3 H),
 fun x0 x1 x2 x3 H => (qat _ _ _ _ _).trans (q51 _ x0 x1 x2 x3 H),
 fun x0 x1 x2 x3 H => (qat _ _ _ _ _).trans (q50 _ x0 x1 x2 x3 H),
 fun x0 x1 x2 x3 H => (qat _ _ _ _ _).trans (q05 _ x0 x1 x2 x3 H),
 fun x0 x1 x2 x3 x4 H => (qat _ _ _ _ _).trans (q52 _ x0 x1 x2 x3 x4 H),
 fun x0 x1 x2 x3 x4 H => (qat _ _ _ _ _).trans (q07 _ x0 x1 x2 x3 x4 H),
 fun x0 H => (qat _ _ _ _ _).trans (q09 _ x0 H),
 fun x0 H => (qat _ _ _ _ _).trans (qt9 _ x0 H),
 fun x0 x1 x2 x3 x4 H => (qat _ _ _ _ _).trans (q02 _ x0 x1 x2 x3 x4 H),
 fun x0 x1 x2 x3 H => (qat _ _ _ _ _).trans (qv0 _ x0 x1 x2 x3 H),
 fun x0 x1 x2 x3 x4 x5 H => (qat _ _ _ _ _).trans (q54 _ x0 x1 x2 x3 x4 x5 H),
 fun x0 x1 x2 x3 x4 H => (qat _ _ _ _ _).trans (q08 _ x0 x1 x2 x3 x4 H)⟩
theorem zjg : qc7 CZ := fun k => ⟨
 fun x0 H => (qat _ _ _ _ _).trans (q19 _ x0 H),
 fun x0 H => (qat _ _ _ _ _).trans (qub _ x0 H),
 fun x0 x1 x2 x3 H => (qat _ _ _ _ _).trans (q6m _ x0 x1 x2 x3 H),
 fun x0 x1 x2 H => (qat _ _ _ _ _).trans (q6o _ x0 x1 x2 H),
 fun x0 x1 x2 H => (qat _ _ _ _ _).trans (q17 _ x0 x1 x2 H),
 fun x0 x1 x2 H => (qat _ _ _ _ _).trans (q6p _ x0 x1 x2 H),
 fun x0 x1 x2 H => (qat _ _ _ _ _).trans (q6k _ x0 x1 x2 H),
 fun x0 x1 x2 H => (qat _ _ _ _ _).trans (q6j _ x0 x1 x2 H),
 fun x0 x1 x2 H => (qat _ _ _ _ _).trans (q10 _ x0 x1 x2 H),
 fun x0 x1 H => (qat _ _ _ _ _).trans (q15 _ x0 x1 H),
 fun x0 x1 x2 x3 H => (qat _ _ _ _ _).trans (q6l _ x0 x1 x2 x3 H),
 fun x0 x1 x2 x3 H => (qat _ _ _ _ _).trans (q12 _ x0 x1 x2 x3 H),
 fun x0 x1 x2 x3 H => (qat _ _ _ _ _).trans (q1w _ x0 x1 x2 x3 H),
 fun x0 x1 x2 H => (qat _ _ _ _ _).trans (qw1 _ x0 x1 x2 H),
 fun x0 x1 x2 x3 x4 H => (qat _ _ _ _ _).trans (q6n _ x0 x1 x2 x3 x4 H),
 fun x0 x1 x2 x3 H => (qat _ _ _ _ _).trans (q13 _ x0 x1 x2 x3 H)⟩
theorem zjf : qc8 LAc LOc CZ := fun k => ⟨
 fun x0 x1 H => (qat _ _ _ _ _).trans (quf _ x0 x1 H),
 fun L l v H h => (cz_y _ _ _ _).trans (qt6 _ L l v H h),
 fun x0 H => (qat _ _ _ _ _).trans (ze2 _ x0 H),
 fun L l v H h => (cz_y _ _ _ _).trans (zcb _ L l v H h)⟩
set_option maxRecDepth 100000
theorem folZ : Try.prog.follows .mixedOrders = true := by kernel_rfl
theorem zd2 : Yes Try.prog 15 := qug folZ zdy zd3
theorem extZ : zcx Try.prog (qpc [15]) := q74 (fun f hf => by obtain rfl := List.mem_singleton.1 hf; exact zd2) (by kernel_rfl)
theorem runZ : Ok (CZ 2000 (.f 7) [] Hp.empty) fun r _ => r = .bool true := by
 have h : CZ 2000 (.f 7) [] Hp.empty = lwK (CZ 1999) Hp.empty := (q5h _ _).trans (q4y _ _)
 rw [h]
 exact qyn links zjg zje zjf (k := 1999) (by omega) zev rfl
theorem q3w : Yes Try.prog 7 := qug (k := 2000) folZ extZ (by
 obtain ⟨r, H', h, rfl⟩ := runZ
 have h : callF Try.prog (qpc [15]) 2000 (.f 7) [] Hp.empty = .ok (.bool true) H' := h
 rw [h]; rfl)
end Go.Di
end
