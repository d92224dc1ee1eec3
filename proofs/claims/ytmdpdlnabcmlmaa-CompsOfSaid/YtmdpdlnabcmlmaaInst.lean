/-
  For countersignlaw17.CompsOf: the law at all arguments, over the evaluator. No conditions beyond those that each theorem states.
-/
import Derived.Test.YtmdpdlnabcmlmaaLinkA
import Derived.Test.YtmdpdlnabcmlmaaLinkB
import Derived.Test.YtmdpdlnabcmlmaaCompE
import Derived.Test.YtmdpdlnabcmlmaaGraF
import Derived.Test.YtmdpdlnabcmlmaaLive
import Derived.Test.YtmdpdlnabcmlmaaEnt
set_option linter.unusedSimpArgs false
set_option linter.unusedVariables false
section
/-
  The evaluator's calls, by number, are the direct functions.
-/
namespace Go.Di
open Go.Ev Go.Proofs
theorem callF_step {P : Program} {ext : Ext} {f : FuncId} {args : List AV} {H : Hp} (h : ext f args H = none) (k : Nat) :
    callF P ext (k + 1) (.f f) args H = (funS P f).f (callF P ext k) args H := by
  show @Option.rec R1 (fun _ => R1) ((funF P f).f (callF P ext k) args H) (fun r => r) (ext f args H) = _
  rw [h, funF_eq]
theorem callF_known {P : Program} {ext : Ext} {f : FuncId} {args : List AV} {H : Hp} {r : R1} (h : ext f args H = some r) (k : Nat) :
    callF P ext (k + 1) (.f f) args H = r := by
  show @Option.rec R1 (fun _ => R1) ((funF P f).f (callF P ext k) args H) (fun r => r) (ext f args H) = _
  rw [h]
theorem callF_y {P : Program} {ext : Ext} {l : Nat} {args : List AV} {H : Hp} (k : Nat) :
    callF P ext (k + 1) (.y l) args H = yieldS P (callF P ext k) l args H := by
  show yieldF P (callF P ext k) l args H = _
  rw [yieldF_eq]
attribute [local irreducible] Go.Ev.callF Go.Ev.funS Go.Ev.funF
noncomputable def CZ (k : Nat) : Ev.Call := callF Try.prog (yesExt [15]) k
theorem cz_step (k : Nat) (f : FuncId) (a : AV) (l : List AV) (H : Hp) : CZ (k + 1) (.f f) (a :: l) H = (funS Try.prog f).f (CZ k) (a :: l) H :=
  callF_step (P := Try.prog) (ext := yesExt [15]) (f := f) (args := a :: l) (H := H) rfl k
theorem cz_y (k l : Nat) (a : List AV) (H : Hp) : CZ (k + 1) (.y l) a H = yieldS Try.prog (CZ k) l a H := callF_y k
theorem cz_lives1 (k : Nat) (H : Hp) : CZ (k + 1) (.f id_law17_lives) [] H = .ok (.bool true) H :=
  callF_known (P := Try.prog) (ext := yesExt [15]) (f := id_law17_lives) (args := []) (H := H) rfl k
theorem cz_lives (k : Nat) (H : Hp) (h : 1 ≤ k) : CZ k (.f id_law17_lives) [] H = .ok (.bool true) H := by
  have : k = (k - 1) + 1 := by omega
  rw [this]
  exact cz_lives1 _ H
theorem links : Links CZ := fun k => ⟨
  fun x0 H => (cz_step _ _ _ _ _).trans (lwC_link _ x0 H),
  fun x0 H => (cz_step _ _ _ _ _).trans (hMat_link _ x0 H),
  fun x0 H => (cz_step _ _ _ _ _).trans (lGr_link _ x0 H),
  fun x0 H => (cz_step _ _ _ _ _).trans (rOf_link _ x0 H),
  fun x0 x1 x2 H => (cz_step _ _ _ _ _).trans (lwS_link _ x0 x1 x2 H),
  fun x0 H => (cz_step _ _ _ _ _).trans (cOrd_link _ x0 H),
  fun x0 x1 x2 x3 H => (cz_step _ _ _ _ _).trans (lwL_link _ x0 x1 x2 x3 H),
  fun x0 x1 H => (cz_step _ _ _ _ _).trans (rMat_link _ x0 x1 H),
  fun x0 H => (cz_step _ _ _ _ _).trans (rEdg_link _ x0 H),
  fun x0 H => (cz_step _ _ _ _ _).trans (gChk_link _ x0 H),
  fun x0 H => (cz_step _ _ _ _ _).trans (cParts_link _ x0 H),
  fun x0 x1 H => (cz_step _ _ _ _ _).trans (cRdy_link _ x0 x1 H),
  fun x0 H => (cz_step _ _ _ _ _).trans (sClp_link _ x0 H),
  fun x0 H => (cz_step _ _ _ _ _).trans (sClpS_link _ x0 H),
  fun x0 H => (cz_step _ _ _ _ _).trans (rDist_link _ x0 H),
  fun x0 H => (cz_step _ _ _ _ _).trans (sCat_link _ x0 H),
  fun x0 H => (cz_step _ _ _ _ _).trans (rNew_link _ x0 H),
  fun x0 x1 x2 x3 H => (cz_step _ _ _ _ _).trans (rPut_link _ x0 x1 x2 x3 H),
  fun x0 x1 H => (cz_step _ _ _ _ _).trans (gCmp_link _ x0 x1 H),
  fun x0 x1 H => (cz_step _ _ _ _ _).trans (cWalk_link _ x0 x1 H),
  fun x0 x1 H => (cz_step _ _ _ _ _).trans (rdyA_link _ x0 x1 H),
  fun x0 x1 x2 x3 H => (cz_step _ _ _ _ _).trans (rdyB_link _ x0 x1 x2 x3 H),
  fun x0 x1 H => (cz_step _ _ _ _ _).trans (sGrw_link _ x0 x1 H),
  fun x0 x1 H => (cz_step _ _ _ _ _).trans (cCmp_link _ x0 x1 H),
  fun x0 H => (cz_step _ _ _ _ _).trans (gSgn_link _ x0 H),
  fun x0 H => (cz_step _ _ _ _ _).trans (cOr_link _ x0 H),
  fun x0 x1 H => (cz_step _ _ _ _ _).trans (cEnter_link _ x0 x1 H),
  fun x0 x1 H => (cz_step _ _ _ _ _).trans (cLeave_link _ x0 x1 H),
  fun x0 H => (cz_step _ _ _ _ _).trans (cNaN_link _ x0 H),
  fun x0 x1 H => (cz_step _ _ _ _ _).trans (sIdx_link _ x0 x1 H),
  fun x0 H => (cz_step _ _ _ _ _).trans (sVal_link _ x0 H),
  fun x0 H => (cz_step _ _ _ _ _).trans (sSrt_link _ x0 H),
  fun x0 x1 H => (cz_step _ _ _ _ _).trans (sValA_link _ x0 x1 H),
  fun x0 H => (cz_step _ _ _ _ _).trans (sCol_link _ x0 H)⟩
theorem linksS : LinksS CZ := fun k => ⟨
  fun x0 x1 H => (cz_step _ _ _ _ _).trans (s_SortFunc_link _ x0 x1 H),
  fun x0 H => (cz_step _ _ _ _ _).trans (s_Len_link _ x0 H),
  fun x0 x1 x2 x3 x4 H => (cz_step _ _ _ _ _).trans (s_pdq_link _ x0 x1 x2 x3 x4 H),
  fun x0 H => (cz_step _ _ _ _ _).trans (s_Len64_link _ x0 H),
  fun x0 x1 x2 x3 H => (cz_step _ _ _ _ _).trans (s_ins_link _ x0 x1 x2 x3 H)⟩
theorem linksO : LinksO CZ := fun k => ⟨
  fun x0 H => (cz_step _ _ _ _ _).trans (o_Sort_link _ x0 H),
  fun x0 x1 x2 x3 H => (cz_step _ _ _ _ _).trans (o_pdq_link _ x0 x1 x2 x3 H),
  fun x0 x1 x2 H => (cz_step _ _ _ _ _).trans (o_ins_link _ x0 x1 x2 H),
  fun x0 x1 H => (cz_step _ _ _ _ _).trans (o_less_link _ x0 x1 H)⟩
theorem linksR : LinksR LAc LOc CZ := fun k => ⟨
  fun x0 x1 H => (cz_step _ _ _ _ _).trans (AppendSeq_link _ x0 x1 H),
  fun L l v H h => (cz_y _ _ _ _).trans (AppendSeq_ylink _ L l v H h),
  fun x0 H => (cz_step _ _ _ _ _).trans (cOf_link _ x0 H),
  fun L l v H h => (cz_y _ _ _ _).trans (cOf_ylink _ L l v H h)⟩
set_option maxRecDepth 100000
theorem folZ : Try.prog.follows .mixedOrders = true := by kernel_rfl
theorem livesYes : Yes Try.prog 15 := yes_of_run folZ noExt_ok livesRun
theorem extZ : ExtOk Try.prog (yesExt [15]) := yesExt_ok (fun f hf => by obtain rfl := List.mem_singleton.1 hf; exact livesYes) (by kernel_rfl)
theorem runZ {N cnt : Nat} {v : AV} {H : Hp} (hv : Arg3 H v cnt) :
    Ok (CZ 2000 (.f 3) [.agg [.int .u8 (.ofNat N), v]] H) fun r _ => r = .bool true := by
  have h : CZ 2000 (.f 3) [.agg [.int .u8 (.ofNat N), v]] H = lwC (CZ 1999) (.agg [.int .u8 (.ofNat N), v]) H :=
    (cz_step _ _ _ _ _).trans (lwC_link _ _ H)
  rw [h]
  exact CompsOf_ok links linksO linksS linksR (k := 1999) (by omega) cz_lives rfl hv
end Go.Di
end
