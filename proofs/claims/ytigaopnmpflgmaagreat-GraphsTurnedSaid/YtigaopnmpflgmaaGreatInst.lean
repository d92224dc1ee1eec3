/-
  For countersignlaw16.GraphsTurned: the law at all arguments, over the evaluator. No conditions beyond those that each theorem states.
-/
import Derived.Test.YtigaopnmpflgmaaGreatLinkA
import Derived.Test.YtigaopnmpflgmaaGreatLinkB
import Derived.Test.YtigaopnmpflgmaaGreatLinkC
import Derived.Test.YtigaopnmpflgmaaGreatLinkD
import Derived.Test.YtigaopnmpflgmaaGreatTurn
import Derived.Test.YtigaopnmpflgmaaGreatGraF
import Derived.Test.YtigaopnmpflgmaaGreatLive
import Derived.Test.YtigaopnmpflgmaaGreatEnt
set_option linter.unusedSimpArgs false
set_option linter.unusedVariables false
section
/-
  The evaluator's calls, by number, are the direct functions; turned graphs.
-/
namespace Go.Di
open Go.Ev Go.Proofs
theorem callF_step {P : Program} {ext : Ext} {f : FuncId} {args : List AV} {H : Hp} (h : ext f args H = none) (k : Nat) :
    callF P ext (k + 1) (.f f) args H = (funS P f).f (callF P ext k) args H := by
  show @Option.rec R1 (fun _ => R1) ((funF P f).f (callF P ext k) args H) (fun r => r) (ext f args H) = _
  rw [h, funF_eq]
theorem callF_known {P : Program} {ext : Ext} {f : FuncId} {args : List AV} {H : Hp} {r : R1} (h : ext f args H = some r) (k : Nat) :
    callF P ext (k + 1) (.f f) args H = r := by
  show @Option.rec R1 (fun _ => R1) ((funF P f).f (callF P ext k) args H) (fun r => r) (ext f args H) = _
  rw [h]
attribute [local irreducible] Go.Ev.callF Go.Ev.funS Go.Ev.funF
noncomputable def CZ (k : Nat) : Ev.Call := callF Tryz.prog (yesExt [12]) k
theorem cz_step (k : Nat) (f : FuncId) (a : AV) (l : List AV) (H : Hp) : CZ (k + 1) (.f f) (a :: l) H = (funS Tryz.prog f).f (CZ k) (a :: l) H :=
  callF_step (P := Tryz.prog) (ext := yesExt [12]) (f := f) (args := a :: l) (H := H) rfl k
theorem cz_lives1 (k : Nat) (H : Hp) : CZ (k + 1) (.f id_law16_lives) [] H = .ok (.bool true) H :=
  callF_known (P := Tryz.prog) (ext := yesExt [12]) (f := id_law16_lives) (args := []) (H := H) rfl k
theorem cz_lives (k : Nat) (H : Hp) (h : 1 ≤ k) : CZ k (.f id_law16_lives) [] H = .ok (.bool true) H := by
  have : k = (k - 1) + 1 := by omega
  rw [this]
  exact cz_lives1 _ H
theorem links : Links CZ := fun k => ⟨
  fun x0 H => (cz_step _ _ _ _ _).trans (law16_H_Matrix_link _ x0 H),
  fun x0 H => (cz_step _ _ _ _ _).trans (law16_Graph_link _ x0 H),
  fun x0 H => (cz_step _ _ _ _ _).trans (ref16_Distance_link _ x0 H),
  fun x0 x1 x2 H => (cz_step _ _ _ _ _).trans (graphs_Path_link _ x0 x1 x2 H),
  fun x0 x1 x2 H => (cz_step _ _ _ _ _).trans (ref16_Path_link _ x0 x1 x2 H),
  fun x0 x1 x2 x3 H => (cz_step _ _ _ _ _).trans (law16_list_link _ x0 x1 x2 x3 H),
  fun x0 x1 H => (cz_step _ _ _ _ _).trans (graphs_Reach_link _ x0 x1 H),
  fun x0 x1 H => (cz_step _ _ _ _ _).trans (ref16_Matrix_link _ x0 x1 H),
  fun x0 H => (cz_step _ _ _ _ _).trans (ref16_Edges_link _ x0 H),
  fun x0 x1 H => (cz_step _ _ _ _ _).trans (graphs_of_link _ x0 x1 H),
  fun x0 H => (cz_step _ _ _ _ _).trans (cmp_Or_api_Errno_link _ x0 H),
  fun x0 x1 H => (cz_step _ _ _ _ _).trans (graphs_walk_link _ x0 x1 H),
  fun x0 H => (cz_step _ _ _ _ _).trans (slices_Reverse_int_int_link _ x0 H),
  fun x0 H => (cz_step _ _ _ _ _).trans (slices_Clip_int_int_link _ x0 H),
  fun x0 H => (cz_step _ _ _ _ _).trans (graphs_Check_link _ x0 H),
  fun x0 H => (cz_step _ _ _ _ _).trans (ref16_New_link _ x0 H),
  fun x0 x1 x2 x3 H => (cz_step _ _ _ _ _).trans (ref16_put_link _ x0 x1 x2 x3 H),
  fun x0 x1 H => (cz_step _ _ _ _ _).trans (graphs_compare_link _ x0 x1 H),
  fun x0 x1 H => (cz_step _ _ _ _ _).trans (cmp_Compare_int_link _ x0 x1 H),
  fun x0 H => (cz_step _ _ _ _ _).trans (graphs_sign_link _ x0 H),
  fun x0 H => (cz_step _ _ _ _ _).trans (cmp_Or_int_link _ x0 H),
  fun x0 H => (cz_step _ _ _ _ _).trans (cmp_isNaN_int_link _ x0 H)⟩
theorem linksS : LinksS CZ := fun k => ⟨
  fun x0 x1 H => (cz_step _ _ _ _ _).trans (law16_GraphsTurned_link _ x0 x1 H),
  fun x0 H => (cz_step _ _ _ _ _).trans (graphs_Turned_link _ x0 H),
  fun x0 x1 H => (cz_step _ _ _ _ _).trans (law16_edges_link _ x0 x1 H),
  fun x0 x1 H => (cz_step _ _ _ _ _).trans (graphs_Out_link _ x0 x1 H),
  fun x0 x1 H => (cz_step _ _ _ _ _).trans (graphs_In_link _ x0 x1 H),
  fun x0 H => (cz_step _ _ _ _ _).trans (graphs_ordered_link _ x0 H),
  fun x0 H => (cz_step _ _ _ _ _).trans (s_ClipE_link _ x0 H),
  fun x0 x1 H => (cz_step _ _ _ _ _).trans (s_SortFunc_link _ x0 x1 H),
  fun x0 H => (cz_step _ _ _ _ _).trans (s_Compact_link _ x0 H),
  fun x0 H => (cz_step _ _ _ _ _).trans (s_Len_link _ x0 H),
  fun x0 x1 x2 x3 x4 H => (cz_step _ _ _ _ _).trans (s_pdq_link _ x0 x1 x2 x3 x4 H),
  fun x0 H => (cz_step _ _ _ _ _).trans (s_Len32_link _ x0 H),
  fun x0 H => (cz_step _ _ _ _ _).trans (s_Len64_link _ x0 H),
  fun x0 x1 x2 x3 H => (cz_step _ _ _ _ _).trans (s_ins_link _ x0 x1 x2 x3 H),
  fun x0 x1 x2 x3 H => (cz_step _ _ _ _ _).trans (s_heap_link _ x0 x1 x2 x3 H),
  fun x0 x1 x2 x3 H => (cz_step _ _ _ _ _).trans (s_brk_link _ x0 x1 x2 x3 H),
  fun x0 x1 x2 x3 H => (cz_step _ _ _ _ _).trans (s_piv_link _ x0 x1 x2 x3 H),
  fun x0 x1 x2 x3 H => (cz_step _ _ _ _ _).trans (s_rev_link _ x0 x1 x2 x3 H),
  fun x0 x1 x2 x3 H => (cz_step _ _ _ _ _).trans (s_pins_link _ x0 x1 x2 x3 H),
  fun x0 x1 x2 x3 x4 H => (cz_step _ _ _ _ _).trans (s_peq_link _ x0 x1 x2 x3 x4 H),
  fun x0 x1 x2 x3 x4 H => (cz_step _ _ _ _ _).trans (s_part_link _ x0 x1 x2 x3 x4 H),
  fun x0 x1 x2 x3 x4 H => (cz_step _ _ _ _ _).trans (s_sift_link _ x0 x1 x2 x3 x4 H),
  fun x0 H => (cz_step _ _ _ _ _).trans (s_npow_link _ x0 H),
  fun x0 H => (cz_step _ _ _ _ _).trans (s_xorNext_link _ x0 H),
  fun x0 x1 x2 x3 H => (cz_step _ _ _ _ _).trans (s_medadj_link _ x0 x1 x2 x3 H),
  fun x0 x1 x2 x3 x4 x5 H => (cz_step _ _ _ _ _).trans (s_med_link _ x0 x1 x2 x3 x4 x5 H),
  fun x0 x1 x2 x3 x4 H => (cz_step _ _ _ _ _).trans (s_ord2_link _ x0 x1 x2 x3 x4 H)⟩
set_option maxRecDepth 100000
theorem folZ : Tryz.prog.follows .mixedOrders = true := by kernel_rfl
theorem livesYes : Yes Tryz.prog 12 := yes_of_run folZ noExt_ok livesRun
theorem extZ : ExtOk Tryz.prog (yesExt [12]) := yesExt_ok (fun f hf => by obtain rfl := List.mem_singleton.1 hf; exact livesYes) (by kernel_rfl)
theorem runTurned {N cnt : Nat} {v : AV} {H : Hp} (hv : Arg3 H v cnt) (x : Int) :
    Ok (CZ 2000 (.f 5) [.agg [.int .u8 (.ofNat N), v], .int .i64 x] H) fun r _ => r = .bool true := by
  have h : CZ 2000 (.f 5) [.agg [.int .u8 (.ofNat N), v], .int .i64 x] H = law16_GraphsTurned (CZ 1999) (.agg [.int .u8 (.ofNat N), v]) (.int .i64 x) H :=
    (cz_step _ _ _ _ _).trans (law16_GraphsTurned_link _ _ _ H)
  rw [h]
  exact GraphsTurned_ok links linksS (k := 1999) (by omega) cz_lives rfl (fun _ _ h hn => ⟨edges_ok _ _, edges_len _ hn⟩) hv x
end Go.Di
end
