/-
 For countersignlaw18.StrataErrors: the law at all arguments, over the evaluator. No conditions beyond those that each theorem states.
-/
import Derived.Test.YtiickhlaamgljaaGreatLinkA
import Derived.Test.YtiickhlaamgljaaGreatLinkB
import Derived.Test.YtiickhlaamgljaaGreatLay
import Derived.Test.YtiickhlaamgljaaGreatLawB
import Derived.Test.YtiickhlaamgljaaGreatLive
import Derived.Test.YtiickhlaamgljaaGreatEnt
set_option linter.unusedSimpArgs false
set_option linter.unusedVariables false
noncomputable section
/-
 The evaluator's calls, by number, are the direct functions.
-/
namespace Go.Di
open Go.Ev Go.Proofs
theorem qzm {P : Program} {ext : Ext} {f : FuncId} {args : List AV} {H : Hp} (h : ext f args H = none) (k : Nat) :
  callF P ext (k + 1) (.f f) args H = (funS P f).f (callF P ext k) args H := by
 show @Option.rec R1 (fun _ => R1) ((funF P f).f (callF P ext k) args H) (fun r => r) (ext f args H) = _
 rw [h, qu8]
theorem qvg {P : Program} {ext : Ext} {f : FuncId} {args : List AV} {H : Hp} {r : R1} (h : ext f args H = some r) (k : Nat) :
  callF P ext (k + 1) (.f f) args H = r := by
 show @Option.rec R1 (fun _ => R1) ((funF P f).f (callF P ext k) args H) (fun r => r) (ext f args H) = _
 rw [h]
theorem zbd {P : Program} {ext : Ext} {l : Nat} {args : List AV} {H : Hp} (k : Nat) :
  callF P ext (k + 1) (.y l) args H = qg2 P (callF P ext k) l args H := by
 show qrr P (callF P ext k) l args H = _
 rw [qrq]
attribute [local irreducible] Go.Ev.callF Go.Ev.funS Go.Ev.funF
def eZ : Ext := (qo8 99 100 (qt4 68 (qz5 [14])))
def CZ (k : Nat) : Ev.Call := callF Tryz.prog eZ k
theorem qau (k : Nat) (f : FuncId) (l : List AV) (H : Hp) (h : eZ f l H = none) : CZ (k + 1) (.f f) l H = (funS Tryz.prog f).f (CZ k) l H :=
 qzm (P := Tryz.prog) (ext := eZ) (f := f) (args := l) (H := H) h k
theorem qgs (k : Nat) (f : FuncId) (l : List AV) (H : Hp) {r : R1} (h : eZ f l H = some r) : CZ (k + 1) (.f f) l H = r := qvg (P := Tryz.prog) (ext := eZ) (f := f) (args := l) (H := H) h k
theorem cz_y (k l : Nat) (a : List AV) (H : Hp) : CZ (k + 1) (.y l) a H = qg2 Tryz.prog (CZ k) l a H := zbd k
theorem q7u (k : Nat) (H : Hp) (h : 1 ≤ k) : CZ k (.f qb1) [] H = .ok (.bool true) H := by
 have : k = (k - 1) + 1 := by omega
 rw [this]
 exact qgs _ _ _ _ rfl
theorem links : qa9 CZ := fun k => ⟨
 fun x0 H => (qau _ _ _ _ rfl).trans (qw6 _ x0 H),
 fun x0 H => (qau _ _ _ _ rfl).trans (q3s _ x0 H),
 fun x0 H => (qau _ _ _ _ rfl).trans (qyb _ x0 H),
 fun x0 H => (qau _ _ _ _ rfl).trans (qx8 _ x0 H),
 fun x0 x1 x2 x3 H => (qau _ _ _ _ rfl).trans (q6x _ x0 x1 x2 x3 H),
 fun x0 x1 x2 H => (qau _ _ _ _ rfl).trans (q0v _ x0 x1 x2 H),
 fun x0 x1 H => (qau _ _ _ _ rfl).trans (q0s _ x0 x1 H),
 fun x0 H => (qau _ _ _ _ rfl).trans (qyc _ x0 H),
 fun x0 x1 H => (qau _ _ _ _ rfl).trans (q3q _ x0 x1 H),
 fun x0 H => (qau _ _ _ _ rfl).trans (q46 _ x0 H),
 fun x0 H => (qau _ _ _ _ rfl).trans (qya _ x0 H),
 fun x0 H => (qau _ _ _ _ rfl).trans (qyd _ x0 H),
 fun x0 x1 H => (qau _ _ _ _ rfl).trans (qx9 _ x0 x1 H),
 fun x0 x1 H => (qau _ _ _ _ rfl).trans (q1c _ x0 x1 H),
 fun x0 x1 x2 H => (qau _ _ _ _ rfl).trans (q3m _ x0 x1 x2 H),
 fun x0 H => (qau _ _ _ _ rfl).trans (q1i _ x0 H),
 fun x0 x1 H => (qau _ _ _ _ rfl).trans (q48 _ x0 x1 H),
 fun x0 H => (qau _ _ _ _ rfl).trans (q3k _ x0 H),
 fun x0 H => (qau _ _ _ _ rfl).trans (q7y _ x0 H),
 fun x0 H => (qau _ _ _ _ rfl).trans (qvi _ x0 H),
 fun x0 x1 H => (qau _ _ _ _ rfl).trans (q4u _ x0 x1 H),
 fun x0 H => (qau _ _ _ _ rfl).trans (qyj _ x0 H),
 fun x0 x1 H => (qau _ _ _ _ rfl).trans (q3o _ x0 x1 H),
 fun x0 H => (qau _ _ _ _ rfl).trans (q41 _ x0 H),
 fun x0 x1 H => (qau _ _ _ _ rfl).trans (q3i _ x0 x1 H),
 fun x0 H => (qau _ _ _ _ rfl).trans (q09 _ x0 H),
 fun x0 H => (qau _ _ _ _ rfl).trans (q44 _ x0 H),
 fun x0 x1 H => (qau _ _ _ _ rfl).trans (qzn _ x0 x1 H),
 fun x0 x1 x2 x3 H => (qau _ _ _ _ rfl).trans (q1t _ x0 x1 x2 x3 H),
 fun x0 x1 H => (qau _ _ _ _ rfl).trans (qvu _ x0 x1 H),
 fun x0 x1 H => (qau _ _ _ _ rfl).trans (qvt _ x0 x1 H),
 fun x0 x1 H => (qau _ _ _ _ rfl).trans (q1e _ x0 x1 H),
 fun x0 H => (qau _ _ _ _ rfl).trans (q05 _ x0 H),
 fun x0 H => (qau _ _ _ _ rfl).trans (q07 _ x0 H),
 fun x0 x1 H => (qau _ _ _ _ rfl).trans (qyi _ x0 x1 H),
 fun x0 H => (qau _ _ _ _ rfl).trans (q1g _ x0 H)⟩
theorem zc0 : qb6 CZ := fun k => ⟨fun b o n m x H r h => qgs _ _ _ _ (by
  show (bif Nat.beq n 0 then some (.ok (.tup []) H) else qjy H b o n) = _
  cases n with
  | zero =>
   exfalso
   unfold qjy at h
   split at h
   ·rename_i l hl
    obtain ⟨_, _, _, _, _, _, _, hll, _⟩ := qix hl
    obtain rfl := List.length_eq_zero_iff.1 hll
    split at h
    ·rename_i zs hz
     cases hz
     split at h
     ·rename_i hk; exact absurd hk.pos (Nat.lt_irrefl _)
     ·cases h
    ·cases h
   ·cases h
  | succ n => exact h), fun H => qgs _ _ _ _ rfl, fun b o m x H => qgs _ _ _ _ rfl⟩
theorem zc2 : qcg CZ := fun k => ⟨
 fun x0 H => (qau _ _ _ _ rfl).trans (qm9 _ x0 H),
 fun b o n m x H r h => qgs _ _ _ _ h,
 fun H => qgs _ _ _ _ rfl⟩
theorem zc1 : qbz LAc LOc CZ := fun k => ⟨
 fun x0 x1 H => (qau _ _ _ _ rfl).trans (qnf _ x0 x1 H),
 fun L l v H h => (cz_y _ _ _ _).trans (qm5 _ L l v H h),
 fun x0 H => (qau _ _ _ _ rfl).trans (q70 _ x0 H),
 fun L l v H h => (cz_y _ _ _ _).trans (q43 _ L l v H h)⟩
set_option maxRecDepth 100000
theorem folZ : Tryz.prog.follows .mixedOrders = true := by kernel_rfl
theorem q60 : Yes Tryz.prog 14 := qx1 folZ qw2 q61
theorem extZ : qnd Tryz.prog eZ := qt3 (qye (qz4 (fun f hf => by obtain rfl := List.mem_singleton.1 hf; exact q60) (by kernel_rfl)) Tryz.sortCalls (qm7 folZ qw2 q9o) (by kernel_rfl)) Tryz.sortFCalls Tryz.sortFNone (by kernel_rfl)
theorem runZ {N : Int} {v : AV} {al : List AE} {H : Hp} (hv : IsA H v al) :
  Ok (CZ 2000 (.f 6) [.agg [.int .i64 N, v]] H) fun r _ => r = .bool true := by
 have h : CZ 2000 (.f 6) [.agg [.int .i64 N, v]] H = lwR (CZ 1999) (.agg [.int .i64 N, v]) H :=
  (qau _ _ _ _ rfl).trans (qw6 _ _ H)
 rw [h]
 exact qm4 links links zc2 zc0 zc1 (k := 1999) (by omega) q7u rfl hv
end Go.Di
end
