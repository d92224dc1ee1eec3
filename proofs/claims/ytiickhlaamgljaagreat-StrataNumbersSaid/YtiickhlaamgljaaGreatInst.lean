/-
 For countersignlaw18.StrataNumbers: the law at all arguments, over the evaluator. No conditions beyond those that each theorem states.
-/
import Derived.Test.YtiickhlaamgljaaGreatLinkA
import Derived.Test.YtiickhlaamgljaaGreatLinkB
import Derived.Test.YtiickhlaamgljaaGreatLay
import Derived.Test.YtiickhlaamgljaaGreatLawB
import Derived.Test.YtiickhlaamgljaaGreatLive
import Derived.Test.YtiickhlaamgljaaGreatEnt
set_option linter.unusedSimpArgs false
set_option linter.unusedVariables false
noncomputable section
/-
 The evaluator's calls, by number, are the direct functions.
-/
namespace Go.Di
open Go.Ev Go.Proofs
theorem q3u {P : Program} {ext : Ext} {f : FuncId} {args : List AV} {H : Hp} (h : ext f args H = none) (k : Nat) :
  callF P ext (k + 1) (.f f) args H = (funS P f).f (callF P ext k) args H := by
 show @Option.rec R1 (fun _ => R1) ((funF P f).f (callF P ext k) args H) (fun r => r) (ext f args H) = _
 rw [h, qyo]
theorem qyy {P : Program} {ext : Ext} {f : FuncId} {args : List AV} {H : Hp} {r : R1} (h : ext f args H = some r) (k : Nat) :
  callF P ext (k + 1) (.f f) args H = r := by
 show @Option.rec R1 (fun _ => R1) ((funF P f).f (callF P ext k) args H) (fun r => r) (ext f args H) = _
 rw [h]
theorem zfx {P : Program} {ext : Ext} {l : Nat} {args : List AV} {H : Hp} (k : Nat) :
  callF P ext (k + 1) (.y l) args H = qh6 P (callF P ext k) l args H := by
 show qt8 P (callF P ext k) l args H = _
 rw [qt7]
attribute [local irreducible] Go.Ev.callF Go.Ev.funS Go.Ev.funF
def eZ : Ext := (qqy 99 100 (qwv 68 (q4b [14])))
def CZ (k : Nat) : Ev.Call := callF Tryz.prog eZ k
theorem qat (k : Nat) (f : FuncId) (l : List AV) (H : Hp) (h : eZ f l H = none) : CZ (k + 1) (.f f) l H = (funS Tryz.prog f).f (CZ k) l H :=
 q3u (P := Tryz.prog) (ext := eZ) (f := f) (args := l) (H := H) h k
theorem qhx (k : Nat) (f : FuncId) (l : List AV) (H : Hp) {r : R1} (h : eZ f l H = some r) : CZ (k + 1) (.f f) l H = r := qyy (P := Tryz.prog) (ext := eZ) (f := f) (args := l) (H := H) h k
theorem cz_y (k l : Nat) (a : List AV) (H : Hp) : CZ (k + 1) (.y l) a H = qh6 Tryz.prog (CZ k) l a H := zfx k
theorem zb9 (k : Nat) (H : Hp) (h : 1 ≤ k) : CZ k (.f qc9) [] H = .ok (.bool true) H := by
 have : k = (k - 1) + 1 := by omega
 rw [this]
 exact qhx _ _ _ _ rfl
theorem links : qa7 CZ := fun k => ⟨
 fun x0 H => (qat _ _ _ _ rfl).trans (q0o _ x0 H),
 fun x0 H => (qat _ _ _ _ rfl).trans (q7x _ x0 H),
 fun x0 H => (qat _ _ _ _ rfl).trans (zbj _ x0 H),
 fun x0 H => (qat _ _ _ _ rfl).trans (q59 _ x0 H),
 fun x0 H => (qat _ _ _ _ rfl).trans (q1y _ x0 H),
 fun x0 H => (qat _ _ _ _ rfl).trans (q1v _ x0 H),
 fun x0 x1 x2 x3 H => (qat _ _ _ _ rfl).trans (zbc _ x0 x1 x2 x3 H),
 fun x0 H => (qat _ _ _ _ rfl).trans (q53 _ x0 H),
 fun x0 x1 H => (qat _ _ _ _ rfl).trans (q6d _ x0 x1 H),
 fun x0 H => (qat _ _ _ _ rfl).trans (q6f _ x0 H),
 fun x0 H => (qat _ _ _ _ rfl).trans (q9l _ x0 H),
 fun x0 H => (qat _ _ _ _ rfl).trans (q1x _ x0 H),
 fun x0 H => (qat _ _ _ _ rfl).trans (q10 _ x0 H),
 fun x0 x1 H => (qat _ _ _ _ rfl).trans (q1w _ x0 x1 H),
 fun x0 x1 H => (qat _ _ _ _ rfl).trans (q5c _ x0 x1 H),
 fun x0 x1 x2 H => (qat _ _ _ _ rfl).trans (q75 _ x0 x1 x2 H),
 fun x0 H => (qat _ _ _ _ rfl).trans (q5j _ x0 H),
 fun x0 H => (qat _ _ _ _ rfl).trans (q2g _ x0 H),
 fun x0 x1 x2 H => (qat _ _ _ _ rfl).trans (q57 _ x0 x1 x2 H),
 fun x0 H => (qat _ _ _ _ rfl).trans (q6b _ x0 H),
 fun x0 x1 x2 x3 H => (qat _ _ _ _ rfl).trans (q55 _ x0 x1 x2 x3 H),
 fun x0 H => (qat _ _ _ _ rfl).trans (q8d _ x0 H),
 fun x0 H => (qat _ _ _ _ rfl).trans (qy0 _ x0 H),
 fun x0 x1 H => (qat _ _ _ _ rfl).trans (q9a _ x0 x1 H),
 fun x0 H => (qat _ _ _ _ rfl).trans (q2b _ x0 H),
 fun x0 x1 H => (qat _ _ _ _ rfl).trans (q77 _ x0 x1 H),
 fun x0 H => (qat _ _ _ _ rfl).trans (q9g _ x0 H),
 fun x0 x1 H => (qat _ _ _ _ rfl).trans (q71 _ x0 x1 H),
 fun x0 H => (qat _ _ _ _ rfl).trans (q48 _ x0 H),
 fun x0 x1 H => (qat _ _ _ _ rfl).trans (q8a _ x0 x1 H),
 fun x0 x1 H => (qat _ _ _ _ rfl).trans (q3v _ x0 x1 H),
 fun x0 x1 x2 x3 H => (qat _ _ _ _ rfl).trans (q5w _ x0 x1 x2 x3 H),
 fun x0 x1 H => (qat _ _ _ _ rfl).trans (q9n _ x0 x1 H),
 fun x0 H => (qat _ _ _ _ rfl).trans (q73 _ x0 H),
 fun x0 H => (qat _ _ _ _ rfl).trans (zcd _ x0 H),
 fun x0 x1 H => (qat _ _ _ _ rfl).trans (qzc _ x0 x1 H),
 fun x0 x1 H => (qat _ _ _ _ rfl).trans (qzb _ x0 x1 H),
 fun x0 H => (qat _ _ _ _ rfl).trans (q9j _ x0 H),
 fun x0 x1 H => (qat _ _ _ _ rfl).trans (q5f _ x0 x1 H),
 fun x0 H => (qat _ _ _ _ rfl).trans (q44 _ x0 H),
 fun x0 H => (qat _ _ _ _ rfl).trans (q46 _ x0 H),
 fun x0 x1 H => (qat _ _ _ _ rfl).trans (q2a _ x0 x1 H),
 fun x0 H => (qat _ _ _ _ rfl).trans (q5h _ x0 H)⟩
theorem zhj : qce CZ := fun k => ⟨fun b o n m x H r h => qhx _ _ _ _ (by
  show (bif Nat.beq n 0 then some (.ok (.tup []) H) else qk9 H b o n) = _
  cases n with
  | zero =>
   exfalso
   unfold qk9 at h
   split at h
   ·rename_i l hl
    obtain ⟨_, _, _, _, _, _, _, hll, _⟩ := qj6 hl
    obtain rfl := List.length_eq_zero_iff.1 hll
    split at h
    ·rename_i zs hz
     cases hz
     split at h
     ·rename_i hk; exact absurd hk.pos (Nat.lt_irrefl _)
     ·cases h
    ·cases h
   ·cases h
  | succ n => exact h), fun H => qhx _ _ _ _ rfl, fun b o m x H => qhx _ _ _ _ rfl⟩
theorem zhl : qcq CZ := fun k => ⟨
 fun x0 H => (qat _ _ _ _ rfl).trans (qo2 _ x0 H),
 fun b o n m x H r h => qhx _ _ _ _ h,
 fun H => qhx _ _ _ _ rfl⟩
theorem zhk : qco LAc LOc CZ := fun k => ⟨
 fun x0 x1 H => (qat _ _ _ _ rfl).trans (qo8 _ x0 x1 H),
 fun L l v H h => (cz_y _ _ _ _).trans (qoy _ L l v H h),
 fun x0 H => (qat _ _ _ _ rfl).trans (zcf _ x0 H),
 fun L l v H h => (cz_y _ _ _ _).trans (q9i _ L l v H h)⟩
set_option maxRecDepth 100000
theorem folZ : Tryz.prog.follows .mixedOrders = true := by kernel_rfl
theorem zbe : Yes Tryz.prog 14 := q1n folZ q0k zbf
theorem extZ : qo6 Tryz.prog eZ := qwu (q13 (q4a (fun f hf => by obtain rfl := List.mem_singleton.1 hf; exact zbe) (by kernel_rfl)) Tryz.sortCalls (qo0 folZ q0k zd7) (by kernel_rfl)) Tryz.sortFCalls Tryz.sortFNone (by kernel_rfl)
theorem runZ {N cnt : Nat} {v : AV} {H : Hp} (hv : Arg3 H v cnt) :
  Ok (CZ 2000 (.f 3) [.agg [.int .u8 (.ofNat N), v]] H) fun r _ => r = .bool true := by
 have h : CZ 2000 (.f 3) [.agg [.int .u8 (.ofNat N), v]] H = lwN (CZ 1999) (.agg [.int .u8 (.ofNat N), v]) H :=
  (qat _ _ _ _ rfl).trans (q0o _ _ H)
 rw [h]
 exact qlh links links zhl zhj zhk (k := 1999) (by omega) zb9 rfl hv
end Go.Di
end
