/-
 For countersignlaw18.StrataKnown: the law at all arguments, over the evaluator. No conditions beyond those that each theorem states.
-/
import Derived.Test.YtiickhlaamgljaaGreatLinkA
import Derived.Test.YtiickhlaamgljaaGreatLinkB
import Derived.Test.YtiickhlaamgljaaGreatLay
import Derived.Test.YtiickhlaamgljaaGreatLawB
import Derived.Test.YtiickhlaamgljaaGreatRunA
import Derived.Test.YtiickhlaamgljaaGreatRunB
import Derived.Test.YtiickhlaamgljaaGreatRunC
import Derived.Test.YtiickhlaamgljaaGreatRoot
set_option linter.unusedSimpArgs false
set_option linter.unusedVariables false
noncomputable section
/-
 The evaluator's calls, by number, are the direct functions.
-/
namespace Go.Di
open Go.Ev Go.Proofs
theorem qx6 {P : Program} {ext : Ext} {f : FuncId} {args : List AV} {H : Hp} (h : ext f args H = none) (k : Nat) :
  callF P ext (k + 1) (.f f) args H = (funS P f).f (callF P ext k) args H := by
 show @Option.rec R1 (fun _ => R1) ((funF P f).f (callF P ext k) args H) (fun r => r) (ext f args H) = _
 rw [h, qtt]
theorem qt5 {P : Program} {ext : Ext} {f : FuncId} {args : List AV} {H : Hp} {r : R1} (h : ext f args H = some r) (k : Nat) :
  callF P ext (k + 1) (.f f) args H = r := by
 show @Option.rec R1 (fun _ => R1) ((funF P f).f (callF P ext k) args H) (fun r => r) (ext f args H) = _
 rw [h]
theorem q9a {P : Program} {ext : Ext} {l : Nat} {args : List AV} {H : Hp} (k : Nat) :
  callF P ext (k + 1) (.y l) args H = qgo P (callF P ext k) l args H := by
 show qqg P (callF P ext k) l args H = _
 rw [qqf]
attribute [local irreducible] Go.Ev.callF Go.Ev.funS Go.Ev.funF
def eZ : Ext := (qnx 99 100 (qsp 68 qxc))
def CZ (k : Nat) : Ev.Call := callF Tryz.prog eZ k
theorem qax (k : Nat) (f : FuncId) (l : List AV) (H : Hp) (h : eZ f l H = none) : CZ (k + 1) (.f f) l H = (funS Tryz.prog f).f (CZ k) l H :=
 qx6 (P := Tryz.prog) (ext := eZ) (f := f) (args := l) (H := H) h k
theorem qhy (k : Nat) (f : FuncId) (l : List AV) (H : Hp) {r : R1} (h : eZ f l H = some r) : CZ (k + 1) (.f f) l H = r := qt5 (P := Tryz.prog) (ext := eZ) (f := f) (args := l) (H := H) h k
theorem cz_y (k l : Nat) (a : List AV) (H : Hp) : CZ (k + 1) (.y l) a H = qgo Tryz.prog (CZ k) l a H := q9a k
theorem links : qbe CZ := fun k => ⟨
 fun x0 H => (qax _ _ _ _ rfl).trans (qwv _ x0 H),
 fun x0 H => (qax _ _ _ _ rfl).trans (qws _ x0 H),
 fun x0 H => (qax _ _ _ _ rfl).trans (q3b _ x0 H),
 fun x0 H => (qax _ _ _ _ rfl).trans (qwu _ x0 H),
 fun x0 H => (qax _ _ _ _ rfl).trans (qww _ x0 H),
 fun x0 x1 H => (qax _ _ _ _ rfl).trans (qwt _ x0 x1 H),
 fun x0 x1 H => (qax _ _ _ _ rfl).trans (qzi _ x0 x1 H),
 fun x0 x1 x2 H => (qax _ _ _ _ rfl).trans (q1j _ x0 x1 x2 H),
 fun x0 H => (qax _ _ _ _ rfl).trans (qzo _ x0 H),
 fun x0 H => (qax _ _ _ _ rfl).trans (q1q _ x0 H),
 fun x0 H => (qax _ _ _ _ rfl).trans (qt7 _ x0 H),
 fun x0 x1 H => (qax _ _ _ _ rfl).trans (q2x _ x0 x1 H),
 fun x0 H => (qax _ _ _ _ rfl).trans (qw2 _ x0 H),
 fun x0 x1 H => (qax _ _ _ _ rfl).trans (q1l _ x0 x1 H),
 fun x0 H => (qax _ _ _ _ rfl).trans (q26 _ x0 H),
 fun x0 x1 H => (qax _ _ _ _ rfl).trans (q1f _ x0 x1 H),
 fun x0 H => (qax _ _ _ _ rfl).trans (qzf _ x0 H),
 fun x0 x1 H => (qax _ _ _ _ rfl).trans (q1n _ x0 x1 H),
 fun x0 x1 H => (qax _ _ _ _ rfl).trans (qx7 _ x0 x1 H),
 fun x0 x1 x2 x3 H => (qax _ _ _ _ rfl).trans (qzy _ x0 x1 x2 x3 H),
 fun x0 x1 H => (qax _ _ _ _ rfl).trans (q3d _ x0 x1 H),
 fun x0 H => (qax _ _ _ _ rfl).trans (q1h _ x0 H),
 fun x0 H => (qax _ _ _ _ rfl).trans (q50 _ x0 H),
 fun x0 x1 H => (qax _ _ _ _ rfl).trans (quj _ x0 x1 H),
 fun x0 x1 H => (qax _ _ _ _ rfl).trans (qui _ x0 x1 H),
 fun x0 H => (qax _ _ _ _ rfl).trans (q29 _ x0 H),
 fun x0 x1 H => (qax _ _ _ _ rfl).trans (qzk _ x0 x1 H),
 fun x0 H => (qax _ _ _ _ rfl).trans (qzb _ x0 H),
 fun x0 H => (qax _ _ _ _ rfl).trans (qzd _ x0 H),
 fun x0 x1 H => (qax _ _ _ _ rfl).trans (qw1 _ x0 x1 H),
 fun x0 H => (qax _ _ _ _ rfl).trans (qzm _ x0 H)⟩
theorem q6q : qcb CZ := fun k => ⟨fun b o n m x H r h => qhy _ _ _ _ (by
  show (bif Nat.beq n 0 then some (.ok (.tup []) H) else qjf H b o n) = _
  cases n with
  | zero =>
   exfalso
   unfold qjf at h
   split at h
   ·rename_i l hl
    obtain ⟨_, _, _, _, _, _, _, hll, _⟩ := qie hl
    obtain rfl := List.length_eq_zero_iff.1 hll
    split at h
    ·rename_i zs hz
     cases hz
     split at h
     ·rename_i hk; exact absurd hk.pos (Nat.lt_irrefl _)
     ·cases h
    ·cases h
   ·cases h
  | succ n => exact h), fun H => qhy _ _ _ _ rfl, fun b o m x H => qhy _ _ _ _ rfl⟩
theorem q6s : qc0 CZ := fun k => ⟨
 fun x0 H => (qax _ _ _ _ rfl).trans (qmj _ x0 H),
 fun b o n m x H r h => qhy _ _ _ _ h,
 fun H => qhy _ _ _ _ rfl⟩
theorem q6r : qcc LAc LOc CZ := fun k => ⟨
 fun x0 x1 H => (qax _ _ _ _ rfl).trans (qmn _ x0 x1 H),
 fun L l v H h => (cz_y _ _ _ _).trans (qmf _ L l v H h),
 fun x0 H => (qax _ _ _ _ rfl).trans (q52 _ x0 H),
 fun L l v H h => (cz_y _ _ _ _).trans (q28 _ L l v H h)⟩
set_option maxRecDepth 100000
theorem folZ : Tryz.prog.follows .mixedOrders = true := by kernel_rfl
theorem extZ : qjp Tryz.prog eZ := qso (qwx qhp Tryz.sortCalls (qmh folZ qhp q7s) (by kernel_rfl)) Tryz.sortFCalls Tryz.sortFNone (by kernel_rfl)
theorem q6v {b nx : Nat} (h : b < nx) (es : List Edge) : IsE (qed [⟨b, qaa 3 (qej es)⟩] ⟨Hp.empty.t, nx⟩) (.sl b 0 es.length es.length false) es := by
 have hg : (qed [⟨b, qaa 3 (qej es)⟩] ⟨Hp.empty.t, nx⟩ : Hp).get b = qaa 3 (qej es) := (Hp.get_put _ _ _ _ inH inH).trans (if_pos rfl)
 refine ⟨rfl, rfl, fun c hc => ?_, fun i hi => ⟨b, 0 + i * 3, qfc _ _ _ _ _ _ _ _ hi, h, ?_⟩⟩
 ·obtain ⟨_, _, _, _, h'⟩ := hc; cases h'; exact h
 ·rw [hg, qcv, if_pos (by rw [qxv]; omega), Nat.zero_add, qly]
theorem kn0 : KnOk Tryz.prog e0 := by
 refine q0y (n := 256) (N := 161447) (l := dnN) (k := 2000) folZ extZ rfl (by show 1024 ≤ 161447; omega) (by show 161447 < 230298; omega) (fun p hp => ?_) (by omega) ?_
 ·rcases List.mem_cons.1 hp with rfl | hp
  ·exact Or.inl rfl
  ·exact Or.inr (List.mem_singleton.1 hp)
 ·have hl : dnE.length = 255 := by simp [dnE]
  have hI := q6v (b := 1021) (nx := 1024) (by omega) dnE
  rw [hl] at hI
  have hI : IsE e0.hp (.sl 1021 0 255 255 false) dnE := hI
  refine Ok.mono (qyh (C := CZ) links links q6s q6q q6r (k := 2000) (by omega) zbz (Nat.le_refl _) (by rw [hl]; omega) hI) ?_
  rintro r H' ⟨_, hcase⟩
  rcases hcase with ⟨w, o, rfl, gw, cw, f, l, _⟩ | ⟨rfl, e, he, _, hr⟩
  ·obtain rfl := q5b f l zby zbx
   exact ⟨w, rfl, gw, cw⟩
  ·exact (dn_no he hr).elim
theorem kn1 : KnOk Tryz.prog e1 := by
 refine q0y (n := 256) (N := 320504) (l := rdN') (k := 2000) folZ extZ rfl (by show 230298 ≤ 320504; omega) (by show 320504 < 320505; omega) (fun p hp => ?_) (by omega) ?_
 ·rcases List.mem_cons.1 hp with rfl | hp
  ·exact Or.inl rfl
  ·exact Or.inr (List.mem_singleton.1 hp)
 ·have hl : rdE.length = 256 := by simp [rdE]
  have hI := q6v (b := 1023) (nx := 230298) (by omega) rdE
  rw [hl] at hI
  obtain ⟨ms, hM, hms⟩ := ex_ms zab (Nat.le_refl _)
  have hI : IsE e1.hp (.sl 1023 0 256 256 false) (qaj 256 ms) := by rw [hms]; exact hI
  have hl : (qaj 256 ms).length = 256 := by rw [hms]; exact hl
  refine Ok.mono (qyf (C := CZ) links links q6s q6q q6r (k := 2000) (by omega) hM (qyp hM (by omega)) (Nat.le_refl _) (by omega) hI) ?_
  rintro r H' ⟨_, hcase⟩
  rcases hcase with ⟨rfl, hw⟩ | ⟨w, s, rfl, gw, cw, _, hw⟩
  ·cases q6k hM.len hms hw
  ·cases q6k hM.len hms hw
   have h256 : rdN'.length = 256 := by simp [rdN']
   rw [h256] at gw cw
   exact ⟨w, rfl, gw, cw⟩
theorem knAll : ∀ e ∈ lAll, KnOk Tryz.prog e ∧ e.wf = true := by
 intro e he
 refine ⟨?_, List.all_eq_true.1 wfAll e he⟩
 simp only [lAll, List.mem_append] at he
 rcases he with ((h | h) | h) | h
 ·rcases List.mem_cons.1 h with rfl | h
  ·exact kn0
  ·obtain rfl := List.mem_singleton.1 h; exact kn1
 ·exact qla folZ qhp (List.all_eq_true.1 run1 e h)
 ·exact qla folZ qhp (List.all_eq_true.1 run2 e h)
 ·exact qla folZ qhp (List.all_eq_true.1 run3 e h)
theorem quv : Yes Tryz.prog 7 := qwl folZ (qvt knAll) q7w
end Go.Di
end
