/-
 For TablesEval: the law at all arguments, over the evaluator. No conditions beyond those that each theorem states.
-/
import Derived.Test.YtoknlffemngkbaaGreatLinkA
import Derived.Test.YtoknlffemngkbaaGreatConE
import Derived.Test.YtoknlffemngkbaaGreatEv4
import Derived.Test.YtoknlffemngkbaaGreatRunA
set_option linter.unusedSimpArgs false
set_option linter.unusedVariables false
noncomputable section
namespace Go.Di
open Go.Ev Go.Proofs
theorem qzf {P : Program} {ext : Ext} {f : FuncId} {args : List AV} {H : Hp} (h : ext f args H = none) (k : Nat) :
  callF P ext (k + 1) (.f f) args H = (funS P f).f (callF P ext k) args H := by
 show @Option.rec R1 (fun _ => R1) ((funF P f).f (callF P ext k) args H) (fun r => r) (ext f args H) = _
 rw [h, qwc]
theorem qwm {P : Program} {ext : Ext} {f : FuncId} {args : List AV} {H : Hp} {r : R1} (h : ext f args H = some r) (k : Nat) :
  callF P ext (k + 1) (.f f) args H = r := by
 show @Option.rec R1 (fun _ => R1) ((funF P f).f (callF P ext k) args H) (fun r => r) (ext f args H) = _
 rw [h]
def nZ : List (Nat × Nat) := nmL.map fun s => (s.n, s.a)
def eZ : Ext := qvt [97] nZ (qzq [14])
attribute [local irreducible] Go.Ev.callF Go.Ev.funS Go.Ev.funF
def CZ (k : Nat) : Ev.Call := callF Tryz.prog eZ k
theorem qa6 (k : Nat) (f : FuncId) (l : List AV) (H : Hp) (h : eZ f l H = none) : CZ (k + 1) (.f f) l H = (funS Tryz.prog f).f (CZ k) l H :=
 qzf (P := Tryz.prog) (ext := eZ) (f := f) (args := l) (H := H) h k
theorem qxz (k : Nat) (f : FuncId) (l : List AV) (H : Hp) {r : R1} (h : eZ f l H = some r) : CZ (k + 1) (.f f) l H = r :=
 qwm (P := Tryz.prog) (ext := eZ) (f := f) (args := l) (H := H) h k
theorem q4w (k : Nat) (H : Hp) : CZ (k + 1) (.f qmd) [] H = .ok (.bool true) H := qxz _ _ _ _ rfl
theorem links : qbi CZ := fun k => ⟨
 fun x0 H => (qa6 _ _ _ _ (by rfl)).trans (qr1 _ x0 H),
 fun x0 H => (qa6 _ _ _ _ (by rfl)).trans (qqu _ x0 H),
 fun x0 H => (qa6 _ _ _ _ (by rfl)).trans (qp5 _ x0 H),
 fun x0 H => (qa6 _ _ _ _ (by rfl)).trans (qpn _ x0 H),
 fun x0 x1 H => (qa6 _ _ _ _ (by rfl)).trans (qqn _ x0 x1 H),
 fun x0 x1 H => (qa6 _ _ _ _ (by rfl)).trans (qrg _ x0 x1 H),
 fun x0 x1 H => (qa6 _ _ _ _ (by rfl)).trans (qpm _ x0 x1 H),
 fun x0 x1 H => (qa6 _ _ _ _ (by rfl)).trans (qsi _ x0 x1 H),
 fun x0 x1 H => (qa6 _ _ _ _ (by rfl)).trans (qqo _ x0 x1 H),
 fun x0 x1 x2 H => (qa6 _ _ _ _ (by rfl)).trans (qrj _ x0 x1 x2 H),
 fun x0 x1 x2 H => (qa6 _ _ _ _ (by rfl)).trans (qqv _ x0 x1 x2 H),
 fun x0 H => (qa6 _ _ _ _ (by rfl)).trans (qri _ x0 H),
 fun x0 x1 x2 H => (qa6 _ _ _ _ (by rfl)).trans (qqs _ x0 x1 x2 H),
 fun x0 H => (qa6 _ _ _ _ (by rfl)).trans (qp0 _ x0 H),
 fun x0 H => (qa6 _ _ _ _ (by rfl)).trans (qo5 _ x0 H),
 fun x0 x1 H => (qa6 _ _ _ _ (by rfl)).trans (qou _ x0 x1 H),
 fun x0 H => (qa6 _ _ _ _ (by rfl)).trans (qo6 _ x0 H),
 fun x0 x1 H => (qa6 _ _ _ _ (by rfl)).trans (qo9 _ x0 x1 H),
 fun x0 x1 H => (qa6 _ _ _ _ (by rfl)).trans (qo8 _ x0 x1 H),
 fun x0 x1 H => (qa6 _ _ _ _ (by rfl)).trans (qo7 _ x0 x1 H),
 fun x0 x1 x2 x3 H => (qa6 _ _ _ _ (by rfl)).trans (qj5 _ x0 x1 x2 x3 H),
 fun x0 H => (qa6 _ _ _ _ (by rfl)).trans (qf1 _ x0 H),
 fun x0 H => (qa6 _ _ _ _ (by rfl)).trans (qgi _ x0 H),
 fun x0 x1 H => (qa6 _ _ _ _ (by rfl)).trans (qsh _ x0 x1 H),
 fun x0 x1 H => (qa6 _ _ _ _ (by rfl)).trans (qpc _ x0 x1 H),
 fun x0 x1 H => (qa6 _ _ _ _ (by rfl)).trans (qpb _ x0 x1 H),
 fun x0 x1 H => (qa6 _ _ _ _ (by rfl)).trans (qpa _ x0 x1 H),
 fun x0 x1 x2 x3 H => (qa6 _ _ _ _ (by rfl)).trans (qne _ x0 x1 x2 x3 H),
 fun x0 H => (qa6 _ _ _ _ (by rfl)).trans (qr0 _ x0 H),
 fun x0 x1 H => (qa6 _ _ _ _ (by rfl)).trans (qpz _ x0 x1 H),
 fun x0 H => (qa6 _ _ _ _ (by rfl)).trans (qqr _ x0 H),
 fun x0 H => (qa6 _ _ _ _ (by rfl)).trans (qre _ x0 H),
 fun x0 x1 H => (qa6 _ _ _ _ (by rfl)).trans (qrd _ x0 x1 H),
 fun x0 H => (qa6 _ _ _ _ (by rfl)).trans (qo4 _ x0 H),
 fun x0 x1 H => (qa6 _ _ _ _ (by rfl)).trans (qna _ x0 x1 H),
 fun x0 H => (qa6 _ _ _ _ (by rfl)).trans (qr8 _ x0 H),
 fun x0 x1 x2 H => (qa6 _ _ _ _ (by rfl)).trans (qoj _ x0 x1 x2 H),
 fun x0 x1 H => (qa6 _ _ _ _ (by rfl)).trans (qrh _ x0 x1 H),
 fun x0 H => (qa6 _ _ _ _ (by rfl)).trans (qhl _ x0 H),
 fun x0 H => (qa6 _ _ _ _ (by rfl)).trans (qrb _ x0 H),
 fun x0 H => (qa6 _ _ _ _ (by rfl)).trans (qrc _ x0 H),
 fun x0 x1 x2 H => (qa6 _ _ _ _ (by rfl)).trans (qcj _ x0 x1 x2 H),
 fun x0 x1 H => (qa6 _ _ _ _ (by rfl)).trans (qp3 _ x0 x1 H),
 fun x0 x1 H => (qa6 _ _ _ _ (by rfl)).trans (qhk _ x0 x1 H),
 fun x0 H => (qa6 _ _ _ _ (by rfl)).trans (qn6 _ x0 H),
 fun x0 x1 x2 x3 x4 x5 x6 H => (qa6 _ _ _ _ (by rfl)).trans (qp2 _ x0 x1 x2 x3 x4 x5 x6 H),
 fun x0 H => (qa6 _ _ _ _ (by rfl)).trans (qgh _ x0 H),
 fun x0 x1 H => (qa6 _ _ _ _ (by rfl)).trans (qh7 _ x0 x1 H),
 fun x0 H => (qa6 _ _ _ _ (by rfl)).trans (qqq _ x0 H),
 fun x0 H => (qa6 _ _ _ _ (by rfl)).trans (qmg _ x0 H)⟩
theorem q9v {s : SS} (h : Nm s) : nZ.any (fun t => Nat.beq s.n t.1 && Nat.beq s.a t.2) = true := by
 rw [List.any_eq_true]
 exact ⟨(s.n, s.a), List.mem_map.2 ⟨s, h, rfl⟩, by simp⟩
theorem q7z {s : SS} (h : Nm s) (H : Hp) : eZ 97 [s.v] H = some (.ok (.bool true) H) := by
 have h1 := q9v h
 show (bif nZ.any (fun t => Nat.beq s.n t.1 && Nat.beq s.a t.2) then some (R1.ok (.bool true) H) else none) = _
 rw [h1]; rfl
theorem q5p : qhj CZ := fun _ => ⟨fun _ h H => qxz _ _ _ _ (q7z h H)⟩
set_option maxRecDepth 100000
theorem folZ : Tryz.prog.follows .mixedOrders = true := by kernel_rfl
theorem q33 : Yes Tryz.prog 14 := qx6 folZ qxl q34
theorem q30 : ∀ f ∈ [97], ∀ s ∈ nZ, YesN Tryz.prog f s := fun f hf s hs => by
 obtain rfl := List.mem_singleton.1 hf
 obtain ⟨t, ht, rfl⟩ := List.mem_map.1 hs
 exact qvs folZ qxl (List.all_eq_true.1 q31 t ht)
theorem extZ : qvr Tryz.prog eZ := qx7 (qzp (fun f hf => by obtain rfl := List.mem_singleton.1 hf; exact q33) (by kernel_rfl)) q30 (by kernel_rfl)
theorem preZ {x y : AV} {L B : List Nat} {H : Hp} (hx : Rl H x (u8s L)) (hL : ∀ x ∈ L, x < 256) (hxf : qh2 x = some [x]) (hb : Rl H y (u8s B)) (hB : ∀ x ∈ B, x < 256) :
  ∃ L1 H1 n, (den Tryz.prog (qan (Tryz.f3.ntmps + 1)) Tryz.f3.ntmps (cutC 10 (codeOf Tryz.f3))).f (CZ 100) (wrL [.agg [x], y] 0 (same .undef _)) H = .ok .normal L1 H1 ∧ G L1 7 = .int .i64 (.ofNat n) ∧ Mid H1 (G L1 6) n (G L1 8) := by
 obtain ⟨r, H', h1, v, n, w, rfl, hM⟩ := zbf (C := CZ) links q5p (j := 100) (by omega) hx hL hxf hb hB
 have h2 : fin ((den Tryz.prog (qan (Tryz.f3.ntmps + 1)) Tryz.f3.ntmps (cutC 10 (codeOf Tryz.f3))).f (CZ 100) (wrL [.agg [x], y] 0 (same .undef _)) H) obsK = qjk (CZ 100) (.agg [x]) y H := (q9q (CZ 100) (wrL [.agg [x], y] 0 (same .undef _)) H).trans (by kernel_rfl)
 rw [h1] at h2
 cases hd : (den Tryz.prog (qan (Tryz.f3.ntmps + 1)) Tryz.f3.ntmps (cutC 10 (codeOf Tryz.f3))).f (CZ 100) (wrL [.agg [x], y] 0 (same .undef _)) H with
 | bad => rw [hd] at h2; cases h2
 | ok e L1 H1 =>
  rw [hd] at h2
  cases e with
  | normal =>
   have h4 : R1.ok (.tup [G L1 6, G L1 7, G L1 8]) H1 = .ok (.tup [v, .int .i64 (.ofNat n), w]) H' := h2
   injection h4 with h5 h6
   injection h5 with h5
   simp only [List.cons.injEq] at h5
   refine ⟨L1, H1, n, rfl, h5.2.1, ?_⟩
   rw [h5.1, h5.2.2.1, h6]
   exact hM
  | exit id => cases h2
  | ret => cases h2
  | goto l => cases h2
theorem q8y {L : TT AV (qan (Tryz.f3.ntmps + 1))} {H : Hp} {n : Nat} (h7 : G L 7 = .int .i64 (.ofNat n)) (hT : Tl H (G L 6) n (G L 8)) :
  ∃ ex L3 H3, (den Tryz.prog (qan (Tryz.f3.ntmps + 1)) Tryz.f3.ntmps (tlC 10 (codeOf Tryz.f3))).f (CZ 100) L H = .ok ex L3 H3 ∧ (ex = .normal ∨ ex = .ret) ∧ (qei Tryz.prog (qan (Tryz.f3.ntmps + 1)) Tryz.f3.ntmps Tryz.f3.results.toList).f L3 H3 = some (.bool true) := by
 obtain ⟨r, H', h1, rfl⟩ := q8k (C := CZ) links q5p (j := 100) (by omega) (fun H => q4w 99 H) hT
 have h2 : fin ((den Tryz.prog (qan (Tryz.f3.ntmps + 1)) Tryz.f3.ntmps (tlC 10 (codeOf Tryz.f3))).f (CZ 100) L H) (endR (qei Tryz.prog (qan (Tryz.f3.ntmps + 1)) Tryz.f3.ntmps Tryz.f3.results.toList).f) = qfx (CZ 100) (G L 6) (G L 7) (G L 8) H := q6d (CZ 100) L H
 rw [h7, h1] at h2
 have fin : ∀ L3 H3, finR ((qei Tryz.prog (qan (Tryz.f3.ntmps + 1)) Tryz.f3.ntmps Tryz.f3.results.toList).f L3 H3) H3 = .ok (.bool true) H' → (qei Tryz.prog (qan (Tryz.f3.ntmps + 1)) Tryz.f3.ntmps Tryz.f3.results.toList).f L3 H3 = some (.bool true) := fun L3 H3 h => by
  unfold finR at h
  split at h
  ·rename_i u hu
   injection h with h _
   rw [hu, h]
  ·cases h
 cases hd : (den Tryz.prog (qan (Tryz.f3.ntmps + 1)) Tryz.f3.ntmps (tlC 10 (codeOf Tryz.f3))).f (CZ 100) L H with
 | bad => rw [hd] at h2; cases h2
 | ok e L3 H3 =>
  rw [hd] at h2
  cases e with
  | normal => exact ⟨_, L3, H3, rfl, .inl rfl, fin L3 H3 h2⟩
  | ret => exact ⟨_, L3, H3, rfl, .inr rfl, fin L3 H3 h2⟩
  | exit id => cases h2
  | goto l => cases h2
end Go.Di
end
