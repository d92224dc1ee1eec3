/-
 For GraphsOf: the law at all arguments, over the evaluator. No conditions beyond those that each theorem states.
-/
import Derived.Test.YtigaopnmpflgmaaGreatLinkA
import Derived.Test.YtigaopnmpflgmaaGreatConF
import Derived.Test.YtigaopnmpflgmaaGreatRunA
import Derived.Test.YtigaopnmpflgmaaGreatRunB
set_option linter.unusedSimpArgs false
set_option linter.unusedVariables false
noncomputable section
namespace Go.Di
open Go.Ev Go.Proofs
theorem q34 {P : Program} {ext : Ext} {f : FuncId} {args : List AV} {H : Hp} (h : ext f args H = none) (k : Nat) :
  callF P ext (k + 1) (.f f) args H = (funS P f).f (callF P ext k) args H := by
 show @Option.rec R1 (fun _ => R1) ((funF P f).f (callF P ext k) args H) (fun r => r) (ext f args H) = _
 rw [h, qyo]
theorem qyx {P : Program} {ext : Ext} {f : FuncId} {args : List AV} {H : Hp} {r : R1} (h : ext f args H = some r) (k : Nat) :
  callF P ext (k + 1) (.f f) args H = r := by
 show @Option.rec R1 (fun _ => R1) ((funF P f).f (callF P ext k) args H) (fun r => r) (ext f args H) = _
 rw [h]
def nZ : List (Nat × Nat) := nmL.map fun s => (s.n, s.a)
def eZ : Ext := qgu 62 41 (qqp [98, 69] nZ (qzd [12]))
attribute [local irreducible] Go.Ev.callF Go.Ev.funS Go.Ev.funF
def CZ (k : Nat) : Ev.Call := callF Tryz.prog eZ k
theorem qao (k : Nat) (f : FuncId) (l : List AV) (H : Hp) (h : eZ f l H = none) : CZ (k + 1) (.f f) l H = (funS Tryz.prog f).f (CZ k) l H :=
 q34 (P := Tryz.prog) (ext := eZ) (f := f) (args := l) (H := H) h k
theorem qkt (k : Nat) (f : FuncId) (l : List AV) (H : Hp) {r : R1} (h : eZ f l H = some r) : CZ (k + 1) (.f f) l H = r :=
 qyx (P := Tryz.prog) (ext := eZ) (f := f) (args := l) (H := H) h k
theorem zef (k : Nat) (H : Hp) (h : 1 ≤ k) : CZ k (.f q8v) [] H = .ok (.bool true) H := by
 have : k = (k - 1) + 1 := by omega
 rw [this]
 exact qkt _ _ _ _ rfl
theorem links : qav CZ := fun k => ⟨
 fun x0 H => (qao _ _ _ _ (by rfl)).trans (qza _ x0 H),
 fun x0 H => (qao _ _ _ _ (by rfl)).trans (zch _ x0 H),
 fun x0 H => (qao _ _ _ _ (by rfl)).trans (zcg _ x0 H),
 fun x0 H => (qao _ _ _ _ (by rfl)).trans (zcf _ x0 H),
 fun x0 H => (qao _ _ _ _ (by rfl)).trans (zce _ x0 H),
 fun x0 x1 H => (qao _ _ _ _ (by rfl)).trans (zcd _ x0 x1 H),
 fun x0 H => (qao _ _ _ _ (by rfl)).trans (zcc _ x0 H),
 fun x0 H => (qao _ _ _ _ (by rfl)).trans (zcb _ x0 H),
 fun x0 H => (qao _ _ _ _ (by rfl)).trans (zca _ x0 H),
 fun x0 x1 x2 x3 x4 H => (qao _ _ _ _ (by rfl)).trans (zb8 _ x0 x1 x2 x3 x4 H),
 fun x0 H => (qao _ _ _ _ (by rfl)).trans (zb7 _ x0 H),
 fun x0 x1 H => (qao _ _ _ _ (by rfl)).trans (zb6 _ x0 x1 H),
 fun x0 x1 x2 H => (qao _ _ _ _ (by rfl)).trans (zb5 _ x0 x1 x2 H),
 fun x0 H => (qao _ _ _ _ (by rfl)).trans (zb4 _ x0 H),
 fun x0 H => (qao _ _ _ _ (by rfl)).trans (zb3 _ x0 H),
 fun x0 x1 x2 H => (qao _ _ _ _ (by rfl)).trans (zb2 _ x0 x1 x2 H),
 fun x0 x1 x2 H => (qao _ _ _ _ (by rfl)).trans (zb0 _ x0 x1 x2 H),
 fun x0 x1 x2 H => (qao _ _ _ _ (by rfl)).trans (zbz _ x0 x1 x2 H),
 fun x0 x1 x2 x3 H => (qao _ _ _ _ (by rfl)).trans (zby _ x0 x1 x2 x3 H),
 fun x0 x1 x2 x3 H => (qao _ _ _ _ (by rfl)).trans (zbx _ x0 x1 x2 x3 H),
 fun x0 H => (qao _ _ _ _ (by rfl)).trans (zbw _ x0 H),
 fun x0 H => (qao _ _ _ _ (by rfl)).trans (zbv _ x0 H),
 fun x0 x1 x2 x3 x4 x5 x6 H => (qao _ _ _ _ (by rfl)).trans (zbu _ x0 x1 x2 x3 x4 x5 x6 H),
 fun x0 x1 x2 x3 H => (qao _ _ _ _ (by rfl)).trans (zbt _ x0 x1 x2 x3 H),
 fun x0 H => (qao _ _ _ _ (by rfl)).trans (zbs _ x0 H),
 fun x0 x1 H => (qao _ _ _ _ (by rfl)).trans (zbr _ x0 x1 H),
 fun x0 H => (qao _ _ _ _ (by rfl)).trans (zbq _ x0 H),
 fun x0 x1 x2 x3 H => (qao _ _ _ _ (by rfl)).trans (zbp _ x0 x1 x2 x3 H),
 fun x0 x1 x2 x3 H => (qao _ _ _ _ (by rfl)).trans (zbo _ x0 x1 x2 x3 H),
 fun x0 H => (qao _ _ _ _ (by rfl)).trans (zbn _ x0 H),
 fun x0 x1 x2 H => (qao _ _ _ _ (by rfl)).trans (zbm _ x0 x1 x2 H),
 fun x0 x1 H => (qao _ _ _ _ (by rfl)).trans (zbl _ x0 x1 H),
 fun x0 H => (qao _ _ _ _ (by rfl)).trans (zbk _ x0 H),
 fun x0 H => (qao _ _ _ _ (by rfl)).trans (zbj _ x0 H),
 fun x0 x1 x2 H => (qao _ _ _ _ (by rfl)).trans (zbi _ x0 x1 x2 H),
 fun x0 H => (qao _ _ _ _ (by rfl)).trans (zbh _ x0 H),
 fun x0 x1 x2 H => (qao _ _ _ _ (by rfl)).trans (zbf _ x0 x1 x2 H),
 fun x0 x1 x2 x3 H => (qao _ _ _ _ (by rfl)).trans (zbe _ x0 x1 x2 x3 H),
 fun x0 H => (qao _ _ _ _ (by rfl)).trans (zbd _ x0 H),
 fun x0 H => (qao _ _ _ _ (by rfl)).trans (zbb _ x0 H),
 fun x0 x1 H => (qao _ _ _ _ (by rfl)).trans (zba _ x0 x1 H),
 fun x0 H => (qao _ _ _ _ (by rfl)).trans (za9 _ x0 H),
 fun x0 H => (qao _ _ _ _ (by rfl)).trans (za8 _ x0 H),
 fun x0 x1 x2 H => (qao _ _ _ _ (by rfl)).trans (za7 _ x0 x1 x2 H),
 fun x0 H => (qao _ _ _ _ (by rfl)).trans (za6 _ x0 H),
 fun x0 x1 x2 x3 H => (qao _ _ _ _ (by rfl)).trans (za5 _ x0 x1 x2 x3 H),
 fun x0 x1 H => (qao _ _ _ _ (by rfl)).trans (za4 _ x0 x1 H),
 fun x0 x1 x2 x3 H => (qao _ _ _ _ (by rfl)).trans (za3 _ x0 x1 x2 x3 H),
 fun x0 x1 x2 H => (qao _ _ _ _ (by rfl)).trans (za2 _ x0 x1 x2 H),
 fun x0 H => (qao _ _ _ _ (by rfl)).trans (za1 _ x0 H),
 fun x0 x1 x2 x3 x4 x5 x6 H => (qao _ _ _ _ (by rfl)).trans (zaz _ x0 x1 x2 x3 x4 x5 x6 H),
 fun x0 H => (qao _ _ _ _ (by rfl)).trans (zay _ x0 H),
 fun x0 H => (qao _ _ _ _ (by rfl)).trans (zax _ x0 H),
 fun x0 H => (qao _ _ _ _ (by rfl)).trans (zaw _ x0 H),
 fun x0 H => (qao _ _ _ _ (by rfl)).trans (zav _ x0 H),
 fun x0 x1 H => (qao _ _ _ _ (by rfl)).trans (zau _ x0 x1 H),
 fun x0 x1 x2 H => (qao _ _ _ _ (by rfl)).trans (zat _ x0 x1 x2 H),
 fun x0 x1 H => (qao _ _ _ _ (by rfl)).trans (zas _ x0 x1 H),
 fun x0 H => (qao _ _ _ _ (by rfl)).trans (zar _ x0 H),
 fun x0 H => (qao _ _ _ _ (by rfl)).trans (zaq _ x0 H),
 fun x0 x1 H => (qao _ _ _ _ (by rfl)).trans (zao _ x0 x1 H),
 fun x0 x1 H => (qao _ _ _ _ (by rfl)).trans (zan _ x0 x1 H),
 fun x0 x1 H => (qao _ _ _ _ (by rfl)).trans (zam _ x0 x1 H),
 fun x0 x1 H => (qao _ _ _ _ (by rfl)).trans (zal _ x0 x1 H),
 fun x0 x1 H => (qao _ _ _ _ (by rfl)).trans (zak _ x0 x1 H),
 fun x0 x1 H => (qao _ _ _ _ (by rfl)).trans (zaj _ x0 x1 H),
 fun x0 x1 H => (qao _ _ _ _ (by rfl)).trans (zai _ x0 x1 H),
 fun x0 x1 H => (qao _ _ _ _ (by rfl)).trans (zah _ x0 x1 H)⟩
theorem zk5 {s : SS} (h : Nm s) : nZ.any (fun t => Nat.beq s.n t.1 && Nat.beq s.a t.2) = true := by
 rw [List.any_eq_true]
 exact ⟨(s.n, s.a), List.mem_map.2 ⟨s, h, rfl⟩, by simp⟩
theorem q9k {f : FuncId} (hf : f = 98 ∨ f = 69) {s : SS} (h : Nm s) (H : Hp) : eZ f [s.v] H = some (.ok (.bool true) H) := by
 have h1 := zk5 h
 rcases hf with rfl | rfl
 ·show (bif nZ.any (fun t => Nat.beq s.n t.1 && Nat.beq s.a t.2) then some (R1.ok (.bool true) H) else none) = _
  rw [h1]; rfl
 ·show (bif nZ.any (fun t => Nat.beq s.n t.1 && Nat.beq s.a t.2) then some (R1.ok (.bool true) H) else none) = _
  rw [h1]; rfl
theorem zlj : qbs CZ := fun _ => ⟨fun _ h H => qkt _ _ _ _ (q9k (.inl rfl) h H), fun _ h H => qkt _ _ _ _ (q9k (.inr rfl) h H)⟩
theorem zli : q19 CZ := fun k => ⟨fun H v es h hl => by
 obtain ⟨r, h1, h2⟩ := qx4 62 41 (qqp [98, 69] nZ (qzd [12])) h hl
 have h3 : CZ (k + 1) (.f q8u) [v, .fn qmq [] []] H = r := qkt k 62 [v, .fn 41 [] []] H h1
 rw [h3]
 exact h2⟩
set_option maxRecDepth 100000
theorem folZ : Tryz.prog.follows .mixedOrders = true := by kernel_rfl
theorem zdo : Yes Tryz.prog 12 := q2b folZ q0j zdp
theorem zdl : ∀ f ∈ [98, 69], ∀ s ∈ nZ, YesN Tryz.prog f s := fun f hf s hs => by
 obtain ⟨t, ht, rfl⟩ := List.mem_map.1 hs
 exact qxw folZ q0j (List.all_eq_true.1 (List.all_eq_true.1 zdm f hf) t ht)
theorem extZ : qnl Tryz.prog eZ := qx5 (q2c (q6h (fun f hf => by obtain rfl := List.mem_singleton.1 hf; exact zdo) (by kernel_rfl)) zdl (by kernel_rfl)) Tryz.sortECalls Tryz.sortENone (by kernel_rfl)
theorem runZ {v : AV} {L : List (List Nat)} {H : Hp} (hv : ArgC H v L) : Ok (CZ 100 (.f 3) [.agg [v]] H) fun r _ => r = .bool true := by
 have h : CZ 100 (.f 3) [.agg [v]] H = zAa (CZ 99) (.agg [v]) H :=
  (qao _ _ _ _ (by rfl)).trans (qza _ _ H)
 rw [h]
 exact qy1 links zlj zli (k := 99) (by omega) (fun k H h => zef k H h) hv
end Go.Di
end
