/-
 For countersignlaw17.CompsKnown: the functions of the law in direct style (printed by a program). No conditions beyond those that each theorem states.
-/
import Derived.Test.YtmdpdlnabcmlmaaEv4
import Derived.Test.YtmdpdlnabcmlmaaGraB
set_option linter.unusedSimpArgs false
set_option linter.unusedVariables false
noncomputable section
namespace Go.Di
open Go.Ev
def qz1 : FuncId := 7
def qpg : FuncId := 10
def qtg : FuncId := 13
def qth : FuncId := 20
def qj6 : FuncId := 14
def qz0 : FuncId := 12
def qcm : FuncId := 15
def qxs : FuncId := 23
def qmq : FuncId := 27
def qxt : FuncId := 26
def qlf : FuncId := 28
def qml : FuncId := 29
def qxp : FuncId := 30
def qxr : FuncId := 37
def qqg : FuncId := 43
def qlg : FuncId := 41
def qi9 : FuncId := 42
def qte : FuncId := 44
def qon : FuncId := 49
def qtf : FuncId := 50
def q41 : FuncId := 48
def qjc : FuncId := 52
def qg7 : FuncId := 53
def qlh : FuncId := 65
def qxn : FuncId := 74
def q2v : FuncId := 76
def qxm : FuncId := 75
def qc0 : FuncId := 86
def qxo : FuncId := 85
def qxq : FuncId := 89
def qb3 : FuncId := 40
def qjt : FuncId := 47
def qhw : FuncId := 51
def qom : FuncId := 63
def qol : FuncId := 64
def qmj : FuncId := 66
def qmk : FuncId := 67
def qqb : FuncId := 68
def qp9 : FuncId := 69
def qp8 : FuncId := 70
def qi7 : FuncId := 71
def qqa : FuncId := 72
def qmh : FuncId := 73
def qi8 : FuncId := 78
def qed : FuncId := 79
def qi6 : FuncId := 82
def qdr : FuncId := 83
def qmi : FuncId := 84
def qg5 : FuncId := 88
def qee : FuncId := 35
def qf0 : FuncId := 36
def qhx : FuncId := 46
def qmo : FuncId := 54
def qmp : FuncId := 55
def qqf : FuncId := 56
def qqd : FuncId := 57
def qqc : FuncId := 58
def qjb : FuncId := 59
def qbk : FuncId := 60
def qqe : FuncId := 61
def qmm : FuncId := 62
def qja : FuncId := 77
def qds : FuncId := 80
def qmn : FuncId := 81
def qg6 : FuncId := 87
def qfy (call : Ev.Call) (x6 x8 x17 x18 : AV) (H : Hp) : R1 :=
 vq (intV (qaa .eql).f x6 (.int .i64 (.ofNat 0))) H fun a0 H =>
 vg (qac true a0) (qcd 2 H x17) H fun a1 H =>
 vg (qac true a0) (qfb 2 H.nx (qas (reps [.int .i64 (.ofNat 0)] 2) [(0, 1, (.int .i64 (.ofNat 1))), (1, 1, (.int .i64 (.ofNat 3)))])) H fun a2 H =>
 vg (qac true a0) (qfb 3 H.nx (qas (reps [.int .i64 (.ofNat 0)] 3) [(0, 1, (.int .i64 (.ofNat 0))), (1, 1, (.int .i64 (.ofNat 2))), (2, 1, (.int .i64 (.ofNat 4)))])) H fun a3 H =>
 vg (qac true a0) (qfb 1 H.nx (qas (reps [.int .i64 (.ofNat 0)] 1) [(0, 1, (.int .i64 (.ofNat 5)))])) H fun a4 H =>
 vg (qac true a0) (qfb 3 H.nx (qas (reps [.nilsl] 3) [(0, 1, a2), (1, 1, a3), (2, 1, a4)])) H fun a5 H =>
 vg (qac true a0) (qfb 6 H.nx (qas (reps [.int .i64 (.ofNat 0)] 6) [(0, 1, (.int .i64 (.ofNat 1))), (1, 1, (.int .i64 (.ofNat 0))), (2, 1, (.int .i64 (.ofNat 1))), (3, 1, (.int .i64 (.ofNat 0))), (4, 1, (.int .i64 (.ofNat 1))), (5, 1, (.int .i64 (.ofNat 2)))])) H fun a6 H =>
 veg (qac true a0) (call (.f qz0) [a1, a5, a6] H) H fun a7 H =>
 vq (qbj a0 a7 (.bool false)) H fun a8 H =>
 vg (qac true a8) (.val x8) H fun a9 H =>
 vg (qac true a8) (intV (qaa .eql).f a9 (.int .i64 (.ofNat 0))) H fun a10 H =>
 vq (qbj a8 a10 (.bool false)) H fun a11 H =>
 vg (qac true a11) (qcd 2 H x18) H fun a12 H =>
 veg (qac true a11) (call (.f qz0) [a12, (.nilsl), (.nilsl)] H) H fun a13 H =>
 vq (qbj a11 a13 (.bool false)) H fun a14 H =>
 veg (qac true a14) (call (.f qcm) [] H) H fun a15 H =>
 vq (qbj a14 a15 (.bool false)) H fun a16 H =>
 .ok a16 H
def qxg : Ev.Call → AV → AV → AV → AV → Hp → R1 := Classical.choose (⟨qfy, rfl⟩ : ∃ f, f = qfy)
theorem qu7 : qxg = qfy := Classical.choose_spec (⟨qfy, rfl⟩ : ∃ f, f = qfy)
def qfx (call : Ev.Call) (x6 x17 : AV) (H : Hp) : R1 :=
 vq (aggN (qas [.int .i64 (.ofNat 0), .nilsl] [])) H fun a18 H =>
 ve (call (.f qpg) [a18] H) fun a19 H =>
 vq (extr 0 a19) H fun a20 H =>
 vq (extr 1 a19) H fun a21 H =>
 vq (.new (.ptr H.nx 0) (qae 0 [.nilsl, .nilsl])) H fun a22 H =>
 ve (qck 2 H a22 a20) fun _ H =>
 qxg call x6 a21 x17 a22 H
def qxf : Ev.Call → AV → AV → Hp → R1 := Classical.choose (⟨qfx, rfl⟩ : ∃ f, f = qfx)
theorem qu6 : qxf = qfx := Classical.choose_spec (⟨qfx, rfl⟩ : ∃ f, f = qfx)
def qfw (call : Ev.Call) (x16 : AV) (H : Hp) : R1 :=
 vq (qcd 2 H x16) H fun a25 H =>
 ve (call (.f qpg) [a25] H) fun a26 H =>
 vq (extr 0 a26) H fun a27 H =>
 vq (extr 1 a26) H fun a28 H =>
 vq (.new (.ptr H.nx 0) (qae 0 [.nilsl, .nilsl])) H fun a29 H =>
 ve (qck 2 H a29 a27) fun _ H =>
 qxf call a28 a29 H
def qxe : Ev.Call → AV → Hp → R1 := Classical.choose (⟨qfw, rfl⟩ : ∃ f, f = qfw)
theorem qu5 : qxe = qfw := Classical.choose_spec (⟨qfw, rfl⟩ : ∃ f, f = qfw)
def qfv (call : Ev.Call) (H : Hp) : R1 :=
 vq (aggN (qas [.int .i64 (.ofNat 0), .int .i64 (.ofNat 0), .bool false] [(0, 1, (.int .i64 (.ofNat 0))), (1, 1, (.int .i64 (.ofNat 2)))])) H fun a32 H =>
 vq (aggN (qas [.int .i64 (.ofNat 0), .int .i64 (.ofNat 0), .bool false] [(0, 1, (.int .i64 (.ofNat 1))), (1, 1, (.int .i64 (.ofNat 3)))])) H fun a33 H =>
 vq (aggN (qas [.int .i64 (.ofNat 0), .int .i64 (.ofNat 0), .bool false] [(0, 1, (.int .i64 (.ofNat 2))), (1, 1, (.int .i64 (.ofNat 4)))])) H fun a34 H =>
 vq (aggN (qas [.int .i64 (.ofNat 0), .int .i64 (.ofNat 0), .bool false] [(0, 1, (.int .i64 (.ofNat 3))), (1, 1, (.int .i64 (.ofNat 1)))])) H fun a35 H =>
 vq (aggN (qas [.int .i64 (.ofNat 0), .int .i64 (.ofNat 0), .bool false] [(0, 1, (.int .i64 (.ofNat 4))), (1, 1, (.int .i64 (.ofNat 0)))])) H fun a36 H =>
 vq (aggN (qas [.int .i64 (.ofNat 0), .int .i64 (.ofNat 0), .bool false] [(0, 1, (.int .i64 (.ofNat 4))), (1, 1, (.int .i64 (.ofNat 1)))])) H fun a37 H =>
 vq (qfb 6 H.nx (qas (reps [.int .i64 (.ofNat 0), .int .i64 (.ofNat 0), .bool false] 6) [(0, 3, a32), (3, 3, a33), (6, 3, a34), (9, 3, a35), (12, 3, a36), (15, 3, a37)])) H fun a38 H =>
 vq (aggN (qas [.int .i64 (.ofNat 0), .nilsl] [(0, 1, (.int .i64 (.ofNat 6))), (1, 1, a38)])) H fun a39 H =>
 vq (.new (.ptr H.nx 0) (qae 0 [.int .i64 (.ofNat 0), .nilsl])) H fun a40 H =>
 ve (qck 2 H a40 a39) fun _ H =>
 qxe call a40 H
def qeh : Ev.Call → Hp → R1 := Classical.choose (⟨qfv, rfl⟩ : ∃ f, f = qfv)
theorem qu4 : qeh = qfv := Classical.choose_spec (⟨qfv, rfl⟩ : ∃ f, f = qfv)
def qfu (call : Ev.Call) (g43 : AV → Hp → R1) (x15 : AV) (H : Hp) : R1 :=
 vq (intV (qaa .add).f x15 (.int .i64 (.ofNat 1))) H fun a44 H =>
 g43 a44 H
def qxd : Ev.Call → (AV → Hp → R1) → AV → Hp → R1 := Classical.choose (⟨qfu, rfl⟩ : ∃ f, f = qfu)
theorem qu3 : qxd = qfu := Classical.choose_spec (⟨qfu, rfl⟩ : ∃ f, f = qfu)
def qft (call : Ev.Call) (q43r : AV → Hp → R1) (g43 : AV → Hp → R1) (x15 x157 : AV) (H : Hp) : R1 :=
 cd x157 (
 q43r (.bool false) H) (
 qxd call g43 x15 H)
def qxc : Ev.Call → (AV → Hp → R1) → (AV → Hp → R1) → AV → AV → Hp → R1 := Classical.choose (⟨qft, rfl⟩ : ∃ f, f = qft)
theorem qu2 : qxc = qft := Classical.choose_spec (⟨qft, rfl⟩ : ∃ f, f = qft)
def qfs (call : Ev.Call) (q43r : AV → Hp → R1) (g43 : AV → Hp → R1) (x5 x7 x9 x15 : AV) (H : Hp) : R1 :=
 vq (idxS 1 x7 x15) H fun a47 H =>
 vq (qaf H a47) H fun a48 H =>
 vq (intV (qaa .neq).f a48 x15) H fun a49 H =>
 vg (qac false a49) (.val x9) H fun a50 H =>
 vg (qac false a49) (.val x15) H fun a51 H =>
 vg (qac false a49) (idxS 1 a50 a51) H fun a52 H =>
 vg (qac false a49) (qaf H a52) H fun a53 H =>
 vg (qac false a49) (.val x15) H fun a54 H =>
 vg (qac false a49) (intV (qaa .sub).f (.int .i64 (.ofNat 255)) a54) H fun a55 H =>
 vg (qac false a49) (intV (qaa .neq).f a53 a55) H fun a56 H =>
 vq (qbj a49 (.bool true) a56) H fun a57 H =>
 vg (qac false a57) (qap 0 x5) H fun a58 H =>
 vg (qac false a57) (qaf H a58) H fun a59 H =>
 vg (qac false a57) (idxS 1 a59 (.int .i64 (.ofNat 0))) H fun a60 H =>
 vg (qac false a57) (qaf H a60) H fun a61 H =>
 vg (qac false a57) (.val x15) H fun a62 H =>
 vg (qac false a57) (idxS 1 a61 a62) H fun a63 H =>
 vg (qac false a57) (qaf H a63) H fun a64 H =>
 vg (qac false a57) (.val x15) H fun a65 H =>
 vg (qac false a57) (intV (qaa .neq).f a64 a65) H fun a66 H =>
 vq (qbj a57 (.bool true) a66) H fun a67 H =>
 qxc call q43r g43 x15 a67 H
def qxb : Ev.Call → (AV → Hp → R1) → (AV → Hp → R1) → AV → AV → AV → AV → Hp → R1 := Classical.choose (⟨qfs, rfl⟩ : ∃ f, f = qfs)
theorem qu1 : qxb = qfs := Classical.choose_spec (⟨qfs, rfl⟩ : ∃ f, f = qfs)
def q2o (call : Ev.Call) (q43r : AV → Hp → R1) (q43e2 : Hp → R1) (x5 x7 x9 : AV) (g43 : AV → Hp → R1) (x15 : AV) (H : Hp) : R1 :=
 vq (intV (qaa .lss).f x15 (.int .i64 (.ofNat 256))) H fun a69 H =>
 cd a69 (
 qxb call q43r g43 x5 x7 x9 x15 H) (
 q43e2 H)
def qgc (call : Ev.Call) (q43r : AV → Hp → R1) (q43e2 : Hp → R1) (x5 x7 x9 : AV) (n : Nat) : AV → Hp → R1 :=
 Nat.rec (motive := fun _ => AV → Hp → R1) (fun _ _ => .bad) (fun _ ih => q2o call q43r q43e2 x5 x7 x9 ih) n
def q2p (call : Ev.Call) (q43r : AV → Hp → R1) (q43e2 : Hp → R1) (x5 x7 x9 : AV) : AV → Hp → R1 := qgc call q43r q43e2 x5 x7 x9 qba
def qfr (call : Ev.Call) (x5 x7 x9 : AV) (H : Hp) : R1 :=
 q2p call (fun x0 H => .ok x0 H) (fun H => qeh call H) x5 x7 x9 (.int .i64 (.ofNat 0)) H
def qxa : Ev.Call → AV → AV → AV → Hp → R1 := Classical.choose (⟨qfr, rfl⟩ : ∃ f, f = qfr)
theorem qu0 : qxa = qfr := Classical.choose_spec (⟨qfr, rfl⟩ : ∃ f, f = qfr)
def qfq (call : Ev.Call) (x5 x7 x9 x127 : AV) (H : Hp) : R1 :=
 cd x127 (
 .ok (.bool false) H) (
 qxa call x5 x7 x9 H)
def qw9 : Ev.Call → AV → AV → AV → AV → Hp → R1 := Classical.choose (⟨qfq, rfl⟩ : ∃ f, f = qfq)
theorem quz : qw9 = qfq := Classical.choose_spec (⟨qfq, rfl⟩ : ∃ f, f = qfq)
def qec (call : Ev.Call) (x5 x6 x7 x8 x9 x10 x11 x12 x13 x14 : AV) (H : Hp) : R1 :=
 vq (intV (qaa .add).f x6 x8) H fun a72 H =>
 vq (intV (qaa .add).f a72 x10) H fun a73 H =>
 vq (intV (qaa .neq).f a73 (.int .i64 (.ofNat 0))) H fun a74 H =>
 vg (qac false a74) (qap 0 x5) H fun a75 H =>
 vg (qac false a74) (qaf H a75) H fun a76 H =>
 vg (qac false a74) (qa9 a76) H fun a77 H =>
 vg (qac false a74) (intV (qaa .neq).f a77 (.int .i64 (.ofNat 1))) H fun a78 H =>
 vq (qbj a74 (.bool true) a78) H fun a79 H =>
 vg (qac false a79) (qap 0 x5) H fun a80 H =>
 vg (qac false a79) (qaf H a80) H fun a81 H =>
 vg (qac false a79) (idxS 1 a81 (.int .i64 (.ofNat 0))) H fun a82 H =>
 vg (qac false a79) (qaf H a82) H fun a83 H =>
 vg (qac false a79) (qa9 a83) H fun a84 H =>
 vg (qac false a79) (intV (qaa .neq).f a84 (.int .i64 (.ofNat 256))) H fun a85 H =>
 vq (qbj a79 (.bool true) a85) H fun a86 H =>
 vg (qac false a86) (.val x7) H fun a87 H =>
 vg (qac false a86) (qa9 a87) H fun a88 H =>
 vg (qac false a86) (intV (qaa .neq).f a88 (.int .i64 (.ofNat 256))) H fun a89 H =>
 vq (qbj a86 (.bool true) a89) H fun a90 H =>
 vg (qac false a90) (.val x9) H fun a91 H =>
 vg (qac false a90) (qa9 a91) H fun a92 H =>
 vg (qac false a90) (intV (qaa .neq).f a92 (.int .i64 (.ofNat 256))) H fun a93 H =>
 vq (qbj a90 (.bool true) a93) H fun a94 H =>
 vg (qac false a94) (.val x11) H fun a95 H =>
 vg (qac false a94) (.val x12) H fun a96 H =>
 vg (qac false a94) (qfb 1 H.nx (qas (reps [.int .i64 (.ofNat 0)] 1) [(0, 1, (.int .i64 (.ofNat 0)))])) H fun a97 H =>
 veg (qac false a94) (call (.f qj6) [a95, a96, a97, (.int .i64 (.ofNat 0))] H) H fun a98 H =>
 vg (qac false a94) ((unS .not).f a98) H fun a99 H =>
 vq (qbj a94 (.bool true) a99) H fun a100 H =>
 vg (qac false a100) (.val x13) H fun a101 H =>
 vg (qac false a100) (.val x14) H fun a102 H =>
 veg (qac false a100) (call (.f qj6) [a101, a102, (.nilsl), (.int .i64 (.ofNat 0))] H) H fun a103 H =>
 vg (qac false a100) ((unS .not).f a103) H fun a104 H =>
 vq (qbj a100 (.bool true) a104) H fun a105 H =>
 qw9 call x5 x7 x9 a105 H
def qp7 : Ev.Call → AV → AV → AV → AV → AV → AV → AV → AV → AV → AV → Hp → R1 := Classical.choose (⟨qec, rfl⟩ : ∃ f, f = qec)
theorem qs7 : qp7 = qec := Classical.choose_spec (⟨qec, rfl⟩ : ∃ f, f = qec)
def qeb (call : Ev.Call) (x3 x5 x6 x7 x8 x9 x10 x11 x12 : AV) (H : Hp) : R1 :=
 vq (qcd 2 H x3) H fun a107 H =>
 ve (call (.f qth) [a107] H) fun a108 H =>
 vq (extr 0 a108) H fun a109 H =>
 vq (extr 1 a108) H fun a110 H =>
 qp7 call x5 x6 x7 x8 x9 x10 x11 x12 a109 a110 H
def qp6 : Ev.Call → AV → AV → AV → AV → AV → AV → AV → AV → AV → Hp → R1 := Classical.choose (⟨qeb, rfl⟩ : ∃ f, f = qeb)
theorem qs6 : qp6 = qeb := Classical.choose_spec (⟨qeb, rfl⟩ : ∃ f, f = qeb)
def qea (call : Ev.Call) (x1 x3 x5 x6 x7 x8 x9 x10 : AV) (H : Hp) : R1 :=
 vq (qcd 2 H x1) H fun a112 H =>
 ve (call (.f qth) [a112] H) fun a113 H =>
 vq (extr 0 a113) H fun a114 H =>
 vq (extr 1 a113) H fun a115 H =>
 qp6 call x3 x5 x6 x7 x8 x9 x10 a114 a115 H
def qp5 : Ev.Call → AV → AV → AV → AV → AV → AV → AV → AV → Hp → R1 := Classical.choose (⟨qea, rfl⟩ : ∃ f, f = qea)
theorem qs5 : qp5 = qea := Classical.choose_spec (⟨qea, rfl⟩ : ∃ f, f = qea)
def qd9 (call : Ev.Call) (x1 x3 x5 x6 x7 x8 : AV) (H : Hp) : R1 :=
 vq (qcd 2 H x3) H fun a117 H =>
 ve (call (.f qtg) [a117] H) fun a118 H =>
 vq (extr 0 a118) H fun a119 H =>
 vq (extr 1 a118) H fun a120 H =>
 qp5 call x1 x3 x5 x6 x7 x8 a119 a120 H
def qp4 : Ev.Call → AV → AV → AV → AV → AV → AV → Hp → R1 := Classical.choose (⟨qd9, rfl⟩ : ∃ f, f = qd9)
theorem qs4 : qp4 = qd9 := Classical.choose_spec (⟨qd9, rfl⟩ : ∃ f, f = qd9)
def qd8 (call : Ev.Call) (x1 x2 x3 x5 x6 : AV) (H : Hp) : R1 :=
 vq (qcd 2 H x2) H fun a122 H =>
 ve (call (.f qtg) [a122] H) fun a123 H =>
 vq (extr 0 a123) H fun a124 H =>
 vq (extr 1 a123) H fun a125 H =>
 qp4 call x1 x3 x5 x6 a124 a125 H
def qp3 : Ev.Call → AV → AV → AV → AV → AV → Hp → R1 := Classical.choose (⟨qd8, rfl⟩ : ∃ f, f = qd8)
theorem qs3 : qp3 = qd8 := Classical.choose_spec (⟨qd8, rfl⟩ : ∃ f, f = qd8)
def qd7 (call : Ev.Call) (x1 x2 x3 : AV) (H : Hp) : R1 :=
 vq (qcd 2 H x1) H fun a127 H =>
 ve (call (.f qpg) [a127] H) fun a128 H =>
 vq (extr 0 a128) H fun a129 H =>
 vq (extr 1 a128) H fun a130 H =>
 vq (.new (.ptr H.nx 0) (qae 0 [.nilsl, .nilsl])) H fun a131 H =>
 ve (qck 2 H a131 a129) fun _ H =>
 qp3 call x1 x2 x3 a131 a130 H
def qb7 : Ev.Call → AV → AV → AV → Hp → R1 := Classical.choose (⟨qd7, rfl⟩ : ∃ f, f = qd7)
theorem qs2 : qb7 = qd7 := Classical.choose_spec (⟨qd7, rfl⟩ : ∃ f, f = qd7)
def qcz (call : Ev.Call) (g134 : AV → Hp → R1) (x4 : AV) (H : Hp) : R1 :=
 vq (intV (qaa .add).f x4 (.int .i64 (.ofNat 1))) H fun a135 H =>
 g134 a135 H
def qmf : Ev.Call → (AV → Hp → R1) → AV → Hp → R1 := Classical.choose (⟨qcz, rfl⟩ : ∃ f, f = qcz)
theorem qs1 : qmf = qcz := Classical.choose_spec (⟨qcz, rfl⟩ : ∃ f, f = qcz)
def qd6 (call : Ev.Call) (g134 : AV → Hp → R1) (x3 x4 : AV) (H : Hp) : R1 :=
 vq (intV (qaa .lss).f x4 (.int .i64 (.ofNat 255))) H fun a137 H =>
 cd a137 (
 vq (qap 1 x3) H fun a138 H =>
 vq (qaf H a138) H fun a139 H =>
 vq (intV (qaa .add).f x4 (.int .i64 (.ofNat 1))) H fun a140 H =>
 vq (aggN (qas [.int .i64 (.ofNat 0), .int .i64 (.ofNat 0), .bool false] [(0, 1, x4), (1, 1, a140), (2, 1, (.bool true))])) H fun a141 H =>
 vq (qfb 1 H.nx (qas (reps [.int .i64 (.ofNat 0), .int .i64 (.ofNat 0), .bool false] 1) [(0, 3, a141)])) H fun a142 H =>
 ve (qbc 3 24 H a139 (qb8 3 H a142)) fun a143 H =>
 vq (qap 1 x3) H fun a144 H =>
 ve (qao H a144 a143) fun _ H =>
 qmf call g134 x4 H) (
 qmf call g134 x4 H)
def qjs : Ev.Call → (AV → Hp → R1) → AV → AV → Hp → R1 := Classical.choose (⟨qd6, rfl⟩ : ∃ f, f = qd6)
theorem qsz : qjs = qd6 := Classical.choose_spec (⟨qd6, rfl⟩ : ∃ f, f = qd6)
def qd5 (call : Ev.Call) (g134 : AV → Hp → R1) (x2 x3 x4 : AV) (H : Hp) : R1 :=
 vq (intV (qaa .gtr).f x4 (.int .i64 (.ofNat 0))) H fun a147 H =>
 cd a147 (
 vq (qap 1 x2) H fun a148 H =>
 vq (qaf H a148) H fun a149 H =>
 vq (intV (qaa .sub).f x4 (.int .i64 (.ofNat 1))) H fun a150 H =>
 vq (aggN (qas [.int .i64 (.ofNat 0), .int .i64 (.ofNat 0), .bool false] [(0, 1, x4), (1, 1, a150)])) H fun a151 H =>
 vq (qfb 1 H.nx (qas (reps [.int .i64 (.ofNat 0), .int .i64 (.ofNat 0), .bool false] 1) [(0, 3, a151)])) H fun a152 H =>
 ve (qbc 3 24 H a149 (qb8 3 H a152)) fun a153 H =>
 vq (qap 1 x2) H fun a154 H =>
 ve (qao H a154 a153) fun _ H =>
 qjs call g134 x3 x4 H) (
 qjs call g134 x3 x4 H)
def qp2 : Ev.Call → (AV → Hp → R1) → AV → AV → AV → Hp → R1 := Classical.choose (⟨qd5, rfl⟩ : ∃ f, f = qd5)
theorem qsy : qp2 = qd5 := Classical.choose_spec (⟨qd5, rfl⟩ : ∃ f, f = qd5)
def qd4 (call : Ev.Call) (g134 : AV → Hp → R1) (x1 x2 x3 x4 : AV) (H : Hp) : R1 :=
 vq (qap 1 x1) H fun a157 H =>
 vq (qaf H a157) H fun a158 H =>
 vq (intV (qaa .add).f x4 (.int .i64 (.ofNat 1))) H fun a159 H =>
 vq (intV (qaa .rem).f a159 (.int .i64 (.ofNat 256))) H fun a160 H =>
 vq (intV (qaa .eql).f x4 (.int .i64 (.ofNat 200))) H fun a161 H =>
 vq (aggN (qas [.int .i64 (.ofNat 0), .int .i64 (.ofNat 0), .bool false] [(0, 1, x4), (1, 1, a160), (2, 1, a161)])) H fun a162 H =>
 vq (qfb 1 H.nx (qas (reps [.int .i64 (.ofNat 0), .int .i64 (.ofNat 0), .bool false] 1) [(0, 3, a162)])) H fun a163 H =>
 ve (qbc 3 24 H a158 (qb8 3 H a163)) fun a164 H =>
 vq (qap 1 x1) H fun a165 H =>
 ve (qao H a165 a164) fun _ H =>
 qp2 call g134 x2 x3 x4 H
def qp1 : Ev.Call → (AV → Hp → R1) → AV → AV → AV → AV → Hp → R1 := Classical.choose (⟨qd4, rfl⟩ : ∃ f, f = qd4)
theorem qsx : qp1 = qd4 := Classical.choose_spec (⟨qd4, rfl⟩ : ∃ f, f = qd4)
def qxh (call : Ev.Call) (q134e0 : Hp → R1) (x1 x2 x3 : AV) (g134 : AV → Hp → R1) (x4 : AV) (H : Hp) : R1 :=
 vq (intV (qaa .lss).f x4 (.int .i64 (.ofNat 256))) H fun a168 H =>
 cd a168 (
 qp1 call g134 x1 x2 x3 x4 H) (
 q134e0 H)
def qch (call : Ev.Call) (q134e0 : Hp → R1) (x1 x2 x3 : AV) (n : Nat) : AV → Hp → R1 :=
 Nat.rec (motive := fun _ => AV → Hp → R1) (fun _ _ => .bad) (fun _ ih => qxh call q134e0 x1 x2 x3 ih) n
def qxi (call : Ev.Call) (q134e0 : Hp → R1) (x1 x2 x3 : AV) : AV → Hp → R1 := qch call q134e0 x1 x2 x3 qba
def qd3 (call : Ev.Call) (x1 x2 x3 : AV) (H : Hp) : R1 :=
 qxi call (fun H => qb7 call x1 x2 x3 H) x1 x2 x3 (.int .i64 (.ofNat 0)) H
def qp0 : Ev.Call → AV → AV → AV → Hp → R1 := Classical.choose (⟨qd3, rfl⟩ : ∃ f, f = qd3)
theorem qsw : qp0 = qd3 := Classical.choose_spec (⟨qd3, rfl⟩ : ∃ f, f = qd3)
def zg2 (call : Ev.Call) (H : Hp) : R1 :=
 vq (aggN (qas [.int .i64 (.ofNat 0), .nilsl] [(0, 1, (.int .i64 (.ofNat 256)))])) H fun a170 H =>
 vq (aggN (qas [.int .i64 (.ofNat 0), .nilsl] [(0, 1, (.int .i64 (.ofNat 256)))])) H fun a171 H =>
 vq (aggN (qas [.int .i64 (.ofNat 0), .nilsl] [(0, 1, (.int .i64 (.ofNat 256)))])) H fun a172 H =>
 vq (.new (.ptr H.nx 0) (qae 0 [.int .i64 (.ofNat 0), .nilsl])) H fun a173 H =>
 vq (.new (.ptr H.nx 0) (qae 0 [.int .i64 (.ofNat 0), .nilsl])) H fun a174 H =>
 vq (.new (.ptr H.nx 0) (qae 0 [.int .i64 (.ofNat 0), .nilsl])) H fun a175 H =>
 ve (qck 2 H a173 a170) fun _ H =>
 ve (qck 2 H a174 a171) fun _ H =>
 ve (qck 2 H a175 a172) fun _ H =>
 qp0 call a173 a174 a175 H
def lwK (call : Ev.Call) (H : Hp) : R1 := zg2 call H
def qyf (call : Ev.Call) (x4 : AV) (H : Hp) : R1 :=
 vq (qap 0 x4) H fun a7 H =>
 vq (qaf H a7) H fun a8 H =>
 ve (call (.f qxp) [a8] H) fun a9 H =>
 ve (call (.f qlf) [a9] H) fun a10 H =>
 .ok (.tup [a10, (.int .i64 (.ofNat 0))]) H
def zb6 (call : Ev.Call) (x0 : AV) (H : Hp) : R1 :=
 vq (boxA 2 H.nx x0) H fun a0 H =>
 vq (qcd 2 H a0) H fun a1 H =>
 ve (call (.f qpg) [a1] H) fun a2 H =>
 vq (extr 0 a2) H fun a3 H =>
 vq (extr 1 a2) H fun a4 H =>
 vq (.new (.ptr H.nx 0) (qae 0 [.nilsl, .nilsl])) H fun a5 H =>
 ve (qck 2 H a5 a3) fun _ H =>
 vq (intV (qaa .neq).f a4 (.int .i64 (.ofNat 0))) H fun a12 H =>
 cd a12 (
 .ok (.tup [(.nilsl), a4]) H) (
 qyf call a5 H)
def cOrd (call : Ev.Call) (x0 : AV) (H : Hp) : R1 := zb6 call x0 H
def qh6 (call : Ev.Call) (x6 : AV) (H : Hp) : R1 :=
 ve (call (.f qee) [x6] H) fun a7 H =>
 ve (call (.f qf0) [x6] H) fun a8 H =>
 ve (call (.f qlf) [a8] H) fun a9 H =>
 .ok (.tup [a9, (.int .i64 (.ofNat 0))]) H
def qjy (call : Ev.Call) (g14 : AV → AV → Hp → R1) (x6 x20 : AV) (H : Hp) : R1 :=
 vq (intV (qaa .add).f x20 (.int .i64 (.ofNat 1))) H fun a16 H =>
 g14 x6 a16 H
def qyh (call : Ev.Call) (g14 : AV → AV → Hp → R1) (x4 x6 x18 x20 : AV) (H : Hp) : R1 :=
 vq (idxS 3 x18 x20) H fun a18 H =>
 vq (qcd 3 H a18) H fun a19 H =>
 vq (.new (.ptr H.nx 0) (qae 0 [.int .i64 (.ofNat 0), .int .i64 (.ofNat 0), .bool false])) H fun a20 H =>
 ve (qck 3 H a20 a19) fun _ H =>
 vl (qap 2 a20) fun a22 =>
 vl (qaf H a22) fun a23 =>
 vlg (qac true a23) (qap 1 x4) fun a24 =>
 vlg (qac true a23) (qaf H a24) fun a25 =>
 vlg (qac true a23) (qap 0 a20) fun a26 =>
 vlg (qac true a23) (qaf H a26) fun a27 =>
 vlg (qac true a23) (idxS 1 a25 a27) fun a28 =>
 vlg (qac true a23) (qaf H a28) fun a29 =>
 vlg (qac true a23) (qap 1 x4) fun a30 =>
 vlg (qac true a23) (qaf H a30) fun a31 =>
 vlg (qac true a23) (qap 1 a20) fun a32 =>
 vlg (qac true a23) (qaf H a32) fun a33 =>
 vlg (qac true a23) (idxS 1 a31 a33) fun a34 =>
 vlg (qac true a23) (qaf H a34) fun a35 =>
 vlg (qac true a23) (intV (qaa .eql).f a29 a35) fun a36 =>
 vl (qbj a23 a36 (.bool false)) fun a37 =>
 cd a37 (
 vq (qap 1 x4) H fun a38 H =>
 vq (qaf H a38) H fun a39 H =>
 vq (qap 0 a20) H fun a40 H =>
 vq (qaf H a40) H fun a41 H =>
 vq (idxS 1 a39 a41) H fun a42 H =>
 vq (qaf H a42) H fun a43 H =>
 vq (qfb 1 H.nx (qas (reps [.int .i64 (.ofNat 0)] 1) [(0, 1, a43)])) H fun a44 H =>
 ve (qbc 1 8 H x6 (qb8 1 H a44)) fun a45 H =>
 qjy call g14 a45 x20 H) (
 qjy call g14 x6 x20 H)
def qyi (call : Ev.Call) (q14e0 : AV → Hp → R1) (x4 x18 x19 : AV) (g14 : AV → AV → Hp → R1) (x6 x20 : AV) (H : Hp) : R1 :=
 vq (intV (qaa .lss).f x20 x19) H fun a15 H =>
 cd a15 (
 qyh call g14 x4 x6 x18 x20 H) (
 q14e0 x6 H)
def qjx (call : Ev.Call) (q14e0 : AV → Hp → R1) (x4 x18 x19 : AV) (n : Nat) : AV → AV → Hp → R1 :=
 Nat.rec (motive := fun _ => AV → AV → Hp → R1) (fun _ _ _ => .bad) (fun _ ih => qyi call q14e0 x4 x18 x19 ih) n
def qyj (call : Ev.Call) (q14e0 : AV → Hp → R1) (x4 x18 x19 : AV) : AV → AV → Hp → R1 := qjx call q14e0 x4 x18 x19 qba
def qfg (call : Ev.Call) (x1 x4 : AV) (H : Hp) : R1 :=
 vq (qap 1 x1) H fun a11 H =>
 vq (qaf H a11) H fun a12 H =>
 vq (qa9 a12) H fun a13 H =>
 qyj call (fun x6 H => qh6 call x6 H) x4 a12 a13 (.nilsl) (.int .i64 (.ofNat 0)) H
def qyg : Ev.Call → AV → AV → Hp → R1 := Classical.choose (⟨qfg, rfl⟩ : ∃ f, f = qfg)
theorem qt1 : qyg = qfg := Classical.choose_spec (⟨qfg, rfl⟩ : ∃ f, f = qfg)
def zcf (call : Ev.Call) (x0 : AV) (H : Hp) : R1 :=
 vq (boxA 2 H.nx x0) H fun a0 H =>
 vq (qcd 2 H a0) H fun a1 H =>
 ve (call (.f qpg) [a1] H) fun a2 H =>
 vq (extr 0 a2) H fun a3 H =>
 vq (extr 1 a2) H fun a4 H =>
 vq (.new (.ptr H.nx 0) (qae 0 [.nilsl, .nilsl])) H fun a5 H =>
 ve (qck 2 H a5 a3) fun _ H =>
 vq (intV (qaa .neq).f a4 (.int .i64 (.ofNat 0))) H fun a48 H =>
 cd a48 (
 .ok (.tup [(.nilsl), a4]) H) (
 qyg call a0 a5 H)
def cMix (call : Ev.Call) (x0 : AV) (H : Hp) : R1 := zcf call x0 H
def qsv (call : Ev.Call) (H : Hp) : R1 :=
 .ok (.bool true) H
def zaa (call : Ev.Call) (g1 : AV → Hp → R1) (x9 : AV) (H : Hp) : R1 :=
 vq (intV (qaa .add).f x9 (.int .i64 (.ofNat 1))) H fun a2 H =>
 g1 a2 H
def q99 (call : Ev.Call) (q1r : AV → Hp → R1) (g1 : AV → Hp → R1) (x0 x2 x9 : AV) (H : Hp) : R1 :=
 vl (idxS 1 x0 x9) fun a4 =>
 vl (qaf H a4) fun a5 =>
 vl (idxS 1 x2 x9) fun a6 =>
 vl (qaf H a6) fun a7 =>
 vl (intV (qaa .neq).f a5 a7) fun a8 =>
 cd a8 (
 q1r (.bool false) H) (
 zaa call g1 x9 H)
def zab (call : Ev.Call) (q1r : AV → Hp → R1) (q1e0 : Hp → R1) (x0 x2 : AV) (g1 : AV → Hp → R1) (x9 : AV) (H : Hp) : R1 :=
 vq (qa9 x2) H fun a10 H =>
 vq (intV (qaa .lss).f x9 a10) H fun a11 H =>
 cd a11 (
 q99 call q1r g1 x0 x2 x9 H) (
 q1e0 H)
def quy (call : Ev.Call) (q1r : AV → Hp → R1) (q1e0 : Hp → R1) (x0 x2 : AV) (n : Nat) : AV → Hp → R1 :=
 Nat.rec (motive := fun _ => AV → Hp → R1) (fun _ _ => .bad) (fun _ ih => zab call q1r q1e0 x0 x2 ih) n
def zac (call : Ev.Call) (q1r : AV → Hp → R1) (q1e0 : Hp → R1) (x0 x2 : AV) : AV → Hp → R1 := quy call q1r q1e0 x0 x2 qba
def q2c (call : Ev.Call) (x0 x2 : AV) (H : Hp) : R1 :=
 zac call (fun x8 H => .ok x8 H) (fun H => qsv call H) x0 x2 (.int .i64 (.ofNat 0)) H
def zg1 (call : Ev.Call) (x0 x1 x2 x3 : AV) (H : Hp) : R1 :=
 vq (intV (qaa .neq).f x1 x3) H fun a13 H =>
 vg (qac false a13) (.val x0) H fun a14 H =>
 vg (qac false a13) (qa9 a14) H fun a15 H =>
 vg (qac false a13) (.val x2) H fun a16 H =>
 vg (qac false a13) (qa9 a16) H fun a17 H =>
 vg (qac false a13) (intV (qaa .neq).f a15 a17) H fun a18 H =>
 vq (qbj a13 (.bool true) a18) H fun a19 H =>
 vg (qac false a19) (.val x0) H fun a20 H =>
 vg (qac false a19) (capV a20) H fun a21 H =>
 vg (qac false a19) (.val x0) H fun a22 H =>
 vg (qac false a19) (qa9 a22) H fun a23 H =>
 vg (qac false a19) (intV (qaa .neq).f a21 a23) H fun a24 H =>
 vq (qbj a19 (.bool true) a24) H fun a25 H =>
 cd a25 (
 .ok (.bool false) H) (
 q2c call x0 x2 H)
def lwL (call : Ev.Call) (x0 x1 x2 x3 : AV) (H : Hp) : R1 := zg1 call x0 x1 x2 x3 H
def qsu (call : Ev.Call) (H : Hp) : R1 :=
 .ok (.bool true) H
def q96 (call : Ev.Call) (g2 : AV → Hp → R1) (x7 : AV) (H : Hp) : R1 :=
 vq (intV (qaa .add).f x7 (.int .i64 (.ofNat 1))) H fun a3 H =>
 g2 a3 H
def q2b (call : Ev.Call) (q2r : AV → Hp → R1) (g2 : AV → Hp → R1) (x1 x3 x7 : AV) (H : Hp) : R1 :=
 dz 0 H fun b5 H =>
 dq false false 0 0 (b5 + 0) H [] [] (fun _ => qap 0 x3) (some true) fun a6 H p w =>
 dq true false 1 1 (b5 + 1) H p w (fun H => qaf H a6) (some true) fun a7 H p w =>
 dq false false 2 0 (b5 + 2) H p w (fun _ => .val x7) (some true) fun a8 H p w =>
 dq false false 3 7 (b5 + 3) H p w (fun _ => idxS 1 a7 a8) (some true) fun a9 H p w =>
 dq true false 4 15 (b5 + 4) H p w (fun H => qaf H a9) (some true) fun a10 H p w =>
 dq false false 5 0 (b5 + 5) H p w (fun _ => .val x1) (some true) fun a11 H p w =>
 dq false false 6 0 (b5 + 6) H p w (fun _ => .val x7) (some true) fun a12 H p w =>
 dq false false 7 96 (b5 + 7) H p w (fun _ => idxS 1 a11 a12) (some true) fun a13 H p w =>
 dq true false 8 224 (b5 + 8) H p w (fun H => qaf H a13) (some true) fun a14 H p w =>
 de 511 H p w (call (.f qj6) [a10, (.int .i64 (.ofNat 0)), a14, (.int .i64 (.ofNat 0))] (qaq 511 p H)) (some true) fun a15 H p w =>
 dq false false 10 1023 (b5 + 10) H p w (fun _ => (unS .not).f a15) (some true) fun a16 H p w =>
 dz2 p H fun H =>
 cd a16 (
 q2r (.bool false) H) (
 q96 call g2 x7 H)
def q97 (call : Ev.Call) (q2r : AV → Hp → R1) (q2e0 : Hp → R1) (x1 x3 : AV) (g2 : AV → Hp → R1) (x7 : AV) (H : Hp) : R1 :=
 vq (qa9 x1) H fun a18 H =>
 vq (intV (qaa .lss).f x7 a18) H fun a19 H =>
 cd a19 (
 q2b call q2r g2 x1 x3 x7 H) (
 q2e0 H)
def qux (call : Ev.Call) (q2r : AV → Hp → R1) (q2e0 : Hp → R1) (x1 x3 : AV) (n : Nat) : AV → Hp → R1 :=
 Nat.rec (motive := fun _ => AV → Hp → R1) (fun _ _ => .bad) (fun _ ih => q97 call q2r q2e0 x1 x3 ih) n
def q98 (call : Ev.Call) (q2r : AV → Hp → R1) (q2e0 : Hp → R1) (x1 x3 : AV) : AV → Hp → R1 := qux call q2r q2e0 x1 x3 qba
def q2a (call : Ev.Call) (x1 x3 : AV) (H : Hp) : R1 :=
 q98 call (fun x6 H => .ok x6 H) (fun H => qsu call H) x1 x3 (.int .i64 (.ofNat 0)) H
def zg0 (call : Ev.Call) (x0 x1 x2 : AV) (H : Hp) : R1 :=
 vq (boxA 2 H.nx x0) H fun a0 H =>
 vq (qap 0 a0) H fun a21 H =>
 vq (qaf H a21) H fun a22 H =>
 vq (qa9 a22) H fun a23 H =>
 vq (qa9 x1) H fun a24 H =>
 vq (intV (qaa .neq).f a23 a24) H fun a25 H =>
 vg (qac false a25) (qap 0 a0) H fun a26 H =>
 vg (qac false a25) (qaf H a26) H fun a27 H =>
 vg (qac false a25) (capV a27) H fun a28 H =>
 vg (qac false a25) (qap 0 a0) H fun a29 H =>
 vg (qac false a25) (qaf H a29) H fun a30 H =>
 vg (qac false a25) (qa9 a30) H fun a31 H =>
 vg (qac false a25) (intV (qaa .neq).f a28 a31) H fun a32 H =>
 vq (qbj a25 (.bool true) a32) H fun a33 H =>
 vg (qac false a33) (qap 1 a0) H fun a34 H =>
 vg (qac false a33) (qaf H a34) H fun a35 H =>
 vg (qac false a33) (.val x2) H fun a36 H =>
 veg (qac false a33) (call (.f qj6) [a35, (.int .i64 (.ofNat 0)), a36, (.int .i64 (.ofNat 0))] H) H fun a37 H =>
 vg (qac false a33) ((unS .not).f a37) H fun a38 H =>
 vq (qbj a33 (.bool true) a38) H fun a39 H =>
 cd a39 (
 .ok (.bool false) H) (
 q2a call x1 a0 H)
def lwS (call : Ev.Call) (x0 x1 x2 : AV) (H : Hp) : R1 := zg0 call x0 x1 x2 H
def qlj (call : Ev.Call) (H : Hp) : R1 :=
 .ok (.int .i64 (.ofNat 0)) H
def qxw (call : Ev.Call) (g5 : AV → Hp → R1) (x16 : AV) (H : Hp) : R1 :=
 vq (intV (qaa .add).f x16 (.int .i64 (.ofNat 1))) H fun a7 H =>
 g5 a7 H
def za7 (call : Ev.Call) (q5r : AV → Hp → R1) (g5 : AV → Hp → R1) (x1 x3 x4 x16 : AV) (H : Hp) : R1 :=
 vq (qap 0 x4) H fun a13 H =>
 vq (qaf H a13) H fun a14 H =>
 vq (qap 1 x4) H fun a15 H =>
 vq (qaf H a15) H fun a16 H =>
 vq (qhy minV a14 [a16]) H fun a17 H =>
 vq (intV (qaa .lss).f a17 (.int .i64 (.ofNat 0))) H fun a18 H =>
 vg (qac false a18) (qap 0 x4) H fun a19 H =>
 vg (qac false a18) (qaf H a19) H fun a20 H =>
 vg (qac false a18) (qap 1 x4) H fun a21 H =>
 vg (qac false a18) (qaf H a21) H fun a22 H =>
 vg (qac false a18) (qhy maxV a20 [a22]) H fun a23 H =>
 vg (qac false a18) (qap 0 x1) H fun a24 H =>
 vg (qac false a18) (qaf H a24) H fun a25 H =>
 vg (qac false a18) (intV (qaa .geq).f a23 a25) H fun a26 H =>
 vq (qbj a18 (.bool true) a26) H fun a27 H =>
 cd a27 (
 q5r (.int .i64 (.ofNat 4)) H) (
 dz 0 H fun b28 H =>
 dq false false 0 0 (b28 + 0) H [] [] (fun _ => .val x3) (some true) fun a29 H p w =>
 dq false false 1 1 (b28 + 1) H p w (fun _ => intV (qaa .gtr).f a29 (.int .i64 (.ofNat 0))) (some true) fun a30 H p w =>
 dq false false 2 3 (b28 + 2) H p w (fun _ => .val a30) (some true) fun a31 H p w =>
 dq false false 3 7 (b28 + 3) H p w (fun _ => qap 1 x1) (qac true a31) fun a32 H p w =>
 dq true false 4 15 (b28 + 4) H p w (fun H => qaf H a32) (qac true a31) fun a33 H p w =>
 dq false false 5 7 (b28 + 5) H p w (fun _ => .val x3) (qac true a31) fun a34 H p w =>
 dq false false 6 39 (b28 + 6) H p w (fun _ => intV (qaa .sub).f a34 (.int .i64 (.ofNat 1))) (qac true a31) fun a35 H p w =>
 dq false false 7 127 (b28 + 7) H p w (fun _ => idxS 3 a33 a35) (qac true a31) fun a36 H p w =>
 dq true false 8 255 (b28 + 8) H p w (fun H => qcd 3 H a36) (qac true a31) fun a37 H p w =>
 dq true false 9 7 (b28 + 9) H p w (fun H => qcd 3 H x4) (qac true a31) fun a38 H p w =>
 de 1023 H p w (call (.f qxr) [a37, a38] (qaq 1023 p H)) (qac true a31) fun a39 H p w =>
 dq false false 11 2047 (b28 + 11) H p w (fun _ => intV (qaa .geq).f a39 (.int .i64 (.ofNat 0))) (qac true a31) fun a40 H p w =>
 dq false false 12 4095 (b28 + 12) H p w (fun _ => qbj a31 a40 (.bool false)) (some true) fun a41 H p w =>
 dq false false 13 8191 (b28 + 13) H p w (fun _ => .val a41) (some true) fun a42 H p w =>
 dz2 p H fun H =>
 cd a42 (
 q5r (.int .i64 (.ofNat 18)) H) (
 qxw call g5 x16 H))
def qxy (call : Ev.Call) (q5r : AV → Hp → R1) (g5 : AV → Hp → R1) (x1 x14 x16 : AV) (H : Hp) : R1 :=
 vq (idxS 3 x14 x16) H fun a9 H =>
 vq (qcd 3 H a9) H fun a10 H =>
 vq (.new (.ptr H.nx 0) (qae 0 [.int .i64 (.ofNat 0), .int .i64 (.ofNat 0), .bool false])) H fun a11 H =>
 ve (qck 3 H a11 a10) fun _ H =>
 za7 call q5r g5 x1 x16 a11 x16 H
def q21 (call : Ev.Call) (q5r : AV → Hp → R1) (q5e0 : Hp → R1) (x1 x14 x15 : AV) (g5 : AV → Hp → R1) (x16 : AV) (H : Hp) : R1 :=
 vq (intV (qaa .lss).f x16 x15) H fun a6 H =>
 cd a6 (
 qxy call q5r g5 x1 x14 x16 H) (
 q5e0 H)
def qli (call : Ev.Call) (q5r : AV → Hp → R1) (q5e0 : Hp → R1) (x1 x14 x15 : AV) (n : Nat) : AV → Hp → R1 :=
 Nat.rec (motive := fun _ => AV → Hp → R1) (fun _ _ => .bad) (fun _ ih => q21 call q5r q5e0 x1 x14 x15 ih) n
def q23 (call : Ev.Call) (q5r : AV → Hp → R1) (q5e0 : Hp → R1) (x1 x14 x15 : AV) : AV → Hp → R1 := qli call q5r q5e0 x1 x14 x15 qba
def qxx (call : Ev.Call) (x1 : AV) (H : Hp) : R1 :=
 vq (qap 1 x1) H fun a2 H =>
 vq (qaf H a2) H fun a3 H =>
 vq (qa9 a3) H fun a4 H =>
 q23 call (fun x2 H => .ok x2 H) (fun H => qlj call H) x1 a3 a4 (.int .i64 (.ofNat 0)) H
def za9 (call : Ev.Call) (x0 : AV) (H : Hp) : R1 :=
 vq (boxA 2 H.nx x0) H fun a0 H =>
 vq (qap 0 a0) H fun a45 H =>
 vq (qaf H a45) H fun a46 H =>
 vq (intV (qaa .lss).f a46 (.int .i64 (.ofNat 0))) H fun a47 H =>
 vg (qac false a47) (qap 0 a0) H fun a48 H =>
 vg (qac false a47) (qaf H a48) H fun a49 H =>
 vg (qac false a47) (intV (qaa .gtr).f a49 (.int .i64 (.ofNat 256))) H fun a50 H =>
 vq (qbj a47 (.bool true) a50) H fun a51 H =>
 cd a51 (
 .ok (.int .i64 (.ofNat 3)) H) (
 qxx call a0 H)
def gChk (call : Ev.Call) (x0 : AV) (H : Hp) : R1 := za9 call x0 H
def qff (call : Ev.Call) (x3 : AV) (H : Hp) : R1 :=
 vq (qap 1026 x3) H fun a2 H =>
 vq (qaf H a2) H fun a3 H =>
 .ok a3 H
def qhb (call : Ev.Call) (g7 : AV → Hp → R1) (x30 : AV) (H : Hp) : R1 :=
 vq (intV (qaa .add).f x30 (.int .i64 (.ofNat 1))) H fun a9 H =>
 g7 a9 H
def qoy (call : Ev.Call) (g7 : AV → Hp → R1) (x3 x30 : AV) (H : Hp) : R1 :=
 vq (qap 256 x3) H fun a11 H =>
 vq (idxA 256 1 a11 x30) H fun a12 H =>
 vq (qaf H a12) H fun a13 H =>
 vq (intV (qaa .eql).f a13 (.int .i64 (.ofNat 0))) H fun a14 H =>
 cd a14 (
 ve (call (.f qqg) [x3, x30] H) fun a15 H =>
 qhb call g7 x30 H) (
 qhb call g7 x30 H)
def qtx (call : Ev.Call) (q7e2 : Hp → R1) (x3 x29 : AV) (g7 : AV → Hp → R1) (x30 : AV) (H : Hp) : R1 :=
 vq (intV (qaa .lss).f x30 x29) H fun a8 H =>
 cd a8 (
 qoy call g7 x3 x30 H) (
 q7e2 H)
def qha (call : Ev.Call) (q7e2 : Hp → R1) (x3 x29 : AV) (n : Nat) : AV → Hp → R1 :=
 Nat.rec (motive := fun _ => AV → Hp → R1) (fun _ _ => .bad) (fun _ ih => qtx call q7e2 x3 x29 ih) n
def qty (call : Ev.Call) (q7e2 : Hp → R1) (x3 x29 : AV) : AV → Hp → R1 := qha call q7e2 x3 x29 qba
def qdv (call : Ev.Call) (x1 x3 : AV) (H : Hp) : R1 :=
 vq (qap 0 x1) H fun a5 H =>
 vq (qaf H a5) H fun a6 H =>
 qty call (fun H => qff call x3 H) x3 a6 (.int .i64 (.ofNat 0)) H
def qox (call : Ev.Call) (g21 : AV → Hp → R1) (x10 : AV) (H : Hp) : R1 :=
 vq (intV (qaa .add).f x10 (.int .i64 (.ofNat 1))) H fun a23 H =>
 g21 a23 H
def qow (call : Ev.Call) (g21 : AV → Hp → R1) (x3 x8 x10 : AV) (H : Hp) : R1 :=
 vq (idxS 3 x8 x10) H fun a25 H =>
 vq (qcd 3 H a25) H fun a26 H =>
 vq (.new (.ptr H.nx 0) (qae 0 [.int .i64 (.ofNat 0), .int .i64 (.ofNat 0), .bool false])) H fun a27 H =>
 ve (qck 3 H a27 a26) fun _ H =>
 dz 14 H fun b29 H =>
 dq false false 0 0 (b29 + 0) H [] [] (fun _ => qap 0 a27) (some true) fun a30 H p w =>
 dq true false 1 1 (b29 + 1) H p w (fun H => qaf H a30) (some true) fun a31 H p w =>
 dq false false 2 0 (b29 + 2) H p w (fun _ => qap 0 a27) (some true) fun a32 H p w =>
 dq true false 3 4 (b29 + 3) H p w (fun H => qaf H a32) (some true) fun a33 H p w =>
 dq false false 4 0 (b29 + 4) H p w (fun _ => qap 0 x3) (some true) fun a34 H p w =>
 dq false false 5 28 (b29 + 5) H p w (fun _ => idxA 256 1 a34 a33) (some true) fun a35 H p w =>
 dq true false 6 60 (b29 + 6) H p w (fun H => qaf H a35) (some true) fun a36 H p w =>
 dq false false 7 0 (b29 + 7) H p w (fun _ => qap 1 a27) (some true) fun a37 H p w =>
 dq true false 8 128 (b29 + 8) H p w (fun H => qaf H a37) (some true) fun a38 H p w =>
 dq false true 9 384 (b29 + 9) H p w (fun _ => qfb 1 (b29 + 9) (qas (reps [.int .i64 (.ofNat 0)] 1) [(0, 1, a38)])) (some true) fun a39 H p w =>
 dq false false 11 0 (b29 + 11) H p w (fun _ => qap 0 x3) (some true) fun a40 H p w =>
 de 1020 H p w (qbc 1 8 (qaq 1020 p H) a36 (qb8 1 (qaq 1020 p H) a39)) (some true) fun a41 H p w =>
 dq false false 12 4095 (b29 + 12) H p w (fun _ => idxA 256 1 a40 a31) (some true) fun a42 H p w =>
 de 8191 H p w (qao (qaq 8191 p H) a42 a41) (some true) fun _ H p w =>
 dz2 p H fun H =>
 qox call g21 x10 H
def qoz (call : Ev.Call) (q21e0 : Hp → R1) (x3 x8 x9 : AV) (g21 : AV → Hp → R1) (x10 : AV) (H : Hp) : R1 :=
 vq (intV (qaa .lss).f x10 x9) H fun a22 H =>
 cd a22 (
 qow call g21 x3 x8 x10 H) (
 q21e0 H)
def qet (call : Ev.Call) (q21e0 : Hp → R1) (x3 x8 x9 : AV) (n : Nat) : AV → Hp → R1 :=
 Nat.rec (motive := fun _ => AV → Hp → R1) (fun _ _ => .bad) (fun _ ih => qoz call q21e0 x3 x8 x9 ih) n
def qo0 (call : Ev.Call) (q21e0 : Hp → R1) (x3 x8 x9 : AV) : AV → Hp → R1 := qet call q21e0 x3 x8 x9 qba
def qye (call : Ev.Call) (x0 : AV) (H : Hp) : R1 :=
 vq (boxA 2 H.nx x0) H fun a0 H =>
 vq (.new (.ptr H.nx 0) (qae 0 (List.replicate 256 (.nilsl) ++ List.replicate 512 (.int .i64 (.ofNat 0)) ++ List.replicate 256 (.bool false) ++ [.nilsl] ++ [.int .i64 (.ofNat 0)] ++ [.nilsl]))) H fun a1 H =>
 vq (qap 1 a0) H fun a18 H =>
 vq (qaf H a18) H fun a19 H =>
 vq (qa9 a19) H fun a20 H =>
 qo0 call (fun H => qdv call a0 a1 H) a1 a19 a20 (.int .i64 (.ofNat 0)) H
def cParts (call : Ev.Call) (x0 : AV) (H : Hp) : R1 := qye call x0 H
def qfe (call : Ev.Call) (x2 x3 x5 : AV) (H : Hp) : R1 :=
 .ok (.fn qi9 [] [x3, x2, x5]) H
def qh5 (call : Ev.Call) (g12 : AV → Hp → R1) (x17 : AV) (H : Hp) : R1 :=
 vq (intV (qaa .add).f x17 (.int .i64 (.ofNat 1))) H fun a14 H =>
 g12 a14 H
def qx9 (call : Ev.Call) (g19 : AV → Hp → R1) (x24 : AV) (H : Hp) : R1 :=
 vq (intV (qaa .add).f x24 (.int .i64 (.ofNat 1))) H fun a21 H =>
 g19 a21 H
def qx8 (call : Ev.Call) (g19 : AV → Hp → R1) (x5 x6 x22 x24 : AV) (H : Hp) : R1 :=
 vq (idxS 1 x22 x24) H fun a23 H =>
 vq (qaf H a23) H fun a24 H =>
 vq (qaf H x5) H fun a25 H =>
 vq (idxS 1 a25 a24) H fun a26 H =>
 ve (qao H a26 x6) fun _ H =>
 qx9 call g19 x24 H
def qya (call : Ev.Call) (q19e2 : Hp → R1) (x5 x6 x22 x23 : AV) (g19 : AV → Hp → R1) (x24 : AV) (H : Hp) : R1 :=
 vq (intV (qaa .lss).f x24 x23) H fun a20 H =>
 cd a20 (
 qx8 call g19 x5 x6 x22 x24 H) (
 q19e2 H)
def qjw (call : Ev.Call) (q19e2 : Hp → R1) (x5 x6 x22 x23 : AV) (n : Nat) : AV → Hp → R1 :=
 Nat.rec (motive := fun _ => AV → Hp → R1) (fun _ _ => .bad) (fun _ ih => qya call q19e2 x5 x6 x22 x23 ih) n
def qyc (call : Ev.Call) (q19e2 : Hp → R1) (x5 x6 x22 x23 : AV) : AV → Hp → R1 := qjw call q19e2 x5 x6 x22 x23 qba
def qx7 (call : Ev.Call) (g12 : AV → Hp → R1) (x5 x15 x17 : AV) (H : Hp) : R1 :=
 vq (idxS 1 x15 x17) H fun a16 H =>
 vq (qaf H a16) H fun a17 H =>
 vq (qa9 a17) H fun a18 H =>
 qyc call (fun H => qh5 call g12 x17 H) x5 x17 a17 a18 (.int .i64 (.ofNat 0)) H
def qyb (call : Ev.Call) (q12e0 : Hp → R1) (x5 x15 x16 : AV) (g12 : AV → Hp → R1) (x17 : AV) (H : Hp) : R1 :=
 vq (intV (qaa .lss).f x17 x16) H fun a13 H =>
 cd a13 (
 qx7 call g12 x5 x15 x17 H) (
 q12e0 H)
def qdy (call : Ev.Call) (q12e0 : Hp → R1) (x5 x15 x16 : AV) (n : Nat) : AV → Hp → R1 :=
 Nat.rec (motive := fun _ => AV → Hp → R1) (fun _ _ => .bad) (fun _ ih => qyb call q12e0 x5 x15 x16 ih) n
def qyd (call : Ev.Call) (q12e0 : Hp → R1) (x5 x15 x16 : AV) : AV → Hp → R1 := qdy call q12e0 x5 x15 x16 qba
def zb4 (call : Ev.Call) (x0 x1 : AV) (H : Hp) : R1 :=
 vq (boxA 2 H.nx x0) H fun a0 H =>
 vq (box1 H.nx x1) H fun a1 H =>
 vq (qaf H a1) H fun a2 H =>
 ve (call (.f qb3) [a2, (.fn qlg [] [])] H) fun a3 H =>
 vq (qap 0 a0) H fun a4 H =>
 vq (qaf H a4) H fun a5 H =>
 vq (qpf [.int .i64 (.ofNat 0)] 8 H.nx a5 a5) H fun a6 H =>
 vq (.new (.ptr H.nx 0) (qae 0 [.nilsl])) H fun a7 H =>
 ve (qao H a7 a6) fun _ H =>
 vq (qaf H a1) H fun a10 H =>
 vq (qa9 a10) H fun a11 H =>
 qyd call (fun H => qfe call a0 a1 a7 H) a7 a10 a11 (.int .i64 (.ofNat 0)) H
def cRdy (call : Ev.Call) (x0 x1 : AV) (H : Hp) : R1 := zb4 call x0 x1 H
def q4e (call : Ev.Call) (x0 : AV) (H : Hp) : R1 :=
 vq (qa9 x0) H fun a0 H =>
 vq (qa9 x0) H fun a1 H =>
 vq (qbo 1 x0 none (some a0) (some a1)) H fun a2 H =>
 .ok a2 H
def sClp (call : Ev.Call) (x0 : AV) (H : Hp) : R1 := q4e call x0 H
def q1j (call : Ev.Call) (x0 : AV) (H : Hp) : R1 :=
 vq (qa9 x0) H fun a0 H =>
 vq (qa9 x0) H fun a1 H =>
 vq (qbo 1 x0 none (some a0) (some a1)) H fun a2 H =>
 .ok a2 H
def sClpS (call : Ev.Call) (x0 : AV) (H : Hp) : R1 := q1j call x0 H
def qim (call : Ev.Call) (x6 : AV) (H : Hp) : R1 :=
 .ok x6 H
def q1k (call : Ev.Call) (g3 : AV → AV → Hp → R1) (x6 x27 : AV) (H : Hp) : R1 :=
 vq (intV (qaa .add).f x27 (.int .i64 (.ofNat 1))) H fun a5 H =>
 g3 x6 a5 H
def qwd (call : Ev.Call) (g3 : AV → AV → Hp → R1) (x6 x25 x27 : AV) (H : Hp) : R1 :=
 vq (idxS 1 x25 x27) H fun a7 H =>
 vq (qaf H a7) H fun a8 H =>
 ve (qbc 1 8 H x6 (qb8 1 H a8)) fun a9 H =>
 q1k call g3 a9 x27 H
def qrm (call : Ev.Call) (q3e2 : AV → Hp → R1) (x25 x26 : AV) (g3 : AV → AV → Hp → R1) (x6 x27 : AV) (H : Hp) : R1 :=
 vq (intV (qaa .lss).f x27 x26) H fun a4 H =>
 cd a4 (
 qwd call g3 x6 x25 x27 H) (
 q3e2 x6 H)
def qkt (call : Ev.Call) (q3e2 : AV → Hp → R1) (x25 x26 : AV) (n : Nat) : AV → AV → Hp → R1 :=
 Nat.rec (motive := fun _ => AV → AV → Hp → R1) (fun _ _ _ => .bad) (fun _ ih => qrm call q3e2 x25 x26 ih) n
def qwf (call : Ev.Call) (q3e2 : AV → Hp → R1) (x25 x26 : AV) : AV → AV → Hp → R1 := qkt call q3e2 x25 x26 qba
def qhi (call : Ev.Call) (x0 x3 : AV) (H : Hp) : R1 :=
 ve (call (.f qte) [(.nilsl), x3] H) fun a0 H =>
 vq (qa9 x0) H fun a2 H =>
 qwf call (fun x6 H => qim call x6 H) x0 a2 a0 (.int .i64 (.ofNat 0)) H
def qpq (call : Ev.Call) (g13 : AV → AV → Hp → R1) (x3 x11 : AV) (H : Hp) : R1 :=
 vq (intV (qaa .add).f x11 (.int .i64 (.ofNat 1))) H fun a15 H =>
 g13 x3 a15 H
def qwc (call : Ev.Call) (g13 : AV → AV → Hp → R1) (x3 x9 x11 : AV) (H : Hp) : R1 :=
 vq (idxS 1 x9 x11) H fun a17 H =>
 vq (qaf H a17) H fun a18 H =>
 vq (qa9 a18) H fun a19 H =>
 vq (intV (qaa .add).f x3 a19) H fun a20 H =>
 vq (intV (qaa .lss).f a20 (.int .i64 (.ofNat 0))) H fun a21 H =>
 cd a21 (
 ve (.bad) fun _ H =>
 qpq call g13 a20 x11 H) (
 qpq call g13 a20 x11 H)
def qwe (call : Ev.Call) (q13e0 : AV → Hp → R1) (x9 x10 : AV) (g13 : AV → AV → Hp → R1) (x3 x11 : AV) (H : Hp) : R1 :=
 vq (intV (qaa .lss).f x11 x10) H fun a14 H =>
 cd a14 (
 qwc call g13 x3 x9 x11 H) (
 q13e0 x3 H)
def qjo (call : Ev.Call) (q13e0 : AV → Hp → R1) (x9 x10 : AV) (n : Nat) : AV → AV → Hp → R1 :=
 Nat.rec (motive := fun _ => AV → AV → Hp → R1) (fun _ _ _ => .bad) (fun _ ih => qwe call q13e0 x9 x10 ih) n
def qwg (call : Ev.Call) (q13e0 : AV → Hp → R1) (x9 x10 : AV) : AV → AV → Hp → R1 := qjo call q13e0 x9 x10 qba
def q85 (call : Ev.Call) (x0 : AV) (H : Hp) : R1 :=
 vq (qa9 x0) H fun a12 H =>
 qwg call (fun x3 H => qhi call x0 x3 H) x0 a12 (.int .i64 (.ofNat 0)) (.int .i64 (.ofNat 0)) H
def sCat (call : Ev.Call) (x0 : AV) (H : Hp) : R1 := q85 call x0 H
def za6 (call : Ev.Call) (x0 x1 : AV) (H : Hp) : R1 :=
 vq (boxA 3 H.nx x0) H fun a0 H =>
 vq (boxA 3 H.nx x1) H fun a1 H =>
 dz 18 H fun b2 H =>
 dq false false 0 0 (b2 + 0) H [] [] (fun _ => qap 0 a0) (some true) fun a3 H p w =>
 dq true false 1 1 (b2 + 1) H p w (fun H => qaf H a3) (some true) fun a4 H p w =>
 dq false false 2 0 (b2 + 2) H p w (fun _ => qap 0 a1) (some true) fun a5 H p w =>
 dq true false 3 4 (b2 + 3) H p w (fun H => qaf H a5) (some true) fun a6 H p w =>
 dq false false 5 0 (b2 + 5) H p w (fun _ => qap 1 a0) (some true) fun a7 H p w =>
 dq true false 6 32 (b2 + 6) H p w (fun H => qaf H a7) (some true) fun a8 H p w =>
 dq false false 7 0 (b2 + 7) H p w (fun _ => qap 1 a1) (some true) fun a9 H p w =>
 dq true false 8 128 (b2 + 8) H p w (fun H => qaf H a9) (some true) fun a10 H p w =>
 dq true false 10 0 (b2 + 10) H p w (fun H => qcd 3 H a0) (some true) fun a11 H p w =>
 dq true false 12 0 (b2 + 12) H p w (fun H => qcd 3 H a1) (some true) fun a12 H p w =>
 de 15 H p w (call (.f qon) [a4, a6] (qaq 15 p H)) (some true) fun a13 H p w =>
 de 511 H p w (call (.f qon) [a8, a10] (qaq 511 p H)) (some true) fun a14 H p w =>
 de 2047 H p w (call (.f qtf) [a11] (qaq 2047 p H)) (some true) fun a15 H p w =>
 de 8191 H p w (call (.f qtf) [a12] (qaq 8191 p H)) (some true) fun a16 H p w =>
 de 16383 H p w (call (.f qon) [a15, a16] (qaq 16383 p H)) (some true) fun a17 H p w =>
 dq false true 15 32767 (b2 + 15) H p w (fun _ => qfb 3 (b2 + 15) (qas (reps [.int .i64 (.ofNat 0)] 3) [(0, 1, a13), (1, 1, a14), (2, 1, a17)])) (some true) fun a18 H p w =>
 de 65535 H p w (call (.f q41) [a18] (qaq 65535 p H)) (some true) fun a19 H p w =>
 dq false false 17 131071 (b2 + 17) H p w (fun _ => .val a19) (some true) fun a20 H p w =>
 dz2 p H fun H =>
 .ok a20 H
def gCmp (call : Ev.Call) (x0 x1 : AV) (H : Hp) : R1 := za6 call x0 x1 H
def qeg (call : Ev.Call) (g3 : AV → Hp → R1) (x0 x4 x5 : AV) (H : Hp) : R1 :=
 vq (nilC x5) H fun a7 H =>
 vq (qap 0 a7) H fun a8 H =>
 vq (qaf H a8) H fun a9 H =>
 ve (call (.f qg7) [x0, a9] H) fun a10 H =>
 vq (qa9 x4) H fun a11 H =>
 vq (intV (qaa .sub).f a11 (.int .i64 (.ofNat 1))) H fun a12 H =>
 vq (qbo 2 x4 none (some a12) none) H fun a13 H =>
 vq (qa9 a13) H fun a14 H =>
 vq (intV (qaa .gtr).f a14 (.int .i64 (.ofNat 0))) H fun a15 H =>
 cd a15 (
 vq (qa9 a13) H fun a16 H =>
 vq (intV (qaa .sub).f a16 (.int .i64 (.ofNat 1))) H fun a17 H =>
 vq (idxS 2 a13 a17) H fun a18 H =>
 vq (qap 0 a18) H fun a19 H =>
 vq (qaf H a19) H fun a20 H =>
 dz 0 H fun b21 H =>
 dq false false 0 0 (b21 + 0) H [] [] (fun _ => .val x0) (some true) fun a22 H p w =>
 dq false false 1 0 (b21 + 1) H p w (fun _ => .val a20) (some true) fun a23 H p w =>
 dq false false 2 0 (b21 + 2) H p w (fun _ => .val x0) (some true) fun a24 H p w =>
 dq false false 3 0 (b21 + 3) H p w (fun _ => .val a20) (some true) fun a25 H p w =>
 dq false false 4 4 (b21 + 4) H p w (fun _ => nilC a24) (some true) fun a26 H p w =>
 dq false false 5 20 (b21 + 5) H p w (fun _ => qap 512 a26) (some true) fun a27 H p w =>
 dq false false 6 60 (b21 + 6) H p w (fun _ => idxA 256 1 a27 a25) (some true) fun a28 H p w =>
 dq true false 7 124 (b21 + 7) H p w (fun H => qaf H a28) (some true) fun a29 H p w =>
 dq false false 8 0 (b21 + 8) H p w (fun _ => .val x0) (some true) fun a30 H p w =>
 dq false false 9 0 (b21 + 9) H p w (fun _ => .val a9) (some true) fun a31 H p w =>
 dq false false 10 256 (b21 + 10) H p w (fun _ => nilC a30) (some true) fun a32 H p w =>
 dq false false 11 1280 (b21 + 11) H p w (fun _ => qap 512 a32) (some true) fun a33 H p w =>
 dq false false 12 3840 (b21 + 12) H p w (fun _ => idxA 256 1 a33 a31) (some true) fun a34 H p w =>
 dq true false 13 7936 (b21 + 13) H p w (fun H => qaf H a34) (some true) fun a35 H p w =>
 dq false false 14 16380 (b21 + 14) H p w (fun _ => qhy minV a29 [a35]) (some true) fun a36 H p w =>
 dq false false 15 1 (b21 + 15) H p w (fun _ => nilC a22) (some true) fun a37 H p w =>
 dq false false 16 32769 (b21 + 16) H p w (fun _ => qap 512 a37) (some true) fun a38 H p w =>
 dq false false 17 131071 (b21 + 17) H p w (fun _ => idxA 256 1 a38 a23) (some true) fun a39 H p w =>
 de 262143 H p w (qao (qaq 262143 p H) a39 a36) (some true) fun _ H p w =>
 dz2 p H fun H =>
 g3 a13 H) (
 g3 a13 H)
def qtu (call : Ev.Call) (g42 : AV → Hp → R1) (x0 x4 x5 x6 : AV) (H : Hp) : R1 :=
 vq (nilC x0) H fun a62 H =>
 vq (qap 768 a62) H fun a63 H =>
 vq (idxA 256 1 a63 x6) H fun a64 H =>
 vq (qaf H a64) H fun a65 H =>
 cd a65 (
 dz 0 H fun b66 H =>
 dq false false 0 0 (b66 + 0) H [] [] (fun _ => .val x0) (some true) fun a67 H p w =>
 dq false false 1 0 (b66 + 1) H p w (fun _ => .val x5) (some true) fun a68 H p w =>
 dq false false 2 2 (b66 + 2) H p w (fun _ => nilC a68) (some true) fun a69 H p w =>
 dq false false 3 6 (b66 + 3) H p w (fun _ => qap 0 a69) (some true) fun a70 H p w =>
 dq true false 4 14 (b66 + 4) H p w (fun H => qaf H a70) (some true) fun a71 H p w =>
 dq false false 5 0 (b66 + 5) H p w (fun _ => .val x0) (some true) fun a72 H p w =>
 dq false false 6 0 (b66 + 6) H p w (fun _ => .val x5) (some true) fun a73 H p w =>
 dq false false 7 64 (b66 + 7) H p w (fun _ => nilC a73) (some true) fun a74 H p w =>
 dq false false 8 192 (b66 + 8) H p w (fun _ => qap 0 a74) (some true) fun a75 H p w =>
 dq true false 9 448 (b66 + 9) H p w (fun H => qaf H a75) (some true) fun a76 H p w =>
 dq false false 10 32 (b66 + 10) H p w (fun _ => nilC a72) (some true) fun a77 H p w =>
 dq false false 11 1056 (b66 + 11) H p w (fun _ => qap 512 a77) (some true) fun a78 H p w =>
 dq false false 12 4064 (b66 + 12) H p w (fun _ => idxA 256 1 a78 a76) (some true) fun a79 H p w =>
 dq true false 13 8160 (b66 + 13) H p w (fun H => qaf H a79) (some true) fun a80 H p w =>
 dq false false 14 0 (b66 + 14) H p w (fun _ => .val x0) (some true) fun a81 H p w =>
 dq false false 15 0 (b66 + 15) H p w (fun _ => .val x6) (some true) fun a82 H p w =>
 dq false false 16 16384 (b66 + 16) H p w (fun _ => nilC a81) (some true) fun a83 H p w =>
 dq false false 17 81920 (b66 + 17) H p w (fun _ => qap 256 a83) (some true) fun a84 H p w =>
 dq false false 18 245760 (b66 + 18) H p w (fun _ => idxA 256 1 a84 a82) (some true) fun a85 H p w =>
 dq true false 19 507904 (b66 + 19) H p w (fun H => qaf H a85) (some true) fun a86 H p w =>
 dq false false 20 1048544 (b66 + 20) H p w (fun _ => qhy minV a80 [a86]) (some true) fun a87 H p w =>
 dq false false 21 1 (b66 + 21) H p w (fun _ => nilC a67) (some true) fun a88 H p w =>
 dq false false 22 2097153 (b66 + 22) H p w (fun _ => qap 512 a88) (some true) fun a89 H p w =>
 dq false false 23 8388607 (b66 + 23) H p w (fun _ => idxA 256 1 a89 a71) (some true) fun a90 H p w =>
 de 16777215 H p w (qao (qaq 16777215 p H) a90 a87) (some true) fun _ H p w =>
 dz2 p H fun H =>
 g42 x4 H) (
 g42 x4 H)
def qov (call : Ev.Call) (q42e1 : AV → Hp → R1) (g42 : AV → Hp → R1) (x0 x4 x5 : AV) (H : Hp) : R1 :=
 vl (nilC x5) fun a43 =>
 vl (qap 0 a43) fun a44 =>
 vl (qaf H a44) fun a45 =>
 vl (nilC x0) fun a46 =>
 vl (qap 0 a46) fun a47 =>
 vl (idxA 256 1 a47 a45) fun a48 =>
 vl (qaf H a48) fun a49 =>
 vl (nilC x5) fun a50 =>
 vl (qap 1 a50) fun a51 =>
 vl (qaf H a51) fun a52 =>
 vl (idxS 1 a49 a52) fun a53 =>
 vl (qaf H a53) fun a54 =>
 vq (nilC x5) H fun a55 H =>
 vq (qap 1 a55) H fun a56 H =>
 vq (qaf H a56) H fun a57 H =>
 vq (intV (qaa .add).f a57 (.int .i64 (.ofNat 1))) H fun a58 H =>
 vq (nilC x5) H fun a59 H =>
 vq (qap 1 a59) H fun a60 H =>
 ve (qao H a60 a58) fun _ H =>
 vq (nilC x0) H fun a93 H =>
 vq (qap 256 a93) H fun a94 H =>
 vq (idxA 256 1 a94 a54) H fun a95 H =>
 vq (qaf H a95) H fun a96 H =>
 vq (intV (qaa .eql).f a96 (.int .i64 (.ofNat 0))) H fun a97 H =>
 cd a97 (
 ve (call (.f qjc) [x0, a54] H) fun a98 H =>
 vq (aggN (qas [.int .i64 (.ofNat 0), .int .i64 (.ofNat 0)] [(0, 1, a54), (1, 1, (.int .i64 (.ofNat 0)))])) H fun a99 H =>
 vq (qfb 1 H.nx (qas (reps [.int .i64 (.ofNat 0), .int .i64 (.ofNat 0)] 1) [(0, 2, a99)])) H fun a100 H =>
 ve (qbc 2 16 H x4 (qb8 2 H a100)) fun a101 H =>
 q42e1 a101 H) (
 qtu call g42 x0 x4 x5 a54 H)
def qtv (call : Ev.Call) (q42e1 : AV → Hp → R1) (q42e2 : AV → Hp → R1) (x0 x5 : AV) (g42 : AV → Hp → R1) (x4 : AV) (H : Hp) : R1 :=
 vl (nilC x5) fun a103 =>
 vl (qap 1 a103) fun a104 =>
 vl (qaf H a104) fun a105 =>
 vl (nilC x5) fun a106 =>
 vl (qap 0 a106) fun a107 =>
 vl (qaf H a107) fun a108 =>
 vl (nilC x0) fun a109 =>
 vl (qap 0 a109) fun a110 =>
 vl (idxA 256 1 a110 a108) fun a111 =>
 vl (qaf H a111) fun a112 =>
 vl (qa9 a112) fun a113 =>
 vl (intV (qaa .lss).f a105 a113) fun a114 =>
 cd a114 (
 qov call q42e1 g42 x0 x4 x5 H) (
 q42e2 x4 H)
def qg9 (call : Ev.Call) (q42e1 : AV → Hp → R1) (q42e2 : AV → Hp → R1) (x0 x5 : AV) (n : Nat) : AV → Hp → R1 :=
 Nat.rec (motive := fun _ => AV → Hp → R1) (fun _ _ => .bad) (fun _ ih => qtv call q42e1 q42e2 x0 x5 ih) n
def qtw (call : Ev.Call) (q42e1 : AV → Hp → R1) (q42e2 : AV → Hp → R1) (x0 x5 : AV) : AV → Hp → R1 := qg9 call q42e1 q42e2 x0 x5 qba
def qou (call : Ev.Call) (g3 : AV → Hp → R1) (x0 x4 : AV) (H : Hp) : R1 :=
 vq (qa9 x4) H fun a4 H =>
 vq (intV (qaa .sub).f a4 (.int .i64 (.ofNat 1))) H fun a5 H =>
 vq (idxS 2 x4 a5) H fun a6 H =>
 qtw call (fun x4 H => g3 x4 H) (fun x4 H => qeg call g3 x0 x4 a6 H) x0 a6 x4 H
def qx5 (call : Ev.Call) (q3e0 : Hp → R1) (x0 : AV) (g3 : AV → Hp → R1) (x4 : AV) (H : Hp) : R1 :=
 vq (qa9 x4) H fun a116 H =>
 vq (intV (qaa .gtr).f a116 (.int .i64 (.ofNat 0))) H fun a117 H =>
 cd a117 (
 qou call g3 x0 x4 H) (
 q3e0 H)
def qb4 (call : Ev.Call) (q3e0 : Hp → R1) (x0 : AV) (n : Nat) : AV → Hp → R1 :=
 Nat.rec (motive := fun _ => AV → Hp → R1) (fun _ _ => .bad) (fun _ ih => qx5 call q3e0 x0 ih) n
def qx6 (call : Ev.Call) (q3e0 : Hp → R1) (x0 : AV) : AV → Hp → R1 := qb4 call q3e0 x0 qba
def qot (call : Ev.Call) (x0 x4 : AV) (H : Hp) : R1 :=
 qx6 call (fun H => .ok (.tup []) H) x0 x4 H
def q3e (call : Ev.Call) (x0 x1 : AV) (H : Hp) : R1 :=
 ve (call (.f qjc) [x0, x1] H) fun a0 H =>
 vq (aggN (qas [.int .i64 (.ofNat 0), .int .i64 (.ofNat 0)] [(0, 1, x1), (1, 1, (.int .i64 (.ofNat 0)))])) H fun a1 H =>
 vq (qfb 1 H.nx (qas (reps [.int .i64 (.ofNat 0), .int .i64 (.ofNat 0)] 1) [(0, 2, a1)])) H fun a2 H =>
 qot call x0 a2 H
def cWalk (call : Ev.Call) (x0 x1 : AV) (H : Hp) : R1 := q3e call x0 x1 H
def q9i (call : Ev.Call) (x0 x1 : AV) (H : Hp) : R1 :=
 vl (idxS 1 x0 (.int .i64 (.ofNat 0))) fun a0 =>
 vl (qaf H a0) fun a1 =>
 vl (idxS 1 x1 (.int .i64 (.ofNat 0))) fun a2 =>
 vl (qaf H a2) fun a3 =>
 vl (intV (qaa .sub).f a1 a3) fun a4 =>
 .ok a4 H
def rdyA (call : Ev.Call) (x0 x1 : AV) (H : Hp) : R1 := q9i call x0 x1 H
def qhn (call : Ev.Call) (g5 : AV → Hp → R1) (x17 : AV) (H : Hp) : R1 :=
 vq (intV (qaa .add).f x17 (.int .i64 (.ofNat 1))) H fun a7 H =>
 g5 a7 H
def qps (call : Ev.Call) (g14 : AV → Hp → R1) (x55 : AV) (H : Hp) : R1 :=
 vq (intV (qaa .add).f x55 (.int .i64 (.ofNat 1))) H fun a16 H =>
 g14 a16 H
def qwl (call : Ev.Call) (q14r : Hp → R1) (q14e4 : Hp → R1) (g14 : AV → Hp → R1) (x0 x1 x5 x6 x55 : AV) (H : Hp) : R1 :=
 vq (idxS 1 x5 x55) H fun a18 H =>
 vq (qaf H a18) H fun a19 H =>
 vq ((unS .not).f a19) H fun a20 H =>
 vg (qac true a20) (.val x6) H fun a21 H =>
 vg (qac true a20) (.val x55) H fun a22 H =>
 vg (qac true a20) (idxS 1 a21 a22) H fun a23 H =>
 vg (qac true a20) (qaf H a23) H fun a24 H =>
 vg (qac true a20) ((unS .not).f a24) H fun a25 H =>
 vq (qbj a20 a25 (.bool false)) H fun a26 H =>
 cd a26 (
 vq (idxS 1 x5 x55) H fun a27 H =>
 ve (qao H a27 (.bool true)) fun _ H =>
 vq (qaf H x1) H fun a29 H =>
 vq (idxS 1 a29 x55) H fun a30 H =>
 vq (qaf H a30) H fun a31 H =>
 ve (qfm call x0 [a31] H) fun a32 H =>
 vq ((unS .not).f a32) H fun a33 H =>
 cd a33 (
 q14r H) (
 q14e4 H)) (
 qps call g14 x55 H)
def qwn (call : Ev.Call) (q14r : Hp → R1) (q14e4 : Hp → R1) (x0 x1 x5 x6 x54 : AV) (g14 : AV → Hp → R1) (x55 : AV) (H : Hp) : R1 :=
 vq (intV (qaa .lss).f x55 x54) H fun a15 H =>
 cd a15 (
 qwl call q14r q14e4 g14 x0 x1 x5 x6 x55 H) (
 q14e4 H)
def qhm (call : Ev.Call) (q14r : Hp → R1) (q14e4 : Hp → R1) (x0 x1 x5 x6 x54 : AV) (n : Nat) : AV → Hp → R1 :=
 Nat.rec (motive := fun _ => AV → Hp → R1) (fun _ _ => .bad) (fun _ ih => qwn call q14r q14e4 x0 x1 x5 x6 x54 ih) n
def qwp (call : Ev.Call) (q14r : Hp → R1) (q14e4 : Hp → R1) (x0 x1 x5 x6 x54 : AV) : AV → Hp → R1 := qhm call q14r q14e4 x0 x1 x5 x6 x54 qba
def qho (call : Ev.Call) (q5r : Hp → R1) (g5 : AV → Hp → R1) (x0 x1 x5 x6 x17 : AV) (H : Hp) : R1 :=
 vq (qaf H x1) H fun a12 H =>
 vq (qa9 a12) H fun a13 H =>
 qwp call (fun H => q5r H) (fun H => qhn call g5 x17 H) x0 x1 x5 x6 a13 (.int .i64 (.ofNat 0)) H
def qly (call : Ev.Call) (g39 : AV → Hp → R1) (x25 : AV) (H : Hp) : R1 :=
 vq (intV (qaa .add).f x25 (.int .i64 (.ofNat 1))) H fun a41 H =>
 g39 a41 H
def qwk (call : Ev.Call) (g39 : AV → Hp → R1) (x3 x5 x6 x23 x25 : AV) (H : Hp) : R1 :=
 vq (idxS 3 x23 x25) H fun a43 H =>
 vq (qcd 3 H a43) H fun a44 H =>
 vq (.new (.ptr H.nx 0) (qae 0 [.int .i64 (.ofNat 0), .int .i64 (.ofNat 0), .bool false])) H fun a45 H =>
 ve (qck 3 H a45 a44) fun _ H =>
 vl (qaf H x3) fun a47 =>
 vl (qap 0 a45) fun a48 =>
 vl (qaf H a48) fun a49 =>
 vl (idxS 1 a47 a49) fun a50 =>
 vl (qaf H a50) fun a51 =>
 vl (qaf H x3) fun a52 =>
 vl (qap 1 a45) fun a53 =>
 vl (qaf H a53) fun a54 =>
 vl (idxS 1 a52 a54) fun a55 =>
 vl (qaf H a55) fun a56 =>
 vq (intV (qaa .neq).f a51 a56) H fun a57 H =>
 vg (qac true a57) (.val x5) H fun a58 H =>
 vg (qac true a57) (.val a56) H fun a59 H =>
 vg (qac true a57) (idxS 1 a58 a59) H fun a60 H =>
 vg (qac true a57) (qaf H a60) H fun a61 H =>
 vg (qac true a57) ((unS .not).f a61) H fun a62 H =>
 vq (qbj a57 a62 (.bool false)) H fun a63 H =>
 cd a63 (
 vq (idxS 1 x6 a51) H fun a64 H =>
 ve (qao H a64 (.bool true)) fun _ H =>
 qly call g39 x25 H) (
 qly call g39 x25 H)
def qwm (call : Ev.Call) (q39e2 : Hp → R1) (x3 x5 x6 x23 x24 : AV) (g39 : AV → Hp → R1) (x25 : AV) (H : Hp) : R1 :=
 vq (intV (qaa .lss).f x25 x24) H fun a40 H =>
 cd a40 (
 qwk call g39 x3 x5 x6 x23 x25 H) (
 q39e2 H)
def qhl (call : Ev.Call) (q39e2 : Hp → R1) (x3 x5 x6 x23 x24 : AV) (n : Nat) : AV → Hp → R1 :=
 Nat.rec (motive := fun _ => AV → Hp → R1) (fun _ _ => .bad) (fun _ ih => qwm call q39e2 x3 x5 x6 x23 x24 ih) n
def qwo (call : Ev.Call) (q39e2 : Hp → R1) (x3 x5 x6 x23 x24 : AV) : AV → Hp → R1 := qhl call q39e2 x3 x5 x6 x23 x24 qba
def qwj (call : Ev.Call) (q5r : Hp → R1) (g5 : AV → Hp → R1) (x0 x1 x2 x3 x5 x17 : AV) (H : Hp) : R1 :=
 vq (qaf H x1) H fun a9 H =>
 vq (qa9 a9) H fun a10 H =>
 vq (qpf [.bool false] 1 H.nx a10 a10) H fun a11 H =>
 vq (qap 1 x2) H fun a36 H =>
 vq (qaf H a36) H fun a37 H =>
 vq (qa9 a37) H fun a38 H =>
 qwo call (fun H => qho call q5r g5 x0 x1 x5 a11 x17 H) x3 x5 a11 a37 a38 (.int .i64 (.ofNat 0)) H
def q1m (call : Ev.Call) (q5r : Hp → R1) (q5e0 : Hp → R1) (x0 x1 x2 x3 x5 x16 : AV) (g5 : AV → Hp → R1) (x17 : AV) (H : Hp) : R1 :=
 vq (intV (qaa .lss).f x17 x16) H fun a6 H =>
 cd a6 (
 qwj call q5r g5 x0 x1 x2 x3 x5 x17 H) (
 q5e0 H)
def qcj (call : Ev.Call) (q5r : Hp → R1) (q5e0 : Hp → R1) (x0 x1 x2 x3 x5 x16 : AV) (n : Nat) : AV → Hp → R1 :=
 Nat.rec (motive := fun _ => AV → Hp → R1) (fun _ _ => .bad) (fun _ ih => q1m call q5r q5e0 x0 x1 x2 x3 x5 x16 ih) n
def q1n (call : Ev.Call) (q5r : Hp → R1) (q5e0 : Hp → R1) (x0 x1 x2 x3 x5 x16 : AV) : AV → Hp → R1 := qcj call q5r q5e0 x0 x1 x2 x3 x5 x16 qba
def q9g (call : Ev.Call) (x0 x1 x2 x3 : AV) (H : Hp) : R1 :=
 vq (qaf H x1) H fun a0 H =>
 vq (qa9 a0) H fun a1 H =>
 vq (qpf [.bool false] 1 H.nx a1 a1) H fun a2 H =>
 vq (qaf H x1) H fun a3 H =>
 vq (qa9 a3) H fun a4 H =>
 q1n call (fun H => .ok (.tup []) H) (fun H => .ok (.tup []) H) x0 x1 x2 x3 a2 a4 (.int .i64 (.ofNat 0)) H
def rdyB (call : Ev.Call) (x0 x1 x2 x3 : AV) (H : Hp) : R1 := q9g call x0 x1 x2 x3 H
def qrk (call : Ev.Call) (x0 : AV) (H : Hp) : R1 :=
 .ok x0 H
def qlv (call : Ev.Call) (x0 x1 : AV) (H : Hp) : R1 :=
 vq (capV x0) H fun a1 H =>
 vq (qa9 x0) H fun a2 H =>
 vq (intV (qaa .sub).f a1 a2) H fun a3 H =>
 vq (intV (qaa .sub).f x1 a3) H fun a4 H =>
 vq (intV (qaa .gtr).f a4 (.int .i64 (.ofNat 0))) H fun a5 H =>
 cd a5 (
 vq (capV x0) H fun a6 H =>
 vq (qbo 1 x0 none (some a6) none) H fun a7 H =>
 ve (qbc 1 8 H a7 (qmy 8 [.int .i64 (.ofNat 0)] a4)) fun a8 H =>
 vq (qa9 x0) H fun a9 H =>
 vq (qbo 1 a8 none (some a9) none) H fun a10 H =>
 qrk call a10 H) (
 qrk call x0 H)
def q4d (call : Ev.Call) (x0 x1 : AV) (H : Hp) : R1 :=
 vq (intV (qaa .lss).f x1 (.int .i64 (.ofNat 0))) H fun a12 H =>
 cd a12 (
 ve (.bad) fun _ H =>
 qlv call x0 x1 H) (
 qlv call x0 x1 H)
def sGrw (call : Ev.Call) (x0 x1 : AV) (H : Hp) : R1 := q4d call x0 x1 H
def q3r (call : Ev.Call) (H : Hp) : R1 :=
 .ok (.int .i64 (.ofNat 0)) H
def q3q (call : Ev.Call) (x0 x1 : AV) (H : Hp) : R1 :=
 vq (intV (qaa .gtr).f x0 x1) H fun a3 H =>
 cd a3 (
 .ok (.int .i64 (.ofNat 1)) H) (
 q3r call H)
def q3p (call : Ev.Call) (x0 x1 : AV) (H : Hp) : R1 :=
 vq (intV (qaa .lss).f x0 x1) H fun a5 H =>
 cd a5 (
 .ok (.int .i64 (.negSucc 0)) H) (
 q3q call x0 x1 H)
def q3o (call : Ev.Call) (x0 x1 x6 : AV) (H : Hp) : R1 :=
 cd x6 (
 .ok (.int .i64 (.ofNat 1)) H) (
 q3p call x0 x1 H)
def zch (call : Ev.Call) (H : Hp) : R1 :=
 .ok (.int .i64 (.negSucc 0)) H
def zci (call : Ev.Call) (x0 x1 : AV) (H : Hp) : R1 :=
 ve (call (.f qlh) [x0] H) fun a0 H =>
 ve (call (.f qlh) [x1] H) fun a1 H =>
 cd a0 (
 cd a1 (
 .ok (.int .i64 (.ofNat 0)) H) (
 zch call H)) (
 q3o call x0 x1 a1 H)
def cCmp (call : Ev.Call) (x0 x1 : AV) (H : Hp) : R1 := zci call x0 x1 H
def q20 (call : Ev.Call) (H : Hp) : R1 :=
 .ok (.int .i64 (.ofNat 0)) H
def za4 (call : Ev.Call) (x0 : AV) (H : Hp) : R1 :=
 vq (boxA 3 H.nx x0) H fun a0 H =>
 vq (qap 2 a0) H fun a2 H =>
 vq (qaf H a2) H fun a3 H =>
 cd a3 (
 .ok (.int .i64 (.ofNat 1)) H) (
 q20 call H)
def gSgn (call : Ev.Call) (x0 : AV) (H : Hp) : R1 := za4 call x0 H
def qtz (call : Ev.Call) (x3 : AV) (H : Hp) : R1 :=
 .ok x3 H
def zb8 (call : Ev.Call) (g2 : AV → Hp → R1) (x8 : AV) (H : Hp) : R1 :=
 vq (intV (qaa .add).f x8 (.int .i64 (.ofNat 1))) H fun a4 H =>
 g2 a4 H
def zb7 (call : Ev.Call) (q2r : AV → Hp → R1) (g2 : AV → Hp → R1) (x3 x6 x8 : AV) (H : Hp) : R1 :=
 vq (idxS 1 x6 x8) H fun a6 H =>
 vq (qaf H a6) H fun a7 H =>
 vq (intV (qaa .neq).f a7 x3) H fun a8 H =>
 cd a8 (
 q2r a7 H) (
 zb8 call g2 x8 H)
def zb9 (call : Ev.Call) (q2r : AV → Hp → R1) (q2e0 : Hp → R1) (x3 x6 x7 : AV) (g2 : AV → Hp → R1) (x8 : AV) (H : Hp) : R1 :=
 vq (intV (qaa .lss).f x8 x7) H fun a3 H =>
 cd a3 (
 zb7 call q2r g2 x3 x6 x8 H) (
 q2e0 H)
def qvf (call : Ev.Call) (q2r : AV → Hp → R1) (q2e0 : Hp → R1) (x3 x6 x7 : AV) (n : Nat) : AV → Hp → R1 :=
 Nat.rec (motive := fun _ => AV → Hp → R1) (fun _ _ => .bad) (fun _ ih => zb9 call q2r q2e0 x3 x6 x7 ih) n
def zca (call : Ev.Call) (q2r : AV → Hp → R1) (q2e0 : Hp → R1) (x3 x6 x7 : AV) : AV → Hp → R1 := qvf call q2r q2e0 x3 x6 x7 qba
def zhw (call : Ev.Call) (x0 : AV) (H : Hp) : R1 :=
 vq (qa9 x0) H fun a1 H =>
 zca call (fun x2 H => .ok x2 H) (fun H => qtz call (.int .i64 (.ofNat 0)) H) (.int .i64 (.ofNat 0)) x0 a1 (.int .i64 (.ofNat 0)) H
def cOr (call : Ev.Call) (x0 : AV) (H : Hp) : R1 := zhw call x0 H
def qyk (call : Ev.Call) (x0 x1 : AV) (H : Hp) : R1 :=
 vq (nilC x0) H fun a0 H =>
 vq (qap 1025 a0) H fun a1 H =>
 vq (qaf H a1) H fun a2 H =>
 vq (intV (qaa .add).f a2 (.int .i64 (.ofNat 1))) H fun a3 H =>
 vq (nilC x0) H fun a4 H =>
 vq (qap 1025 a4) H fun a5 H =>
 ve (qao H a5 a3) fun _ H =>
 dz 0 H fun b7 H =>
 dq false false 0 0 (b7 + 0) H [] [] (fun _ => .val x0) (some true) fun a8 H p w =>
 dq false false 1 0 (b7 + 1) H p w (fun _ => .val x1) (some true) fun a9 H p w =>
 dq false false 2 0 (b7 + 2) H p w (fun _ => .val x0) (some true) fun a10 H p w =>
 dq false false 3 0 (b7 + 3) H p w (fun _ => .val x1) (some true) fun a11 H p w =>
 dq false false 4 0 (b7 + 4) H p w (fun _ => .val x0) (some true) fun a12 H p w =>
 dq false false 5 0 (b7 + 5) H p w (fun _ => .val x1) (some true) fun a13 H p w =>
 dq false false 6 0 (b7 + 6) H p w (fun _ => .val x0) (some true) fun a14 H p w =>
 dq false false 7 64 (b7 + 7) H p w (fun _ => nilC a14) (some true) fun a15 H p w =>
 dq false false 8 192 (b7 + 8) H p w (fun _ => qap 1025 a15) (some true) fun a16 H p w =>
 dq true false 9 448 (b7 + 9) H p w (fun H => qaf H a16) (some true) fun a17 H p w =>
 dq false false 10 0 (b7 + 10) H p w (fun _ => .val x0) (some true) fun a18 H p w =>
 dq false false 11 1024 (b7 + 11) H p w (fun _ => nilC a18) (some true) fun a19 H p w =>
 dq false false 12 3072 (b7 + 12) H p w (fun _ => qap 1025 a19) (some true) fun a20 H p w =>
 dq true false 13 7168 (b7 + 13) H p w (fun H => qaf H a20) (some true) fun a21 H p w =>
 dq false false 14 1 (b7 + 14) H p w (fun _ => nilC a8) (some true) fun a22 H p w =>
 dq false false 15 16385 (b7 + 15) H p w (fun _ => qap 256 a22) (some true) fun a23 H p w =>
 dq false false 16 65475 (b7 + 16) H p w (fun _ => idxA 256 1 a23 a9) (some true) fun a24 H p w =>
 dq false false 18 4 (b7 + 18) H p w (fun _ => nilC a10) (some true) fun a25 H p w =>
 dq false false 19 262148 (b7 + 19) H p w (fun _ => qap 512 a25) (some true) fun a26 H p w =>
 dq false false 22 16 (b7 + 22) H p w (fun _ => nilC a12) (some true) fun a27 H p w =>
 dq false false 23 4194320 (b7 + 23) H p w (fun _ => qap 768 a27) (some true) fun a28 H p w =>
 de 131011 H p w (qao (qaq 131011 p H) a24 a17) (some true) fun _ H p w =>
 dq false false 20 1048527 (b7 + 20) H p w (fun _ => idxA 256 1 a26 a11) (some true) fun a30 H p w =>
 de 2097103 H p w (qao (qaq 2097103 p H) a30 a21) (some true) fun _ H p w =>
 dq false false 24 16777215 (b7 + 24) H p w (fun _ => idxA 256 1 a28 a13) (some true) fun a32 H p w =>
 de 33554431 H p w (qao (qaq 33554431 p H) a32 (.bool true)) (some true) fun _ H p w =>
 dz2 p H fun H =>
 vq (nilC x0) H fun a34 H =>
 vq (qap 1024 a34) H fun a35 H =>
 vq (qaf H a35) H fun a36 H =>
 vq (qfb 1 H.nx (qas (reps [.int .i64 (.ofNat 0)] 1) [(0, 1, x1)])) H fun a37 H =>
 ve (qbc 1 8 H a36 (qb8 1 H a37)) fun a38 H =>
 vq (nilC x0) H fun a39 H =>
 vq (qap 1024 a39) H fun a40 H =>
 ve (qao H a40 a38) fun _ H =>
 .ok (.tup []) H
def cEnter (call : Ev.Call) (x0 x1 : AV) (H : Hp) : R1 := qyk call x0 x1 H
def qdw (call : Ev.Call) (x0 x4 x5 : AV) (H : Hp) : R1 :=
 vq (nilC x0) H fun a10 H =>
 vq (qap 1024 a10) H fun a11 H =>
 vq (qaf H a11) H fun a12 H =>
 vq (qbo 1 a12 none (some x4) none) H fun a13 H =>
 vq (nilC x0) H fun a14 H =>
 vq (qap 1024 a14) H fun a15 H =>
 ve (qao H a15 a13) fun _ H =>
 vq (nilC x0) H fun a17 H =>
 vq (qap 1026 a17) H fun a18 H =>
 vq (qaf H a18) H fun a19 H =>
 vq (qfb 1 H.nx (qas (reps [.nilsl] 1) [(0, 1, x5)])) H fun a20 H =>
 ve (qbc 1 24 H a19 (qb8 1 H a20)) fun a21 H =>
 vq (nilC x0) H fun a22 H =>
 vq (qap 1026 a22) H fun a23 H =>
 ve (qao H a23 a21) fun _ H =>
 .ok (.tup []) H
def qo4 (call : Ev.Call) (g27 : AV → Hp → R1) (x37 : AV) (H : Hp) : R1 :=
 vq (intV (qaa .add).f x37 (.int .i64 (.ofNat 1))) H fun a29 H =>
 g27 a29 H
def qo3 (call : Ev.Call) (g27 : AV → Hp → R1) (x0 x35 x37 : AV) (H : Hp) : R1 :=
 vq (idxS 1 x35 x37) H fun a31 H =>
 vq (qaf H a31) H fun a32 H =>
 vq (nilC x0) H fun a33 H =>
 vq (qap 768 a33) H fun a34 H =>
 vq (idxA 256 1 a34 a32) H fun a35 H =>
 ve (qao H a35 (.bool false)) fun _ H =>
 qo4 call g27 x37 H
def qo5 (call : Ev.Call) (q27e0 : Hp → R1) (x0 x35 x36 : AV) (g27 : AV → Hp → R1) (x37 : AV) (H : Hp) : R1 :=
 vq (intV (qaa .lss).f x37 x36) H fun a28 H =>
 cd a28 (
 qo3 call g27 x0 x35 x37 H) (
 q27e0 H)
def qeu (call : Ev.Call) (q27e0 : Hp → R1) (x0 x35 x36 : AV) (n : Nat) : AV → Hp → R1 :=
 Nat.rec (motive := fun _ => AV → Hp → R1) (fun _ _ => .bad) (fun _ ih => qo5 call q27e0 x0 x35 x36 ih) n
def qo6 (call : Ev.Call) (q27e0 : Hp → R1) (x0 x35 x36 : AV) : AV → Hp → R1 := qeu call q27e0 x0 x35 x36 qba
def qo2 (call : Ev.Call) (x0 x1 : AV) (H : Hp) : R1 :=
 vq (nilC x0) H fun a0 H =>
 vq (qap 1024 a0) H fun a1 H =>
 vq (qaf H a1) H fun a2 H =>
 ve (call (.f qxn) [a2, x1] H) fun a3 H =>
 vq (nilC x0) H fun a4 H =>
 vq (qap 1024 a4) H fun a5 H =>
 vq (qaf H a5) H fun a6 H =>
 vq (qbo 1 a6 (some a3) none none) H fun a7 H =>
 ve (call (.f q2v) [a7] H) fun a8 H =>
 ve (call (.f qxm) [a8] H) fun a9 H =>
 vq (qa9 a9) H fun a26 H =>
 qo6 call (fun H => qdw call x0 a3 a9 H) x0 a9 a26 (.int .i64 (.ofNat 0)) H
def qqk (call : Ev.Call) (x0 x1 : AV) (H : Hp) : R1 :=
 vl (nilC x0) fun a39 =>
 vl (qap 512 a39) fun a40 =>
 vl (idxA 256 1 a40 x1) fun a41 =>
 vl (qaf H a41) fun a42 =>
 vl (nilC x0) fun a43 =>
 vl (qap 256 a43) fun a44 =>
 vl (idxA 256 1 a44 x1) fun a45 =>
 vl (qaf H a45) fun a46 =>
 vl (intV (qaa .lss).f a42 a46) fun a47 =>
 cd a47 (
 .ok (.tup []) H) (
 qo2 call x0 x1 H)
def cLeave (call : Ev.Call) (x0 x1 : AV) (H : Hp) : R1 := qqk call x0 x1 H
def zcd (call : Ev.Call) (x0 : AV) (H : Hp) : R1 :=
 vq (intV (qaa .neq).f x0 x0) H fun a0 H =>
 .ok a0 H
def cNaN (call : Ev.Call) (x0 : AV) (H : Hp) : R1 := zcd call x0 H
def qnr (call : Ev.Call) (H : Hp) : R1 :=
 .ok (.int .i64 (.negSucc 0)) H
def q1g (call : Ev.Call) (g2 : AV → Hp → R1) (x8 : AV) (H : Hp) : R1 :=
 vq (intV (qaa .add).f x8 (.int .i64 (.ofNat 1))) H fun a4 H =>
 g2 a4 H
def q1f (call : Ev.Call) (q2r : AV → Hp → R1) (g2 : AV → Hp → R1) (x0 x1 x8 : AV) (H : Hp) : R1 :=
 vq (idxS 1 x0 x8) H fun a6 H =>
 vq (qaf H a6) H fun a7 H =>
 vq (intV (qaa .eql).f x1 a7) H fun a8 H =>
 cd a8 (
 q2r x8 H) (
 q1g call g2 x8 H)
def q1h (call : Ev.Call) (q2r : AV → Hp → R1) (q2e0 : Hp → R1) (x0 x1 x7 : AV) (g2 : AV → Hp → R1) (x8 : AV) (H : Hp) : R1 :=
 vq (intV (qaa .lss).f x8 x7) H fun a3 H =>
 cd a3 (
 q1f call q2r g2 x0 x1 x8 H) (
 q2e0 H)
def qnq (call : Ev.Call) (q2r : AV → Hp → R1) (q2e0 : Hp → R1) (x0 x1 x7 : AV) (n : Nat) : AV → Hp → R1 :=
 Nat.rec (motive := fun _ => AV → Hp → R1) (fun _ _ => .bad) (fun _ ih => q1h call q2r q2e0 x0 x1 x7 ih) n
def q1i (call : Ev.Call) (q2r : AV → Hp → R1) (q2e0 : Hp → R1) (x0 x1 x7 : AV) : AV → Hp → R1 := qnq call q2r q2e0 x0 x1 x7 qba
def q8z (call : Ev.Call) (x0 x1 : AV) (H : Hp) : R1 :=
 vq (qa9 x0) H fun a1 H =>
 q1i call (fun x4 H => .ok x4 H) (fun H => qnr call H) x0 x1 a1 (.int .i64 (.ofNat 0)) H
def sIdx (call : Ev.Call) (x0 x1 : AV) (H : Hp) : R1 := q8z call x0 x1 H
def q8u (call : Ev.Call) (x0 : AV) (H : Hp) : R1 :=
 vq (box1 H.nx x0) H fun a0 H =>
 .ok (.fn qc0 [] [a0]) H
def sVal (call : Ev.Call) (x0 : AV) (H : Hp) : R1 := q8u call x0 H
def q8w (call : Ev.Call) (x0 : AV) (H : Hp) : R1 :=
 ve (call (.f qxo) [x0] H) fun a0 H =>
 ve (call (.f qee) [a0] H) fun a1 H =>
 .ok a0 H
def sSrt (call : Ev.Call) (x0 : AV) (H : Hp) : R1 := q8w call x0 H
def qv7 (call : Ev.Call) (g2 : AV → Hp → R1) (x7 : AV) (H : Hp) : R1 :=
 vq (intV (qaa .add).f x7 (.int .i64 (.ofNat 1))) H fun a4 H =>
 g2 a4 H
def qri (call : Ev.Call) (q2r : Hp → R1) (g2 : AV → Hp → R1) (x0 x5 x7 : AV) (H : Hp) : R1 :=
 vq (idxS 1 x5 x7) H fun a6 H =>
 vq (qaf H a6) H fun a7 H =>
 ve (qfm call x0 [a7] H) fun a8 H =>
 vq ((unS .not).f a8) H fun a9 H =>
 cd a9 (
 q2r H) (
 qv7 call g2 x7 H)
def qv8 (call : Ev.Call) (q2r : Hp → R1) (q2e0 : Hp → R1) (x0 x5 x6 : AV) (g2 : AV → Hp → R1) (x7 : AV) (H : Hp) : R1 :=
 vq (intV (qaa .lss).f x7 x6) H fun a3 H =>
 cd a3 (
 qri call q2r g2 x0 x5 x7 H) (
 q2e0 H)
def qjm (call : Ev.Call) (q2r : Hp → R1) (q2e0 : Hp → R1) (x0 x5 x6 : AV) (n : Nat) : AV → Hp → R1 :=
 Nat.rec (motive := fun _ => AV → Hp → R1) (fun _ _ => .bad) (fun _ ih => qv8 call q2r q2e0 x0 x5 x6 ih) n
def qv9 (call : Ev.Call) (q2r : Hp → R1) (q2e0 : Hp → R1) (x0 x5 x6 : AV) : AV → Hp → R1 := qjm call q2r q2e0 x0 x5 x6 qba
def q1e (call : Ev.Call) (x0 x1 : AV) (H : Hp) : R1 :=
 vq (qaf H x1) H fun a0 H =>
 vq (qa9 a0) H fun a1 H =>
 qv9 call (fun H => .ok (.tup []) H) (fun H => .ok (.tup []) H) x0 a0 a1 (.int .i64 (.ofNat 0)) H
def sValA (call : Ev.Call) (x0 x1 : AV) (H : Hp) : R1 := q1e call x0 x1 H
def q82 (call : Ev.Call) (x0 : AV) (H : Hp) : R1 :=
 ve (call (.f qxq) [(.nilsl), x0] H) fun a0 H =>
 .ok a0 H
def sCol (call : Ev.Call) (x0 : AV) (H : Hp) : R1 := q82 call x0 H
end Go.Di
end
noncomputable section
namespace Go.Di
open Go.Ev
structure Lnk (c d : Ev.Call) : Prop where
 lwK : ∀ (H : Hp), c (.f qz1) [] H = Di.lwK d H
 cOrd : ∀ (x0 : AV) (H : Hp), c (.f qtg) [x0] H = Di.cOrd d x0 H
 cMix : ∀ (x0 : AV) (H : Hp), c (.f qth) [x0] H = Di.cMix d x0 H
 lwL : ∀ (x0 x1 x2 x3 : AV) (H : Hp), c (.f qj6) [x0, x1, x2, x3] H = Di.lwL d x0 x1 x2 x3 H
 lwS : ∀ (x0 x1 x2 : AV) (H : Hp), c (.f qz0) [x0, x1, x2] H = Di.lwS d x0 x1 x2 H
 gChk : ∀ (x0 : AV) (H : Hp), c (.f qxs) [x0] H = Di.gChk d x0 H
 cParts : ∀ (x0 : AV) (H : Hp), c (.f qmq) [x0] H = Di.cParts d x0 H
 cRdy : ∀ (x0 x1 : AV) (H : Hp), c (.f qxt) [x0, x1] H = Di.cRdy d x0 x1 H
 sClp : ∀ (x0 : AV) (H : Hp), c (.f qlf) [x0] H = Di.sClp d x0 H
 sClpS : ∀ (x0 : AV) (H : Hp), c (.f qml) [x0] H = Di.sClpS d x0 H
 sCat : ∀ (x0 : AV) (H : Hp), c (.f qxp) [x0] H = Di.sCat d x0 H
 gCmp : ∀ (x0 x1 : AV) (H : Hp), c (.f qxr) [x0, x1] H = Di.gCmp d x0 x1 H
 cWalk : ∀ (x0 x1 : AV) (H : Hp), c (.f qqg) [x0, x1] H = Di.cWalk d x0 x1 H
 rdyA : ∀ (x0 x1 : AV) (H : Hp), c (.f qlg) [x0, x1] H = Di.rdyA d x0 x1 H
 rdyB : ∀ (x0 x1 x2 x3 : AV) (H : Hp), c (.f qi9) [x0, x1, x2, x3] H = Di.rdyB d x0 x1 x2 x3 H
 sGrw : ∀ (x0 x1 : AV) (H : Hp), c (.f qte) [x0, x1] H = Di.sGrw d x0 x1 H
 cCmp : ∀ (x0 x1 : AV) (H : Hp), c (.f qon) [x0, x1] H = Di.cCmp d x0 x1 H
 gSgn : ∀ (x0 : AV) (H : Hp), c (.f qtf) [x0] H = Di.gSgn d x0 H
 cOr : ∀ (x0 : AV) (H : Hp), c (.f q41) [x0] H = Di.cOr d x0 H
 cEnter : ∀ (x0 x1 : AV) (H : Hp), c (.f qjc) [x0, x1] H = Di.cEnter d x0 x1 H
 cLeave : ∀ (x0 x1 : AV) (H : Hp), c (.f qg7) [x0, x1] H = Di.cLeave d x0 x1 H
 cNaN : ∀ (x0 : AV) (H : Hp), c (.f qlh) [x0] H = Di.cNaN d x0 H
 sIdx : ∀ (x0 x1 : AV) (H : Hp), c (.f qxn) [x0, x1] H = Di.sIdx d x0 x1 H
 sVal : ∀ (x0 : AV) (H : Hp), c (.f q2v) [x0] H = Di.sVal d x0 H
 sSrt : ∀ (x0 : AV) (H : Hp), c (.f qxm) [x0] H = Di.sSrt d x0 H
 sValA : ∀ (x0 x1 : AV) (H : Hp), c (.f qc0) [x0, x1] H = Di.sValA d x0 x1 H
 sCol : ∀ (x0 : AV) (H : Hp), c (.f qxo) [x0] H = Di.sCol d x0 H
theorem q66 {call : Ev.Call} {x6 x8 x17 x18 : AV} {H : Hp} {Q : AV → Hp → Prop} (h : Ok (qfy call x6 x8 x17 x18 H) Q) : Ok (qxg call x6 x8 x17 x18 H) Q := by rw [qu7]; exact h
theorem q65 {call : Ev.Call} {x6 x17 : AV} {H : Hp} {Q : AV → Hp → Prop} (h : Ok (qfx call x6 x17 H) Q) : Ok (qxf call x6 x17 H) Q := by rw [qu6]; exact h
theorem q64 {call : Ev.Call} {x16 : AV} {H : Hp} {Q : AV → Hp → Prop} (h : Ok (qfw call x16 H) Q) : Ok (qxe call x16 H) Q := by rw [qu5]; exact h
theorem q63 {call : Ev.Call} {H : Hp} {Q : AV → Hp → Prop} (h : Ok (qfv call H) Q) : Ok (qeh call H) Q := by rw [qu4]; exact h
theorem q62 {call : Ev.Call} {g43 : AV → Hp → R1} {x15 : AV} {H : Hp} {Q : AV → Hp → Prop} (h : Ok (qfu call g43 x15 H) Q) : Ok (qxd call g43 x15 H) Q := by rw [qu3]; exact h
theorem q61 {call : Ev.Call} {q43r : AV → Hp → R1} {g43 : AV → Hp → R1} {x15 x157 : AV} {H : Hp} {Q : AV → Hp → Prop} (h : Ok (qft call q43r g43 x15 x157 H) Q) : Ok (qxc call q43r g43 x15 x157 H) Q := by rw [qu2]; exact h
theorem q60 {call : Ev.Call} {q43r : AV → Hp → R1} {g43 : AV → Hp → R1} {x5 x7 x9 x15 : AV} {H : Hp} {Q : AV → Hp → Prop} (h : Ok (qfs call q43r g43 x5 x7 x9 x15 H) Q) : Ok (qxb call q43r g43 x5 x7 x9 x15 H) Q := by rw [qu1]; exact h
theorem q6y {call : Ev.Call} {x5 x7 x9 : AV} {H : Hp} {Q : AV → Hp → Prop} (h : Ok (qfr call x5 x7 x9 H) Q) : Ok (qxa call x5 x7 x9 H) Q := by rw [qu0]; exact h
theorem q6x {call : Ev.Call} {x5 x7 x9 x127 : AV} {H : Hp} {Q : AV → Hp → Prop} (h : Ok (qfq call x5 x7 x9 x127 H) Q) : Ok (qw9 call x5 x7 x9 x127 H) Q := by rw [quz]; exact h
theorem q2n {call : Ev.Call} {x5 x6 x7 x8 x9 x10 x11 x12 x13 x14 : AV} {H : Hp} {Q : AV → Hp → Prop} (h : Ok (qec call x5 x6 x7 x8 x9 x10 x11 x12 x13 x14 H) Q) : Ok (qp7 call x5 x6 x7 x8 x9 x10 x11 x12 x13 x14 H) Q := by rw [qs7]; exact h
theorem q2m {call : Ev.Call} {x3 x5 x6 x7 x8 x9 x10 x11 x12 : AV} {H : Hp} {Q : AV → Hp → Prop} (h : Ok (qeb call x3 x5 x6 x7 x8 x9 x10 x11 x12 H) Q) : Ok (qp6 call x3 x5 x6 x7 x8 x9 x10 x11 x12 H) Q := by rw [qs6]; exact h
theorem q2l {call : Ev.Call} {x1 x3 x5 x6 x7 x8 x9 x10 : AV} {H : Hp} {Q : AV → Hp → Prop} (h : Ok (qea call x1 x3 x5 x6 x7 x8 x9 x10 H) Q) : Ok (qp5 call x1 x3 x5 x6 x7 x8 x9 x10 H) Q := by rw [qs5]; exact h
theorem q2k {call : Ev.Call} {x1 x3 x5 x6 x7 x8 : AV} {H : Hp} {Q : AV → Hp → Prop} (h : Ok (qd9 call x1 x3 x5 x6 x7 x8 H) Q) : Ok (qp4 call x1 x3 x5 x6 x7 x8 H) Q := by rw [qs4]; exact h
theorem q2j {call : Ev.Call} {x1 x2 x3 x5 x6 : AV} {H : Hp} {Q : AV → Hp → Prop} (h : Ok (qd8 call x1 x2 x3 x5 x6 H) Q) : Ok (qp3 call x1 x2 x3 x5 x6 H) Q := by rw [qs3]; exact h
theorem q2i {call : Ev.Call} {x1 x2 x3 : AV} {H : Hp} {Q : AV → Hp → Prop} (h : Ok (qd7 call x1 x2 x3 H) Q) : Ok (qb7 call x1 x2 x3 H) Q := by rw [qs2]; exact h
theorem qs0 {call : Ev.Call} {g134 : AV → Hp → R1} {x4 : AV} {H : Hp} {Q : AV → Hp → Prop} (h : Ok (qcz call g134 x4 H) Q) : Ok (qmf call g134 x4 H) Q := by rw [qs1]; exact h
theorem q2h {call : Ev.Call} {g134 : AV → Hp → R1} {x3 x4 : AV} {H : Hp} {Q : AV → Hp → Prop} (h : Ok (qd6 call g134 x3 x4 H) Q) : Ok (qjs call g134 x3 x4 H) Q := by rw [qsz]; exact h
theorem q2g {call : Ev.Call} {g134 : AV → Hp → R1} {x2 x3 x4 : AV} {H : Hp} {Q : AV → Hp → Prop} (h : Ok (qd5 call g134 x2 x3 x4 H) Q) : Ok (qp2 call g134 x2 x3 x4 H) Q := by rw [qsy]; exact h
theorem q2f {call : Ev.Call} {g134 : AV → Hp → R1} {x1 x2 x3 x4 : AV} {H : Hp} {Q : AV → Hp → Prop} (h : Ok (qd4 call g134 x1 x2 x3 x4 H) Q) : Ok (qp1 call g134 x1 x2 x3 x4 H) Q := by rw [qsx]; exact h
theorem q2d {call : Ev.Call} {x1 x2 x3 : AV} {H : Hp} {Q : AV → Hp → Prop} (h : Ok (qd3 call x1 x2 x3 H) Q) : Ok (qp0 call x1 x2 x3 H) Q := by rw [qsw]; exact h
end Go.Di
end
noncomputable section
namespace Go.Di
open Go.Ev
def qfo (call : Ev.Call) (x0 x1 : AV) (H : Hp) : R1 :=
 vq (qa9 x0) H fun a0 H =>
 vq (qh9 .u64 a0) H fun a1 H =>
 ve (call (.f qjt) [a1] H) fun a2 H =>
 ve (call (.f qhw) [x0, (.int .i64 (.ofNat 0)), a0, a2, x1] H) fun a3 H =>
 .ok (.tup []) H
def s_SortFunc (call : Ev.Call) (x0 x1 : AV) (H : Hp) : R1 := qfo call x0 x1 H
def qv6 (call : Ev.Call) (x0 : AV) (H : Hp) : R1 :=
 ve (call (.f qol) [x0] H) fun a0 H =>
 .ok a0 H
def q1d (call : Ev.Call) (x0 : AV) (H : Hp) : R1 :=
 cd (.bool false) (
 vq (qh9 .u32 x0) H fun a2 H =>
 ve (call (.f qom) [a2] H) fun a3 H =>
 .ok a3 H) (
 qv6 call x0 H)
def s_Len (call : Ev.Call) (x0 : AV) (H : Hp) : R1 := q1d call x0 H
def qlr (call : Ev.Call) (g0 : AV → AV → AV → AV → AV → Hp → R1) (x0 x1 x2 x3 x4 x12 x13 : AV) (H : Hp) : R1 :=
 ve (call (.f qmh) [x0, x1, x2, x13, x4] H) fun a5 H =>
 vq (extr 0 a5) H fun a6 H =>
 vq (extr 1 a5) H fun a7 H =>
 vq (intV (qaa .sub).f a6 x1) H fun a8 H =>
 vq (intV (qaa .sub).f x2 a6) H fun a9 H =>
 vq (intV (qaa .quo).f x12 (.int .i64 (.ofNat 8))) H fun a10 H =>
 vq (intV (qaa .lss).f a8 a9) H fun a11 H =>
 cd a11 (
 vq (intV (qaa .geq).f a8 a10) H fun a12 H =>
 ve (call (.f qhw) [x0, x1, a6, x3, x4] H) fun a13 H =>
 vq (intV (qaa .add).f a6 (.int .i64 (.ofNat 1))) H fun a14 H =>
 g0 a14 x2 x3 a12 a7 H) (
 vq (intV (qaa .geq).f a9 a10) H fun a15 H =>
 vq (intV (qaa .add).f a6 (.int .i64 (.ofNat 1))) H fun a16 H =>
 ve (call (.f qhw) [x0, a16, x2, x3, x4] H) fun a17 H =>
 g0 x1 a6 x3 a15 a7 H)
def qez (call : Ev.Call) (g0 : AV → AV → AV → AV → AV → Hp → R1) (x0 x1 x2 x3 x4 x10 x11 x12 x13 : AV) (H : Hp) : R1 :=
 dz 0 H fun b19 H =>
 dq false false 0 0 (b19 + 0) H [] [] (fun _ => .val x1) (some true) fun a20 H p w =>
 dq false false 1 1 (b19 + 1) H p w (fun _ => intV (qaa .gtr).f a20 (.int .i64 (.ofNat 0))) (some true) fun a21 H p w =>
 dq false false 2 3 (b19 + 2) H p w (fun _ => .val a21) (some true) fun a22 H p w =>
 dq false false 3 7 (b19 + 3) H p w (fun _ => .val x4) (qac true a22) fun a23 H p w =>
 dq false false 4 7 (b19 + 4) H p w (fun _ => .val x0) (qac true a22) fun a24 H p w =>
 dq false false 5 7 (b19 + 5) H p w (fun _ => .val x1) (qac true a22) fun a25 H p w =>
 dq false false 6 39 (b19 + 6) H p w (fun _ => intV (qaa .sub).f a25 (.int .i64 (.ofNat 1))) (qac true a22) fun a26 H p w =>
 dq false false 7 119 (b19 + 7) H p w (fun _ => idxS 1 a24 a26) (qac true a22) fun a27 H p w =>
 dq true false 8 247 (b19 + 8) H p w (fun H => qaf H a27) (qac true a22) fun a28 H p w =>
 dq false false 9 7 (b19 + 9) H p w (fun _ => .val x0) (qac true a22) fun a29 H p w =>
 dq false false 10 7 (b19 + 10) H p w (fun _ => .val x13) (qac true a22) fun a30 H p w =>
 dq false false 11 1543 (b19 + 11) H p w (fun _ => idxS 1 a29 a30) (qac true a22) fun a31 H p w =>
 dq true false 12 3591 (b19 + 12) H p w (fun H => qaf H a31) (qac true a22) fun a32 H p w =>
 de 8191 H p w (qfm call a23 [a28, a32] (qaq 8191 p H)) (qac true a22) fun a33 H p w =>
 dq false false 14 16383 (b19 + 14) H p w (fun _ => intV (qaa .lss).f a33 (.int .i64 (.ofNat 0))) (qac true a22) fun a34 H p w =>
 dq false false 15 32767 (b19 + 15) H p w (fun _ => (unS .not).f a34) (qac true a22) fun a35 H p w =>
 dq false false 16 65535 (b19 + 16) H p w (fun _ => qbj a22 a35 (.bool false)) (some true) fun a36 H p w =>
 dz2 p H fun H =>
 cd a36 (
 ve (call (.f qqa) [x0, x1, x2, x13, x4] H) fun a37 H =>
 g0 a37 x2 x3 x10 x11 H) (
 qlr call g0 x0 x1 x2 x3 x4 x12 x13 H)
def qij (call : Ev.Call) (q0r : Hp → R1) (g0 : AV → AV → AV → AV → AV → Hp → R1) (x0 x1 x2 x3 x4 x10 x11 x12 x13 x14 : AV) (H : Hp) : R1 :=
 vg (qac true x10) (.val x11) H fun a39 H =>
 vq (qbj x10 a39 (.bool false)) H fun a40 H =>
 vg (qac true a40) (.val x14) H fun a41 H =>
 vg (qac true a40) (intV (qaa .eql).f a41 (.int .i64 (.ofNat 1))) H fun a42 H =>
 vq (qbj a40 a42 (.bool false)) H fun a43 H =>
 cd a43 (
 ve (call (.f qi7) [x0, x1, x2, x4] H) fun a44 H =>
 cd a44 (
 q0r H) (
 qez call g0 x0 x1 x2 x3 x4 x10 x11 x12 x13 H)) (
 qez call g0 x0 x1 x2 x3 x4 x10 x11 x12 x13 H)
def qii (call : Ev.Call) (q0r : Hp → R1) (g0 : AV → AV → AV → AV → AV → Hp → R1) (x0 x1 x2 x3 x4 x10 x11 x12 : AV) (H : Hp) : R1 :=
 ve (call (.f qp9) [x0, x1, x2, x4] H) fun a2 H =>
 vq (extr 0 a2) H fun a3 H =>
 vq (extr 1 a2) H fun a4 H =>
 vq (intV (qaa .eql).f a4 (.int .i64 (.ofNat 2))) H fun a46 H =>
 cd a46 (
 ve (call (.f qp8) [x0, x1, x2, x4] H) fun a47 H =>
 vq (intV (qaa .sub).f x2 (.int .i64 (.ofNat 1))) H fun a48 H =>
 vq (intV (qaa .sub).f a3 x1) H fun a49 H =>
 vq (intV (qaa .sub).f a48 a49) H fun a50 H =>
 qij call q0r g0 x0 x1 x2 x3 x4 x10 x11 x12 a50 (.int .i64 (.ofNat 1)) H) (
 qij call q0r g0 x0 x1 x2 x3 x4 x10 x11 x12 a3 a4 H)
def qq6 (call : Ev.Call) (q0r : Hp → R1) (g0 : AV → AV → AV → AV → AV → Hp → R1) (x0 x1 x2 x3 x4 x10 x11 x12 : AV) (H : Hp) : R1 :=
 vq ((unS .not).f x10) H fun a52 H =>
 cd a52 (
 ve (call (.f qqb) [x0, x1, x2, x4] H) fun a53 H =>
 vq (intV (qaa .sub).f x3 (.int .i64 (.ofNat 1))) H fun a54 H =>
 qii call q0r g0 x0 x1 x2 a54 x4 x10 x11 x12 H) (
 qii call q0r g0 x0 x1 x2 x3 x4 x10 x11 x12 H)
def qq5 (call : Ev.Call) (q0r : Hp → R1) (g0 : AV → AV → AV → AV → AV → Hp → R1) (x0 x1 x2 x3 x4 x10 x11 x12 : AV) (H : Hp) : R1 :=
 vq (intV (qaa .eql).f x3 (.int .i64 (.ofNat 0))) H fun a56 H =>
 cd a56 (
 ve (call (.f qmk) [x0, x1, x2, x4] H) fun a57 H =>
 q0r H) (
 qq6 call q0r g0 x0 x1 x2 x3 x4 x10 x11 x12 H)
def qls (call : Ev.Call) (q0r : Hp → R1) (x0 x4 : AV) (g0 : AV → AV → AV → AV → AV → Hp → R1) (x1 x2 x3 x10 x11 : AV) (H : Hp) : R1 :=
 vq (intV (qaa .sub).f x2 x1) H fun a1 H =>
 vq (intV (qaa .leq).f a1 (.int .i64 (.ofNat 12))) H fun a59 H =>
 cd a59 (
 ve (call (.f qmj) [x0, x1, x2, x4] H) fun a60 H =>
 q0r H) (
 qq5 call q0r g0 x0 x1 x2 x3 x4 x10 x11 a1 H)
def qbr (call : Ev.Call) (q0r : Hp → R1) (x0 x4 : AV) (n : Nat) : AV → AV → AV → AV → AV → Hp → R1 :=
 Nat.rec (motive := fun _ => AV → AV → AV → AV → AV → Hp → R1) (fun _ _ _ _ _ _ => .bad) (fun _ ih => qls call q0r x0 x4 ih) n
def qpn (call : Ev.Call) (q0r : Hp → R1) (x0 x4 : AV) : AV → AV → AV → AV → AV → Hp → R1 := qbr call q0r x0 x4 qba
def qvw (call : Ev.Call) (x0 x1 x2 x3 x4 : AV) (H : Hp) : R1 :=
 qpn call (fun H => .ok (.tup []) H) x0 x4 x1 x2 x3 (.bool true) (.bool true) H
def s_pdq (call : Ev.Call) (x0 x1 x2 x3 x4 : AV) (H : Hp) : R1 := qvw call x0 x1 x2 x3 x4 H
def qnp (call : Ev.Call) (x0 x2 : AV) (H : Hp) : R1 :=
 vq (qh9 .u8 x0) H fun a0 H =>
 vq (qtd (.str 256 1013866857139168856493015739252390649739422828853819106890363778118420553376247557433637691341895324351018602695588957474325319502760499485336098898398377509666851054660423406800006203933793007272033180812049178612605246075062580585469430410618860250057463399279570354286669047577758927328864388992123306212451509403152394148136105363817402562688186708175358218852349079190158732807302672745370040257219644697201681238697346923541678507645485296520536209706771857694240900605172937619415410180424934769249448772944216470541052485265558808433676546390051204254346932932316488017972311616136051587427851453983453479168) a0) H fun a1 H =>
 vq (qh9 .i64 a1) H fun a2 H =>
 vq (intV (qaa .add).f x2 a2) H fun a3 H =>
 .ok a3 H
def qno (call : Ev.Call) (x0 x2 : AV) (H : Hp) : R1 :=
 vq (intV (qaa .geq).f x0 (.int .u32 (.ofNat 256))) H fun a5 H =>
 cd a5 (
 vq (qew (qb0 .shr).f x0 (.int .u64 (.ofNat 8))) H fun a6 H =>
 vq (intV (qaa .add).f x2 (.int .i64 (.ofNat 8))) H fun a7 H =>
 qnp call a6 a7 H) (
 qnp call x0 x2 H)
def qy5 (call : Ev.Call) (x0 : AV) (H : Hp) : R1 :=
 vq (intV (qaa .geq).f x0 (.int .u32 (.ofNat 65536))) H fun a9 H =>
 cd a9 (
 vq (qew (qb0 .shr).f x0 (.int .u64 (.ofNat 16))) H fun a10 H =>
 qno call a10 (.int .i64 (.ofNat 16)) H) (
 qno call x0 (.int .i64 (.ofNat 0)) H)
def s_Len32 (call : Ev.Call) (x0 : AV) (H : Hp) : R1 := qy5 call x0 H
def qgr (call : Ev.Call) (x0 x2 : AV) (H : Hp) : R1 :=
 vq (qh9 .u8 x0) H fun a0 H =>
 vq (qtd (.str 256 1013866857139168856493015739252390649739422828853819106890363778118420553376247557433637691341895324351018602695588957474325319502760499485336098898398377509666851054660423406800006203933793007272033180812049178612605246075062580585469430410618860250057463399279570354286669047577758927328864388992123306212451509403152394148136105363817402562688186708175358218852349079190158732807302672745370040257219644697201681238697346923541678507645485296520536209706771857694240900605172937619415410180424934769249448772944216470541052485265558808433676546390051204254346932932316488017972311616136051587427851453983453479168) a0) H fun a1 H =>
 vq (qh9 .i64 a1) H fun a2 H =>
 vq (intV (qaa .add).f x2 a2) H fun a3 H =>
 .ok a3 H
def qgq (call : Ev.Call) (x0 x2 : AV) (H : Hp) : R1 :=
 vq (intV (qaa .geq).f x0 (.int .u64 (.ofNat 256))) H fun a5 H =>
 cd a5 (
 vq (qew (qb0 .shr).f x0 (.int .u64 (.ofNat 8))) H fun a6 H =>
 vq (intV (qaa .add).f x2 (.int .i64 (.ofNat 8))) H fun a7 H =>
 qgr call a6 a7 H) (
 qgr call x0 x2 H)
def qe4 (call : Ev.Call) (x0 x2 : AV) (H : Hp) : R1 :=
 vq (intV (qaa .geq).f x0 (.int .u64 (.ofNat 65536))) H fun a9 H =>
 cd a9 (
 vq (qew (qb0 .shr).f x0 (.int .u64 (.ofNat 16))) H fun a10 H =>
 vq (intV (qaa .add).f x2 (.int .i64 (.ofNat 16))) H fun a11 H =>
 qgq call a10 a11 H) (
 qgq call x0 x2 H)
def qrh (call : Ev.Call) (x0 : AV) (H : Hp) : R1 :=
 vq (intV (qaa .geq).f x0 (.int .u64 (.ofNat 4294967296))) H fun a13 H =>
 cd a13 (
 vq (qew (qb0 .shr).f x0 (.int .u64 (.ofNat 32))) H fun a14 H =>
 qe4 call a14 (.int .i64 (.ofNat 32)) H) (
 qe4 call x0 (.int .i64 (.ofNat 0)) H)
def s_Len64 (call : Ev.Call) (x0 : AV) (H : Hp) : R1 := qrh call x0 H
def qhh (call : Ev.Call) (g1 : AV → Hp → R1) (x8 : AV) (H : Hp) : R1 :=
 vq (intV (qaa .add).f x8 (.int .i64 (.ofNat 1))) H fun a2 H =>
 g1 a2 H
def qv1 (call : Ev.Call) (g4 : AV → Hp → R1) (x9 : AV) (H : Hp) : R1 :=
 vq (intV (qaa .sub).f x9 (.int .i64 (.ofNat 1))) H fun a5 H =>
 g4 a5 H
def qq9 (call : Ev.Call) (g4 : AV → Hp → R1) (x0 x9 : AV) (H : Hp) : R1 :=
 dz 0 H fun b7 H =>
 dq false false 0 0 (b7 + 0) H [] [] (fun _ => .val x0) (some true) fun a8 H p w =>
 dq false false 1 0 (b7 + 1) H p w (fun _ => .val x9) (some true) fun a9 H p w =>
 dq false false 2 0 (b7 + 2) H p w (fun _ => .val x0) (some true) fun a10 H p w =>
 dq false false 3 0 (b7 + 3) H p w (fun _ => .val x9) (some true) fun a11 H p w =>
 dq false false 4 8 (b7 + 4) H p w (fun _ => intV (qaa .sub).f a11 (.int .i64 (.ofNat 1))) (some true) fun a12 H p w =>
 dq false false 5 0 (b7 + 5) H p w (fun _ => .val x0) (some true) fun a13 H p w =>
 dq false false 6 0 (b7 + 6) H p w (fun _ => .val x9) (some true) fun a14 H p w =>
 dq false false 7 64 (b7 + 7) H p w (fun _ => intV (qaa .sub).f a14 (.int .i64 (.ofNat 1))) (some true) fun a15 H p w =>
 dq false false 8 224 (b7 + 8) H p w (fun _ => idxS 1 a13 a15) (some true) fun a16 H p w =>
 dq true false 9 480 (b7 + 9) H p w (fun H => qaf H a16) (some true) fun a17 H p w =>
 dq false false 10 0 (b7 + 10) H p w (fun _ => .val x0) (some true) fun a18 H p w =>
 dq false false 11 0 (b7 + 11) H p w (fun _ => .val x9) (some true) fun a19 H p w =>
 dq false false 12 3072 (b7 + 12) H p w (fun _ => idxS 1 a18 a19) (some true) fun a20 H p w =>
 dq true false 13 7168 (b7 + 13) H p w (fun H => qaf H a20) (some true) fun a21 H p w =>
 dq false false 14 16355 (b7 + 14) H p w (fun _ => idxS 1 a8 a9) (some true) fun a22 H p w =>
 de 32739 H p w (qao (qaq 32739 p H) a22 a17) (some true) fun _ H p w =>
 dq false false 16 65535 (b7 + 16) H p w (fun _ => idxS 1 a10 a12) (some true) fun a24 H p w =>
 de 131071 H p w (qao (qaq 131071 p H) a24 a21) (some true) fun _ H p w =>
 dz2 p H fun H =>
 qv1 call g4 x9 H
def qv3 (call : Ev.Call) (q4e2 : Hp → R1) (x0 x1 x3 : AV) (g4 : AV → Hp → R1) (x9 : AV) (H : Hp) : R1 :=
 dz 0 H fun b27 H =>
 dq false false 0 0 (b27 + 0) H [] [] (fun _ => .val x9) (some true) fun a28 H p w =>
 dq false false 1 0 (b27 + 1) H p w (fun _ => .val x1) (some true) fun a29 H p w =>
 dq false false 2 3 (b27 + 2) H p w (fun _ => intV (qaa .gtr).f a28 a29) (some true) fun a30 H p w =>
 dq false false 3 7 (b27 + 3) H p w (fun _ => .val a30) (some true) fun a31 H p w =>
 dq false false 4 15 (b27 + 4) H p w (fun _ => .val x3) (qac true a31) fun a32 H p w =>
 dq false false 5 15 (b27 + 5) H p w (fun _ => .val x0) (qac true a31) fun a33 H p w =>
 dq false false 6 15 (b27 + 6) H p w (fun _ => .val x9) (qac true a31) fun a34 H p w =>
 dq false false 7 111 (b27 + 7) H p w (fun _ => idxS 1 a33 a34) (qac true a31) fun a35 H p w =>
 dq true false 8 239 (b27 + 8) H p w (fun H => qaf H a35) (qac true a31) fun a36 H p w =>
 dq false false 9 15 (b27 + 9) H p w (fun _ => .val x0) (qac true a31) fun a37 H p w =>
 dq false false 10 15 (b27 + 10) H p w (fun _ => .val x9) (qac true a31) fun a38 H p w =>
 dq false false 11 1039 (b27 + 11) H p w (fun _ => intV (qaa .sub).f a38 (.int .i64 (.ofNat 1))) (qac true a31) fun a39 H p w =>
 dq false false 12 3599 (b27 + 12) H p w (fun _ => idxS 1 a37 a39) (qac true a31) fun a40 H p w =>
 dq true false 13 7695 (b27 + 13) H p w (fun H => qaf H a40) (qac true a31) fun a41 H p w =>
 de 16383 H p w (qfm call a32 [a36, a41] (qaq 16383 p H)) (qac true a31) fun a42 H p w =>
 dq false false 15 32767 (b27 + 15) H p w (fun _ => intV (qaa .lss).f a42 (.int .i64 (.ofNat 0))) (qac true a31) fun a43 H p w =>
 dq false false 16 65535 (b27 + 16) H p w (fun _ => qbj a31 a43 (.bool false)) (some true) fun a44 H p w =>
 dz2 p H fun H =>
 cd a44 (
 qq9 call g4 x0 x9 H) (
 q4e2 H)
def qjl (call : Ev.Call) (q4e2 : Hp → R1) (x0 x1 x3 : AV) (n : Nat) : AV → Hp → R1 :=
 Nat.rec (motive := fun _ => AV → Hp → R1) (fun _ _ => .bad) (fun _ ih => qv3 call q4e2 x0 x1 x3 ih) n
def qv4 (call : Ev.Call) (q4e2 : Hp → R1) (x0 x1 x3 : AV) : AV → Hp → R1 := qjl call q4e2 x0 x1 x3 qba
def qq8 (call : Ev.Call) (g1 : AV → Hp → R1) (x0 x1 x3 x8 : AV) (H : Hp) : R1 :=
 qv4 call (fun H => qhh call g1 x8 H) x0 x1 x3 x8 H
def qlt (call : Ev.Call) (q1e0 : Hp → R1) (x0 x1 x2 x3 : AV) (g1 : AV → Hp → R1) (x8 : AV) (H : Hp) : R1 :=
 vq (intV (qaa .lss).f x8 x2) H fun a46 H =>
 cd a46 (
 qq8 call g1 x0 x1 x3 x8 H) (
 q1e0 H)
def qcv (call : Ev.Call) (q1e0 : Hp → R1) (x0 x1 x2 x3 : AV) (n : Nat) : AV → Hp → R1 :=
 Nat.rec (motive := fun _ => AV → Hp → R1) (fun _ _ => .bad) (fun _ ih => qlt call q1e0 x0 x1 x2 x3 ih) n
def qpo (call : Ev.Call) (q1e0 : Hp → R1) (x0 x1 x2 x3 : AV) : AV → Hp → R1 := qcv call q1e0 x0 x1 x2 x3 qba
def qv2 (call : Ev.Call) (x0 x1 x2 x3 : AV) (H : Hp) : R1 :=
 vq (intV (qaa .add).f x1 (.int .i64 (.ofNat 1))) H fun a0 H =>
 qpo call (fun H => .ok (.tup []) H) x0 x1 x2 x3 a0 H
def s_ins (call : Ev.Call) (x0 x1 x2 x3 : AV) (H : Hp) : R1 := qv2 call x0 x1 x2 x3 H
def qra (call : Ev.Call) (g2 : AV → Hp → R1) (x12 : AV) (H : Hp) : R1 :=
 vq (intV (qaa .sub).f x12 (.int .i64 (.ofNat 1))) H fun a3 H =>
 g2 a3 H
def qnm (call : Ev.Call) (g2 : AV → Hp → R1) (x0 x3 x8 x9 x12 : AV) (H : Hp) : R1 :=
 dz 0 H fun b5 H =>
 dq false false 0 0 (b5 + 0) H [] [] (fun _ => .val x0) (some true) fun a6 H p w =>
 dq false false 1 0 (b5 + 1) H p w (fun _ => .val x8) (some true) fun a7 H p w =>
 dq false false 2 0 (b5 + 2) H p w (fun _ => .val x0) (some true) fun a8 H p w =>
 dq false false 3 0 (b5 + 3) H p w (fun _ => .val x8) (some true) fun a9 H p w =>
 dq false false 4 0 (b5 + 4) H p w (fun _ => .val x12) (some true) fun a10 H p w =>
 dq false false 5 24 (b5 + 5) H p w (fun _ => intV (qaa .add).f a9 a10) (some true) fun a11 H p w =>
 dq false false 6 0 (b5 + 6) H p w (fun _ => .val x0) (some true) fun a12 H p w =>
 dq false false 7 0 (b5 + 7) H p w (fun _ => .val x8) (some true) fun a13 H p w =>
 dq false false 8 0 (b5 + 8) H p w (fun _ => .val x12) (some true) fun a14 H p w =>
 dq false false 9 384 (b5 + 9) H p w (fun _ => intV (qaa .add).f a13 a14) (some true) fun a15 H p w =>
 dq false false 10 960 (b5 + 10) H p w (fun _ => idxS 1 a12 a15) (some true) fun a16 H p w =>
 dq true false 11 1984 (b5 + 11) H p w (fun H => qaf H a16) (some true) fun a17 H p w =>
 dq false false 12 0 (b5 + 12) H p w (fun _ => .val x0) (some true) fun a18 H p w =>
 dq false false 13 0 (b5 + 13) H p w (fun _ => .val x8) (some true) fun a19 H p w =>
 dq false false 14 12288 (b5 + 14) H p w (fun _ => idxS 1 a18 a19) (some true) fun a20 H p w =>
 dq true false 15 28672 (b5 + 15) H p w (fun H => qaf H a20) (some true) fun a21 H p w =>
 dq false false 16 65475 (b5 + 16) H p w (fun _ => idxS 1 a6 a7) (some true) fun a22 H p w =>
 de 131011 H p w (qao (qaq 131011 p H) a22 a17) (some true) fun _ H p w =>
 dq false false 18 262143 (b5 + 18) H p w (fun _ => idxS 1 a8 a11) (some true) fun a24 H p w =>
 de 524287 H p w (qao (qaq 524287 p H) a24 a21) (some true) fun _ H p w =>
 dz2 p H fun H =>
 ve (call (.f qi6) [x0, x9, x12, x8, x3] H) fun a26 H =>
 qra call g2 x12 H
def qik (call : Ev.Call) (q2e2 : Hp → R1) (x0 x3 x8 x9 : AV) (g2 : AV → Hp → R1) (x12 : AV) (H : Hp) : R1 :=
 vq (intV (qaa .geq).f x12 (.int .i64 (.ofNat 0))) H fun a28 H =>
 cd a28 (
 qnm call g2 x0 x3 x8 x9 x12 H) (
 q2e2 H)
def qe3 (call : Ev.Call) (q2e2 : Hp → R1) (x0 x3 x8 x9 : AV) (n : Nat) : AV → Hp → R1 :=
 Nat.rec (motive := fun _ => AV → Hp → R1) (fun _ _ => .bad) (fun _ ih => qik call q2e2 x0 x3 x8 x9 ih) n
def qrb (call : Ev.Call) (q2e2 : Hp → R1) (x0 x3 x8 x9 : AV) : AV → Hp → R1 := qe3 call q2e2 x0 x3 x8 x9 qba
def qdi (call : Ev.Call) (x0 x3 x8 x9 x10 : AV) (H : Hp) : R1 :=
 vq (intV (qaa .sub).f x10 (.int .i64 (.ofNat 1))) H fun a1 H =>
 qrb call (fun H => .ok (.tup []) H) x0 x3 x8 x9 a1 H
def qnl (call : Ev.Call) (g32 : AV → Hp → R1) (x11 : AV) (H : Hp) : R1 :=
 vq (intV (qaa .sub).f x11 (.int .i64 (.ofNat 1))) H fun a33 H =>
 g32 a33 H
def qnk (call : Ev.Call) (g32 : AV → Hp → R1) (x0 x3 x8 x10 x11 : AV) (H : Hp) : R1 :=
 ve (call (.f qi6) [x0, x11, x10, x8, x3] H) fun a35 H =>
 qnl call g32 x11 H
def qgp (call : Ev.Call) (q32e0 : Hp → R1) (x0 x3 x8 x10 : AV) (g32 : AV → Hp → R1) (x11 : AV) (H : Hp) : R1 :=
 vq (intV (qaa .geq).f x11 (.int .i64 (.ofNat 0))) H fun a37 H =>
 cd a37 (
 qnk call g32 x0 x3 x8 x10 x11 H) (
 q32e0 H)
def qdh (call : Ev.Call) (q32e0 : Hp → R1) (x0 x3 x8 x10 : AV) (n : Nat) : AV → Hp → R1 :=
 Nat.rec (motive := fun _ => AV → Hp → R1) (fun _ _ => .bad) (fun _ ih => qgp call q32e0 x0 x3 x8 x10 ih) n
def qnn (call : Ev.Call) (q32e0 : Hp → R1) (x0 x3 x8 x10 : AV) : AV → Hp → R1 := qdh call q32e0 x0 x3 x8 x10 qba
def qv5 (call : Ev.Call) (x0 x1 x2 x3 : AV) (H : Hp) : R1 :=
 vq (intV (qaa .sub).f x2 x1) H fun a0 H =>
 vq (intV (qaa .sub).f a0 (.int .i64 (.ofNat 1))) H fun a30 H =>
 vq (intV (qaa .quo).f a30 (.int .i64 (.ofNat 2))) H fun a31 H =>
 qnn call (fun H => qdi call x0 x3 x1 (.int .i64 (.ofNat 0)) a0 H) x0 x3 x1 a0 a31 H
def s_heap (call : Ev.Call) (x0 x1 x2 x3 : AV) (H : Hp) : R1 := qv5 call x0 x1 x2 x3 H
def qrd (call : Ev.Call) (g10 : AV → Hp → R1) (x11 : AV) (H : Hp) : R1 :=
 vq (intV (qaa .add).f x11 (.int .i64 (.ofNat 1))) H fun a11 H =>
 g10 a11 H
def qil (call : Ev.Call) (g10 : AV → Hp → R1) (x0 x1 x11 x12 : AV) (H : Hp) : R1 :=
 dz 0 H fun b17 H =>
 dq false false 0 0 (b17 + 0) H [] [] (fun _ => .val x0) (some true) fun a18 H p w =>
 dq false false 1 0 (b17 + 1) H p w (fun _ => .val x11) (some true) fun a19 H p w =>
 dq false false 2 0 (b17 + 2) H p w (fun _ => .val x0) (some true) fun a20 H p w =>
 dq false false 3 0 (b17 + 3) H p w (fun _ => .val x1) (some true) fun a21 H p w =>
 dq false false 4 0 (b17 + 4) H p w (fun _ => .val x12) (some true) fun a22 H p w =>
 dq false false 5 24 (b17 + 5) H p w (fun _ => intV (qaa .add).f a21 a22) (some true) fun a23 H p w =>
 dq false false 6 0 (b17 + 6) H p w (fun _ => .val x0) (some true) fun a24 H p w =>
 dq false false 7 0 (b17 + 7) H p w (fun _ => .val x1) (some true) fun a25 H p w =>
 dq false false 8 0 (b17 + 8) H p w (fun _ => .val x12) (some true) fun a26 H p w =>
 dq false false 9 384 (b17 + 9) H p w (fun _ => intV (qaa .add).f a25 a26) (some true) fun a27 H p w =>
 dq false false 10 960 (b17 + 10) H p w (fun _ => idxS 1 a24 a27) (some true) fun a28 H p w =>
 dq true false 11 1984 (b17 + 11) H p w (fun H => qaf H a28) (some true) fun a29 H p w =>
 dq false false 12 0 (b17 + 12) H p w (fun _ => .val x0) (some true) fun a30 H p w =>
 dq false false 13 0 (b17 + 13) H p w (fun _ => .val x11) (some true) fun a31 H p w =>
 dq false false 14 12288 (b17 + 14) H p w (fun _ => idxS 1 a30 a31) (some true) fun a32 H p w =>
 dq true false 15 28672 (b17 + 15) H p w (fun H => qaf H a32) (some true) fun a33 H p w =>
 dq false false 16 65475 (b17 + 16) H p w (fun _ => idxS 1 a18 a19) (some true) fun a34 H p w =>
 de 131011 H p w (qao (qaq 131011 p H) a34 a29) (some true) fun _ H p w =>
 dq false false 18 262143 (b17 + 18) H p w (fun _ => idxS 1 a20 a23) (some true) fun a36 H p w =>
 de 524287 H p w (qao (qaq 524287 p H) a36 a33) (some true) fun _ H p w =>
 dz2 p H fun H =>
 qrd call g10 x11 H
def qrc (call : Ev.Call) (g10 : AV → Hp → R1) (x0 x1 x8 x9 x10 x11 : AV) (H : Hp) : R1 :=
 ve (call (.f qed) [x9] H) fun a13 H =>
 vq (intV (qaa .sub).f x10 (.int .u64 (.ofNat 1))) H fun a14 H =>
 vq (intV (qaa .and).f a13 a14) H fun a15 H =>
 vq (qh9 .i64 a15) H fun a16 H =>
 vq (intV (qaa .geq).f a16 x8) H fun a39 H =>
 cd a39 (
 vq (intV (qaa .sub).f a16 x8) H fun a40 H =>
 qil call g10 x0 x1 x11 a40 H) (
 qil call g10 x0 x1 x11 a16 H)
def qre (call : Ev.Call) (q10e0 : Hp → R1) (x0 x1 x8 x9 x10 : AV) (g10 : AV → Hp → R1) (x11 : AV) (H : Hp) : R1 :=
 vq (intV (qaa .quo).f x8 (.int .i64 (.ofNat 4))) H fun a42 H =>
 vq (intV (qaa .mul).f a42 (.int .i64 (.ofNat 2))) H fun a43 H =>
 vq (intV (qaa .add).f x1 a43) H fun a44 H =>
 vq (intV (qaa .add).f a44 (.int .i64 (.ofNat 1))) H fun a45 H =>
 vq (intV (qaa .leq).f x11 a45) H fun a46 H =>
 cd a46 (
 qrc call g10 x0 x1 x8 x9 x10 x11 H) (
 q10e0 H)
def qd0 (call : Ev.Call) (q10e0 : Hp → R1) (x0 x1 x8 x9 x10 : AV) (n : Nat) : AV → Hp → R1 :=
 Nat.rec (motive := fun _ => AV → Hp → R1) (fun _ _ => .bad) (fun _ ih => qre call q10e0 x0 x1 x8 x9 x10 ih) n
def qrf (call : Ev.Call) (q10e0 : Hp → R1) (x0 x1 x8 x9 x10 : AV) : AV → Hp → R1 := qd0 call q10e0 x0 x1 x8 x9 x10 qba
def q1c (call : Ev.Call) (x0 x1 x2 : AV) (H : Hp) : R1 :=
 vq (intV (qaa .sub).f x2 x1) H fun a0 H =>
 vq (intV (qaa .geq).f a0 (.int .i64 (.ofNat 8))) H fun a1 H =>
 cd a1 (
 vq (qh9 .u64 a0) H fun a2 H =>
 vq (.new (.ptr H.nx 0) (qae 0 [.int .u64 (.ofNat 0)])) H fun a3 H =>
 ve (qao H a3 a2) fun _ H =>
 ve (call (.f qi8) [a0] H) fun a5 H =>
 vq (intV (qaa .quo).f a0 (.int .i64 (.ofNat 4))) H fun a6 H =>
 vq (intV (qaa .mul).f a6 (.int .i64 (.ofNat 2))) H fun a7 H =>
 vq (intV (qaa .add).f x1 a7) H fun a8 H =>
 vq (intV (qaa .sub).f a8 (.int .i64 (.ofNat 1))) H fun a9 H =>
 qrf call (fun H => .ok (.tup []) H) x0 x1 a0 a3 a5 a9 H) (
 .ok (.tup []) H)
def s_brk (call : Ev.Call) (x0 x1 x2 x3 : AV) (H : Hp) : R1 := q1c call x0 x1 x2 H
def qie (call : Ev.Call) (x11 x13 : AV) (H : Hp) : R1 :=
 vq (qaf H x11) H fun a11 H =>
 vq (intV (qaa .eql).f a11 (.int .i64 (.ofNat 0))) H fun a12 H =>
 cd a12 (
 .ok (.tup [x13, (.int .i64 (.ofNat 1))]) H) (
 vq (intV (qaa .eql).f a11 (.int .i64 (.ofNat 12))) H fun a13 H =>
 cd a13 (
 .ok (.tup [x13, (.int .i64 (.ofNat 2))]) H) (
 .ok (.tup [x13, (.int .i64 (.ofNat 0))]) H))
def qid (call : Ev.Call) (x0 x3 x11 x12 x13 x14 : AV) (H : Hp) : R1 :=
 ve (call (.f qmi) [x0, x12, x13, x14, x11, x3] H) fun a16 H =>
 qie call x11 a16 H
def q04 (call : Ev.Call) (x0 x1 x2 x3 : AV) (H : Hp) : R1 :=
 vq (intV (qaa .sub).f x2 x1) H fun a0 H =>
 vq (.new (.ptr H.nx 0) (qae 0 [.int .i64 (.ofNat 0)])) H fun a1 H =>
 vq (intV (qaa .quo).f a0 (.int .i64 (.ofNat 4))) H fun a2 H =>
 vq (intV (qaa .mul).f a2 (.int .i64 (.ofNat 1))) H fun a3 H =>
 vq (intV (qaa .add).f x1 a3) H fun a4 H =>
 vq (intV (qaa .quo).f a0 (.int .i64 (.ofNat 4))) H fun a5 H =>
 vq (intV (qaa .mul).f a5 (.int .i64 (.ofNat 2))) H fun a6 H =>
 vq (intV (qaa .add).f x1 a6) H fun a7 H =>
 vq (intV (qaa .quo).f a0 (.int .i64 (.ofNat 4))) H fun a8 H =>
 vq (intV (qaa .mul).f a8 (.int .i64 (.ofNat 3))) H fun a9 H =>
 vq (intV (qaa .add).f x1 a9) H fun a10 H =>
 vq (intV (qaa .geq).f a0 (.int .i64 (.ofNat 8))) H fun a15 H =>
 cd a15 (
 vq (intV (qaa .geq).f a0 (.int .i64 (.ofNat 50))) H fun a18 H =>
 cd a18 (
 ve (call (.f qdr) [x0, a4, a1, x3] H) fun a19 H =>
 ve (call (.f qdr) [x0, a7, a1, x3] H) fun a20 H =>
 ve (call (.f qdr) [x0, a10, a1, x3] H) fun a21 H =>
 qid call x0 x3 a1 a19 a20 a21 H) (
 qid call x0 x3 a1 a4 a7 a10 H)) (
 qie call a1 a7 H)
def s_piv (call : Ev.Call) (x0 x1 x2 x3 : AV) (H : Hp) : R1 := q04 call x0 x1 x2 x3 H
def qqv (call : Ev.Call) (g1 : AV → AV → Hp → R1) (x0 x8 x9 : AV) (H : Hp) : R1 :=
 dz 0 H fun b2 H =>
 dq false false 0 0 (b2 + 0) H [] [] (fun _ => .val x0) (some true) fun a3 H p w =>
 dq false false 1 0 (b2 + 1) H p w (fun _ => .val x8) (some true) fun a4 H p w =>
 dq false false 2 0 (b2 + 2) H p w (fun _ => .val x0) (some true) fun a5 H p w =>
 dq false false 3 0 (b2 + 3) H p w (fun _ => .val x9) (some true) fun a6 H p w =>
 dq false false 4 0 (b2 + 4) H p w (fun _ => .val x0) (some true) fun a7 H p w =>
 dq false false 5 0 (b2 + 5) H p w (fun _ => .val x9) (some true) fun a8 H p w =>
 dq false false 6 48 (b2 + 6) H p w (fun _ => idxS 1 a7 a8) (some true) fun a9 H p w =>
 dq true false 7 112 (b2 + 7) H p w (fun H => qaf H a9) (some true) fun a10 H p w =>
 dq false false 8 0 (b2 + 8) H p w (fun _ => .val x0) (some true) fun a11 H p w =>
 dq false false 9 0 (b2 + 9) H p w (fun _ => .val x8) (some true) fun a12 H p w =>
 dq false false 10 768 (b2 + 10) H p w (fun _ => idxS 1 a11 a12) (some true) fun a13 H p w =>
 dq true false 11 1792 (b2 + 11) H p w (fun H => qaf H a13) (some true) fun a14 H p w =>
 dq false false 12 4083 (b2 + 12) H p w (fun _ => idxS 1 a3 a4) (some true) fun a15 H p w =>
 de 8179 H p w (qao (qaq 8179 p H) a15 a10) (some true) fun _ H p w =>
 dq false false 14 16383 (b2 + 14) H p w (fun _ => idxS 1 a5 a6) (some true) fun a17 H p w =>
 de 32767 H p w (qao (qaq 32767 p H) a17 a14) (some true) fun _ H p w =>
 dz2 p H fun H =>
 vq (intV (qaa .add).f x8 (.int .i64 (.ofNat 1))) H fun a19 H =>
 vq (intV (qaa .sub).f x9 (.int .i64 (.ofNat 1))) H fun a20 H =>
 g1 a19 a20 H
def qvt (call : Ev.Call) (q1e0 : Hp → R1) (x0 : AV) (g1 : AV → AV → Hp → R1) (x8 x9 : AV) (H : Hp) : R1 :=
 vq (intV (qaa .lss).f x8 x9) H fun a22 H =>
 cd a22 (
 qqv call g1 x0 x8 x9 H) (
 q1e0 H)
def qlq (call : Ev.Call) (q1e0 : Hp → R1) (x0 : AV) (n : Nat) : AV → AV → Hp → R1 :=
 Nat.rec (motive := fun _ => AV → AV → Hp → R1) (fun _ _ _ => .bad) (fun _ ih => qvt call q1e0 x0 ih) n
def qvu (call : Ev.Call) (q1e0 : Hp → R1) (x0 : AV) : AV → AV → Hp → R1 := qlq call q1e0 x0 qba
def q03 (call : Ev.Call) (x0 x1 x2 : AV) (H : Hp) : R1 :=
 vq (intV (qaa .sub).f x2 (.int .i64 (.ofNat 1))) H fun a0 H =>
 qvu call (fun H => .ok (.tup []) H) x0 x1 a0 H
def s_rev (call : Ev.Call) (x0 x1 x2 x3 : AV) (H : Hp) : R1 := q03 call x0 x1 x2 H
def qa0 (call : Ev.Call) (H : Hp) : R1 :=
 .ok (.bool false) H
def qb9 (call : Ev.Call) (g2 : AV → AV → Hp → R1) (x9 x10 : AV) (H : Hp) : R1 :=
 vq (intV (qaa .add).f x10 (.int .i64 (.ofNat 1))) H fun a3 H =>
 g2 x9 a3 H
def qna (call : Ev.Call) (g27 : AV → Hp → R1) (x12 : AV) (H : Hp) : R1 :=
 vq (intV (qaa .add).f x12 (.int .i64 (.ofNat 1))) H fun a28 H =>
 g27 a28 H
def qm9 (call : Ev.Call) (g27 : AV → Hp → R1) (x0 x12 : AV) (H : Hp) : R1 :=
 dz 0 H fun b30 H =>
 dq false false 0 0 (b30 + 0) H [] [] (fun _ => .val x0) (some true) fun a31 H p w =>
 dq false false 1 0 (b30 + 1) H p w (fun _ => .val x12) (some true) fun a32 H p w =>
 dq false false 2 0 (b30 + 2) H p w (fun _ => .val x0) (some true) fun a33 H p w =>
 dq false false 3 0 (b30 + 3) H p w (fun _ => .val x12) (some true) fun a34 H p w =>
 dq false false 4 8 (b30 + 4) H p w (fun _ => intV (qaa .sub).f a34 (.int .i64 (.ofNat 1))) (some true) fun a35 H p w =>
 dq false false 5 0 (b30 + 5) H p w (fun _ => .val x0) (some true) fun a36 H p w =>
 dq false false 6 0 (b30 + 6) H p w (fun _ => .val x12) (some true) fun a37 H p w =>
 dq false false 7 64 (b30 + 7) H p w (fun _ => intV (qaa .sub).f a37 (.int .i64 (.ofNat 1))) (some true) fun a38 H p w =>
 dq false false 8 224 (b30 + 8) H p w (fun _ => idxS 1 a36 a38) (some true) fun a39 H p w =>
 dq true false 9 480 (b30 + 9) H p w (fun H => qaf H a39) (some true) fun a40 H p w =>
 dq false false 10 0 (b30 + 10) H p w (fun _ => .val x0) (some true) fun a41 H p w =>
 dq false false 11 0 (b30 + 11) H p w (fun _ => .val x12) (some true) fun a42 H p w =>
 dq false false 12 3072 (b30 + 12) H p w (fun _ => idxS 1 a41 a42) (some true) fun a43 H p w =>
 dq true false 13 7168 (b30 + 13) H p w (fun H => qaf H a43) (some true) fun a44 H p w =>
 dq false false 14 16355 (b30 + 14) H p w (fun _ => idxS 1 a31 a32) (some true) fun a45 H p w =>
 de 32739 H p w (qao (qaq 32739 p H) a45 a40) (some true) fun _ H p w =>
 dq false false 16 65535 (b30 + 16) H p w (fun _ => idxS 1 a33 a35) (some true) fun a47 H p w =>
 de 131071 H p w (qao (qaq 131071 p H) a47 a44) (some true) fun _ H p w =>
 dz2 p H fun H =>
 qna call g27 x12 H
def qm8 (call : Ev.Call) (q27e6 : Hp → R1) (g27 : AV → Hp → R1) (x0 x3 x12 : AV) (H : Hp) : R1 :=
 dz 0 H fun b50 H =>
 dq false false 0 0 (b50 + 0) H [] [] (fun _ => .val x3) (some true) fun a51 H p w =>
 dq false false 1 0 (b50 + 1) H p w (fun _ => .val x0) (some true) fun a52 H p w =>
 dq false false 2 0 (b50 + 2) H p w (fun _ => .val x12) (some true) fun a53 H p w =>
 dq false false 3 6 (b50 + 3) H p w (fun _ => idxS 1 a52 a53) (some true) fun a54 H p w =>
 dq true false 4 14 (b50 + 4) H p w (fun H => qaf H a54) (some true) fun a55 H p w =>
 dq false false 5 0 (b50 + 5) H p w (fun _ => .val x0) (some true) fun a56 H p w =>
 dq false false 6 0 (b50 + 6) H p w (fun _ => .val x12) (some true) fun a57 H p w =>
 dq false false 7 64 (b50 + 7) H p w (fun _ => intV (qaa .sub).f a57 (.int .i64 (.ofNat 1))) (some true) fun a58 H p w =>
 dq false false 8 224 (b50 + 8) H p w (fun _ => idxS 1 a56 a58) (some true) fun a59 H p w =>
 dq true false 9 480 (b50 + 9) H p w (fun H => qaf H a59) (some true) fun a60 H p w =>
 de 1023 H p w (qfm call a51 [a55, a60] (qaq 1023 p H)) (some true) fun a61 H p w =>
 dq false false 11 2047 (b50 + 11) H p w (fun _ => intV (qaa .lss).f a61 (.int .i64 (.ofNat 0))) (some true) fun a62 H p w =>
 dq false false 12 4095 (b50 + 12) H p w (fun _ => (unS .not).f a62) (some true) fun a63 H p w =>
 dz2 p H fun H =>
 cd a63 (
 q27e6 H) (
 qm9 call g27 x0 x12 H)
def qnb (call : Ev.Call) (q27e6 : Hp → R1) (x0 x2 x3 : AV) (g27 : AV → Hp → R1) (x12 : AV) (H : Hp) : R1 :=
 vq (intV (qaa .lss).f x12 x2) H fun a65 H =>
 cd a65 (
 qm8 call q27e6 g27 x0 x3 x12 H) (
 q27e6 H)
def qdb (call : Ev.Call) (q27e6 : Hp → R1) (x0 x2 x3 : AV) (n : Nat) : AV → Hp → R1 :=
 Nat.rec (motive := fun _ => AV → Hp → R1) (fun _ _ => .bad) (fun _ ih => qnb call q27e6 x0 x2 x3 ih) n
def qnd (call : Ev.Call) (q27e6 : Hp → R1) (x0 x2 x3 : AV) : AV → Hp → R1 := qdb call q27e6 x0 x2 x3 qba
def qbu (call : Ev.Call) (g2 : AV → AV → Hp → R1) (x0 x2 x3 x9 x10 : AV) (H : Hp) : R1 :=
 vq (intV (qaa .sub).f x2 x9) H fun a24 H =>
 vq (intV (qaa .geq).f a24 (.int .i64 (.ofNat 2))) H fun a25 H =>
 cd a25 (
 vq (intV (qaa .add).f x9 (.int .i64 (.ofNat 1))) H fun a26 H =>
 qnd call (fun H => qb9 call g2 x9 x10 H) x0 x2 x3 a26 H) (
 qb9 call g2 x9 x10 H)
def qm7 (call : Ev.Call) (g70 : AV → Hp → R1) (x11 : AV) (H : Hp) : R1 :=
 vq (intV (qaa .sub).f x11 (.int .i64 (.ofNat 1))) H fun a71 H =>
 g70 a71 H
def qm6 (call : Ev.Call) (g70 : AV → Hp → R1) (x0 x11 : AV) (H : Hp) : R1 :=
 dz 0 H fun b73 H =>
 dq false false 0 0 (b73 + 0) H [] [] (fun _ => .val x0) (some true) fun a74 H p w =>
 dq false false 1 0 (b73 + 1) H p w (fun _ => .val x11) (some true) fun a75 H p w =>
 dq false false 2 0 (b73 + 2) H p w (fun _ => .val x0) (some true) fun a76 H p w =>
 dq false false 3 0 (b73 + 3) H p w (fun _ => .val x11) (some true) fun a77 H p w =>
 dq false false 4 8 (b73 + 4) H p w (fun _ => intV (qaa .sub).f a77 (.int .i64 (.ofNat 1))) (some true) fun a78 H p w =>
 dq false false 5 0 (b73 + 5) H p w (fun _ => .val x0) (some true) fun a79 H p w =>
 dq false false 6 0 (b73 + 6) H p w (fun _ => .val x11) (some true) fun a80 H p w =>
 dq false false 7 64 (b73 + 7) H p w (fun _ => intV (qaa .sub).f a80 (.int .i64 (.ofNat 1))) (some true) fun a81 H p w =>
 dq false false 8 224 (b73 + 8) H p w (fun _ => idxS 1 a79 a81) (some true) fun a82 H p w =>
 dq true false 9 480 (b73 + 9) H p w (fun H => qaf H a82) (some true) fun a83 H p w =>
 dq false false 10 0 (b73 + 10) H p w (fun _ => .val x0) (some true) fun a84 H p w =>
 dq false false 11 0 (b73 + 11) H p w (fun _ => .val x11) (some true) fun a85 H p w =>
 dq false false 12 3072 (b73 + 12) H p w (fun _ => idxS 1 a84 a85) (some true) fun a86 H p w =>
 dq true false 13 7168 (b73 + 13) H p w (fun H => qaf H a86) (some true) fun a87 H p w =>
 dq false false 14 16355 (b73 + 14) H p w (fun _ => idxS 1 a74 a75) (some true) fun a88 H p w =>
 de 32739 H p w (qao (qaq 32739 p H) a88 a83) (some true) fun _ H p w =>
 dq false false 16 65535 (b73 + 16) H p w (fun _ => idxS 1 a76 a78) (some true) fun a90 H p w =>
 de 131071 H p w (qao (qaq 131071 p H) a90 a87) (some true) fun _ H p w =>
 dz2 p H fun H =>
 qm7 call g70 x11 H
def qkh (call : Ev.Call) (q70e4 : Hp → R1) (g70 : AV → Hp → R1) (x0 x3 x11 : AV) (H : Hp) : R1 :=
 dz 0 H fun b93 H =>
 dq false false 0 0 (b93 + 0) H [] [] (fun _ => .val x3) (some true) fun a94 H p w =>
 dq false false 1 0 (b93 + 1) H p w (fun _ => .val x0) (some true) fun a95 H p w =>
 dq false false 2 0 (b93 + 2) H p w (fun _ => .val x11) (some true) fun a96 H p w =>
 dq false false 3 6 (b93 + 3) H p w (fun _ => idxS 1 a95 a96) (some true) fun a97 H p w =>
 dq true false 4 14 (b93 + 4) H p w (fun H => qaf H a97) (some true) fun a98 H p w =>
 dq false false 5 0 (b93 + 5) H p w (fun _ => .val x0) (some true) fun a99 H p w =>
 dq false false 6 0 (b93 + 6) H p w (fun _ => .val x11) (some true) fun a100 H p w =>
 dq false false 7 64 (b93 + 7) H p w (fun _ => intV (qaa .sub).f a100 (.int .i64 (.ofNat 1))) (some true) fun a101 H p w =>
 dq false false 8 224 (b93 + 8) H p w (fun _ => idxS 1 a99 a101) (some true) fun a102 H p w =>
 dq true false 9 480 (b93 + 9) H p w (fun H => qaf H a102) (some true) fun a103 H p w =>
 de 1023 H p w (qfm call a94 [a98, a103] (qaq 1023 p H)) (some true) fun a104 H p w =>
 dq false false 11 2047 (b93 + 11) H p w (fun _ => intV (qaa .lss).f a104 (.int .i64 (.ofNat 0))) (some true) fun a105 H p w =>
 dq false false 12 4095 (b93 + 12) H p w (fun _ => (unS .not).f a105) (some true) fun a106 H p w =>
 dz2 p H fun H =>
 cd a106 (
 q70e4 H) (
 qm6 call g70 x0 x11 H)
def qgk (call : Ev.Call) (q70e4 : Hp → R1) (x0 x3 : AV) (g70 : AV → Hp → R1) (x11 : AV) (H : Hp) : R1 :=
 vq (intV (qaa .geq).f x11 (.int .i64 (.ofNat 1))) H fun a108 H =>
 cd a108 (
 qkh call q70e4 g70 x0 x3 x11 H) (
 q70e4 H)
def qcr (call : Ev.Call) (q70e4 : Hp → R1) (x0 x3 : AV) (n : Nat) : AV → Hp → R1 :=
 Nat.rec (motive := fun _ => AV → Hp → R1) (fun _ _ => .bad) (fun _ ih => qgk call q70e4 x0 x3 ih) n
def qnc (call : Ev.Call) (q70e4 : Hp → R1) (x0 x3 : AV) : AV → Hp → R1 := qcr call q70e4 x0 x3 qba
def qkg (call : Ev.Call) (g2 : AV → AV → Hp → R1) (x0 x1 x2 x3 x9 x10 : AV) (H : Hp) : R1 :=
 dz 0 H fun b5 H =>
 dq false false 0 0 (b5 + 0) H [] [] (fun _ => .val x0) (some true) fun a6 H p w =>
 dq false false 1 0 (b5 + 1) H p w (fun _ => .val x9) (some true) fun a7 H p w =>
 dq false false 2 0 (b5 + 2) H p w (fun _ => .val x0) (some true) fun a8 H p w =>
 dq false false 3 0 (b5 + 3) H p w (fun _ => .val x9) (some true) fun a9 H p w =>
 dq false false 4 8 (b5 + 4) H p w (fun _ => intV (qaa .sub).f a9 (.int .i64 (.ofNat 1))) (some true) fun a10 H p w =>
 dq false false 5 0 (b5 + 5) H p w (fun _ => .val x0) (some true) fun a11 H p w =>
 dq false false 6 0 (b5 + 6) H p w (fun _ => .val x9) (some true) fun a12 H p w =>
 dq false false 7 64 (b5 + 7) H p w (fun _ => intV (qaa .sub).f a12 (.int .i64 (.ofNat 1))) (some true) fun a13 H p w =>
 dq false false 8 224 (b5 + 8) H p w (fun _ => idxS 1 a11 a13) (some true) fun a14 H p w =>
 dq true false 9 480 (b5 + 9) H p w (fun H => qaf H a14) (some true) fun a15 H p w =>
 dq false false 10 0 (b5 + 10) H p w (fun _ => .val x0) (some true) fun a16 H p w =>
 dq false false 11 0 (b5 + 11) H p w (fun _ => .val x9) (some true) fun a17 H p w =>
 dq false false 12 3072 (b5 + 12) H p w (fun _ => idxS 1 a16 a17) (some true) fun a18 H p w =>
 dq true false 13 7168 (b5 + 13) H p w (fun H => qaf H a18) (some true) fun a19 H p w =>
 dq false false 14 16355 (b5 + 14) H p w (fun _ => idxS 1 a6 a7) (some true) fun a20 H p w =>
 de 32739 H p w (qao (qaq 32739 p H) a20 a15) (some true) fun _ H p w =>
 dq false false 16 65535 (b5 + 16) H p w (fun _ => idxS 1 a8 a10) (some true) fun a22 H p w =>
 de 131071 H p w (qao (qaq 131071 p H) a22 a19) (some true) fun _ H p w =>
 dz2 p H fun H =>
 vq (intV (qaa .sub).f x9 x1) H fun a67 H =>
 vq (intV (qaa .geq).f a67 (.int .i64 (.ofNat 2))) H fun a68 H =>
 cd a68 (
 vq (intV (qaa .sub).f x9 (.int .i64 (.ofNat 1))) H fun a69 H =>
 qnc call (fun H => qbu call g2 x0 x2 x3 x9 x10 H) x0 x3 a69 H) (
 qbu call g2 x0 x2 x3 x9 x10 H)
def qkf (call : Ev.Call) (q2r : AV → Hp → R1) (g2 : AV → AV → Hp → R1) (x0 x1 x2 x3 x9 x10 : AV) (H : Hp) : R1 :=
 vq (intV (qaa .sub).f x2 x1) H fun a110 H =>
 vq (intV (qaa .lss).f a110 (.int .i64 (.ofNat 50))) H fun a111 H =>
 cd a111 (
 q2r (.bool false) H) (
 qkg call g2 x0 x1 x2 x3 x9 x10 H)
def qdc (call : Ev.Call) (q2r : AV → Hp → R1) (g2 : AV → AV → Hp → R1) (x0 x1 x2 x3 x9 x10 : AV) (H : Hp) : R1 :=
 vq (intV (qaa .eql).f x9 x2) H fun a113 H =>
 cd a113 (
 q2r (.bool true) H) (
 qkf call q2r g2 x0 x1 x2 x3 x9 x10 H)
def qke (call : Ev.Call) (g115 : AV → Hp → R1) (x9 : AV) (H : Hp) : R1 :=
 vq (intV (qaa .add).f x9 (.int .i64 (.ofNat 1))) H fun a116 H =>
 g115 a116 H
def qki (call : Ev.Call) (q115e2 : AV → Hp → R1) (x0 x2 x3 : AV) (g115 : AV → Hp → R1) (x9 : AV) (H : Hp) : R1 :=
 dz 0 H fun b118 H =>
 dq false false 0 0 (b118 + 0) H [] [] (fun _ => .val x9) (some true) fun a119 H p w =>
 dq false false 1 0 (b118 + 1) H p w (fun _ => .val x2) (some true) fun a120 H p w =>
 dq false false 2 3 (b118 + 2) H p w (fun _ => intV (qaa .lss).f a119 a120) (some true) fun a121 H p w =>
 dq false false 3 7 (b118 + 3) H p w (fun _ => .val a121) (some true) fun a122 H p w =>
 dq false false 4 15 (b118 + 4) H p w (fun _ => .val x3) (qac true a122) fun a123 H p w =>
 dq false false 5 15 (b118 + 5) H p w (fun _ => .val x0) (qac true a122) fun a124 H p w =>
 dq false false 6 15 (b118 + 6) H p w (fun _ => .val x9) (qac true a122) fun a125 H p w =>
 dq false false 7 111 (b118 + 7) H p w (fun _ => idxS 1 a124 a125) (qac true a122) fun a126 H p w =>
 dq true false 8 239 (b118 + 8) H p w (fun H => qaf H a126) (qac true a122) fun a127 H p w =>
 dq false false 9 15 (b118 + 9) H p w (fun _ => .val x0) (qac true a122) fun a128 H p w =>
 dq false false 10 15 (b118 + 10) H p w (fun _ => .val x9) (qac true a122) fun a129 H p w =>
 dq false false 11 1039 (b118 + 11) H p w (fun _ => intV (qaa .sub).f a129 (.int .i64 (.ofNat 1))) (qac true a122) fun a130 H p w =>
 dq false false 12 3599 (b118 + 12) H p w (fun _ => idxS 1 a128 a130) (qac true a122) fun a131 H p w =>
 dq true false 13 7695 (b118 + 13) H p w (fun H => qaf H a131) (qac true a122) fun a132 H p w =>
 de 16383 H p w (qfm call a123 [a127, a132] (qaq 16383 p H)) (qac true a122) fun a133 H p w =>
 dq false false 15 32767 (b118 + 15) H p w (fun _ => intV (qaa .lss).f a133 (.int .i64 (.ofNat 0))) (qac true a122) fun a134 H p w =>
 dq false false 16 65535 (b118 + 16) H p w (fun _ => (unS .not).f a134) (qac true a122) fun a135 H p w =>
 dq false false 17 131071 (b118 + 17) H p w (fun _ => qbj a122 a135 (.bool false)) (some true) fun a136 H p w =>
 dz2 p H fun H =>
 cd a136 (
 qke call g115 x9 H) (
 q115e2 x9 H)
def qey (call : Ev.Call) (q115e2 : AV → Hp → R1) (x0 x2 x3 : AV) (n : Nat) : AV → Hp → R1 :=
 Nat.rec (motive := fun _ => AV → Hp → R1) (fun _ _ => .bad) (fun _ ih => qki call q115e2 x0 x2 x3 ih) n
def qkj (call : Ev.Call) (q115e2 : AV → Hp → R1) (x0 x2 x3 : AV) : AV → Hp → R1 := qey call q115e2 x0 x2 x3 qba
def qkd (call : Ev.Call) (q2r : AV → Hp → R1) (g2 : AV → AV → Hp → R1) (x0 x1 x2 x3 x9 x10 : AV) (H : Hp) : R1 :=
 qkj call (fun x9 H => qdc call q2r g2 x0 x1 x2 x3 x9 x10 H) x0 x2 x3 x9 H
def qif (call : Ev.Call) (q2r : AV → Hp → R1) (q2e0 : Hp → R1) (x0 x1 x2 x3 : AV) (g2 : AV → AV → Hp → R1) (x9 x10 : AV) (H : Hp) : R1 :=
 vq (intV (qaa .lss).f x10 (.int .i64 (.ofNat 5))) H fun a138 H =>
 cd a138 (
 qkd call q2r g2 x0 x1 x2 x3 x9 x10 H) (
 q2e0 H)
def qay (call : Ev.Call) (q2r : AV → Hp → R1) (q2e0 : Hp → R1) (x0 x1 x2 x3 : AV) (n : Nat) : AV → AV → Hp → R1 :=
 Nat.rec (motive := fun _ => AV → AV → Hp → R1) (fun _ _ _ => .bad) (fun _ ih => qif call q2r q2e0 x0 x1 x2 x3 ih) n
def qqw (call : Ev.Call) (q2r : AV → Hp → R1) (q2e0 : Hp → R1) (x0 x1 x2 x3 : AV) : AV → AV → Hp → R1 := qay call q2r q2e0 x0 x1 x2 x3 qba
def qvv (call : Ev.Call) (x0 x1 x2 x3 : AV) (H : Hp) : R1 :=
 vq (intV (qaa .add).f x1 (.int .i64 (.ofNat 1))) H fun a0 H =>
 qqw call (fun x8 H => .ok x8 H) (fun H => qa0 call H) x0 x1 x2 x3 a0 (.int .i64 (.ofNat 0)) H
def s_pins (call : Ev.Call) (x0 x1 x2 x3 : AV) (H : Hp) : R1 := qvv call x0 x1 x2 x3 H
def qa7 (call : Ev.Call) (x11 : AV) (H : Hp) : R1 :=
 .ok x11 H
def qqz (call : Ev.Call) (g20 : AV → AV → Hp → R1) (x0 x11 x12 : AV) (H : Hp) : R1 :=
 dz 0 H fun b21 H =>
 dq false false 0 0 (b21 + 0) H [] [] (fun _ => .val x0) (some true) fun a22 H p w =>
 dq false false 1 0 (b21 + 1) H p w (fun _ => .val x11) (some true) fun a23 H p w =>
 dq false false 2 0 (b21 + 2) H p w (fun _ => .val x0) (some true) fun a24 H p w =>
 dq false false 3 0 (b21 + 3) H p w (fun _ => .val x12) (some true) fun a25 H p w =>
 dq false false 4 0 (b21 + 4) H p w (fun _ => .val x0) (some true) fun a26 H p w =>
 dq false false 5 0 (b21 + 5) H p w (fun _ => .val x12) (some true) fun a27 H p w =>
 dq false false 6 48 (b21 + 6) H p w (fun _ => idxS 1 a26 a27) (some true) fun a28 H p w =>
 dq true false 7 112 (b21 + 7) H p w (fun H => qaf H a28) (some true) fun a29 H p w =>
 dq false false 8 0 (b21 + 8) H p w (fun _ => .val x0) (some true) fun a30 H p w =>
 dq false false 9 0 (b21 + 9) H p w (fun _ => .val x11) (some true) fun a31 H p w =>
 dq false false 10 768 (b21 + 10) H p w (fun _ => idxS 1 a30 a31) (some true) fun a32 H p w =>
 dq true false 11 1792 (b21 + 11) H p w (fun H => qaf H a32) (some true) fun a33 H p w =>
 dq false false 12 4083 (b21 + 12) H p w (fun _ => idxS 1 a22 a23) (some true) fun a34 H p w =>
 de 8179 H p w (qao (qaq 8179 p H) a34 a29) (some true) fun _ H p w =>
 dq false false 14 16383 (b21 + 14) H p w (fun _ => idxS 1 a24 a25) (some true) fun a36 H p w =>
 de 32767 H p w (qao (qaq 32767 p H) a36 a33) (some true) fun _ H p w =>
 dz2 p H fun H =>
 vq (intV (qaa .add).f x11 (.int .i64 (.ofNat 1))) H fun a38 H =>
 vq (intV (qaa .sub).f x12 (.int .i64 (.ofNat 1))) H fun a39 H =>
 g20 a38 a39 H
def qgn (call : Ev.Call) (q20e0 : AV → Hp → R1) (g20 : AV → AV → Hp → R1) (x0 x11 x12 : AV) (H : Hp) : R1 :=
 vq (intV (qaa .gtr).f x11 x12) H fun a41 H =>
 cd a41 (
 q20e0 x11 H) (
 qqz call g20 x0 x11 x12 H)
def qqy (call : Ev.Call) (g43 : AV → Hp → R1) (x12 : AV) (H : Hp) : R1 :=
 vq (intV (qaa .sub).f x12 (.int .i64 (.ofNat 1))) H fun a44 H =>
 g43 a44 H
def qih (call : Ev.Call) (q43e4 : AV → Hp → R1) (x0 x1 x4 x11 : AV) (g43 : AV → Hp → R1) (x12 : AV) (H : Hp) : R1 :=
 dz 0 H fun b46 H =>
 dq false false 0 0 (b46 + 0) H [] [] (fun _ => .val x11) (some true) fun a47 H p w =>
 dq false false 1 0 (b46 + 1) H p w (fun _ => .val x12) (some true) fun a48 H p w =>
 dq false false 2 3 (b46 + 2) H p w (fun _ => intV (qaa .leq).f a47 a48) (some true) fun a49 H p w =>
 dq false false 3 7 (b46 + 3) H p w (fun _ => .val a49) (some true) fun a50 H p w =>
 dq false false 4 15 (b46 + 4) H p w (fun _ => .val x4) (qac true a50) fun a51 H p w =>
 dq false false 5 15 (b46 + 5) H p w (fun _ => .val x0) (qac true a50) fun a52 H p w =>
 dq false false 6 15 (b46 + 6) H p w (fun _ => .val x1) (qac true a50) fun a53 H p w =>
 dq false false 7 111 (b46 + 7) H p w (fun _ => idxS 1 a52 a53) (qac true a50) fun a54 H p w =>
 dq true false 8 239 (b46 + 8) H p w (fun H => qaf H a54) (qac true a50) fun a55 H p w =>
 dq false false 9 15 (b46 + 9) H p w (fun _ => .val x0) (qac true a50) fun a56 H p w =>
 dq false false 10 15 (b46 + 10) H p w (fun _ => .val x12) (qac true a50) fun a57 H p w =>
 dq false false 11 1551 (b46 + 11) H p w (fun _ => idxS 1 a56 a57) (qac true a50) fun a58 H p w =>
 dq true false 12 3599 (b46 + 12) H p w (fun H => qaf H a58) (qac true a50) fun a59 H p w =>
 de 8191 H p w (qfm call a51 [a55, a59] (qaq 8191 p H)) (qac true a50) fun a60 H p w =>
 dq false false 14 16383 (b46 + 14) H p w (fun _ => intV (qaa .lss).f a60 (.int .i64 (.ofNat 0))) (qac true a50) fun a61 H p w =>
 dq false false 15 32767 (b46 + 15) H p w (fun _ => qbj a50 a61 (.bool false)) (some true) fun a62 H p w =>
 dz2 p H fun H =>
 cd a62 (
 qqy call g43 x12 H) (
 q43e4 x12 H)
def qgl (call : Ev.Call) (q43e4 : AV → Hp → R1) (x0 x1 x4 x11 : AV) (n : Nat) : AV → Hp → R1 :=
 Nat.rec (motive := fun _ => AV → Hp → R1) (fun _ _ => .bad) (fun _ ih => qih call q43e4 x0 x1 x4 x11 ih) n
def qq3 (call : Ev.Call) (q43e4 : AV → Hp → R1) (x0 x1 x4 x11 : AV) : AV → Hp → R1 := qgl call q43e4 x0 x1 x4 x11 qba
def qgm (call : Ev.Call) (q20e0 : AV → Hp → R1) (g20 : AV → AV → Hp → R1) (x0 x1 x4 x11 x12 : AV) (H : Hp) : R1 :=
 qq3 call (fun x12 H => qgn call q20e0 g20 x0 x11 x12 H) x0 x1 x4 x11 x12 H
def qqx (call : Ev.Call) (g64 : AV → Hp → R1) (x11 : AV) (H : Hp) : R1 :=
 vq (intV (qaa .add).f x11 (.int .i64 (.ofNat 1))) H fun a65 H =>
 g64 a65 H
def qq0 (call : Ev.Call) (q64e2 : AV → Hp → R1) (x0 x1 x4 x12 : AV) (g64 : AV → Hp → R1) (x11 : AV) (H : Hp) : R1 :=
 dz 0 H fun b67 H =>
 dq false false 0 0 (b67 + 0) H [] [] (fun _ => .val x11) (some true) fun a68 H p w =>
 dq false false 1 0 (b67 + 1) H p w (fun _ => .val x12) (some true) fun a69 H p w =>
 dq false false 2 3 (b67 + 2) H p w (fun _ => intV (qaa .leq).f a68 a69) (some true) fun a70 H p w =>
 dq false false 3 7 (b67 + 3) H p w (fun _ => .val a70) (some true) fun a71 H p w =>
 dq false false 4 15 (b67 + 4) H p w (fun _ => .val x4) (qac true a71) fun a72 H p w =>
 dq false false 5 15 (b67 + 5) H p w (fun _ => .val x0) (qac true a71) fun a73 H p w =>
 dq false false 6 15 (b67 + 6) H p w (fun _ => .val x1) (qac true a71) fun a74 H p w =>
 dq false false 7 111 (b67 + 7) H p w (fun _ => idxS 1 a73 a74) (qac true a71) fun a75 H p w =>
 dq true false 8 239 (b67 + 8) H p w (fun H => qaf H a75) (qac true a71) fun a76 H p w =>
 dq false false 9 15 (b67 + 9) H p w (fun _ => .val x0) (qac true a71) fun a77 H p w =>
 dq false false 10 15 (b67 + 10) H p w (fun _ => .val x11) (qac true a71) fun a78 H p w =>
 dq false false 11 1551 (b67 + 11) H p w (fun _ => idxS 1 a77 a78) (qac true a71) fun a79 H p w =>
 dq true false 12 3599 (b67 + 12) H p w (fun H => qaf H a79) (qac true a71) fun a80 H p w =>
 de 8191 H p w (qfm call a72 [a76, a80] (qaq 8191 p H)) (qac true a71) fun a81 H p w =>
 dq false false 14 16383 (b67 + 14) H p w (fun _ => intV (qaa .lss).f a81 (.int .i64 (.ofNat 0))) (qac true a71) fun a82 H p w =>
 dq false false 15 32767 (b67 + 15) H p w (fun _ => (unS .not).f a82) (qac true a71) fun a83 H p w =>
 dq false false 16 65535 (b67 + 16) H p w (fun _ => qbj a71 a83 (.bool false)) (some true) fun a84 H p w =>
 dz2 p H fun H =>
 cd a84 (
 qqx call g64 x11 H) (
 q64e2 x11 H)
def qig (call : Ev.Call) (q64e2 : AV → Hp → R1) (x0 x1 x4 x12 : AV) (n : Nat) : AV → Hp → R1 :=
 Nat.rec (motive := fun _ => AV → Hp → R1) (fun _ _ => .bad) (fun _ ih => qq0 call q64e2 x0 x1 x4 x12 ih) n
def qq2 (call : Ev.Call) (q64e2 : AV → Hp → R1) (x0 x1 x4 x12 : AV) : AV → Hp → R1 := qig call q64e2 x0 x1 x4 x12 qba
def qq1 (call : Ev.Call) (q20e0 : AV → Hp → R1) (x0 x1 x4 : AV) (g20 : AV → AV → Hp → R1) (x11 x12 : AV) (H : Hp) : R1 :=
 qq2 call (fun x11 H => qgm call q20e0 g20 x0 x1 x4 x11 x12 H) x0 x1 x4 x12 x11 H
def qbv (call : Ev.Call) (q20e0 : AV → Hp → R1) (x0 x1 x4 : AV) (n : Nat) : AV → AV → Hp → R1 :=
 Nat.rec (motive := fun _ => AV → AV → Hp → R1) (fun _ _ _ => .bad) (fun _ ih => qq1 call q20e0 x0 x1 x4 ih) n
def qq4 (call : Ev.Call) (q20e0 : AV → Hp → R1) (x0 x1 x4 : AV) : AV → AV → Hp → R1 := qbv call q20e0 x0 x1 x4 qba
def q06 (call : Ev.Call) (x0 x1 x2 x3 x4 : AV) (H : Hp) : R1 :=
 dz 0 H fun b0 H =>
 dq false false 0 0 (b0 + 0) H [] [] (fun _ => .val x0) (some true) fun a1 H p w =>
 dq false false 1 0 (b0 + 1) H p w (fun _ => .val x1) (some true) fun a2 H p w =>
 dq false false 2 0 (b0 + 2) H p w (fun _ => .val x0) (some true) fun a3 H p w =>
 dq false false 3 0 (b0 + 3) H p w (fun _ => .val x3) (some true) fun a4 H p w =>
 dq false false 4 0 (b0 + 4) H p w (fun _ => .val x0) (some true) fun a5 H p w =>
 dq false false 5 0 (b0 + 5) H p w (fun _ => .val x3) (some true) fun a6 H p w =>
 dq false false 6 48 (b0 + 6) H p w (fun _ => idxS 1 a5 a6) (some true) fun a7 H p w =>
 dq true false 7 112 (b0 + 7) H p w (fun H => qaf H a7) (some true) fun a8 H p w =>
 dq false false 8 0 (b0 + 8) H p w (fun _ => .val x0) (some true) fun a9 H p w =>
 dq false false 9 0 (b0 + 9) H p w (fun _ => .val x1) (some true) fun a10 H p w =>
 dq false false 10 768 (b0 + 10) H p w (fun _ => idxS 1 a9 a10) (some true) fun a11 H p w =>
 dq true false 11 1792 (b0 + 11) H p w (fun H => qaf H a11) (some true) fun a12 H p w =>
 dq false false 12 4083 (b0 + 12) H p w (fun _ => idxS 1 a1 a2) (some true) fun a13 H p w =>
 de 8179 H p w (qao (qaq 8179 p H) a13 a8) (some true) fun _ H p w =>
 dq false false 14 16383 (b0 + 14) H p w (fun _ => idxS 1 a3 a4) (some true) fun a15 H p w =>
 de 32767 H p w (qao (qaq 32767 p H) a15 a12) (some true) fun _ H p w =>
 dz2 p H fun H =>
 vq (intV (qaa .add).f x1 (.int .i64 (.ofNat 1))) H fun a17 H =>
 vq (intV (qaa .sub).f x2 (.int .i64 (.ofNat 1))) H fun a18 H =>
 qq4 call (fun x11 H => qa7 call x11 H) x0 x1 x4 a17 a18 H
def s_peq (call : Ev.Call) (x0 x1 x2 x3 x4 : AV) (H : Hp) : R1 := q06 call x0 x1 x2 x3 x4 H
def qa3 (call : Ev.Call) (x0 x1 x13 : AV) (H : Hp) : R1 :=
 dz 0 H fun b38 H =>
 dq false false 0 0 (b38 + 0) H [] [] (fun _ => .val x0) (some true) fun a39 H p w =>
 dq false false 1 0 (b38 + 1) H p w (fun _ => .val x13) (some true) fun a40 H p w =>
 dq false false 2 0 (b38 + 2) H p w (fun _ => .val x0) (some true) fun a41 H p w =>
 dq false false 3 0 (b38 + 3) H p w (fun _ => .val x1) (some true) fun a42 H p w =>
 dq false false 4 0 (b38 + 4) H p w (fun _ => .val x0) (some true) fun a43 H p w =>
 dq false false 5 0 (b38 + 5) H p w (fun _ => .val x1) (some true) fun a44 H p w =>
 dq false false 6 48 (b38 + 6) H p w (fun _ => idxS 1 a43 a44) (some true) fun a45 H p w =>
 dq true false 7 112 (b38 + 7) H p w (fun H => qaf H a45) (some true) fun a46 H p w =>
 dq false false 8 0 (b38 + 8) H p w (fun _ => .val x0) (some true) fun a47 H p w =>
 dq false false 9 0 (b38 + 9) H p w (fun _ => .val x13) (some true) fun a48 H p w =>
 dq false false 10 768 (b38 + 10) H p w (fun _ => idxS 1 a47 a48) (some true) fun a49 H p w =>
 dq true false 11 1792 (b38 + 11) H p w (fun H => qaf H a49) (some true) fun a50 H p w =>
 dq false false 12 4083 (b38 + 12) H p w (fun _ => idxS 1 a39 a40) (some true) fun a51 H p w =>
 de 8179 H p w (qao (qaq 8179 p H) a51 a46) (some true) fun _ H p w =>
 dq false false 14 16383 (b38 + 14) H p w (fun _ => idxS 1 a41 a42) (some true) fun a53 H p w =>
 de 32767 H p w (qao (qaq 32767 p H) a53 a50) (some true) fun _ H p w =>
 dz2 p H fun H =>
 .ok (.tup [x13, (.bool false)]) H
def qnf (call : Ev.Call) (g56 : AV → AV → Hp → R1) (x0 x12 x13 : AV) (H : Hp) : R1 :=
 dz 0 H fun b57 H =>
 dq false false 0 0 (b57 + 0) H [] [] (fun _ => .val x0) (some true) fun a58 H p w =>
 dq false false 1 0 (b57 + 1) H p w (fun _ => .val x12) (some true) fun a59 H p w =>
 dq false false 2 0 (b57 + 2) H p w (fun _ => .val x0) (some true) fun a60 H p w =>
 dq false false 3 0 (b57 + 3) H p w (fun _ => .val x13) (some true) fun a61 H p w =>
 dq false false 4 0 (b57 + 4) H p w (fun _ => .val x0) (some true) fun a62 H p w =>
 dq false false 5 0 (b57 + 5) H p w (fun _ => .val x13) (some true) fun a63 H p w =>
 dq false false 6 48 (b57 + 6) H p w (fun _ => idxS 1 a62 a63) (some true) fun a64 H p w =>
 dq true false 7 112 (b57 + 7) H p w (fun H => qaf H a64) (some true) fun a65 H p w =>
 dq false false 8 0 (b57 + 8) H p w (fun _ => .val x0) (some true) fun a66 H p w =>
 dq false false 9 0 (b57 + 9) H p w (fun _ => .val x12) (some true) fun a67 H p w =>
 dq false false 10 768 (b57 + 10) H p w (fun _ => idxS 1 a66 a67) (some true) fun a68 H p w =>
 dq true false 11 1792 (b57 + 11) H p w (fun H => qaf H a68) (some true) fun a69 H p w =>
 dq false false 12 4083 (b57 + 12) H p w (fun _ => idxS 1 a58 a59) (some true) fun a70 H p w =>
 de 8179 H p w (qao (qaq 8179 p H) a70 a65) (some true) fun _ H p w =>
 dq false false 14 16383 (b57 + 14) H p w (fun _ => idxS 1 a60 a61) (some true) fun a72 H p w =>
 de 32767 H p w (qao (qaq 32767 p H) a72 a69) (some true) fun _ H p w =>
 dz2 p H fun H =>
 vq (intV (qaa .add).f x12 (.int .i64 (.ofNat 1))) H fun a74 H =>
 vq (intV (qaa .sub).f x13 (.int .i64 (.ofNat 1))) H fun a75 H =>
 g56 a74 a75 H
def qen (call : Ev.Call) (q56e4 : AV → Hp → R1) (g56 : AV → AV → Hp → R1) (x0 x12 x13 : AV) (H : Hp) : R1 :=
 vq (intV (qaa .gtr).f x12 x13) H fun a77 H =>
 cd a77 (
 q56e4 x13 H) (
 qnf call g56 x0 x12 x13 H)
def qne (call : Ev.Call) (g79 : AV → Hp → R1) (x13 : AV) (H : Hp) : R1 :=
 vq (intV (qaa .sub).f x13 (.int .i64 (.ofNat 1))) H fun a80 H =>
 g79 a80 H
def qgo (call : Ev.Call) (q79e8 : AV → Hp → R1) (x0 x1 x4 x12 : AV) (g79 : AV → Hp → R1) (x13 : AV) (H : Hp) : R1 :=
 dz 0 H fun b82 H =>
 dq false false 0 0 (b82 + 0) H [] [] (fun _ => .val x12) (some true) fun a83 H p w =>
 dq false false 1 0 (b82 + 1) H p w (fun _ => .val x13) (some true) fun a84 H p w =>
 dq false false 2 3 (b82 + 2) H p w (fun _ => intV (qaa .leq).f a83 a84) (some true) fun a85 H p w =>
 dq false false 3 7 (b82 + 3) H p w (fun _ => .val a85) (some true) fun a86 H p w =>
 dq false false 4 15 (b82 + 4) H p w (fun _ => .val x4) (qac true a86) fun a87 H p w =>
 dq false false 5 15 (b82 + 5) H p w (fun _ => .val x0) (qac true a86) fun a88 H p w =>
 dq false false 6 15 (b82 + 6) H p w (fun _ => .val x13) (qac true a86) fun a89 H p w =>
 dq false false 7 111 (b82 + 7) H p w (fun _ => idxS 1 a88 a89) (qac true a86) fun a90 H p w =>
 dq true false 8 239 (b82 + 8) H p w (fun H => qaf H a90) (qac true a86) fun a91 H p w =>
 dq false false 9 15 (b82 + 9) H p w (fun _ => .val x0) (qac true a86) fun a92 H p w =>
 dq false false 10 15 (b82 + 10) H p w (fun _ => .val x1) (qac true a86) fun a93 H p w =>
 dq false false 11 1551 (b82 + 11) H p w (fun _ => idxS 1 a92 a93) (qac true a86) fun a94 H p w =>
 dq true false 12 3599 (b82 + 12) H p w (fun H => qaf H a94) (qac true a86) fun a95 H p w =>
 de 8191 H p w (qfm call a87 [a91, a95] (qaq 8191 p H)) (qac true a86) fun a96 H p w =>
 dq false false 14 16383 (b82 + 14) H p w (fun _ => intV (qaa .lss).f a96 (.int .i64 (.ofNat 0))) (qac true a86) fun a97 H p w =>
 dq false false 15 32767 (b82 + 15) H p w (fun _ => (unS .not).f a97) (qac true a86) fun a98 H p w =>
 dq false false 16 65535 (b82 + 16) H p w (fun _ => qbj a86 a98 (.bool false)) (some true) fun a99 H p w =>
 dz2 p H fun H =>
 cd a99 (
 qne call g79 x13 H) (
 q79e8 x13 H)
def qem (call : Ev.Call) (q79e8 : AV → Hp → R1) (x0 x1 x4 x12 : AV) (n : Nat) : AV → Hp → R1 :=
 Nat.rec (motive := fun _ => AV → Hp → R1) (fun _ _ => .bad) (fun _ ih => qgo call q79e8 x0 x1 x4 x12 ih) n
def qnh (call : Ev.Call) (q79e8 : AV → Hp → R1) (x0 x1 x4 x12 : AV) : AV → Hp → R1 := qem call q79e8 x0 x1 x4 x12 qba
def qdg (call : Ev.Call) (q56e4 : AV → Hp → R1) (g56 : AV → AV → Hp → R1) (x0 x1 x4 x12 x13 : AV) (H : Hp) : R1 :=
 qnh call (fun x13 H => qen call q56e4 g56 x0 x12 x13 H) x0 x1 x4 x12 x13 H
def qkn (call : Ev.Call) (g101 : AV → Hp → R1) (x12 : AV) (H : Hp) : R1 :=
 vq (intV (qaa .add).f x12 (.int .i64 (.ofNat 1))) H fun a102 H =>
 g101 a102 H
def qkp (call : Ev.Call) (q101e6 : AV → Hp → R1) (x0 x1 x4 x13 : AV) (g101 : AV → Hp → R1) (x12 : AV) (H : Hp) : R1 :=
 dz 0 H fun b104 H =>
 dq false false 0 0 (b104 + 0) H [] [] (fun _ => .val x12) (some true) fun a105 H p w =>
 dq false false 1 0 (b104 + 1) H p w (fun _ => .val x13) (some true) fun a106 H p w =>
 dq false false 2 3 (b104 + 2) H p w (fun _ => intV (qaa .leq).f a105 a106) (some true) fun a107 H p w =>
 dq false false 3 7 (b104 + 3) H p w (fun _ => .val a107) (some true) fun a108 H p w =>
 dq false false 4 15 (b104 + 4) H p w (fun _ => .val x4) (qac true a108) fun a109 H p w =>
 dq false false 5 15 (b104 + 5) H p w (fun _ => .val x0) (qac true a108) fun a110 H p w =>
 dq false false 6 15 (b104 + 6) H p w (fun _ => .val x12) (qac true a108) fun a111 H p w =>
 dq false false 7 111 (b104 + 7) H p w (fun _ => idxS 1 a110 a111) (qac true a108) fun a112 H p w =>
 dq true false 8 239 (b104 + 8) H p w (fun H => qaf H a112) (qac true a108) fun a113 H p w =>
 dq false false 9 15 (b104 + 9) H p w (fun _ => .val x0) (qac true a108) fun a114 H p w =>
 dq false false 10 15 (b104 + 10) H p w (fun _ => .val x1) (qac true a108) fun a115 H p w =>
 dq false false 11 1551 (b104 + 11) H p w (fun _ => idxS 1 a114 a115) (qac true a108) fun a116 H p w =>
 dq true false 12 3599 (b104 + 12) H p w (fun H => qaf H a116) (qac true a108) fun a117 H p w =>
 de 8191 H p w (qfm call a109 [a113, a117] (qaq 8191 p H)) (qac true a108) fun a118 H p w =>
 dq false false 14 16383 (b104 + 14) H p w (fun _ => intV (qaa .lss).f a118 (.int .i64 (.ofNat 0))) (qac true a108) fun a119 H p w =>
 dq false false 15 32767 (b104 + 15) H p w (fun _ => qbj a108 a119 (.bool false)) (some true) fun a120 H p w =>
 dz2 p H fun H =>
 cd a120 (
 qkn call g101 x12 H) (
 q101e6 x12 H)
def qe1 (call : Ev.Call) (q101e6 : AV → Hp → R1) (x0 x1 x4 x13 : AV) (n : Nat) : AV → Hp → R1 :=
 Nat.rec (motive := fun _ => AV → Hp → R1) (fun _ _ => .bad) (fun _ ih => qkp call q101e6 x0 x1 x4 x13 ih) n
def qks (call : Ev.Call) (q101e6 : AV → Hp → R1) (x0 x1 x4 x13 : AV) : AV → Hp → R1 := qe1 call q101e6 x0 x1 x4 x13 qba
def qng (call : Ev.Call) (q56e4 : AV → Hp → R1) (x0 x1 x4 : AV) (g56 : AV → AV → Hp → R1) (x12 x13 : AV) (H : Hp) : R1 :=
 qks call (fun x12 H => qdg call q56e4 g56 x0 x1 x4 x12 x13 H) x0 x1 x4 x13 x12 H
def qbm (call : Ev.Call) (q56e4 : AV → Hp → R1) (x0 x1 x4 : AV) (n : Nat) : AV → AV → Hp → R1 :=
 Nat.rec (motive := fun _ => AV → AV → Hp → R1) (fun _ _ _ => .bad) (fun _ ih => qng call q56e4 x0 x1 x4 ih) n
def qni (call : Ev.Call) (q56e4 : AV → Hp → R1) (x0 x1 x4 : AV) : AV → AV → Hp → R1 := qbm call q56e4 x0 x1 x4 qba
def qkm (call : Ev.Call) (x0 x1 x4 x12 x13 : AV) (H : Hp) : R1 :=
 dz 0 H fun b19 H =>
 dq false false 0 0 (b19 + 0) H [] [] (fun _ => .val x0) (some true) fun a20 H p w =>
 dq false false 1 0 (b19 + 1) H p w (fun _ => .val x12) (some true) fun a21 H p w =>
 dq false false 2 0 (b19 + 2) H p w (fun _ => .val x0) (some true) fun a22 H p w =>
 dq false false 3 0 (b19 + 3) H p w (fun _ => .val x13) (some true) fun a23 H p w =>
 dq false false 4 0 (b19 + 4) H p w (fun _ => .val x0) (some true) fun a24 H p w =>
 dq false false 5 0 (b19 + 5) H p w (fun _ => .val x13) (some true) fun a25 H p w =>
 dq false false 6 48 (b19 + 6) H p w (fun _ => idxS 1 a24 a25) (some true) fun a26 H p w =>
 dq true false 7 112 (b19 + 7) H p w (fun H => qaf H a26) (some true) fun a27 H p w =>
 dq false false 8 0 (b19 + 8) H p w (fun _ => .val x0) (some true) fun a28 H p w =>
 dq false false 9 0 (b19 + 9) H p w (fun _ => .val x12) (some true) fun a29 H p w =>
 dq false false 10 768 (b19 + 10) H p w (fun _ => idxS 1 a28 a29) (some true) fun a30 H p w =>
 dq true false 11 1792 (b19 + 11) H p w (fun H => qaf H a30) (some true) fun a31 H p w =>
 dq false false 12 4083 (b19 + 12) H p w (fun _ => idxS 1 a20 a21) (some true) fun a32 H p w =>
 de 8179 H p w (qao (qaq 8179 p H) a32 a27) (some true) fun _ H p w =>
 dq false false 14 16383 (b19 + 14) H p w (fun _ => idxS 1 a22 a23) (some true) fun a34 H p w =>
 de 32767 H p w (qao (qaq 32767 p H) a34 a31) (some true) fun _ H p w =>
 dz2 p H fun H =>
 vq (intV (qaa .add).f x12 (.int .i64 (.ofNat 1))) H fun a36 H =>
 vq (intV (qaa .sub).f x13 (.int .i64 (.ofNat 1))) H fun a37 H =>
 qni call (fun x13 H => qa3 call x0 x1 x13 H) x0 x1 x4 a36 a37 H
def qdf (call : Ev.Call) (x0 x1 x4 x12 x13 : AV) (H : Hp) : R1 :=
 vq (intV (qaa .gtr).f x12 x13) H fun a122 H =>
 cd a122 (
 dz 0 H fun b123 H =>
 dq false false 0 0 (b123 + 0) H [] [] (fun _ => .val x0) (some true) fun a124 H p w =>
 dq false false 1 0 (b123 + 1) H p w (fun _ => .val x13) (some true) fun a125 H p w =>
 dq false false 2 0 (b123 + 2) H p w (fun _ => .val x0) (some true) fun a126 H p w =>
 dq false false 3 0 (b123 + 3) H p w (fun _ => .val x1) (some true) fun a127 H p w =>
 dq false false 4 0 (b123 + 4) H p w (fun _ => .val x0) (some true) fun a128 H p w =>
 dq false false 5 0 (b123 + 5) H p w (fun _ => .val x1) (some true) fun a129 H p w =>
 dq false false 6 48 (b123 + 6) H p w (fun _ => idxS 1 a128 a129) (some true) fun a130 H p w =>
 dq true false 7 112 (b123 + 7) H p w (fun H => qaf H a130) (some true) fun a131 H p w =>
 dq false false 8 0 (b123 + 8) H p w (fun _ => .val x0) (some true) fun a132 H p w =>
 dq false false 9 0 (b123 + 9) H p w (fun _ => .val x13) (some true) fun a133 H p w =>
 dq false false 10 768 (b123 + 10) H p w (fun _ => idxS 1 a132 a133) (some true) fun a134 H p w =>
 dq true false 11 1792 (b123 + 11) H p w (fun H => qaf H a134) (some true) fun a135 H p w =>
 dq false false 12 4083 (b123 + 12) H p w (fun _ => idxS 1 a124 a125) (some true) fun a136 H p w =>
 de 8179 H p w (qao (qaq 8179 p H) a136 a131) (some true) fun _ H p w =>
 dq false false 14 16383 (b123 + 14) H p w (fun _ => idxS 1 a126 a127) (some true) fun a138 H p w =>
 de 32767 H p w (qao (qaq 32767 p H) a138 a135) (some true) fun _ H p w =>
 dz2 p H fun H =>
 .ok (.tup [x13, (.bool true)]) H) (
 qkm call x0 x1 x4 x12 x13 H)
def qkl (call : Ev.Call) (g141 : AV → Hp → R1) (x13 : AV) (H : Hp) : R1 :=
 vq (intV (qaa .sub).f x13 (.int .i64 (.ofNat 1))) H fun a142 H =>
 g141 a142 H
def qe2 (call : Ev.Call) (q141e2 : AV → Hp → R1) (x0 x1 x4 x12 : AV) (g141 : AV → Hp → R1) (x13 : AV) (H : Hp) : R1 :=
 dz 0 H fun b144 H =>
 dq false false 0 0 (b144 + 0) H [] [] (fun _ => .val x12) (some true) fun a145 H p w =>
 dq false false 1 0 (b144 + 1) H p w (fun _ => .val x13) (some true) fun a146 H p w =>
 dq false false 2 3 (b144 + 2) H p w (fun _ => intV (qaa .leq).f a145 a146) (some true) fun a147 H p w =>
 dq false false 3 7 (b144 + 3) H p w (fun _ => .val a147) (some true) fun a148 H p w =>
 dq false false 4 15 (b144 + 4) H p w (fun _ => .val x4) (qac true a148) fun a149 H p w =>
 dq false false 5 15 (b144 + 5) H p w (fun _ => .val x0) (qac true a148) fun a150 H p w =>
 dq false false 6 15 (b144 + 6) H p w (fun _ => .val x13) (qac true a148) fun a151 H p w =>
 dq false false 7 111 (b144 + 7) H p w (fun _ => idxS 1 a150 a151) (qac true a148) fun a152 H p w =>
 dq true false 8 239 (b144 + 8) H p w (fun H => qaf H a152) (qac true a148) fun a153 H p w =>
 dq false false 9 15 (b144 + 9) H p w (fun _ => .val x0) (qac true a148) fun a154 H p w =>
 dq false false 10 15 (b144 + 10) H p w (fun _ => .val x1) (qac true a148) fun a155 H p w =>
 dq false false 11 1551 (b144 + 11) H p w (fun _ => idxS 1 a154 a155) (qac true a148) fun a156 H p w =>
 dq true false 12 3599 (b144 + 12) H p w (fun H => qaf H a156) (qac true a148) fun a157 H p w =>
 de 8191 H p w (qfm call a149 [a153, a157] (qaq 8191 p H)) (qac true a148) fun a158 H p w =>
 dq false false 14 16383 (b144 + 14) H p w (fun _ => intV (qaa .lss).f a158 (.int .i64 (.ofNat 0))) (qac true a148) fun a159 H p w =>
 dq false false 15 32767 (b144 + 15) H p w (fun _ => (unS .not).f a159) (qac true a148) fun a160 H p w =>
 dq false false 16 65535 (b144 + 16) H p w (fun _ => qbj a148 a160 (.bool false)) (some true) fun a161 H p w =>
 dz2 p H fun H =>
 cd a161 (
 qkl call g141 x13 H) (
 q141e2 x13 H)
def qdd (call : Ev.Call) (q141e2 : AV → Hp → R1) (x0 x1 x4 x12 : AV) (n : Nat) : AV → Hp → R1 :=
 Nat.rec (motive := fun _ => AV → Hp → R1) (fun _ _ => .bad) (fun _ ih => qe2 call q141e2 x0 x1 x4 x12 ih) n
def qkr (call : Ev.Call) (q141e2 : AV → Hp → R1) (x0 x1 x4 x12 : AV) : AV → Hp → R1 := qdd call q141e2 x0 x1 x4 x12 qba
def qde (call : Ev.Call) (x0 x1 x4 x12 x13 : AV) (H : Hp) : R1 :=
 qkr call (fun x13 H => qdf call x0 x1 x4 x12 x13 H) x0 x1 x4 x12 x13 H
def qkk (call : Ev.Call) (g163 : AV → Hp → R1) (x12 : AV) (H : Hp) : R1 :=
 vq (intV (qaa .add).f x12 (.int .i64 (.ofNat 1))) H fun a164 H =>
 g163 a164 H
def qko (call : Ev.Call) (q163e0 : AV → Hp → R1) (x0 x1 x4 x13 : AV) (g163 : AV → Hp → R1) (x12 : AV) (H : Hp) : R1 :=
 dz 0 H fun b166 H =>
 dq false false 0 0 (b166 + 0) H [] [] (fun _ => .val x12) (some true) fun a167 H p w =>
 dq false false 1 0 (b166 + 1) H p w (fun _ => .val x13) (some true) fun a168 H p w =>
 dq false false 2 3 (b166 + 2) H p w (fun _ => intV (qaa .leq).f a167 a168) (some true) fun a169 H p w =>
 dq false false 3 7 (b166 + 3) H p w (fun _ => .val a169) (some true) fun a170 H p w =>
 dq false false 4 15 (b166 + 4) H p w (fun _ => .val x4) (qac true a170) fun a171 H p w =>
 dq false false 5 15 (b166 + 5) H p w (fun _ => .val x0) (qac true a170) fun a172 H p w =>
 dq false false 6 15 (b166 + 6) H p w (fun _ => .val x12) (qac true a170) fun a173 H p w =>
 dq false false 7 111 (b166 + 7) H p w (fun _ => idxS 1 a172 a173) (qac true a170) fun a174 H p w =>
 dq true false 8 239 (b166 + 8) H p w (fun H => qaf H a174) (qac true a170) fun a175 H p w =>
 dq false false 9 15 (b166 + 9) H p w (fun _ => .val x0) (qac true a170) fun a176 H p w =>
 dq false false 10 15 (b166 + 10) H p w (fun _ => .val x1) (qac true a170) fun a177 H p w =>
 dq false false 11 1551 (b166 + 11) H p w (fun _ => idxS 1 a176 a177) (qac true a170) fun a178 H p w =>
 dq true false 12 3599 (b166 + 12) H p w (fun H => qaf H a178) (qac true a170) fun a179 H p w =>
 de 8191 H p w (qfm call a171 [a175, a179] (qaq 8191 p H)) (qac true a170) fun a180 H p w =>
 dq false false 14 16383 (b166 + 14) H p w (fun _ => intV (qaa .lss).f a180 (.int .i64 (.ofNat 0))) (qac true a170) fun a181 H p w =>
 dq false false 15 32767 (b166 + 15) H p w (fun _ => qbj a170 a181 (.bool false)) (some true) fun a182 H p w =>
 dz2 p H fun H =>
 cd a182 (
 qkk call g163 x12 H) (
 q163e0 x12 H)
def qe0 (call : Ev.Call) (q163e0 : AV → Hp → R1) (x0 x1 x4 x13 : AV) (n : Nat) : AV → Hp → R1 :=
 Nat.rec (motive := fun _ => AV → Hp → R1) (fun _ _ => .bad) (fun _ ih => qko call q163e0 x0 x1 x4 x13 ih) n
def qkq (call : Ev.Call) (q163e0 : AV → Hp → R1) (x0 x1 x4 x13 : AV) : AV → Hp → R1 := qe0 call q163e0 x0 x1 x4 x13 qba
def qvx (call : Ev.Call) (x0 x1 x2 x3 x4 : AV) (H : Hp) : R1 :=
 dz 0 H fun b0 H =>
 dq false false 0 0 (b0 + 0) H [] [] (fun _ => .val x0) (some true) fun a1 H p w =>
 dq false false 1 0 (b0 + 1) H p w (fun _ => .val x1) (some true) fun a2 H p w =>
 dq false false 2 0 (b0 + 2) H p w (fun _ => .val x0) (some true) fun a3 H p w =>
 dq false false 3 0 (b0 + 3) H p w (fun _ => .val x3) (some true) fun a4 H p w =>
 dq false false 4 0 (b0 + 4) H p w (fun _ => .val x0) (some true) fun a5 H p w =>
 dq false false 5 0 (b0 + 5) H p w (fun _ => .val x3) (some true) fun a6 H p w =>
 dq false false 6 48 (b0 + 6) H p w (fun _ => idxS 1 a5 a6) (some true) fun a7 H p w =>
 dq true false 7 112 (b0 + 7) H p w (fun H => qaf H a7) (some true) fun a8 H p w =>
 dq false false 8 0 (b0 + 8) H p w (fun _ => .val x0) (some true) fun a9 H p w =>
 dq false false 9 0 (b0 + 9) H p w (fun _ => .val x1) (some true) fun a10 H p w =>
 dq false false 10 768 (b0 + 10) H p w (fun _ => idxS 1 a9 a10) (some true) fun a11 H p w =>
 dq true false 11 1792 (b0 + 11) H p w (fun H => qaf H a11) (some true) fun a12 H p w =>
 dq false false 12 4083 (b0 + 12) H p w (fun _ => idxS 1 a1 a2) (some true) fun a13 H p w =>
 de 8179 H p w (qao (qaq 8179 p H) a13 a8) (some true) fun _ H p w =>
 dq false false 14 16383 (b0 + 14) H p w (fun _ => idxS 1 a3 a4) (some true) fun a15 H p w =>
 de 32767 H p w (qao (qaq 32767 p H) a15 a12) (some true) fun _ H p w =>
 dz2 p H fun H =>
 vq (intV (qaa .add).f x1 (.int .i64 (.ofNat 1))) H fun a17 H =>
 vq (intV (qaa .sub).f x2 (.int .i64 (.ofNat 1))) H fun a18 H =>
 qkq call (fun x12 H => qde call x0 x1 x4 x12 a18 H) x0 x1 x4 a18 a17 H
def s_part (call : Ev.Call) (x0 x1 x2 x3 x4 : AV) (H : Hp) : R1 := qvx call x0 x1 x2 x3 x4 H
def qvz (call : Ev.Call) (x0 : AV) (H : Hp) : R1 :=
 vq (qh9 .u64 x0) H fun a0 H =>
 ve (call (.f qjt) [a0] H) fun a1 H =>
 vq (qew (qb0 .shl).f (.int .u64 (.ofNat 1)) a1) H fun a2 H =>
 .ok a2 H
def s_npow (call : Ev.Call) (x0 : AV) (H : Hp) : R1 := qvz call x0 H
def qkc (call : Ev.Call) (x0 : AV) (H : Hp) : R1 :=
 dz 0 H fun b0 H =>
 dq false false 0 0 (b0 + 0) H [] [] (fun _ => .val x0) (some true) fun a1 H p w =>
 dq false false 1 1 (b0 + 1) H p w (fun _ => nilC a1) (some true) fun a2 H p w =>
 dq true false 2 3 (b0 + 2) H p w (fun H => qaf H a2) (some true) fun a3 H p w =>
 dq false false 3 0 (b0 + 3) H p w (fun _ => .val x0) (some true) fun a4 H p w =>
 dq false false 4 8 (b0 + 4) H p w (fun _ => nilC a4) (some true) fun a5 H p w =>
 dq true false 5 24 (b0 + 5) H p w (fun H => qaf H a5) (some true) fun a6 H p w =>
 dq false false 6 56 (b0 + 6) H p w (fun _ => qew (qb0 .shl).f a6 (.int .u64 (.ofNat 13))) (some true) fun a7 H p w =>
 dq false false 7 127 (b0 + 7) H p w (fun _ => intV (qaa .xor).f a3 a7) (some true) fun a8 H p w =>
 dq false false 8 255 (b0 + 8) H p w (fun _ => nilC a1) (some true) fun a9 H p w =>
 de 511 H p w (qao (qaq 511 p H) a9 a8) (some true) fun _ H p w =>
 dz2 p H fun H =>
 dz 0 H fun b11 H =>
 dq false false 0 0 (b11 + 0) H [] [] (fun _ => .val x0) (some true) fun a12 H p w =>
 dq false false 1 1 (b11 + 1) H p w (fun _ => nilC a12) (some true) fun a13 H p w =>
 dq true false 2 3 (b11 + 2) H p w (fun H => qaf H a13) (some true) fun a14 H p w =>
 dq false false 3 0 (b11 + 3) H p w (fun _ => .val x0) (some true) fun a15 H p w =>
 dq false false 4 8 (b11 + 4) H p w (fun _ => nilC a15) (some true) fun a16 H p w =>
 dq true false 5 24 (b11 + 5) H p w (fun H => qaf H a16) (some true) fun a17 H p w =>
 dq false false 6 56 (b11 + 6) H p w (fun _ => qew (qb0 .shr).f a17 (.int .u64 (.ofNat 7))) (some true) fun a18 H p w =>
 dq false false 7 127 (b11 + 7) H p w (fun _ => intV (qaa .xor).f a14 a18) (some true) fun a19 H p w =>
 dq false false 8 255 (b11 + 8) H p w (fun _ => nilC a12) (some true) fun a20 H p w =>
 de 511 H p w (qao (qaq 511 p H) a20 a19) (some true) fun _ H p w =>
 dz2 p H fun H =>
 dz 0 H fun b22 H =>
 dq false false 0 0 (b22 + 0) H [] [] (fun _ => .val x0) (some true) fun a23 H p w =>
 dq false false 1 1 (b22 + 1) H p w (fun _ => nilC a23) (some true) fun a24 H p w =>
 dq true false 2 3 (b22 + 2) H p w (fun H => qaf H a24) (some true) fun a25 H p w =>
 dq false false 3 0 (b22 + 3) H p w (fun _ => .val x0) (some true) fun a26 H p w =>
 dq false false 4 8 (b22 + 4) H p w (fun _ => nilC a26) (some true) fun a27 H p w =>
 dq true false 5 24 (b22 + 5) H p w (fun H => qaf H a27) (some true) fun a28 H p w =>
 dq false false 6 56 (b22 + 6) H p w (fun _ => qew (qb0 .shl).f a28 (.int .u64 (.ofNat 17))) (some true) fun a29 H p w =>
 dq false false 7 127 (b22 + 7) H p w (fun _ => intV (qaa .xor).f a25 a29) (some true) fun a30 H p w =>
 dq false false 8 255 (b22 + 8) H p w (fun _ => nilC a23) (some true) fun a31 H p w =>
 de 511 H p w (qao (qaq 511 p H) a31 a30) (some true) fun _ H p w =>
 dz2 p H fun H =>
 vq (nilC x0) H fun a33 H =>
 vq (qaf H a33) H fun a34 H =>
 .ok a34 H
def s_xorNext (call : Ev.Call) (x0 : AV) (H : Hp) : R1 := qkc call x0 H
def qm5 (call : Ev.Call) (g0 : AV → Hp → R1) (x0 x3 x10 x11 : AV) (H : Hp) : R1 :=
 dz 0 H fun b3 H =>
 dq false false 0 0 (b3 + 0) H [] [] (fun _ => .val x0) (some true) fun a4 H p w =>
 dq false false 1 0 (b3 + 1) H p w (fun _ => .val x3) (some true) fun a5 H p w =>
 dq false false 2 0 (b3 + 2) H p w (fun _ => .val x10) (some true) fun a6 H p w =>
 dq false false 3 6 (b3 + 3) H p w (fun _ => intV (qaa .add).f a5 a6) (some true) fun a7 H p w =>
 dq false false 4 0 (b3 + 4) H p w (fun _ => .val x0) (some true) fun a8 H p w =>
 dq false false 5 0 (b3 + 5) H p w (fun _ => .val x3) (some true) fun a9 H p w =>
 dq false false 6 0 (b3 + 6) H p w (fun _ => .val x11) (some true) fun a10 H p w =>
 dq false false 7 96 (b3 + 7) H p w (fun _ => intV (qaa .add).f a9 a10) (some true) fun a11 H p w =>
 dq false false 8 0 (b3 + 8) H p w (fun _ => .val x0) (some true) fun a12 H p w =>
 dq false false 9 0 (b3 + 9) H p w (fun _ => .val x3) (some true) fun a13 H p w =>
 dq false false 10 0 (b3 + 10) H p w (fun _ => .val x11) (some true) fun a14 H p w =>
 dq false false 11 1536 (b3 + 11) H p w (fun _ => intV (qaa .add).f a13 a14) (some true) fun a15 H p w =>
 dq false false 12 3840 (b3 + 12) H p w (fun _ => idxS 1 a12 a15) (some true) fun a16 H p w =>
 dq true false 13 7936 (b3 + 13) H p w (fun H => qaf H a16) (some true) fun a17 H p w =>
 dq false false 14 0 (b3 + 14) H p w (fun _ => .val x0) (some true) fun a18 H p w =>
 dq false false 15 0 (b3 + 15) H p w (fun _ => .val x3) (some true) fun a19 H p w =>
 dq false false 16 0 (b3 + 16) H p w (fun _ => .val x10) (some true) fun a20 H p w =>
 dq false false 17 98304 (b3 + 17) H p w (fun _ => intV (qaa .add).f a19 a20) (some true) fun a21 H p w =>
 dq false false 18 245760 (b3 + 18) H p w (fun _ => idxS 1 a18 a21) (some true) fun a22 H p w =>
 dq true false 19 507904 (b3 + 19) H p w (fun H => qaf H a22) (some true) fun a23 H p w =>
 dq false false 20 1048335 (b3 + 20) H p w (fun _ => idxS 1 a4 a7) (some true) fun a24 H p w =>
 de 2096911 H p w (qao (qaq 2096911 p H) a24 a17) (some true) fun _ H p w =>
 dq false false 22 4194303 (b3 + 22) H p w (fun _ => idxS 1 a8 a11) (some true) fun a26 H p w =>
 de 8388607 H p w (qao (qaq 8388607 p H) a26 a23) (some true) fun _ H p w =>
 dz2 p H fun H =>
 g0 x11 H
def qgj (call : Ev.Call) (q0r : Hp → R1) (g0 : AV → Hp → R1) (x0 x3 x4 x10 x11 : AV) (H : Hp) : R1 :=
 dz 0 H fun b29 H =>
 dq false false 0 0 (b29 + 0) H [] [] (fun _ => .val x4) (some true) fun a30 H p w =>
 dq false false 1 0 (b29 + 1) H p w (fun _ => .val x0) (some true) fun a31 H p w =>
 dq false false 2 0 (b29 + 2) H p w (fun _ => .val x3) (some true) fun a32 H p w =>
 dq false false 3 0 (b29 + 3) H p w (fun _ => .val x10) (some true) fun a33 H p w =>
 dq false false 4 12 (b29 + 4) H p w (fun _ => intV (qaa .add).f a32 a33) (some true) fun a34 H p w =>
 dq false false 5 30 (b29 + 5) H p w (fun _ => idxS 1 a31 a34) (some true) fun a35 H p w =>
 dq true false 6 62 (b29 + 6) H p w (fun H => qaf H a35) (some true) fun a36 H p w =>
 dq false false 7 0 (b29 + 7) H p w (fun _ => .val x0) (some true) fun a37 H p w =>
 dq false false 8 0 (b29 + 8) H p w (fun _ => .val x3) (some true) fun a38 H p w =>
 dq false false 9 0 (b29 + 9) H p w (fun _ => .val x11) (some true) fun a39 H p w =>
 dq false false 10 768 (b29 + 10) H p w (fun _ => intV (qaa .add).f a38 a39) (some true) fun a40 H p w =>
 dq false false 11 1920 (b29 + 11) H p w (fun _ => idxS 1 a37 a40) (some true) fun a41 H p w =>
 dq true false 12 3968 (b29 + 12) H p w (fun H => qaf H a41) (some true) fun a42 H p w =>
 de 8191 H p w (qfm call a30 [a36, a42] (qaq 8191 p H)) (some true) fun a43 H p w =>
 dq false false 14 16383 (b29 + 14) H p w (fun _ => intV (qaa .lss).f a43 (.int .i64 (.ofNat 0))) (some true) fun a44 H p w =>
 dq false false 15 32767 (b29 + 15) H p w (fun _ => (unS .not).f a44) (some true) fun a45 H p w =>
 dz2 p H fun H =>
 cd a45 (
 q0r H) (
 qm5 call g0 x0 x3 x10 x11 H)
def qm4 (call : Ev.Call) (q0r : Hp → R1) (g0 : AV → Hp → R1) (x0 x2 x3 x4 x10 x11 : AV) (H : Hp) : R1 :=
 dz 0 H fun b47 H =>
 dq false false 0 0 (b47 + 0) H [] [] (fun _ => .val x11) (some true) fun a48 H p w =>
 dq false false 1 1 (b47 + 1) H p w (fun _ => intV (qaa .add).f a48 (.int .i64 (.ofNat 1))) (some true) fun a49 H p w =>
 dq false false 2 0 (b47 + 2) H p w (fun _ => .val x2) (some true) fun a50 H p w =>
 dq false false 3 7 (b47 + 3) H p w (fun _ => intV (qaa .lss).f a49 a50) (some true) fun a51 H p w =>
 dq false false 4 15 (b47 + 4) H p w (fun _ => .val a51) (some true) fun a52 H p w =>
 dq false false 5 31 (b47 + 5) H p w (fun _ => .val x4) (qac true a52) fun a53 H p w =>
 dq false false 6 31 (b47 + 6) H p w (fun _ => .val x0) (qac true a52) fun a54 H p w =>
 dq false false 7 31 (b47 + 7) H p w (fun _ => .val x3) (qac true a52) fun a55 H p w =>
 dq false false 8 31 (b47 + 8) H p w (fun _ => .val x11) (qac true a52) fun a56 H p w =>
 dq false false 9 415 (b47 + 9) H p w (fun _ => intV (qaa .add).f a55 a56) (qac true a52) fun a57 H p w =>
 dq false false 10 991 (b47 + 10) H p w (fun _ => idxS 1 a54 a57) (qac true a52) fun a58 H p w =>
 dq true false 11 2015 (b47 + 11) H p w (fun H => qaf H a58) (qac true a52) fun a59 H p w =>
 dq false false 12 31 (b47 + 12) H p w (fun _ => .val x0) (qac true a52) fun a60 H p w =>
 dq false false 13 31 (b47 + 13) H p w (fun _ => .val x3) (qac true a52) fun a61 H p w =>
 dq false false 14 31 (b47 + 14) H p w (fun _ => .val x11) (qac true a52) fun a62 H p w =>
 dq false false 15 24607 (b47 + 15) H p w (fun _ => intV (qaa .add).f a61 a62) (qac true a52) fun a63 H p w =>
 dq false false 16 57375 (b47 + 16) H p w (fun _ => intV (qaa .add).f a63 (.int .i64 (.ofNat 1))) (qac true a52) fun a64 H p w =>
 dq false false 17 127007 (b47 + 17) H p w (fun _ => idxS 1 a60 a64) (qac true a52) fun a65 H p w =>
 dq true false 18 258079 (b47 + 18) H p w (fun H => qaf H a65) (qac true a52) fun a66 H p w =>
 de 524287 H p w (qfm call a53 [a59, a66] (qaq 524287 p H)) (qac true a52) fun a67 H p w =>
 dq false false 20 1048575 (b47 + 20) H p w (fun _ => intV (qaa .lss).f a67 (.int .i64 (.ofNat 0))) (qac true a52) fun a68 H p w =>
 dq false false 21 2097151 (b47 + 21) H p w (fun _ => qbj a52 a68 (.bool false)) (some true) fun a69 H p w =>
 dz2 p H fun H =>
 cd a69 (
 vq (intV (qaa .add).f x11 (.int .i64 (.ofNat 1))) H fun a70 H =>
 qgj call q0r g0 x0 x3 x4 x10 a70 H) (
 qgj call q0r g0 x0 x3 x4 x10 x11 H)
def qqt (call : Ev.Call) (q0e0 : Hp → R1) (q0r : Hp → R1) (x0 x2 x3 x4 : AV) (g0 : AV → Hp → R1) (x10 : AV) (H : Hp) : R1 :=
 vq (intV (qaa .mul).f (.int .i64 (.ofNat 2)) x10) H fun a1 H =>
 vq (intV (qaa .add).f a1 (.int .i64 (.ofNat 1))) H fun a2 H =>
 vq (intV (qaa .geq).f a2 x2) H fun a72 H =>
 cd a72 (
 q0e0 H) (
 qm4 call q0r g0 x0 x2 x3 x4 x10 a2 H)
def qex (call : Ev.Call) (q0e0 : Hp → R1) (q0r : Hp → R1) (x0 x2 x3 x4 : AV) (n : Nat) : AV → Hp → R1 :=
 Nat.rec (motive := fun _ => AV → Hp → R1) (fun _ _ => .bad) (fun _ ih => qqt call q0e0 q0r x0 x2 x3 x4 ih) n
def qqu (call : Ev.Call) (q0e0 : Hp → R1) (q0r : Hp → R1) (x0 x2 x3 x4 : AV) : AV → Hp → R1 := qex call q0e0 q0r x0 x2 x3 x4 qba
def qvs (call : Ev.Call) (x0 x1 x2 x3 x4 : AV) (H : Hp) : R1 :=
 qqu call (fun H => .ok (.tup []) H) (fun H => .ok (.tup []) H) x0 x2 x3 x4 x1 H
def s_sift (call : Ev.Call) (x0 x1 x2 x3 x4 : AV) (H : Hp) : R1 := qvs call x0 x1 x2 x3 x4 H
def qnj (call : Ev.Call) (x0 x1 x2 x3 : AV) (H : Hp) : R1 :=
 vq (intV (qaa .sub).f x1 (.int .i64 (.ofNat 1))) H fun a0 H =>
 vq (intV (qaa .add).f x1 (.int .i64 (.ofNat 1))) H fun a1 H =>
 ve (call (.f qmi) [x0, a0, x1, a1, x2, x3] H) fun a2 H =>
 .ok a2 H
def s_medadj (call : Ev.Call) (x0 x1 x2 x3 : AV) (H : Hp) : R1 := qnj call x0 x1 x2 x3 H
def q1a (call : Ev.Call) (x0 x1 x2 x3 x4 x5 : AV) (H : Hp) : R1 :=
 ve (call (.f qg5) [x0, x1, x2, x4, x5] H) fun a0 H =>
 vq (extr 0 a0) H fun a1 H =>
 vq (extr 1 a0) H fun a2 H =>
 ve (call (.f qg5) [x0, a2, x3, x4, x5] H) fun a3 H =>
 vq (extr 0 a3) H fun a4 H =>
 vq (extr 1 a3) H fun a5 H =>
 ve (call (.f qg5) [x0, a1, a4, x4, x5] H) fun a6 H =>
 vq (extr 0 a6) H fun a7 H =>
 vq (extr 1 a6) H fun a8 H =>
 .ok a8 H
def s_med (call : Ev.Call) (x0 x1 x2 x3 x4 x5 : AV) (H : Hp) : R1 := q1a call x0 x1 x2 x3 x4 x5 H
def qq7 (call : Ev.Call) (x1 x2 : AV) (H : Hp) : R1 :=
 .ok (.tup [x1, x2]) H
def qvy (call : Ev.Call) (x0 x1 x2 x3 x4 : AV) (H : Hp) : R1 :=
 dz 0 H fun b1 H =>
 dq false false 0 0 (b1 + 0) H [] [] (fun _ => .val x4) (some true) fun a2 H p w =>
 dq false false 1 0 (b1 + 1) H p w (fun _ => .val x0) (some true) fun a3 H p w =>
 dq false false 2 0 (b1 + 2) H p w (fun _ => .val x2) (some true) fun a4 H p w =>
 dq false false 3 6 (b1 + 3) H p w (fun _ => idxS 1 a3 a4) (some true) fun a5 H p w =>
 dq true false 4 14 (b1 + 4) H p w (fun H => qaf H a5) (some true) fun a6 H p w =>
 dq false false 5 0 (b1 + 5) H p w (fun _ => .val x0) (some true) fun a7 H p w =>
 dq false false 6 0 (b1 + 6) H p w (fun _ => .val x1) (some true) fun a8 H p w =>
 dq false false 7 96 (b1 + 7) H p w (fun _ => idxS 1 a7 a8) (some true) fun a9 H p w =>
 dq true false 8 224 (b1 + 8) H p w (fun H => qaf H a9) (some true) fun a10 H p w =>
 de 511 H p w (qfm call a2 [a6, a10] (qaq 511 p H)) (some true) fun a11 H p w =>
 dq false false 10 1023 (b1 + 10) H p w (fun _ => intV (qaa .lss).f a11 (.int .i64 (.ofNat 0))) (some true) fun a12 H p w =>
 dz2 p H fun H =>
 cd a12 (
 vq (nilC x3) H fun a13 H =>
 vq (qaf H a13) H fun a14 H =>
 vq (intV (qaa .add).f a14 (.int .i64 (.ofNat 1))) H fun a15 H =>
 vq (nilC x3) H fun a16 H =>
 ve (qao H a16 a15) fun _ H =>
 .ok (.tup [x2, x1]) H) (
 qq7 call x1 x2 H)
def s_ord2 (call : Ev.Call) (x0 x1 x2 x3 x4 : AV) (H : Hp) : R1 := qvy call x0 x1 x2 x3 x4 H
end Go.Di
end
noncomputable section
namespace Go.Di
open Go.Ev
structure LnkS (c d : Ev.Call) : Prop where
 s_SortFunc : ∀ (x0 x1 : AV) (H : Hp), c (.f qb3) [x0, x1] H = Di.s_SortFunc d x0 x1 H
 s_Len : ∀ (x0 : AV) (H : Hp), c (.f qjt) [x0] H = Di.s_Len d x0 H
 s_pdq : ∀ (x0 x1 x2 x3 x4 : AV) (H : Hp), c (.f qhw) [x0, x1, x2, x3, x4] H = Di.s_pdq d x0 x1 x2 x3 x4 H
 s_Len32 : ∀ (x0 : AV) (H : Hp), c (.f qom) [x0] H = Di.s_Len32 d x0 H
 s_Len64 : ∀ (x0 : AV) (H : Hp), c (.f qol) [x0] H = Di.s_Len64 d x0 H
 s_ins : ∀ (x0 x1 x2 x3 : AV) (H : Hp), c (.f qmj) [x0, x1, x2, x3] H = Di.s_ins d x0 x1 x2 x3 H
 s_heap : ∀ (x0 x1 x2 x3 : AV) (H : Hp), c (.f qmk) [x0, x1, x2, x3] H = Di.s_heap d x0 x1 x2 x3 H
 s_brk : ∀ (x0 x1 x2 x3 : AV) (H : Hp), c (.f qqb) [x0, x1, x2, x3] H = Di.s_brk d x0 x1 x2 x3 H
 s_piv : ∀ (x0 x1 x2 x3 : AV) (H : Hp), c (.f qp9) [x0, x1, x2, x3] H = Di.s_piv d x0 x1 x2 x3 H
 s_rev : ∀ (x0 x1 x2 x3 : AV) (H : Hp), c (.f qp8) [x0, x1, x2, x3] H = Di.s_rev d x0 x1 x2 x3 H
 s_pins : ∀ (x0 x1 x2 x3 : AV) (H : Hp), c (.f qi7) [x0, x1, x2, x3] H = Di.s_pins d x0 x1 x2 x3 H
 s_peq : ∀ (x0 x1 x2 x3 x4 : AV) (H : Hp), c (.f qqa) [x0, x1, x2, x3, x4] H = Di.s_peq d x0 x1 x2 x3 x4 H
 s_part : ∀ (x0 x1 x2 x3 x4 : AV) (H : Hp), c (.f qmh) [x0, x1, x2, x3, x4] H = Di.s_part d x0 x1 x2 x3 x4 H
 s_npow : ∀ (x0 : AV) (H : Hp), c (.f qi8) [x0] H = Di.s_npow d x0 H
 s_xorNext : ∀ (x0 : AV) (H : Hp), c (.f qed) [x0] H = Di.s_xorNext d x0 H
 s_sift : ∀ (x0 x1 x2 x3 x4 : AV) (H : Hp), c (.f qi6) [x0, x1, x2, x3, x4] H = Di.s_sift d x0 x1 x2 x3 x4 H
 s_medadj : ∀ (x0 x1 x2 x3 : AV) (H : Hp), c (.f qdr) [x0, x1, x2, x3] H = Di.s_medadj d x0 x1 x2 x3 H
 s_med : ∀ (x0 x1 x2 x3 x4 x5 : AV) (H : Hp), c (.f qmi) [x0, x1, x2, x3, x4, x5] H = Di.s_med d x0 x1 x2 x3 x4 x5 H
 s_ord2 : ∀ (x0 x1 x2 x3 x4 : AV) (H : Hp), c (.f qg5) [x0, x1, x2, x3, x4] H = Di.s_ord2 d x0 x1 x2 x3 x4 H
abbrev qbe (C : Nat → Ev.Call) : Prop := ∀ k, LnkS (C (k + 1)) (C k)
end Go.Di
end
noncomputable section
namespace Go.Di
open Go.Ev
def qpw (call : Ev.Call) (x0 : AV) (H : Hp) : R1 :=
 vq (qa9 x0) H fun a0 H =>
 vq (qh9 .u64 a0) H fun a1 H =>
 ve (call (.f qjt) [a1] H) fun a2 H =>
 ve (call (.f qhx) [x0, (.int .i64 (.ofNat 0)), a0, a2] H) fun a3 H =>
 .ok (.tup []) H
def o_Sort (call : Ev.Call) (x0 : AV) (H : Hp) : R1 := qpw call x0 H
def qcc (call : Ev.Call) (x0 : AV) (H : Hp) : R1 :=
 .ok x0 H
def qi1 (call : Ev.Call) (g1 : AV → Hp → R1) (x3 : AV) (H : Hp) : R1 :=
 vq (intV (qaa .add).f x3 (.int .i64 (.ofNat 1))) H fun a2 H =>
 g1 a2 H
def qb2 (call : Ev.Call) (q1r : AV → Hp → R1) (x0 x3 : AV) (H : Hp) : R1 :=
 vq (qbo 1 x0 (some x3) none none) H fun a11 H =>
 ve (qtr [.int .i64 (.ofNat 0)] H a11) fun _ H =>
 vq (qbo 1 x0 none (some x3) none) H fun a13 H =>
 q1r a13 H
def qcy (call : Ev.Call) (g15 : AV → AV → Hp → R1) (x3 x5 : AV) (H : Hp) : R1 :=
 vq (intV (qaa .add).f x5 (.int .i64 (.ofNat 1))) H fun a16 H =>
 g15 x3 a16 H
def qhs (call : Ev.Call) (g15 : AV → AV → Hp → R1) (x0 x3 x4 x5 : AV) (H : Hp) : R1 :=
 vl (idxS 1 x4 x5) fun a18 =>
 vl (qaf H a18) fun a19 =>
 vl (intV (qaa .sub).f x5 (.int .i64 (.ofNat 1))) fun a20 =>
 vl (idxS 1 x4 a20) fun a21 =>
 vl (qaf H a21) fun a22 =>
 vl (intV (qaa .neq).f a19 a22) fun a23 =>
 cd a23 (
 vq (idxS 1 x4 x5) H fun a24 H =>
 vq (qaf H a24) H fun a25 H =>
 vq (idxS 1 x0 x3) H fun a26 H =>
 ve (qao H a26 a25) fun _ H =>
 vq (intV (qaa .add).f x3 (.int .i64 (.ofNat 1))) H fun a28 H =>
 qcy call g15 a28 x5 H) (
 qcy call g15 x3 x5 H)
def qht (call : Ev.Call) (q15e2 : AV → Hp → R1) (x0 x4 : AV) (g15 : AV → AV → Hp → R1) (x3 x5 : AV) (H : Hp) : R1 :=
 vq (qa9 x4) H fun a30 H =>
 vq (intV (qaa .lss).f x5 a30) H fun a31 H =>
 cd a31 (
 qhs call g15 x0 x3 x4 x5 H) (
 q15e2 x3 H)
def qcg (call : Ev.Call) (q15e2 : AV → Hp → R1) (x0 x4 : AV) (n : Nat) : AV → AV → Hp → R1 :=
 Nat.rec (motive := fun _ => AV → AV → Hp → R1) (fun _ _ _ => .bad) (fun _ ih => qht call q15e2 x0 x4 ih) n
def qhu (call : Ev.Call) (q15e2 : AV → Hp → R1) (x0 x4 : AV) : AV → AV → Hp → R1 := qcg call q15e2 x0 x4 qba
def qhr (call : Ev.Call) (q1r : AV → Hp → R1) (g1 : AV → Hp → R1) (x0 x3 : AV) (H : Hp) : R1 :=
 vl (idxS 1 x0 x3) fun a4 =>
 vl (qaf H a4) fun a5 =>
 vl (intV (qaa .sub).f x3 (.int .i64 (.ofNat 1))) fun a6 =>
 vl (idxS 1 x0 a6) fun a7 =>
 vl (qaf H a7) fun a8 =>
 vl (intV (qaa .eql).f a5 a8) fun a9 =>
 cd a9 (
 vq (qbo 1 x0 (some x3) none none) H fun a10 H =>
 qhu call (fun x3 H => qb2 call q1r x0 x3 H) x0 a10 x3 (.int .i64 (.ofNat 1)) H) (
 qi1 call g1 x3 H)
def qi2 (call : Ev.Call) (q1r : AV → Hp → R1) (q1e0 : Hp → R1) (x0 : AV) (g1 : AV → Hp → R1) (x3 : AV) (H : Hp) : R1 :=
 vq (qa9 x0) H fun a33 H =>
 vq (intV (qaa .lss).f x3 a33) H fun a34 H =>
 cd a34 (
 qhr call q1r g1 x0 x3 H) (
 q1e0 H)
def qct (call : Ev.Call) (q1r : AV → Hp → R1) (q1e0 : Hp → R1) (x0 : AV) (n : Nat) : AV → Hp → R1 :=
 Nat.rec (motive := fun _ => AV → Hp → R1) (fun _ _ => .bad) (fun _ ih => qi2 call q1r q1e0 x0 ih) n
def qi3 (call : Ev.Call) (q1r : AV → Hp → R1) (q1e0 : Hp → R1) (x0 : AV) : AV → Hp → R1 := qct call q1r q1e0 x0 qba
def qhq (call : Ev.Call) (x0 : AV) (H : Hp) : R1 :=
 qi3 call (fun x2 H => .ok x2 H) (fun H => qcc call x0 H) x0 (.int .i64 (.ofNat 1)) H
def qld (call : Ev.Call) (x0 : AV) (H : Hp) : R1 :=
 vq (qa9 x0) H fun a36 H =>
 vq (intV (qaa .lss).f a36 (.int .i64 (.ofNat 2))) H fun a37 H =>
 cd a37 (
 .ok x0 H) (
 qhq call x0 H)
def o_Compact (call : Ev.Call) (x0 : AV) (H : Hp) : R1 := qld call x0 H
def qma (call : Ev.Call) (g0 : AV → AV → AV → AV → AV → Hp → R1) (x0 x1 x2 x3 x10 x11 : AV) (H : Hp) : R1 :=
 ve (call (.f qmm) [x0, x1, x2, x11] H) fun a5 H =>
 vq (extr 0 a5) H fun a6 H =>
 vq (extr 1 a5) H fun a7 H =>
 vq (intV (qaa .sub).f a6 x1) H fun a8 H =>
 vq (intV (qaa .sub).f x2 a6) H fun a9 H =>
 vq (intV (qaa .quo).f x10 (.int .i64 (.ofNat 8))) H fun a10 H =>
 vq (intV (qaa .lss).f a8 a9) H fun a11 H =>
 cd a11 (
 vq (intV (qaa .geq).f a8 a10) H fun a12 H =>
 ve (call (.f qhx) [x0, x1, a6, x3] H) fun a13 H =>
 vq (intV (qaa .add).f a6 (.int .i64 (.ofNat 1))) H fun a14 H =>
 g0 a14 x2 x3 a12 a7 H) (
 vq (intV (qaa .geq).f a9 a10) H fun a15 H =>
 vq (intV (qaa .add).f a6 (.int .i64 (.ofNat 1))) H fun a16 H =>
 ve (call (.f qhx) [x0, a16, x2, x3] H) fun a17 H =>
 g0 x1 a6 x3 a15 a7 H)
def qe7 (call : Ev.Call) (g0 : AV → AV → AV → AV → AV → Hp → R1) (x0 x1 x2 x3 x8 x9 x10 x11 : AV) (H : Hp) : R1 :=
 dz 0 H fun b19 H =>
 dq false false 0 0 (b19 + 0) H [] [] (fun _ => .val x1) (some true) fun a20 H p w =>
 dq false false 1 1 (b19 + 1) H p w (fun _ => intV (qaa .gtr).f a20 (.int .i64 (.ofNat 0))) (some true) fun a21 H p w =>
 dq false false 2 3 (b19 + 2) H p w (fun _ => .val a21) (some true) fun a22 H p w =>
 dq false false 3 7 (b19 + 3) H p w (fun _ => .val x0) (qac true a22) fun a23 H p w =>
 dq false false 4 7 (b19 + 4) H p w (fun _ => .val x1) (qac true a22) fun a24 H p w =>
 dq false false 5 23 (b19 + 5) H p w (fun _ => intV (qaa .sub).f a24 (.int .i64 (.ofNat 1))) (qac true a22) fun a25 H p w =>
 dq false false 6 63 (b19 + 6) H p w (fun _ => idxS 1 a23 a25) (qac true a22) fun a26 H p w =>
 dq true false 7 127 (b19 + 7) H p w (fun H => qaf H a26) (qac true a22) fun a27 H p w =>
 dq false false 8 7 (b19 + 8) H p w (fun _ => .val x0) (qac true a22) fun a28 H p w =>
 dq false false 9 7 (b19 + 9) H p w (fun _ => .val x11) (qac true a22) fun a29 H p w =>
 dq false false 10 775 (b19 + 10) H p w (fun _ => idxS 1 a28 a29) (qac true a22) fun a30 H p w =>
 dq true false 11 1799 (b19 + 11) H p w (fun H => qaf H a30) (qac true a22) fun a31 H p w =>
 de 4095 H p w (call (.f qbk) [a27, a31] (qaq 4095 p H)) (qac true a22) fun a32 H p w =>
 dq false false 13 8191 (b19 + 13) H p w (fun _ => (unS .not).f a32) (qac true a22) fun a33 H p w =>
 dq false false 14 16383 (b19 + 14) H p w (fun _ => qbj a22 a33 (.bool false)) (some true) fun a34 H p w =>
 dz2 p H fun H =>
 cd a34 (
 ve (call (.f qqe) [x0, x1, x2, x11] H) fun a35 H =>
 g0 a35 x2 x3 x8 x9 H) (
 qma call g0 x0 x1 x2 x3 x10 x11 H)
def qiy (call : Ev.Call) (q0r : Hp → R1) (g0 : AV → AV → AV → AV → AV → Hp → R1) (x0 x1 x2 x3 x8 x9 x10 x11 x12 : AV) (H : Hp) : R1 :=
 vg (qac true x8) (.val x9) H fun a37 H =>
 vq (qbj x8 a37 (.bool false)) H fun a38 H =>
 vg (qac true a38) (.val x12) H fun a39 H =>
 vg (qac true a38) (intV (qaa .eql).f a39 (.int .i64 (.ofNat 1))) H fun a40 H =>
 vq (qbj a38 a40 (.bool false)) H fun a41 H =>
 cd a41 (
 ve (call (.f qjb) [x0, x1, x2] H) fun a42 H =>
 cd a42 (
 q0r H) (
 qe7 call g0 x0 x1 x2 x3 x8 x9 x10 x11 H)) (
 qe7 call g0 x0 x1 x2 x3 x8 x9 x10 x11 H)
def qix (call : Ev.Call) (q0r : Hp → R1) (g0 : AV → AV → AV → AV → AV → Hp → R1) (x0 x1 x2 x3 x8 x9 x10 : AV) (H : Hp) : R1 :=
 ve (call (.f qqd) [x0, x1, x2] H) fun a2 H =>
 vq (extr 0 a2) H fun a3 H =>
 vq (extr 1 a2) H fun a4 H =>
 vq (intV (qaa .eql).f a4 (.int .i64 (.ofNat 2))) H fun a44 H =>
 cd a44 (
 ve (call (.f qqc) [x0, x1, x2] H) fun a45 H =>
 vq (intV (qaa .sub).f x2 (.int .i64 (.ofNat 1))) H fun a46 H =>
 vq (intV (qaa .sub).f a3 x1) H fun a47 H =>
 vq (intV (qaa .sub).f a46 a47) H fun a48 H =>
 qiy call q0r g0 x0 x1 x2 x3 x8 x9 x10 a48 (.int .i64 (.ofNat 1)) H) (
 qiy call q0r g0 x0 x1 x2 x3 x8 x9 x10 a3 a4 H)
def qsi (call : Ev.Call) (q0r : Hp → R1) (g0 : AV → AV → AV → AV → AV → Hp → R1) (x0 x1 x2 x3 x8 x9 x10 : AV) (H : Hp) : R1 :=
 vq ((unS .not).f x8) H fun a50 H =>
 cd a50 (
 ve (call (.f qqf) [x0, x1, x2] H) fun a51 H =>
 vq (intV (qaa .sub).f x3 (.int .i64 (.ofNat 1))) H fun a52 H =>
 qix call q0r g0 x0 x1 x2 a52 x8 x9 x10 H) (
 qix call q0r g0 x0 x1 x2 x3 x8 x9 x10 H)
def qsh (call : Ev.Call) (q0r : Hp → R1) (g0 : AV → AV → AV → AV → AV → Hp → R1) (x0 x1 x2 x3 x8 x9 x10 : AV) (H : Hp) : R1 :=
 vq (intV (qaa .eql).f x3 (.int .i64 (.ofNat 0))) H fun a54 H =>
 cd a54 (
 ve (call (.f qmp) [x0, x1, x2] H) fun a55 H =>
 q0r H) (
 qsi call q0r g0 x0 x1 x2 x3 x8 x9 x10 H)
def qmb (call : Ev.Call) (q0r : Hp → R1) (x0 : AV) (g0 : AV → AV → AV → AV → AV → Hp → R1) (x1 x2 x3 x8 x9 : AV) (H : Hp) : R1 :=
 vq (intV (qaa .sub).f x2 x1) H fun a1 H =>
 vq (intV (qaa .leq).f a1 (.int .i64 (.ofNat 12))) H fun a57 H =>
 cd a57 (
 ve (call (.f qmo) [x0, x1, x2] H) fun a58 H =>
 q0r H) (
 qsh call q0r g0 x0 x1 x2 x3 x8 x9 a1 H)
def qbs (call : Ev.Call) (q0r : Hp → R1) (x0 : AV) (n : Nat) : AV → AV → AV → AV → AV → Hp → R1 :=
 Nat.rec (motive := fun _ => AV → AV → AV → AV → AV → Hp → R1) (fun _ _ _ _ _ _ => .bad) (fun _ ih => qmb call q0r x0 ih) n
def qpu (call : Ev.Call) (q0r : Hp → R1) (x0 : AV) : AV → AV → AV → AV → AV → Hp → R1 := qbs call q0r x0 qba
def qwy (call : Ev.Call) (x0 x1 x2 x3 : AV) (H : Hp) : R1 :=
 qpu call (fun H => .ok (.tup []) H) x0 x1 x2 x3 (.bool true) (.bool true) H
def o_pdq (call : Ev.Call) (x0 x1 x2 x3 : AV) (H : Hp) : R1 := qwy call x0 x1 x2 x3 H
def qhp (call : Ev.Call) (g1 : AV → Hp → R1) (x6 : AV) (H : Hp) : R1 :=
 vq (intV (qaa .add).f x6 (.int .i64 (.ofNat 1))) H fun a2 H =>
 g1 a2 H
def qw3 (call : Ev.Call) (g4 : AV → Hp → R1) (x7 : AV) (H : Hp) : R1 :=
 vq (intV (qaa .sub).f x7 (.int .i64 (.ofNat 1))) H fun a5 H =>
 g4 a5 H
def qsl (call : Ev.Call) (g4 : AV → Hp → R1) (x0 x7 : AV) (H : Hp) : R1 :=
 dz 0 H fun b7 H =>
 dq false false 0 0 (b7 + 0) H [] [] (fun _ => .val x0) (some true) fun a8 H p w =>
 dq false false 1 0 (b7 + 1) H p w (fun _ => .val x7) (some true) fun a9 H p w =>
 dq false false 2 0 (b7 + 2) H p w (fun _ => .val x0) (some true) fun a10 H p w =>
 dq false false 3 0 (b7 + 3) H p w (fun _ => .val x7) (some true) fun a11 H p w =>
 dq false false 4 8 (b7 + 4) H p w (fun _ => intV (qaa .sub).f a11 (.int .i64 (.ofNat 1))) (some true) fun a12 H p w =>
 dq false false 5 0 (b7 + 5) H p w (fun _ => .val x0) (some true) fun a13 H p w =>
 dq false false 6 0 (b7 + 6) H p w (fun _ => .val x7) (some true) fun a14 H p w =>
 dq false false 7 64 (b7 + 7) H p w (fun _ => intV (qaa .sub).f a14 (.int .i64 (.ofNat 1))) (some true) fun a15 H p w =>
 dq false false 8 224 (b7 + 8) H p w (fun _ => idxS 1 a13 a15) (some true) fun a16 H p w =>
 dq true false 9 480 (b7 + 9) H p w (fun H => qaf H a16) (some true) fun a17 H p w =>
 dq false false 10 0 (b7 + 10) H p w (fun _ => .val x0) (some true) fun a18 H p w =>
 dq false false 11 0 (b7 + 11) H p w (fun _ => .val x7) (some true) fun a19 H p w =>
 dq false false 12 3072 (b7 + 12) H p w (fun _ => idxS 1 a18 a19) (some true) fun a20 H p w =>
 dq true false 13 7168 (b7 + 13) H p w (fun H => qaf H a20) (some true) fun a21 H p w =>
 dq false false 14 16355 (b7 + 14) H p w (fun _ => idxS 1 a8 a9) (some true) fun a22 H p w =>
 de 32739 H p w (qao (qaq 32739 p H) a22 a17) (some true) fun _ H p w =>
 dq false false 16 65535 (b7 + 16) H p w (fun _ => idxS 1 a10 a12) (some true) fun a24 H p w =>
 de 131071 H p w (qao (qaq 131071 p H) a24 a21) (some true) fun _ H p w =>
 dz2 p H fun H =>
 qw3 call g4 x7 H
def qw5 (call : Ev.Call) (q4e2 : Hp → R1) (x0 x1 : AV) (g4 : AV → Hp → R1) (x7 : AV) (H : Hp) : R1 :=
 dz 0 H fun b27 H =>
 dq false false 0 0 (b27 + 0) H [] [] (fun _ => .val x7) (some true) fun a28 H p w =>
 dq false false 1 0 (b27 + 1) H p w (fun _ => .val x1) (some true) fun a29 H p w =>
 dq false false 2 3 (b27 + 2) H p w (fun _ => intV (qaa .gtr).f a28 a29) (some true) fun a30 H p w =>
 dq false false 3 7 (b27 + 3) H p w (fun _ => .val a30) (some true) fun a31 H p w =>
 dq false false 4 15 (b27 + 4) H p w (fun _ => .val x0) (qac true a31) fun a32 H p w =>
 dq false false 5 15 (b27 + 5) H p w (fun _ => .val x7) (qac true a31) fun a33 H p w =>
 dq false false 6 63 (b27 + 6) H p w (fun _ => idxS 1 a32 a33) (qac true a31) fun a34 H p w =>
 dq true false 7 127 (b27 + 7) H p w (fun H => qaf H a34) (qac true a31) fun a35 H p w =>
 dq false false 8 15 (b27 + 8) H p w (fun _ => .val x0) (qac true a31) fun a36 H p w =>
 dq false false 9 15 (b27 + 9) H p w (fun _ => .val x7) (qac true a31) fun a37 H p w =>
 dq false false 10 527 (b27 + 10) H p w (fun _ => intV (qaa .sub).f a37 (.int .i64 (.ofNat 1))) (qac true a31) fun a38 H p w =>
 dq false false 11 1807 (b27 + 11) H p w (fun _ => idxS 1 a36 a38) (qac true a31) fun a39 H p w =>
 dq true false 12 3855 (b27 + 12) H p w (fun H => qaf H a39) (qac true a31) fun a40 H p w =>
 de 8191 H p w (call (.f qbk) [a35, a40] (qaq 8191 p H)) (qac true a31) fun a41 H p w =>
 dq false false 14 16383 (b27 + 14) H p w (fun _ => qbj a31 a41 (.bool false)) (some true) fun a42 H p w =>
 dz2 p H fun H =>
 cd a42 (
 qsl call g4 x0 x7 H) (
 q4e2 H)
def qjq (call : Ev.Call) (q4e2 : Hp → R1) (x0 x1 : AV) (n : Nat) : AV → Hp → R1 :=
 Nat.rec (motive := fun _ => AV → Hp → R1) (fun _ _ => .bad) (fun _ ih => qw5 call q4e2 x0 x1 ih) n
def qw6 (call : Ev.Call) (q4e2 : Hp → R1) (x0 x1 : AV) : AV → Hp → R1 := qjq call q4e2 x0 x1 qba
def qsk (call : Ev.Call) (g1 : AV → Hp → R1) (x0 x1 x6 : AV) (H : Hp) : R1 :=
 qw6 call (fun H => qhp call g1 x6 H) x0 x1 x6 H
def qmc (call : Ev.Call) (q1e0 : Hp → R1) (x0 x1 x2 : AV) (g1 : AV → Hp → R1) (x6 : AV) (H : Hp) : R1 :=
 vq (intV (qaa .lss).f x6 x2) H fun a44 H =>
 cd a44 (
 qsk call g1 x0 x1 x6 H) (
 q1e0 H)
def qcx (call : Ev.Call) (q1e0 : Hp → R1) (x0 x1 x2 : AV) (n : Nat) : AV → Hp → R1 :=
 Nat.rec (motive := fun _ => AV → Hp → R1) (fun _ _ => .bad) (fun _ ih => qmc call q1e0 x0 x1 x2 ih) n
def qpv (call : Ev.Call) (q1e0 : Hp → R1) (x0 x1 x2 : AV) : AV → Hp → R1 := qcx call q1e0 x0 x1 x2 qba
def qw4 (call : Ev.Call) (x0 x1 x2 : AV) (H : Hp) : R1 :=
 vq (intV (qaa .add).f x1 (.int .i64 (.ofNat 1))) H fun a0 H =>
 qpv call (fun H => .ok (.tup []) H) x0 x1 x2 a0 H
def o_ins (call : Ev.Call) (x0 x1 x2 : AV) (H : Hp) : R1 := qw4 call x0 x1 x2 H
def qsm (call : Ev.Call) (g2 : AV → Hp → R1) (x10 : AV) (H : Hp) : R1 :=
 vq (intV (qaa .sub).f x10 (.int .i64 (.ofNat 1))) H fun a3 H =>
 g2 a3 H
def qoh (call : Ev.Call) (g2 : AV → Hp → R1) (x0 x6 x7 x10 : AV) (H : Hp) : R1 :=
 dz 0 H fun b5 H =>
 dq false false 0 0 (b5 + 0) H [] [] (fun _ => .val x0) (some true) fun a6 H p w =>
 dq false false 1 0 (b5 + 1) H p w (fun _ => .val x6) (some true) fun a7 H p w =>
 dq false false 2 0 (b5 + 2) H p w (fun _ => .val x0) (some true) fun a8 H p w =>
 dq false false 3 0 (b5 + 3) H p w (fun _ => .val x6) (some true) fun a9 H p w =>
 dq false false 4 0 (b5 + 4) H p w (fun _ => .val x10) (some true) fun a10 H p w =>
 dq false false 5 24 (b5 + 5) H p w (fun _ => intV (qaa .add).f a9 a10) (some true) fun a11 H p w =>
 dq false false 6 0 (b5 + 6) H p w (fun _ => .val x0) (some true) fun a12 H p w =>
 dq false false 7 0 (b5 + 7) H p w (fun _ => .val x6) (some true) fun a13 H p w =>
 dq false false 8 0 (b5 + 8) H p w (fun _ => .val x10) (some true) fun a14 H p w =>
 dq false false 9 384 (b5 + 9) H p w (fun _ => intV (qaa .add).f a13 a14) (some true) fun a15 H p w =>
 dq false false 10 960 (b5 + 10) H p w (fun _ => idxS 1 a12 a15) (some true) fun a16 H p w =>
 dq true false 11 1984 (b5 + 11) H p w (fun H => qaf H a16) (some true) fun a17 H p w =>
 dq false false 12 0 (b5 + 12) H p w (fun _ => .val x0) (some true) fun a18 H p w =>
 dq false false 13 0 (b5 + 13) H p w (fun _ => .val x6) (some true) fun a19 H p w =>
 dq false false 14 12288 (b5 + 14) H p w (fun _ => idxS 1 a18 a19) (some true) fun a20 H p w =>
 dq true false 15 28672 (b5 + 15) H p w (fun H => qaf H a20) (some true) fun a21 H p w =>
 dq false false 16 65475 (b5 + 16) H p w (fun _ => idxS 1 a6 a7) (some true) fun a22 H p w =>
 de 131011 H p w (qao (qaq 131011 p H) a22 a17) (some true) fun _ H p w =>
 dq false false 18 262143 (b5 + 18) H p w (fun _ => idxS 1 a8 a11) (some true) fun a24 H p w =>
 de 524287 H p w (qao (qaq 524287 p H) a24 a21) (some true) fun _ H p w =>
 dz2 p H fun H =>
 ve (call (.f qja) [x0, x7, x10, x6] H) fun a26 H =>
 qsm call g2 x10 H
def qiz (call : Ev.Call) (q2e2 : Hp → R1) (x0 x6 x7 : AV) (g2 : AV → Hp → R1) (x10 : AV) (H : Hp) : R1 :=
 vq (intV (qaa .geq).f x10 (.int .i64 (.ofNat 0))) H fun a28 H =>
 cd a28 (
 qoh call g2 x0 x6 x7 x10 H) (
 q2e2 H)
def qfa (call : Ev.Call) (q2e2 : Hp → R1) (x0 x6 x7 : AV) (n : Nat) : AV → Hp → R1 :=
 Nat.rec (motive := fun _ => AV → Hp → R1) (fun _ _ => .bad) (fun _ ih => qiz call q2e2 x0 x6 x7 ih) n
def qsn (call : Ev.Call) (q2e2 : Hp → R1) (x0 x6 x7 : AV) : AV → Hp → R1 := qfa call q2e2 x0 x6 x7 qba
def qdq (call : Ev.Call) (x0 x6 x7 x8 : AV) (H : Hp) : R1 :=
 vq (intV (qaa .sub).f x8 (.int .i64 (.ofNat 1))) H fun a1 H =>
 qsn call (fun H => .ok (.tup []) H) x0 x6 x7 a1 H
def qog (call : Ev.Call) (g32 : AV → Hp → R1) (x9 : AV) (H : Hp) : R1 :=
 vq (intV (qaa .sub).f x9 (.int .i64 (.ofNat 1))) H fun a33 H =>
 g32 a33 H
def qof (call : Ev.Call) (g32 : AV → Hp → R1) (x0 x6 x8 x9 : AV) (H : Hp) : R1 :=
 ve (call (.f qja) [x0, x9, x8, x6] H) fun a35 H =>
 qog call g32 x9 H
def qg4 (call : Ev.Call) (q32e0 : Hp → R1) (x0 x6 x8 : AV) (g32 : AV → Hp → R1) (x9 : AV) (H : Hp) : R1 :=
 vq (intV (qaa .geq).f x9 (.int .i64 (.ofNat 0))) H fun a37 H =>
 cd a37 (
 qof call g32 x0 x6 x8 x9 H) (
 q32e0 H)
def qdp (call : Ev.Call) (q32e0 : Hp → R1) (x0 x6 x8 : AV) (n : Nat) : AV → Hp → R1 :=
 Nat.rec (motive := fun _ => AV → Hp → R1) (fun _ _ => .bad) (fun _ ih => qg4 call q32e0 x0 x6 x8 ih) n
def qoi (call : Ev.Call) (q32e0 : Hp → R1) (x0 x6 x8 : AV) : AV → Hp → R1 := qdp call q32e0 x0 x6 x8 qba
def qw7 (call : Ev.Call) (x0 x1 x2 : AV) (H : Hp) : R1 :=
 vq (intV (qaa .sub).f x2 x1) H fun a0 H =>
 vq (intV (qaa .sub).f a0 (.int .i64 (.ofNat 1))) H fun a30 H =>
 vq (intV (qaa .quo).f a30 (.int .i64 (.ofNat 2))) H fun a31 H =>
 qoi call (fun H => qdq call x0 x1 (.int .i64 (.ofNat 0)) a0 H) x0 x1 a0 a31 H
def o_heap (call : Ev.Call) (x0 x1 x2 : AV) (H : Hp) : R1 := qw7 call x0 x1 x2 H
def qsp (call : Ev.Call) (g10 : AV → Hp → R1) (x9 : AV) (H : Hp) : R1 :=
 vq (intV (qaa .add).f x9 (.int .i64 (.ofNat 1))) H fun a11 H =>
 g10 a11 H
def qi0 (call : Ev.Call) (g10 : AV → Hp → R1) (x0 x1 x9 x10 : AV) (H : Hp) : R1 :=
 dz 0 H fun b17 H =>
 dq false false 0 0 (b17 + 0) H [] [] (fun _ => .val x0) (some true) fun a18 H p w =>
 dq false false 1 0 (b17 + 1) H p w (fun _ => .val x9) (some true) fun a19 H p w =>
 dq false false 2 0 (b17 + 2) H p w (fun _ => .val x0) (some true) fun a20 H p w =>
 dq false false 3 0 (b17 + 3) H p w (fun _ => .val x1) (some true) fun a21 H p w =>
 dq false false 4 0 (b17 + 4) H p w (fun _ => .val x10) (some true) fun a22 H p w =>
 dq false false 5 24 (b17 + 5) H p w (fun _ => intV (qaa .add).f a21 a22) (some true) fun a23 H p w =>
 dq false false 6 0 (b17 + 6) H p w (fun _ => .val x0) (some true) fun a24 H p w =>
 dq false false 7 0 (b17 + 7) H p w (fun _ => .val x1) (some true) fun a25 H p w =>
 dq false false 8 0 (b17 + 8) H p w (fun _ => .val x10) (some true) fun a26 H p w =>
 dq false false 9 384 (b17 + 9) H p w (fun _ => intV (qaa .add).f a25 a26) (some true) fun a27 H p w =>
 dq false false 10 960 (b17 + 10) H p w (fun _ => idxS 1 a24 a27) (some true) fun a28 H p w =>
 dq true false 11 1984 (b17 + 11) H p w (fun H => qaf H a28) (some true) fun a29 H p w =>
 dq false false 12 0 (b17 + 12) H p w (fun _ => .val x0) (some true) fun a30 H p w =>
 dq false false 13 0 (b17 + 13) H p w (fun _ => .val x9) (some true) fun a31 H p w =>
 dq false false 14 12288 (b17 + 14) H p w (fun _ => idxS 1 a30 a31) (some true) fun a32 H p w =>
 dq true false 15 28672 (b17 + 15) H p w (fun H => qaf H a32) (some true) fun a33 H p w =>
 dq false false 16 65475 (b17 + 16) H p w (fun _ => idxS 1 a18 a19) (some true) fun a34 H p w =>
 de 131011 H p w (qao (qaq 131011 p H) a34 a29) (some true) fun _ H p w =>
 dq false false 18 262143 (b17 + 18) H p w (fun _ => idxS 1 a20 a23) (some true) fun a36 H p w =>
 de 524287 H p w (qao (qaq 524287 p H) a36 a33) (some true) fun _ H p w =>
 dz2 p H fun H =>
 qsp call g10 x9 H
def qso (call : Ev.Call) (g10 : AV → Hp → R1) (x0 x1 x6 x7 x8 x9 : AV) (H : Hp) : R1 :=
 ve (call (.f qed) [x7] H) fun a13 H =>
 vq (intV (qaa .sub).f x8 (.int .u64 (.ofNat 1))) H fun a14 H =>
 vq (intV (qaa .and).f a13 a14) H fun a15 H =>
 vq (qh9 .i64 a15) H fun a16 H =>
 vq (intV (qaa .geq).f a16 x6) H fun a39 H =>
 cd a39 (
 vq (intV (qaa .sub).f a16 x6) H fun a40 H =>
 qi0 call g10 x0 x1 x9 a40 H) (
 qi0 call g10 x0 x1 x9 a16 H)
def qsq (call : Ev.Call) (q10e0 : Hp → R1) (x0 x1 x6 x7 x8 : AV) (g10 : AV → Hp → R1) (x9 : AV) (H : Hp) : R1 :=
 vq (intV (qaa .quo).f x6 (.int .i64 (.ofNat 4))) H fun a42 H =>
 vq (intV (qaa .mul).f a42 (.int .i64 (.ofNat 2))) H fun a43 H =>
 vq (intV (qaa .add).f x1 a43) H fun a44 H =>
 vq (intV (qaa .add).f a44 (.int .i64 (.ofNat 1))) H fun a45 H =>
 vq (intV (qaa .leq).f x9 a45) H fun a46 H =>
 cd a46 (
 qso call g10 x0 x1 x6 x7 x8 x9 H) (
 q10e0 H)
def qd2 (call : Ev.Call) (q10e0 : Hp → R1) (x0 x1 x6 x7 x8 : AV) (n : Nat) : AV → Hp → R1 :=
 Nat.rec (motive := fun _ => AV → Hp → R1) (fun _ _ => .bad) (fun _ ih => qsq call q10e0 x0 x1 x6 x7 x8 ih) n
def qsr (call : Ev.Call) (q10e0 : Hp → R1) (x0 x1 x6 x7 x8 : AV) : AV → Hp → R1 := qd2 call q10e0 x0 x1 x6 x7 x8 qba
def q18 (call : Ev.Call) (x0 x1 x2 : AV) (H : Hp) : R1 :=
 vq (intV (qaa .sub).f x2 x1) H fun a0 H =>
 vq (intV (qaa .geq).f a0 (.int .i64 (.ofNat 8))) H fun a1 H =>
 cd a1 (
 vq (qh9 .u64 a0) H fun a2 H =>
 vq (.new (.ptr H.nx 0) (qae 0 [.int .u64 (.ofNat 0)])) H fun a3 H =>
 ve (qao H a3 a2) fun _ H =>
 ve (call (.f qi8) [a0] H) fun a5 H =>
 vq (intV (qaa .quo).f a0 (.int .i64 (.ofNat 4))) H fun a6 H =>
 vq (intV (qaa .mul).f a6 (.int .i64 (.ofNat 2))) H fun a7 H =>
 vq (intV (qaa .add).f x1 a7) H fun a8 H =>
 vq (intV (qaa .sub).f a8 (.int .i64 (.ofNat 1))) H fun a9 H =>
 qsr call (fun H => .ok (.tup []) H) x0 x1 a0 a3 a5 a9 H) (
 .ok (.tup []) H)
def o_brk (call : Ev.Call) (x0 x1 x2 : AV) (H : Hp) : R1 := q18 call x0 x1 x2 H
def qit (call : Ev.Call) (x9 x11 : AV) (H : Hp) : R1 :=
 vq (qaf H x9) H fun a11 H =>
 vq (intV (qaa .eql).f a11 (.int .i64 (.ofNat 0))) H fun a12 H =>
 cd a12 (
 .ok (.tup [x11, (.int .i64 (.ofNat 1))]) H) (
 vq (intV (qaa .eql).f a11 (.int .i64 (.ofNat 12))) H fun a13 H =>
 cd a13 (
 .ok (.tup [x11, (.int .i64 (.ofNat 2))]) H) (
 .ok (.tup [x11, (.int .i64 (.ofNat 0))]) H))
def qis (call : Ev.Call) (x0 x9 x10 x11 x12 : AV) (H : Hp) : R1 :=
 ve (call (.f qmn) [x0, x10, x11, x12, x9] H) fun a16 H =>
 qit call x9 a16 H
def q1y (call : Ev.Call) (x0 x1 x2 : AV) (H : Hp) : R1 :=
 vq (intV (qaa .sub).f x2 x1) H fun a0 H =>
 vq (.new (.ptr H.nx 0) (qae 0 [.int .i64 (.ofNat 0)])) H fun a1 H =>
 vq (intV (qaa .quo).f a0 (.int .i64 (.ofNat 4))) H fun a2 H =>
 vq (intV (qaa .mul).f a2 (.int .i64 (.ofNat 1))) H fun a3 H =>
 vq (intV (qaa .add).f x1 a3) H fun a4 H =>
 vq (intV (qaa .quo).f a0 (.int .i64 (.ofNat 4))) H fun a5 H =>
 vq (intV (qaa .mul).f a5 (.int .i64 (.ofNat 2))) H fun a6 H =>
 vq (intV (qaa .add).f x1 a6) H fun a7 H =>
 vq (intV (qaa .quo).f a0 (.int .i64 (.ofNat 4))) H fun a8 H =>
 vq (intV (qaa .mul).f a8 (.int .i64 (.ofNat 3))) H fun a9 H =>
 vq (intV (qaa .add).f x1 a9) H fun a10 H =>
 vq (intV (qaa .geq).f a0 (.int .i64 (.ofNat 8))) H fun a15 H =>
 cd a15 (
 vq (intV (qaa .geq).f a0 (.int .i64 (.ofNat 50))) H fun a18 H =>
 cd a18 (
 ve (call (.f qds) [x0, a4, a1] H) fun a19 H =>
 ve (call (.f qds) [x0, a7, a1] H) fun a20 H =>
 ve (call (.f qds) [x0, a10, a1] H) fun a21 H =>
 qis call x0 a1 a19 a20 a21 H) (
 qis call x0 a1 a4 a7 a10 H)) (
 qit call a1 a7 H)
def o_piv (call : Ev.Call) (x0 x1 x2 : AV) (H : Hp) : R1 := q1y call x0 x1 x2 H
def qr7 (call : Ev.Call) (g1 : AV → AV → Hp → R1) (x0 x6 x7 : AV) (H : Hp) : R1 :=
 dz 0 H fun b2 H =>
 dq false false 0 0 (b2 + 0) H [] [] (fun _ => .val x0) (some true) fun a3 H p w =>
 dq false false 1 0 (b2 + 1) H p w (fun _ => .val x6) (some true) fun a4 H p w =>
 dq false false 2 0 (b2 + 2) H p w (fun _ => .val x0) (some true) fun a5 H p w =>
 dq false false 3 0 (b2 + 3) H p w (fun _ => .val x7) (some true) fun a6 H p w =>
 dq false false 4 0 (b2 + 4) H p w (fun _ => .val x0) (some true) fun a7 H p w =>
 dq false false 5 0 (b2 + 5) H p w (fun _ => .val x7) (some true) fun a8 H p w =>
 dq false false 6 48 (b2 + 6) H p w (fun _ => idxS 1 a7 a8) (some true) fun a9 H p w =>
 dq true false 7 112 (b2 + 7) H p w (fun H => qaf H a9) (some true) fun a10 H p w =>
 dq false false 8 0 (b2 + 8) H p w (fun _ => .val x0) (some true) fun a11 H p w =>
 dq false false 9 0 (b2 + 9) H p w (fun _ => .val x6) (some true) fun a12 H p w =>
 dq false false 10 768 (b2 + 10) H p w (fun _ => idxS 1 a11 a12) (some true) fun a13 H p w =>
 dq true false 11 1792 (b2 + 11) H p w (fun H => qaf H a13) (some true) fun a14 H p w =>
 dq false false 12 4083 (b2 + 12) H p w (fun _ => idxS 1 a3 a4) (some true) fun a15 H p w =>
 de 8179 H p w (qao (qaq 8179 p H) a15 a10) (some true) fun _ H p w =>
 dq false false 14 16383 (b2 + 14) H p w (fun _ => idxS 1 a5 a6) (some true) fun a17 H p w =>
 de 32767 H p w (qao (qaq 32767 p H) a17 a14) (some true) fun _ H p w =>
 dz2 p H fun H =>
 vq (intV (qaa .add).f x6 (.int .i64 (.ofNat 1))) H fun a19 H =>
 vq (intV (qaa .sub).f x7 (.int .i64 (.ofNat 1))) H fun a20 H =>
 g1 a19 a20 H
def qwv (call : Ev.Call) (q1e0 : Hp → R1) (x0 : AV) (g1 : AV → AV → Hp → R1) (x6 x7 : AV) (H : Hp) : R1 :=
 vq (intV (qaa .lss).f x6 x7) H fun a22 H =>
 cd a22 (
 qr7 call g1 x0 x6 x7 H) (
 q1e0 H)
def ql9 (call : Ev.Call) (q1e0 : Hp → R1) (x0 : AV) (n : Nat) : AV → AV → Hp → R1 :=
 Nat.rec (motive := fun _ => AV → AV → Hp → R1) (fun _ _ _ => .bad) (fun _ ih => qwv call q1e0 x0 ih) n
def qww (call : Ev.Call) (q1e0 : Hp → R1) (x0 : AV) : AV → AV → Hp → R1 := ql9 call q1e0 x0 qba
def q1x (call : Ev.Call) (x0 x1 x2 : AV) (H : Hp) : R1 :=
 vq (intV (qaa .sub).f x2 (.int .i64 (.ofNat 1))) H fun a0 H =>
 qww call (fun H => .ok (.tup []) H) x0 x1 a0 H
def o_rev (call : Ev.Call) (x0 x1 x2 : AV) (H : Hp) : R1 := q1x call x0 x1 x2 H
def qa1 (call : Ev.Call) (H : Hp) : R1 :=
 .ok (.bool false) H
def qcb (call : Ev.Call) (g2 : AV → AV → Hp → R1) (x7 x8 : AV) (H : Hp) : R1 :=
 vq (intV (qaa .add).f x8 (.int .i64 (.ofNat 1))) H fun a3 H =>
 g2 x7 a3 H
def qn3 (call : Ev.Call) (g27 : AV → Hp → R1) (x10 : AV) (H : Hp) : R1 :=
 vq (intV (qaa .add).f x10 (.int .i64 (.ofNat 1))) H fun a28 H =>
 g27 a28 H
def qn2 (call : Ev.Call) (g27 : AV → Hp → R1) (x0 x10 : AV) (H : Hp) : R1 :=
 dz 0 H fun b30 H =>
 dq false false 0 0 (b30 + 0) H [] [] (fun _ => .val x0) (some true) fun a31 H p w =>
 dq false false 1 0 (b30 + 1) H p w (fun _ => .val x10) (some true) fun a32 H p w =>
 dq false false 2 0 (b30 + 2) H p w (fun _ => .val x0) (some true) fun a33 H p w =>
 dq false false 3 0 (b30 + 3) H p w (fun _ => .val x10) (some true) fun a34 H p w =>
 dq false false 4 8 (b30 + 4) H p w (fun _ => intV (qaa .sub).f a34 (.int .i64 (.ofNat 1))) (some true) fun a35 H p w =>
 dq false false 5 0 (b30 + 5) H p w (fun _ => .val x0) (some true) fun a36 H p w =>
 dq false false 6 0 (b30 + 6) H p w (fun _ => .val x10) (some true) fun a37 H p w =>
 dq false false 7 64 (b30 + 7) H p w (fun _ => intV (qaa .sub).f a37 (.int .i64 (.ofNat 1))) (some true) fun a38 H p w =>
 dq false false 8 224 (b30 + 8) H p w (fun _ => idxS 1 a36 a38) (some true) fun a39 H p w =>
 dq true false 9 480 (b30 + 9) H p w (fun H => qaf H a39) (some true) fun a40 H p w =>
 dq false false 10 0 (b30 + 10) H p w (fun _ => .val x0) (some true) fun a41 H p w =>
 dq false false 11 0 (b30 + 11) H p w (fun _ => .val x10) (some true) fun a42 H p w =>
 dq false false 12 3072 (b30 + 12) H p w (fun _ => idxS 1 a41 a42) (some true) fun a43 H p w =>
 dq true false 13 7168 (b30 + 13) H p w (fun H => qaf H a43) (some true) fun a44 H p w =>
 dq false false 14 16355 (b30 + 14) H p w (fun _ => idxS 1 a31 a32) (some true) fun a45 H p w =>
 de 32739 H p w (qao (qaq 32739 p H) a45 a40) (some true) fun _ H p w =>
 dq false false 16 65535 (b30 + 16) H p w (fun _ => idxS 1 a33 a35) (some true) fun a47 H p w =>
 de 131071 H p w (qao (qaq 131071 p H) a47 a44) (some true) fun _ H p w =>
 dz2 p H fun H =>
 qn3 call g27 x10 H
def qn1 (call : Ev.Call) (q27e6 : Hp → R1) (g27 : AV → Hp → R1) (x0 x10 : AV) (H : Hp) : R1 :=
 dz 0 H fun b50 H =>
 dq false false 0 0 (b50 + 0) H [] [] (fun _ => .val x0) (some true) fun a51 H p w =>
 dq false false 1 0 (b50 + 1) H p w (fun _ => .val x10) (some true) fun a52 H p w =>
 dq false false 2 3 (b50 + 2) H p w (fun _ => idxS 1 a51 a52) (some true) fun a53 H p w =>
 dq true false 3 7 (b50 + 3) H p w (fun H => qaf H a53) (some true) fun a54 H p w =>
 dq false false 4 0 (b50 + 4) H p w (fun _ => .val x0) (some true) fun a55 H p w =>
 dq false false 5 0 (b50 + 5) H p w (fun _ => .val x10) (some true) fun a56 H p w =>
 dq false false 6 32 (b50 + 6) H p w (fun _ => intV (qaa .sub).f a56 (.int .i64 (.ofNat 1))) (some true) fun a57 H p w =>
 dq false false 7 112 (b50 + 7) H p w (fun _ => idxS 1 a55 a57) (some true) fun a58 H p w =>
 dq true false 8 240 (b50 + 8) H p w (fun H => qaf H a58) (some true) fun a59 H p w =>
 de 511 H p w (call (.f qbk) [a54, a59] (qaq 511 p H)) (some true) fun a60 H p w =>
 dq false false 10 1023 (b50 + 10) H p w (fun _ => (unS .not).f a60) (some true) fun a61 H p w =>
 dz2 p H fun H =>
 cd a61 (
 q27e6 H) (
 qn2 call g27 x0 x10 H)
def qn4 (call : Ev.Call) (q27e6 : Hp → R1) (x0 x2 : AV) (g27 : AV → Hp → R1) (x10 : AV) (H : Hp) : R1 :=
 vq (intV (qaa .lss).f x10 x2) H fun a63 H =>
 cd a63 (
 qn1 call q27e6 g27 x0 x10 H) (
 q27e6 H)
def qdk (call : Ev.Call) (q27e6 : Hp → R1) (x0 x2 : AV) (n : Nat) : AV → Hp → R1 :=
 Nat.rec (motive := fun _ => AV → Hp → R1) (fun _ _ => .bad) (fun _ ih => qn4 call q27e6 x0 x2 ih) n
def qn6 (call : Ev.Call) (q27e6 : Hp → R1) (x0 x2 : AV) : AV → Hp → R1 := qdk call q27e6 x0 x2 qba
def qbx (call : Ev.Call) (g2 : AV → AV → Hp → R1) (x0 x2 x7 x8 : AV) (H : Hp) : R1 :=
 vq (intV (qaa .sub).f x2 x7) H fun a24 H =>
 vq (intV (qaa .geq).f a24 (.int .i64 (.ofNat 2))) H fun a25 H =>
 cd a25 (
 vq (intV (qaa .add).f x7 (.int .i64 (.ofNat 1))) H fun a26 H =>
 qn6 call (fun H => qcb call g2 x7 x8 H) x0 x2 a26 H) (
 qcb call g2 x7 x8 H)
def qn0 (call : Ev.Call) (g68 : AV → Hp → R1) (x9 : AV) (H : Hp) : R1 :=
 vq (intV (qaa .sub).f x9 (.int .i64 (.ofNat 1))) H fun a69 H =>
 g68 a69 H
def qnz (call : Ev.Call) (g68 : AV → Hp → R1) (x0 x9 : AV) (H : Hp) : R1 :=
 dz 0 H fun b71 H =>
 dq false false 0 0 (b71 + 0) H [] [] (fun _ => .val x0) (some true) fun a72 H p w =>
 dq false false 1 0 (b71 + 1) H p w (fun _ => .val x9) (some true) fun a73 H p w =>
 dq false false 2 0 (b71 + 2) H p w (fun _ => .val x0) (some true) fun a74 H p w =>
 dq false false 3 0 (b71 + 3) H p w (fun _ => .val x9) (some true) fun a75 H p w =>
 dq false false 4 8 (b71 + 4) H p w (fun _ => intV (qaa .sub).f a75 (.int .i64 (.ofNat 1))) (some true) fun a76 H p w =>
 dq false false 5 0 (b71 + 5) H p w (fun _ => .val x0) (some true) fun a77 H p w =>
 dq false false 6 0 (b71 + 6) H p w (fun _ => .val x9) (some true) fun a78 H p w =>
 dq false false 7 64 (b71 + 7) H p w (fun _ => intV (qaa .sub).f a78 (.int .i64 (.ofNat 1))) (some true) fun a79 H p w =>
 dq false false 8 224 (b71 + 8) H p w (fun _ => idxS 1 a77 a79) (some true) fun a80 H p w =>
 dq true false 9 480 (b71 + 9) H p w (fun H => qaf H a80) (some true) fun a81 H p w =>
 dq false false 10 0 (b71 + 10) H p w (fun _ => .val x0) (some true) fun a82 H p w =>
 dq false false 11 0 (b71 + 11) H p w (fun _ => .val x9) (some true) fun a83 H p w =>
 dq false false 12 3072 (b71 + 12) H p w (fun _ => idxS 1 a82 a83) (some true) fun a84 H p w =>
 dq true false 13 7168 (b71 + 13) H p w (fun H => qaf H a84) (some true) fun a85 H p w =>
 dq false false 14 16355 (b71 + 14) H p w (fun _ => idxS 1 a72 a73) (some true) fun a86 H p w =>
 de 32739 H p w (qao (qaq 32739 p H) a86 a81) (some true) fun _ H p w =>
 dq false false 16 65535 (b71 + 16) H p w (fun _ => idxS 1 a74 a76) (some true) fun a88 H p w =>
 de 131071 H p w (qao (qaq 131071 p H) a88 a85) (some true) fun _ H p w =>
 dz2 p H fun H =>
 qn0 call g68 x9 H
def qk3 (call : Ev.Call) (q68e4 : Hp → R1) (g68 : AV → Hp → R1) (x0 x9 : AV) (H : Hp) : R1 :=
 dz 0 H fun b91 H =>
 dq false false 0 0 (b91 + 0) H [] [] (fun _ => .val x0) (some true) fun a92 H p w =>
 dq false false 1 0 (b91 + 1) H p w (fun _ => .val x9) (some true) fun a93 H p w =>
 dq false false 2 3 (b91 + 2) H p w (fun _ => idxS 1 a92 a93) (some true) fun a94 H p w =>
 dq true false 3 7 (b91 + 3) H p w (fun H => qaf H a94) (some true) fun a95 H p w =>
 dq false false 4 0 (b91 + 4) H p w (fun _ => .val x0) (some true) fun a96 H p w =>
 dq false false 5 0 (b91 + 5) H p w (fun _ => .val x9) (some true) fun a97 H p w =>
 dq false false 6 32 (b91 + 6) H p w (fun _ => intV (qaa .sub).f a97 (.int .i64 (.ofNat 1))) (some true) fun a98 H p w =>
 dq false false 7 112 (b91 + 7) H p w (fun _ => idxS 1 a96 a98) (some true) fun a99 H p w =>
 dq true false 8 240 (b91 + 8) H p w (fun H => qaf H a99) (some true) fun a100 H p w =>
 de 511 H p w (call (.f qbk) [a95, a100] (qaq 511 p H)) (some true) fun a101 H p w =>
 dq false false 10 1023 (b91 + 10) H p w (fun _ => (unS .not).f a101) (some true) fun a102 H p w =>
 dz2 p H fun H =>
 cd a102 (
 q68e4 H) (
 qnz call g68 x0 x9 H)
def qgy (call : Ev.Call) (q68e4 : Hp → R1) (x0 : AV) (g68 : AV → Hp → R1) (x9 : AV) (H : Hp) : R1 :=
 vq (intV (qaa .geq).f x9 (.int .i64 (.ofNat 1))) H fun a104 H =>
 cd a104 (
 qk3 call q68e4 g68 x0 x9 H) (
 q68e4 H)
def qcs (call : Ev.Call) (q68e4 : Hp → R1) (x0 : AV) (n : Nat) : AV → Hp → R1 :=
 Nat.rec (motive := fun _ => AV → Hp → R1) (fun _ _ => .bad) (fun _ ih => qgy call q68e4 x0 ih) n
def qn5 (call : Ev.Call) (q68e4 : Hp → R1) (x0 : AV) : AV → Hp → R1 := qcs call q68e4 x0 qba
def qk2 (call : Ev.Call) (g2 : AV → AV → Hp → R1) (x0 x1 x2 x7 x8 : AV) (H : Hp) : R1 :=
 dz 0 H fun b5 H =>
 dq false false 0 0 (b5 + 0) H [] [] (fun _ => .val x0) (some true) fun a6 H p w =>
 dq false false 1 0 (b5 + 1) H p w (fun _ => .val x7) (some true) fun a7 H p w =>
 dq false false 2 0 (b5 + 2) H p w (fun _ => .val x0) (some true) fun a8 H p w =>
 dq false false 3 0 (b5 + 3) H p w (fun _ => .val x7) (some true) fun a9 H p w =>
 dq false false 4 8 (b5 + 4) H p w (fun _ => intV (qaa .sub).f a9 (.int .i64 (.ofNat 1))) (some true) fun a10 H p w =>
 dq false false 5 0 (b5 + 5) H p w (fun _ => .val x0) (some true) fun a11 H p w =>
 dq false false 6 0 (b5 + 6) H p w (fun _ => .val x7) (some true) fun a12 H p w =>
 dq false false 7 64 (b5 + 7) H p w (fun _ => intV (qaa .sub).f a12 (.int .i64 (.ofNat 1))) (some true) fun a13 H p w =>
 dq false false 8 224 (b5 + 8) H p w (fun _ => idxS 1 a11 a13) (some true) fun a14 H p w =>
 dq true false 9 480 (b5 + 9) H p w (fun H => qaf H a14) (some true) fun a15 H p w =>
 dq false false 10 0 (b5 + 10) H p w (fun _ => .val x0) (some true) fun a16 H p w =>
 dq false false 11 0 (b5 + 11) H p w (fun _ => .val x7) (some true) fun a17 H p w =>
 dq false false 12 3072 (b5 + 12) H p w (fun _ => idxS 1 a16 a17) (some true) fun a18 H p w =>
 dq true false 13 7168 (b5 + 13) H p w (fun H => qaf H a18) (some true) fun a19 H p w =>
 dq false false 14 16355 (b5 + 14) H p w (fun _ => idxS 1 a6 a7) (some true) fun a20 H p w =>
 de 32739 H p w (qao (qaq 32739 p H) a20 a15) (some true) fun _ H p w =>
 dq false false 16 65535 (b5 + 16) H p w (fun _ => idxS 1 a8 a10) (some true) fun a22 H p w =>
 de 131071 H p w (qao (qaq 131071 p H) a22 a19) (some true) fun _ H p w =>
 dz2 p H fun H =>
 vq (intV (qaa .sub).f x7 x1) H fun a65 H =>
 vq (intV (qaa .geq).f a65 (.int .i64 (.ofNat 2))) H fun a66 H =>
 cd a66 (
 vq (intV (qaa .sub).f x7 (.int .i64 (.ofNat 1))) H fun a67 H =>
 qn5 call (fun H => qbx call g2 x0 x2 x7 x8 H) x0 a67 H) (
 qbx call g2 x0 x2 x7 x8 H)
def qk1 (call : Ev.Call) (q2r : AV → Hp → R1) (g2 : AV → AV → Hp → R1) (x0 x1 x2 x7 x8 : AV) (H : Hp) : R1 :=
 vq (intV (qaa .sub).f x2 x1) H fun a106 H =>
 vq (intV (qaa .lss).f a106 (.int .i64 (.ofNat 50))) H fun a107 H =>
 cd a107 (
 q2r (.bool false) H) (
 qk2 call g2 x0 x1 x2 x7 x8 H)
def qdl (call : Ev.Call) (q2r : AV → Hp → R1) (g2 : AV → AV → Hp → R1) (x0 x1 x2 x7 x8 : AV) (H : Hp) : R1 :=
 vq (intV (qaa .eql).f x7 x2) H fun a109 H =>
 cd a109 (
 q2r (.bool true) H) (
 qk1 call q2r g2 x0 x1 x2 x7 x8 H)
def qk0 (call : Ev.Call) (g111 : AV → Hp → R1) (x7 : AV) (H : Hp) : R1 :=
 vq (intV (qaa .add).f x7 (.int .i64 (.ofNat 1))) H fun a112 H =>
 g111 a112 H
def qk4 (call : Ev.Call) (q111e2 : AV → Hp → R1) (x0 x2 : AV) (g111 : AV → Hp → R1) (x7 : AV) (H : Hp) : R1 :=
 dz 0 H fun b114 H =>
 dq false false 0 0 (b114 + 0) H [] [] (fun _ => .val x7) (some true) fun a115 H p w =>
 dq false false 1 0 (b114 + 1) H p w (fun _ => .val x2) (some true) fun a116 H p w =>
 dq false false 2 3 (b114 + 2) H p w (fun _ => intV (qaa .lss).f a115 a116) (some true) fun a117 H p w =>
 dq false false 3 7 (b114 + 3) H p w (fun _ => .val a117) (some true) fun a118 H p w =>
 dq false false 4 15 (b114 + 4) H p w (fun _ => .val x0) (qac true a118) fun a119 H p w =>
 dq false false 5 15 (b114 + 5) H p w (fun _ => .val x7) (qac true a118) fun a120 H p w =>
 dq false false 6 63 (b114 + 6) H p w (fun _ => idxS 1 a119 a120) (qac true a118) fun a121 H p w =>
 dq true false 7 127 (b114 + 7) H p w (fun H => qaf H a121) (qac true a118) fun a122 H p w =>
 dq false false 8 15 (b114 + 8) H p w (fun _ => .val x0) (qac true a118) fun a123 H p w =>
 dq false false 9 15 (b114 + 9) H p w (fun _ => .val x7) (qac true a118) fun a124 H p w =>
 dq false false 10 527 (b114 + 10) H p w (fun _ => intV (qaa .sub).f a124 (.int .i64 (.ofNat 1))) (qac true a118) fun a125 H p w =>
 dq false false 11 1807 (b114 + 11) H p w (fun _ => idxS 1 a123 a125) (qac true a118) fun a126 H p w =>
 dq true false 12 3855 (b114 + 12) H p w (fun H => qaf H a126) (qac true a118) fun a127 H p w =>
 de 8191 H p w (call (.f qbk) [a122, a127] (qaq 8191 p H)) (qac true a118) fun a128 H p w =>
 dq false false 14 16383 (b114 + 14) H p w (fun _ => (unS .not).f a128) (qac true a118) fun a129 H p w =>
 dq false false 15 32767 (b114 + 15) H p w (fun _ => qbj a118 a129 (.bool false)) (some true) fun a130 H p w =>
 dz2 p H fun H =>
 cd a130 (
 qk0 call g111 x7 H) (
 q111e2 x7 H)
def qe6 (call : Ev.Call) (q111e2 : AV → Hp → R1) (x0 x2 : AV) (n : Nat) : AV → Hp → R1 :=
 Nat.rec (motive := fun _ => AV → Hp → R1) (fun _ _ => .bad) (fun _ ih => qk4 call q111e2 x0 x2 ih) n
def qk5 (call : Ev.Call) (q111e2 : AV → Hp → R1) (x0 x2 : AV) : AV → Hp → R1 := qe6 call q111e2 x0 x2 qba
def qkz (call : Ev.Call) (q2r : AV → Hp → R1) (g2 : AV → AV → Hp → R1) (x0 x1 x2 x7 x8 : AV) (H : Hp) : R1 :=
 qk5 call (fun x7 H => qdl call q2r g2 x0 x1 x2 x7 x8 H) x0 x2 x7 H
def qiu (call : Ev.Call) (q2r : AV → Hp → R1) (q2e0 : Hp → R1) (x0 x1 x2 : AV) (g2 : AV → AV → Hp → R1) (x7 x8 : AV) (H : Hp) : R1 :=
 vq (intV (qaa .lss).f x8 (.int .i64 (.ofNat 5))) H fun a132 H =>
 cd a132 (
 qkz call q2r g2 x0 x1 x2 x7 x8 H) (
 q2e0 H)
def qaz (call : Ev.Call) (q2r : AV → Hp → R1) (q2e0 : Hp → R1) (x0 x1 x2 : AV) (n : Nat) : AV → AV → Hp → R1 :=
 Nat.rec (motive := fun _ => AV → AV → Hp → R1) (fun _ _ _ => .bad) (fun _ ih => qiu call q2r q2e0 x0 x1 x2 ih) n
def qr8 (call : Ev.Call) (q2r : AV → Hp → R1) (q2e0 : Hp → R1) (x0 x1 x2 : AV) : AV → AV → Hp → R1 := qaz call q2r q2e0 x0 x1 x2 qba
def qwx (call : Ev.Call) (x0 x1 x2 : AV) (H : Hp) : R1 :=
 vq (intV (qaa .add).f x1 (.int .i64 (.ofNat 1))) H fun a0 H =>
 qr8 call (fun x6 H => .ok x6 H) (fun H => qa1 call H) x0 x1 x2 a0 (.int .i64 (.ofNat 0)) H
def o_pins (call : Ev.Call) (x0 x1 x2 : AV) (H : Hp) : R1 := qwx call x0 x1 x2 H
def qw2 (call : Ev.Call) (x0 x1 : AV) (H : Hp) : R1 :=
 ve (call (.f qlh) [x0] H) fun a0 H =>
 vg (qac true a0) (.val x1) H fun a1 H =>
 veg (qac true a0) (call (.f qlh) [a1] H) H fun a2 H =>
 vg (qac true a0) ((unS .not).f a2) H fun a3 H =>
 vq (qbj a0 a3 (.bool false)) H fun a4 H =>
 vg (qac false a4) (.val x0) H fun a5 H =>
 vg (qac false a4) (.val x1) H fun a6 H =>
 vg (qac false a4) (intV (qaa .lss).f a5 a6) H fun a7 H =>
 vq (qbj a4 (.bool true) a7) H fun a8 H =>
 .ok a8 H
def o_less (call : Ev.Call) (x0 x1 : AV) (H : Hp) : R1 := qw2 call x0 x1 H
def qa8 (call : Ev.Call) (x9 : AV) (H : Hp) : R1 :=
 .ok x9 H
def qsb (call : Ev.Call) (g20 : AV → AV → Hp → R1) (x0 x9 x10 : AV) (H : Hp) : R1 :=
 dz 0 H fun b21 H =>
 dq false false 0 0 (b21 + 0) H [] [] (fun _ => .val x0) (some true) fun a22 H p w =>
 dq false false 1 0 (b21 + 1) H p w (fun _ => .val x9) (some true) fun a23 H p w =>
 dq false false 2 0 (b21 + 2) H p w (fun _ => .val x0) (some true) fun a24 H p w =>
 dq false false 3 0 (b21 + 3) H p w (fun _ => .val x10) (some true) fun a25 H p w =>
 dq false false 4 0 (b21 + 4) H p w (fun _ => .val x0) (some true) fun a26 H p w =>
 dq false false 5 0 (b21 + 5) H p w (fun _ => .val x10) (some true) fun a27 H p w =>
 dq false false 6 48 (b21 + 6) H p w (fun _ => idxS 1 a26 a27) (some true) fun a28 H p w =>
 dq true false 7 112 (b21 + 7) H p w (fun H => qaf H a28) (some true) fun a29 H p w =>
 dq false false 8 0 (b21 + 8) H p w (fun _ => .val x0) (some true) fun a30 H p w =>
 dq false false 9 0 (b21 + 9) H p w (fun _ => .val x9) (some true) fun a31 H p w =>
 dq false false 10 768 (b21 + 10) H p w (fun _ => idxS 1 a30 a31) (some true) fun a32 H p w =>
 dq true false 11 1792 (b21 + 11) H p w (fun H => qaf H a32) (some true) fun a33 H p w =>
 dq false false 12 4083 (b21 + 12) H p w (fun _ => idxS 1 a22 a23) (some true) fun a34 H p w =>
 de 8179 H p w (qao (qaq 8179 p H) a34 a29) (some true) fun _ H p w =>
 dq false false 14 16383 (b21 + 14) H p w (fun _ => idxS 1 a24 a25) (some true) fun a36 H p w =>
 de 32767 H p w (qao (qaq 32767 p H) a36 a33) (some true) fun _ H p w =>
 dz2 p H fun H =>
 vq (intV (qaa .add).f x9 (.int .i64 (.ofNat 1))) H fun a38 H =>
 vq (intV (qaa .sub).f x10 (.int .i64 (.ofNat 1))) H fun a39 H =>
 g20 a38 a39 H
def qg1 (call : Ev.Call) (q20e0 : AV → Hp → R1) (g20 : AV → AV → Hp → R1) (x0 x9 x10 : AV) (H : Hp) : R1 :=
 vq (intV (qaa .gtr).f x9 x10) H fun a41 H =>
 cd a41 (
 q20e0 x9 H) (
 qsb call g20 x0 x9 x10 H)
def qsa (call : Ev.Call) (g43 : AV → Hp → R1) (x10 : AV) (H : Hp) : R1 :=
 vq (intV (qaa .sub).f x10 (.int .i64 (.ofNat 1))) H fun a44 H =>
 g43 a44 H
def qiw (call : Ev.Call) (q43e4 : AV → Hp → R1) (x0 x1 x9 : AV) (g43 : AV → Hp → R1) (x10 : AV) (H : Hp) : R1 :=
 dz 0 H fun b46 H =>
 dq false false 0 0 (b46 + 0) H [] [] (fun _ => .val x9) (some true) fun a47 H p w =>
 dq false false 1 0 (b46 + 1) H p w (fun _ => .val x10) (some true) fun a48 H p w =>
 dq false false 2 3 (b46 + 2) H p w (fun _ => intV (qaa .leq).f a47 a48) (some true) fun a49 H p w =>
 dq false false 3 7 (b46 + 3) H p w (fun _ => .val a49) (some true) fun a50 H p w =>
 dq false false 4 15 (b46 + 4) H p w (fun _ => .val x0) (qac true a50) fun a51 H p w =>
 dq false false 5 15 (b46 + 5) H p w (fun _ => .val x1) (qac true a50) fun a52 H p w =>
 dq false false 6 63 (b46 + 6) H p w (fun _ => idxS 1 a51 a52) (qac true a50) fun a53 H p w =>
 dq true false 7 127 (b46 + 7) H p w (fun H => qaf H a53) (qac true a50) fun a54 H p w =>
 dq false false 8 15 (b46 + 8) H p w (fun _ => .val x0) (qac true a50) fun a55 H p w =>
 dq false false 9 15 (b46 + 9) H p w (fun _ => .val x10) (qac true a50) fun a56 H p w =>
 dq false false 10 783 (b46 + 10) H p w (fun _ => idxS 1 a55 a56) (qac true a50) fun a57 H p w =>
 dq true false 11 1807 (b46 + 11) H p w (fun H => qaf H a57) (qac true a50) fun a58 H p w =>
 de 4095 H p w (call (.f qbk) [a54, a58] (qaq 4095 p H)) (qac true a50) fun a59 H p w =>
 dq false false 13 8191 (b46 + 13) H p w (fun _ => qbj a50 a59 (.bool false)) (some true) fun a60 H p w =>
 dz2 p H fun H =>
 cd a60 (
 qsa call g43 x10 H) (
 q43e4 x10 H)
def qgz (call : Ev.Call) (q43e4 : AV → Hp → R1) (x0 x1 x9 : AV) (n : Nat) : AV → Hp → R1 :=
 Nat.rec (motive := fun _ => AV → Hp → R1) (fun _ _ => .bad) (fun _ ih => qiw call q43e4 x0 x1 x9 ih) n
def qsf (call : Ev.Call) (q43e4 : AV → Hp → R1) (x0 x1 x9 : AV) : AV → Hp → R1 := qgz call q43e4 x0 x1 x9 qba
def qg0 (call : Ev.Call) (q20e0 : AV → Hp → R1) (g20 : AV → AV → Hp → R1) (x0 x1 x9 x10 : AV) (H : Hp) : R1 :=
 qsf call (fun x10 H => qg1 call q20e0 g20 x0 x9 x10 H) x0 x1 x9 x10 H
def qr9 (call : Ev.Call) (g62 : AV → Hp → R1) (x9 : AV) (H : Hp) : R1 :=
 vq (intV (qaa .add).f x9 (.int .i64 (.ofNat 1))) H fun a63 H =>
 g62 a63 H
def qsc (call : Ev.Call) (q62e2 : AV → Hp → R1) (x0 x1 x10 : AV) (g62 : AV → Hp → R1) (x9 : AV) (H : Hp) : R1 :=
 dz 0 H fun b65 H =>
 dq false false 0 0 (b65 + 0) H [] [] (fun _ => .val x9) (some true) fun a66 H p w =>
 dq false false 1 0 (b65 + 1) H p w (fun _ => .val x10) (some true) fun a67 H p w =>
 dq false false 2 3 (b65 + 2) H p w (fun _ => intV (qaa .leq).f a66 a67) (some true) fun a68 H p w =>
 dq false false 3 7 (b65 + 3) H p w (fun _ => .val a68) (some true) fun a69 H p w =>
 dq false false 4 15 (b65 + 4) H p w (fun _ => .val x0) (qac true a69) fun a70 H p w =>
 dq false false 5 15 (b65 + 5) H p w (fun _ => .val x1) (qac true a69) fun a71 H p w =>
 dq false false 6 63 (b65 + 6) H p w (fun _ => idxS 1 a70 a71) (qac true a69) fun a72 H p w =>
 dq true false 7 127 (b65 + 7) H p w (fun H => qaf H a72) (qac true a69) fun a73 H p w =>
 dq false false 8 15 (b65 + 8) H p w (fun _ => .val x0) (qac true a69) fun a74 H p w =>
 dq false false 9 15 (b65 + 9) H p w (fun _ => .val x9) (qac true a69) fun a75 H p w =>
 dq false false 10 783 (b65 + 10) H p w (fun _ => idxS 1 a74 a75) (qac true a69) fun a76 H p w =>
 dq true false 11 1807 (b65 + 11) H p w (fun H => qaf H a76) (qac true a69) fun a77 H p w =>
 de 4095 H p w (call (.f qbk) [a73, a77] (qaq 4095 p H)) (qac true a69) fun a78 H p w =>
 dq false false 13 8191 (b65 + 13) H p w (fun _ => (unS .not).f a78) (qac true a69) fun a79 H p w =>
 dq false false 14 16383 (b65 + 14) H p w (fun _ => qbj a69 a79 (.bool false)) (some true) fun a80 H p w =>
 dz2 p H fun H =>
 cd a80 (
 qr9 call g62 x9 H) (
 q62e2 x9 H)
def qiv (call : Ev.Call) (q62e2 : AV → Hp → R1) (x0 x1 x10 : AV) (n : Nat) : AV → Hp → R1 :=
 Nat.rec (motive := fun _ => AV → Hp → R1) (fun _ _ => .bad) (fun _ ih => qsc call q62e2 x0 x1 x10 ih) n
def qse (call : Ev.Call) (q62e2 : AV → Hp → R1) (x0 x1 x10 : AV) : AV → Hp → R1 := qiv call q62e2 x0 x1 x10 qba
def qsd (call : Ev.Call) (q20e0 : AV → Hp → R1) (x0 x1 : AV) (g20 : AV → AV → Hp → R1) (x9 x10 : AV) (H : Hp) : R1 :=
 qse call (fun x9 H => qg0 call q20e0 g20 x0 x1 x9 x10 H) x0 x1 x10 x9 H
def qby (call : Ev.Call) (q20e0 : AV → Hp → R1) (x0 x1 : AV) (n : Nat) : AV → AV → Hp → R1 :=
 Nat.rec (motive := fun _ => AV → AV → Hp → R1) (fun _ _ _ => .bad) (fun _ ih => qsd call q20e0 x0 x1 ih) n
def qsg (call : Ev.Call) (q20e0 : AV → Hp → R1) (x0 x1 : AV) : AV → AV → Hp → R1 := qby call q20e0 x0 x1 qba
def q11 (call : Ev.Call) (x0 x1 x2 x3 : AV) (H : Hp) : R1 :=
 dz 0 H fun b0 H =>
 dq false false 0 0 (b0 + 0) H [] [] (fun _ => .val x0) (some true) fun a1 H p w =>
 dq false false 1 0 (b0 + 1) H p w (fun _ => .val x1) (some true) fun a2 H p w =>
 dq false false 2 0 (b0 + 2) H p w (fun _ => .val x0) (some true) fun a3 H p w =>
 dq false false 3 0 (b0 + 3) H p w (fun _ => .val x3) (some true) fun a4 H p w =>
 dq false false 4 0 (b0 + 4) H p w (fun _ => .val x0) (some true) fun a5 H p w =>
 dq false false 5 0 (b0 + 5) H p w (fun _ => .val x3) (some true) fun a6 H p w =>
 dq false false 6 48 (b0 + 6) H p w (fun _ => idxS 1 a5 a6) (some true) fun a7 H p w =>
 dq true false 7 112 (b0 + 7) H p w (fun H => qaf H a7) (some true) fun a8 H p w =>
 dq false false 8 0 (b0 + 8) H p w (fun _ => .val x0) (some true) fun a9 H p w =>
 dq false false 9 0 (b0 + 9) H p w (fun _ => .val x1) (some true) fun a10 H p w =>
 dq false false 10 768 (b0 + 10) H p w (fun _ => idxS 1 a9 a10) (some true) fun a11 H p w =>
 dq true false 11 1792 (b0 + 11) H p w (fun H => qaf H a11) (some true) fun a12 H p w =>
 dq false false 12 4083 (b0 + 12) H p w (fun _ => idxS 1 a1 a2) (some true) fun a13 H p w =>
 de 8179 H p w (qao (qaq 8179 p H) a13 a8) (some true) fun _ H p w =>
 dq false false 14 16383 (b0 + 14) H p w (fun _ => idxS 1 a3 a4) (some true) fun a15 H p w =>
 de 32767 H p w (qao (qaq 32767 p H) a15 a12) (some true) fun _ H p w =>
 dz2 p H fun H =>
 vq (intV (qaa .add).f x1 (.int .i64 (.ofNat 1))) H fun a17 H =>
 vq (intV (qaa .sub).f x2 (.int .i64 (.ofNat 1))) H fun a18 H =>
 qsg call (fun x9 H => qa8 call x9 H) x0 x1 a17 a18 H
def o_peq (call : Ev.Call) (x0 x1 x2 x3 : AV) (H : Hp) : R1 := q11 call x0 x1 x2 x3 H
def qa4 (call : Ev.Call) (x0 x1 x11 : AV) (H : Hp) : R1 :=
 dz 0 H fun b38 H =>
 dq false false 0 0 (b38 + 0) H [] [] (fun _ => .val x0) (some true) fun a39 H p w =>
 dq false false 1 0 (b38 + 1) H p w (fun _ => .val x11) (some true) fun a40 H p w =>
 dq false false 2 0 (b38 + 2) H p w (fun _ => .val x0) (some true) fun a41 H p w =>
 dq false false 3 0 (b38 + 3) H p w (fun _ => .val x1) (some true) fun a42 H p w =>
 dq false false 4 0 (b38 + 4) H p w (fun _ => .val x0) (some true) fun a43 H p w =>
 dq false false 5 0 (b38 + 5) H p w (fun _ => .val x1) (some true) fun a44 H p w =>
 dq false false 6 48 (b38 + 6) H p w (fun _ => idxS 1 a43 a44) (some true) fun a45 H p w =>
 dq true false 7 112 (b38 + 7) H p w (fun H => qaf H a45) (some true) fun a46 H p w =>
 dq false false 8 0 (b38 + 8) H p w (fun _ => .val x0) (some true) fun a47 H p w =>
 dq false false 9 0 (b38 + 9) H p w (fun _ => .val x11) (some true) fun a48 H p w =>
 dq false false 10 768 (b38 + 10) H p w (fun _ => idxS 1 a47 a48) (some true) fun a49 H p w =>
 dq true false 11 1792 (b38 + 11) H p w (fun H => qaf H a49) (some true) fun a50 H p w =>
 dq false false 12 4083 (b38 + 12) H p w (fun _ => idxS 1 a39 a40) (some true) fun a51 H p w =>
 de 8179 H p w (qao (qaq 8179 p H) a51 a46) (some true) fun _ H p w =>
 dq false false 14 16383 (b38 + 14) H p w (fun _ => idxS 1 a41 a42) (some true) fun a53 H p w =>
 de 32767 H p w (qao (qaq 32767 p H) a53 a50) (some true) fun _ H p w =>
 dz2 p H fun H =>
 .ok (.tup [x11, (.bool false)]) H
def qn8 (call : Ev.Call) (g56 : AV → AV → Hp → R1) (x0 x10 x11 : AV) (H : Hp) : R1 :=
 dz 0 H fun b57 H =>
 dq false false 0 0 (b57 + 0) H [] [] (fun _ => .val x0) (some true) fun a58 H p w =>
 dq false false 1 0 (b57 + 1) H p w (fun _ => .val x10) (some true) fun a59 H p w =>
 dq false false 2 0 (b57 + 2) H p w (fun _ => .val x0) (some true) fun a60 H p w =>
 dq false false 3 0 (b57 + 3) H p w (fun _ => .val x11) (some true) fun a61 H p w =>
 dq false false 4 0 (b57 + 4) H p w (fun _ => .val x0) (some true) fun a62 H p w =>
 dq false false 5 0 (b57 + 5) H p w (fun _ => .val x11) (some true) fun a63 H p w =>
 dq false false 6 48 (b57 + 6) H p w (fun _ => idxS 1 a62 a63) (some true) fun a64 H p w =>
 dq true false 7 112 (b57 + 7) H p w (fun H => qaf H a64) (some true) fun a65 H p w =>
 dq false false 8 0 (b57 + 8) H p w (fun _ => .val x0) (some true) fun a66 H p w =>
 dq false false 9 0 (b57 + 9) H p w (fun _ => .val x10) (some true) fun a67 H p w =>
 dq false false 10 768 (b57 + 10) H p w (fun _ => idxS 1 a66 a67) (some true) fun a68 H p w =>
 dq true false 11 1792 (b57 + 11) H p w (fun H => qaf H a68) (some true) fun a69 H p w =>
 dq false false 12 4083 (b57 + 12) H p w (fun _ => idxS 1 a58 a59) (some true) fun a70 H p w =>
 de 8179 H p w (qao (qaq 8179 p H) a70 a65) (some true) fun _ H p w =>
 dq false false 14 16383 (b57 + 14) H p w (fun _ => idxS 1 a60 a61) (some true) fun a72 H p w =>
 de 32767 H p w (qao (qaq 32767 p H) a72 a69) (some true) fun _ H p w =>
 dz2 p H fun H =>
 vq (intV (qaa .add).f x10 (.int .i64 (.ofNat 1))) H fun a74 H =>
 vq (intV (qaa .sub).f x11 (.int .i64 (.ofNat 1))) H fun a75 H =>
 g56 a74 a75 H
def qer (call : Ev.Call) (q56e4 : AV → Hp → R1) (g56 : AV → AV → Hp → R1) (x0 x10 x11 : AV) (H : Hp) : R1 :=
 vq (intV (qaa .gtr).f x10 x11) H fun a77 H =>
 cd a77 (
 q56e4 x11 H) (
 qn8 call g56 x0 x10 x11 H)
def qn7 (call : Ev.Call) (g79 : AV → Hp → R1) (x11 : AV) (H : Hp) : R1 :=
 vq (intV (qaa .sub).f x11 (.int .i64 (.ofNat 1))) H fun a80 H =>
 g79 a80 H
def qg3 (call : Ev.Call) (q79e8 : AV → Hp → R1) (x0 x1 x10 : AV) (g79 : AV → Hp → R1) (x11 : AV) (H : Hp) : R1 :=
 dz 0 H fun b82 H =>
 dq false false 0 0 (b82 + 0) H [] [] (fun _ => .val x10) (some true) fun a83 H p w =>
 dq false false 1 0 (b82 + 1) H p w (fun _ => .val x11) (some true) fun a84 H p w =>
 dq false false 2 3 (b82 + 2) H p w (fun _ => intV (qaa .leq).f a83 a84) (some true) fun a85 H p w =>
 dq false false 3 7 (b82 + 3) H p w (fun _ => .val a85) (some true) fun a86 H p w =>
 dq false false 4 15 (b82 + 4) H p w (fun _ => .val x0) (qac true a86) fun a87 H p w =>
 dq false false 5 15 (b82 + 5) H p w (fun _ => .val x11) (qac true a86) fun a88 H p w =>
 dq false false 6 63 (b82 + 6) H p w (fun _ => idxS 1 a87 a88) (qac true a86) fun a89 H p w =>
 dq true false 7 127 (b82 + 7) H p w (fun H => qaf H a89) (qac true a86) fun a90 H p w =>
 dq false false 8 15 (b82 + 8) H p w (fun _ => .val x0) (qac true a86) fun a91 H p w =>
 dq false false 9 15 (b82 + 9) H p w (fun _ => .val x1) (qac true a86) fun a92 H p w =>
 dq false false 10 783 (b82 + 10) H p w (fun _ => idxS 1 a91 a92) (qac true a86) fun a93 H p w =>
 dq true false 11 1807 (b82 + 11) H p w (fun H => qaf H a93) (qac true a86) fun a94 H p w =>
 de 4095 H p w (call (.f qbk) [a90, a94] (qaq 4095 p H)) (qac true a86) fun a95 H p w =>
 dq false false 13 8191 (b82 + 13) H p w (fun _ => (unS .not).f a95) (qac true a86) fun a96 H p w =>
 dq false false 14 16383 (b82 + 14) H p w (fun _ => qbj a86 a96 (.bool false)) (some true) fun a97 H p w =>
 dz2 p H fun H =>
 cd a97 (
 qn7 call g79 x11 H) (
 q79e8 x11 H)
def qep (call : Ev.Call) (q79e8 : AV → Hp → R1) (x0 x1 x10 : AV) (n : Nat) : AV → Hp → R1 :=
 Nat.rec (motive := fun _ => AV → Hp → R1) (fun _ _ => .bad) (fun _ ih => qg3 call q79e8 x0 x1 x10 ih) n
def qoc (call : Ev.Call) (q79e8 : AV → Hp → R1) (x0 x1 x10 : AV) : AV → Hp → R1 := qep call q79e8 x0 x1 x10 qba
def qeq (call : Ev.Call) (q56e4 : AV → Hp → R1) (g56 : AV → AV → Hp → R1) (x0 x1 x10 x11 : AV) (H : Hp) : R1 :=
 qoc call (fun x11 H => qer call q56e4 g56 x0 x10 x11 H) x0 x1 x10 x11 H
def qk9 (call : Ev.Call) (g99 : AV → Hp → R1) (x10 : AV) (H : Hp) : R1 :=
 vq (intV (qaa .add).f x10 (.int .i64 (.ofNat 1))) H fun a100 H =>
 g99 a100 H
def qn9 (call : Ev.Call) (q99e6 : AV → Hp → R1) (x0 x1 x11 : AV) (g99 : AV → Hp → R1) (x10 : AV) (H : Hp) : R1 :=
 dz 0 H fun b102 H =>
 dq false false 0 0 (b102 + 0) H [] [] (fun _ => .val x10) (some true) fun a103 H p w =>
 dq false false 1 0 (b102 + 1) H p w (fun _ => .val x11) (some true) fun a104 H p w =>
 dq false false 2 3 (b102 + 2) H p w (fun _ => intV (qaa .leq).f a103 a104) (some true) fun a105 H p w =>
 dq false false 3 7 (b102 + 3) H p w (fun _ => .val a105) (some true) fun a106 H p w =>
 dq false false 4 15 (b102 + 4) H p w (fun _ => .val x0) (qac true a106) fun a107 H p w =>
 dq false false 5 15 (b102 + 5) H p w (fun _ => .val x10) (qac true a106) fun a108 H p w =>
 dq false false 6 63 (b102 + 6) H p w (fun _ => idxS 1 a107 a108) (qac true a106) fun a109 H p w =>
 dq true false 7 127 (b102 + 7) H p w (fun H => qaf H a109) (qac true a106) fun a110 H p w =>
 dq false false 8 15 (b102 + 8) H p w (fun _ => .val x0) (qac true a106) fun a111 H p w =>
 dq false false 9 15 (b102 + 9) H p w (fun _ => .val x1) (qac true a106) fun a112 H p w =>
 dq false false 10 783 (b102 + 10) H p w (fun _ => idxS 1 a111 a112) (qac true a106) fun a113 H p w =>
 dq true false 11 1807 (b102 + 11) H p w (fun H => qaf H a113) (qac true a106) fun a114 H p w =>
 de 4095 H p w (call (.f qbk) [a110, a114] (qaq 4095 p H)) (qac true a106) fun a115 H p w =>
 dq false false 13 8191 (b102 + 13) H p w (fun _ => qbj a106 a115 (.bool false)) (some true) fun a116 H p w =>
 dz2 p H fun H =>
 cd a116 (
 qk9 call g99 x10 H) (
 q99e6 x10 H)
def qg2 (call : Ev.Call) (q99e6 : AV → Hp → R1) (x0 x1 x11 : AV) (n : Nat) : AV → Hp → R1 :=
 Nat.rec (motive := fun _ => AV → Hp → R1) (fun _ _ => .bad) (fun _ ih => qn9 call q99e6 x0 x1 x11 ih) n
def qob (call : Ev.Call) (q99e6 : AV → Hp → R1) (x0 x1 x11 : AV) : AV → Hp → R1 := qg2 call q99e6 x0 x1 x11 qba
def qoa (call : Ev.Call) (q56e4 : AV → Hp → R1) (x0 x1 : AV) (g56 : AV → AV → Hp → R1) (x10 x11 : AV) (H : Hp) : R1 :=
 qob call (fun x10 H => qeq call q56e4 g56 x0 x1 x10 x11 H) x0 x1 x11 x10 H
def qbn (call : Ev.Call) (q56e4 : AV → Hp → R1) (x0 x1 : AV) (n : Nat) : AV → AV → Hp → R1 :=
 Nat.rec (motive := fun _ => AV → AV → Hp → R1) (fun _ _ _ => .bad) (fun _ ih => qoa call q56e4 x0 x1 ih) n
def qod (call : Ev.Call) (q56e4 : AV → Hp → R1) (x0 x1 : AV) : AV → AV → Hp → R1 := qbn call q56e4 x0 x1 qba
def qk8 (call : Ev.Call) (x0 x1 x10 x11 : AV) (H : Hp) : R1 :=
 dz 0 H fun b19 H =>
 dq false false 0 0 (b19 + 0) H [] [] (fun _ => .val x0) (some true) fun a20 H p w =>
 dq false false 1 0 (b19 + 1) H p w (fun _ => .val x10) (some true) fun a21 H p w =>
 dq false false 2 0 (b19 + 2) H p w (fun _ => .val x0) (some true) fun a22 H p w =>
 dq false false 3 0 (b19 + 3) H p w (fun _ => .val x11) (some true) fun a23 H p w =>
 dq false false 4 0 (b19 + 4) H p w (fun _ => .val x0) (some true) fun a24 H p w =>
 dq false false 5 0 (b19 + 5) H p w (fun _ => .val x11) (some true) fun a25 H p w =>
 dq false false 6 48 (b19 + 6) H p w (fun _ => idxS 1 a24 a25) (some true) fun a26 H p w =>
 dq true false 7 112 (b19 + 7) H p w (fun H => qaf H a26) (some true) fun a27 H p w =>
 dq false false 8 0 (b19 + 8) H p w (fun _ => .val x0) (some true) fun a28 H p w =>
 dq false false 9 0 (b19 + 9) H p w (fun _ => .val x10) (some true) fun a29 H p w =>
 dq false false 10 768 (b19 + 10) H p w (fun _ => idxS 1 a28 a29) (some true) fun a30 H p w =>
 dq true false 11 1792 (b19 + 11) H p w (fun H => qaf H a30) (some true) fun a31 H p w =>
 dq false false 12 4083 (b19 + 12) H p w (fun _ => idxS 1 a20 a21) (some true) fun a32 H p w =>
 de 8179 H p w (qao (qaq 8179 p H) a32 a27) (some true) fun _ H p w =>
 dq false false 14 16383 (b19 + 14) H p w (fun _ => idxS 1 a22 a23) (some true) fun a34 H p w =>
 de 32767 H p w (qao (qaq 32767 p H) a34 a31) (some true) fun _ H p w =>
 dz2 p H fun H =>
 vq (intV (qaa .add).f x10 (.int .i64 (.ofNat 1))) H fun a36 H =>
 vq (intV (qaa .sub).f x11 (.int .i64 (.ofNat 1))) H fun a37 H =>
 qod call (fun x11 H => qa4 call x0 x1 x11 H) x0 x1 a36 a37 H
def qdo (call : Ev.Call) (x0 x1 x10 x11 : AV) (H : Hp) : R1 :=
 vq (intV (qaa .gtr).f x10 x11) H fun a118 H =>
 cd a118 (
 dz 0 H fun b119 H =>
 dq false false 0 0 (b119 + 0) H [] [] (fun _ => .val x0) (some true) fun a120 H p w =>
 dq false false 1 0 (b119 + 1) H p w (fun _ => .val x11) (some true) fun a121 H p w =>
 dq false false 2 0 (b119 + 2) H p w (fun _ => .val x0) (some true) fun a122 H p w =>
 dq false false 3 0 (b119 + 3) H p w (fun _ => .val x1) (some true) fun a123 H p w =>
 dq false false 4 0 (b119 + 4) H p w (fun _ => .val x0) (some true) fun a124 H p w =>
 dq false false 5 0 (b119 + 5) H p w (fun _ => .val x1) (some true) fun a125 H p w =>
 dq false false 6 48 (b119 + 6) H p w (fun _ => idxS 1 a124 a125) (some true) fun a126 H p w =>
 dq true false 7 112 (b119 + 7) H p w (fun H => qaf H a126) (some true) fun a127 H p w =>
 dq false false 8 0 (b119 + 8) H p w (fun _ => .val x0) (some true) fun a128 H p w =>
 dq false false 9 0 (b119 + 9) H p w (fun _ => .val x11) (some true) fun a129 H p w =>
 dq false false 10 768 (b119 + 10) H p w (fun _ => idxS 1 a128 a129) (some true) fun a130 H p w =>
 dq true false 11 1792 (b119 + 11) H p w (fun H => qaf H a130) (some true) fun a131 H p w =>
 dq false false 12 4083 (b119 + 12) H p w (fun _ => idxS 1 a120 a121) (some true) fun a132 H p w =>
 de 8179 H p w (qao (qaq 8179 p H) a132 a127) (some true) fun _ H p w =>
 dq false false 14 16383 (b119 + 14) H p w (fun _ => idxS 1 a122 a123) (some true) fun a134 H p w =>
 de 32767 H p w (qao (qaq 32767 p H) a134 a131) (some true) fun _ H p w =>
 dz2 p H fun H =>
 .ok (.tup [x11, (.bool true)]) H) (
 qk8 call x0 x1 x10 x11 H)
def qk7 (call : Ev.Call) (g137 : AV → Hp → R1) (x11 : AV) (H : Hp) : R1 :=
 vq (intV (qaa .sub).f x11 (.int .i64 (.ofNat 1))) H fun a138 H =>
 g137 a138 H
def qe9 (call : Ev.Call) (q137e2 : AV → Hp → R1) (x0 x1 x10 : AV) (g137 : AV → Hp → R1) (x11 : AV) (H : Hp) : R1 :=
 dz 0 H fun b140 H =>
 dq false false 0 0 (b140 + 0) H [] [] (fun _ => .val x10) (some true) fun a141 H p w =>
 dq false false 1 0 (b140 + 1) H p w (fun _ => .val x11) (some true) fun a142 H p w =>
 dq false false 2 3 (b140 + 2) H p w (fun _ => intV (qaa .leq).f a141 a142) (some true) fun a143 H p w =>
 dq false false 3 7 (b140 + 3) H p w (fun _ => .val a143) (some true) fun a144 H p w =>
 dq false false 4 15 (b140 + 4) H p w (fun _ => .val x0) (qac true a144) fun a145 H p w =>
 dq false false 5 15 (b140 + 5) H p w (fun _ => .val x11) (qac true a144) fun a146 H p w =>
 dq false false 6 63 (b140 + 6) H p w (fun _ => idxS 1 a145 a146) (qac true a144) fun a147 H p w =>
 dq true false 7 127 (b140 + 7) H p w (fun H => qaf H a147) (qac true a144) fun a148 H p w =>
 dq false false 8 15 (b140 + 8) H p w (fun _ => .val x0) (qac true a144) fun a149 H p w =>
 dq false false 9 15 (b140 + 9) H p w (fun _ => .val x1) (qac true a144) fun a150 H p w =>
 dq false false 10 783 (b140 + 10) H p w (fun _ => idxS 1 a149 a150) (qac true a144) fun a151 H p w =>
 dq true false 11 1807 (b140 + 11) H p w (fun H => qaf H a151) (qac true a144) fun a152 H p w =>
 de 4095 H p w (call (.f qbk) [a148, a152] (qaq 4095 p H)) (qac true a144) fun a153 H p w =>
 dq false false 13 8191 (b140 + 13) H p w (fun _ => (unS .not).f a153) (qac true a144) fun a154 H p w =>
 dq false false 14 16383 (b140 + 14) H p w (fun _ => qbj a144 a154 (.bool false)) (some true) fun a155 H p w =>
 dz2 p H fun H =>
 cd a155 (
 qk7 call g137 x11 H) (
 q137e2 x11 H)
def qdm (call : Ev.Call) (q137e2 : AV → Hp → R1) (x0 x1 x10 : AV) (n : Nat) : AV → Hp → R1 :=
 Nat.rec (motive := fun _ => AV → Hp → R1) (fun _ _ => .bad) (fun _ ih => qe9 call q137e2 x0 x1 x10 ih) n
def qlc (call : Ev.Call) (q137e2 : AV → Hp → R1) (x0 x1 x10 : AV) : AV → Hp → R1 := qdm call q137e2 x0 x1 x10 qba
def qdn (call : Ev.Call) (x0 x1 x10 x11 : AV) (H : Hp) : R1 :=
 qlc call (fun x11 H => qdo call x0 x1 x10 x11 H) x0 x1 x10 x11 H
def qk6 (call : Ev.Call) (g157 : AV → Hp → R1) (x10 : AV) (H : Hp) : R1 :=
 vq (intV (qaa .add).f x10 (.int .i64 (.ofNat 1))) H fun a158 H =>
 g157 a158 H
def qla (call : Ev.Call) (q157e0 : AV → Hp → R1) (x0 x1 x11 : AV) (g157 : AV → Hp → R1) (x10 : AV) (H : Hp) : R1 :=
 dz 0 H fun b160 H =>
 dq false false 0 0 (b160 + 0) H [] [] (fun _ => .val x10) (some true) fun a161 H p w =>
 dq false false 1 0 (b160 + 1) H p w (fun _ => .val x11) (some true) fun a162 H p w =>
 dq false false 2 3 (b160 + 2) H p w (fun _ => intV (qaa .leq).f a161 a162) (some true) fun a163 H p w =>
 dq false false 3 7 (b160 + 3) H p w (fun _ => .val a163) (some true) fun a164 H p w =>
 dq false false 4 15 (b160 + 4) H p w (fun _ => .val x0) (qac true a164) fun a165 H p w =>
 dq false false 5 15 (b160 + 5) H p w (fun _ => .val x10) (qac true a164) fun a166 H p w =>
 dq false false 6 63 (b160 + 6) H p w (fun _ => idxS 1 a165 a166) (qac true a164) fun a167 H p w =>
 dq true false 7 127 (b160 + 7) H p w (fun H => qaf H a167) (qac true a164) fun a168 H p w =>
 dq false false 8 15 (b160 + 8) H p w (fun _ => .val x0) (qac true a164) fun a169 H p w =>
 dq false false 9 15 (b160 + 9) H p w (fun _ => .val x1) (qac true a164) fun a170 H p w =>
 dq false false 10 783 (b160 + 10) H p w (fun _ => idxS 1 a169 a170) (qac true a164) fun a171 H p w =>
 dq true false 11 1807 (b160 + 11) H p w (fun H => qaf H a171) (qac true a164) fun a172 H p w =>
 de 4095 H p w (call (.f qbk) [a168, a172] (qaq 4095 p H)) (qac true a164) fun a173 H p w =>
 dq false false 13 8191 (b160 + 13) H p w (fun _ => qbj a164 a173 (.bool false)) (some true) fun a174 H p w =>
 dz2 p H fun H =>
 cd a174 (
 qk6 call g157 x10 H) (
 q157e0 x10 H)
def qe8 (call : Ev.Call) (q157e0 : AV → Hp → R1) (x0 x1 x11 : AV) (n : Nat) : AV → Hp → R1 :=
 Nat.rec (motive := fun _ => AV → Hp → R1) (fun _ _ => .bad) (fun _ ih => qla call q157e0 x0 x1 x11 ih) n
def qlb (call : Ev.Call) (q157e0 : AV → Hp → R1) (x0 x1 x11 : AV) : AV → Hp → R1 := qe8 call q157e0 x0 x1 x11 qba
def qwz (call : Ev.Call) (x0 x1 x2 x3 : AV) (H : Hp) : R1 :=
 dz 0 H fun b0 H =>
 dq false false 0 0 (b0 + 0) H [] [] (fun _ => .val x0) (some true) fun a1 H p w =>
 dq false false 1 0 (b0 + 1) H p w (fun _ => .val x1) (some true) fun a2 H p w =>
 dq false false 2 0 (b0 + 2) H p w (fun _ => .val x0) (some true) fun a3 H p w =>
 dq false false 3 0 (b0 + 3) H p w (fun _ => .val x3) (some true) fun a4 H p w =>
 dq false false 4 0 (b0 + 4) H p w (fun _ => .val x0) (some true) fun a5 H p w =>
 dq false false 5 0 (b0 + 5) H p w (fun _ => .val x3) (some true) fun a6 H p w =>
 dq false false 6 48 (b0 + 6) H p w (fun _ => idxS 1 a5 a6) (some true) fun a7 H p w =>
 dq true false 7 112 (b0 + 7) H p w (fun H => qaf H a7) (some true) fun a8 H p w =>
 dq false false 8 0 (b0 + 8) H p w (fun _ => .val x0) (some true) fun a9 H p w =>
 dq false false 9 0 (b0 + 9) H p w (fun _ => .val x1) (some true) fun a10 H p w =>
 dq false false 10 768 (b0 + 10) H p w (fun _ => idxS 1 a9 a10) (some true) fun a11 H p w =>
 dq true false 11 1792 (b0 + 11) H p w (fun H => qaf H a11) (some true) fun a12 H p w =>
 dq false false 12 4083 (b0 + 12) H p w (fun _ => idxS 1 a1 a2) (some true) fun a13 H p w =>
 de 8179 H p w (qao (qaq 8179 p H) a13 a8) (some true) fun _ H p w =>
 dq false false 14 16383 (b0 + 14) H p w (fun _ => idxS 1 a3 a4) (some true) fun a15 H p w =>
 de 32767 H p w (qao (qaq 32767 p H) a15 a12) (some true) fun _ H p w =>
 dz2 p H fun H =>
 vq (intV (qaa .add).f x1 (.int .i64 (.ofNat 1))) H fun a17 H =>
 vq (intV (qaa .sub).f x2 (.int .i64 (.ofNat 1))) H fun a18 H =>
 qlb call (fun x10 H => qdn call x0 x1 x10 a18 H) x0 x1 a18 a17 H
def o_part (call : Ev.Call) (x0 x1 x2 x3 : AV) (H : Hp) : R1 := qwz call x0 x1 x2 x3 H
def qny (call : Ev.Call) (g0 : AV → Hp → R1) (x0 x3 x8 x9 : AV) (H : Hp) : R1 :=
 dz 0 H fun b3 H =>
 dq false false 0 0 (b3 + 0) H [] [] (fun _ => .val x0) (some true) fun a4 H p w =>
 dq false false 1 0 (b3 + 1) H p w (fun _ => .val x3) (some true) fun a5 H p w =>
 dq false false 2 0 (b3 + 2) H p w (fun _ => .val x8) (some true) fun a6 H p w =>
 dq false false 3 6 (b3 + 3) H p w (fun _ => intV (qaa .add).f a5 a6) (some true) fun a7 H p w =>
 dq false false 4 0 (b3 + 4) H p w (fun _ => .val x0) (some true) fun a8 H p w =>
 dq false false 5 0 (b3 + 5) H p w (fun _ => .val x3) (some true) fun a9 H p w =>
 dq false false 6 0 (b3 + 6) H p w (fun _ => .val x9) (some true) fun a10 H p w =>
 dq false false 7 96 (b3 + 7) H p w (fun _ => intV (qaa .add).f a9 a10) (some true) fun a11 H p w =>
 dq false false 8 0 (b3 + 8) H p w (fun _ => .val x0) (some true) fun a12 H p w =>
 dq false false 9 0 (b3 + 9) H p w (fun _ => .val x3) (some true) fun a13 H p w =>
 dq false false 10 0 (b3 + 10) H p w (fun _ => .val x9) (some true) fun a14 H p w =>
 dq false false 11 1536 (b3 + 11) H p w (fun _ => intV (qaa .add).f a13 a14) (some true) fun a15 H p w =>
 dq false false 12 3840 (b3 + 12) H p w (fun _ => idxS 1 a12 a15) (some true) fun a16 H p w =>
 dq true false 13 7936 (b3 + 13) H p w (fun H => qaf H a16) (some true) fun a17 H p w =>
 dq false false 14 0 (b3 + 14) H p w (fun _ => .val x0) (some true) fun a18 H p w =>
 dq false false 15 0 (b3 + 15) H p w (fun _ => .val x3) (some true) fun a19 H p w =>
 dq false false 16 0 (b3 + 16) H p w (fun _ => .val x8) (some true) fun a20 H p w =>
 dq false false 17 98304 (b3 + 17) H p w (fun _ => intV (qaa .add).f a19 a20) (some true) fun a21 H p w =>
 dq false false 18 245760 (b3 + 18) H p w (fun _ => idxS 1 a18 a21) (some true) fun a22 H p w =>
 dq true false 19 507904 (b3 + 19) H p w (fun H => qaf H a22) (some true) fun a23 H p w =>
 dq false false 20 1048335 (b3 + 20) H p w (fun _ => idxS 1 a4 a7) (some true) fun a24 H p w =>
 de 2096911 H p w (qao (qaq 2096911 p H) a24 a17) (some true) fun _ H p w =>
 dq false false 22 4194303 (b3 + 22) H p w (fun _ => idxS 1 a8 a11) (some true) fun a26 H p w =>
 de 8388607 H p w (qao (qaq 8388607 p H) a26 a23) (some true) fun _ H p w =>
 dz2 p H fun H =>
 g0 x9 H
def qgx (call : Ev.Call) (q0r : Hp → R1) (g0 : AV → Hp → R1) (x0 x3 x8 x9 : AV) (H : Hp) : R1 :=
 dz 0 H fun b29 H =>
 dq false false 0 0 (b29 + 0) H [] [] (fun _ => .val x0) (some true) fun a30 H p w =>
 dq false false 1 0 (b29 + 1) H p w (fun _ => .val x3) (some true) fun a31 H p w =>
 dq false false 2 0 (b29 + 2) H p w (fun _ => .val x8) (some true) fun a32 H p w =>
 dq false false 3 6 (b29 + 3) H p w (fun _ => intV (qaa .add).f a31 a32) (some true) fun a33 H p w =>
 dq false false 4 15 (b29 + 4) H p w (fun _ => idxS 1 a30 a33) (some true) fun a34 H p w =>
 dq true false 5 31 (b29 + 5) H p w (fun H => qaf H a34) (some true) fun a35 H p w =>
 dq false false 6 0 (b29 + 6) H p w (fun _ => .val x0) (some true) fun a36 H p w =>
 dq false false 7 0 (b29 + 7) H p w (fun _ => .val x3) (some true) fun a37 H p w =>
 dq false false 8 0 (b29 + 8) H p w (fun _ => .val x9) (some true) fun a38 H p w =>
 dq false false 9 384 (b29 + 9) H p w (fun _ => intV (qaa .add).f a37 a38) (some true) fun a39 H p w =>
 dq false false 10 960 (b29 + 10) H p w (fun _ => idxS 1 a36 a39) (some true) fun a40 H p w =>
 dq true false 11 1984 (b29 + 11) H p w (fun H => qaf H a40) (some true) fun a41 H p w =>
 de 4095 H p w (call (.f qbk) [a35, a41] (qaq 4095 p H)) (some true) fun a42 H p w =>
 dq false false 13 8191 (b29 + 13) H p w (fun _ => (unS .not).f a42) (some true) fun a43 H p w =>
 dz2 p H fun H =>
 cd a43 (
 q0r H) (
 qny call g0 x0 x3 x8 x9 H)
def qnx (call : Ev.Call) (q0r : Hp → R1) (g0 : AV → Hp → R1) (x0 x2 x3 x8 x9 : AV) (H : Hp) : R1 :=
 dz 0 H fun b45 H =>
 dq false false 0 0 (b45 + 0) H [] [] (fun _ => .val x9) (some true) fun a46 H p w =>
 dq false false 1 1 (b45 + 1) H p w (fun _ => intV (qaa .add).f a46 (.int .i64 (.ofNat 1))) (some true) fun a47 H p w =>
 dq false false 2 0 (b45 + 2) H p w (fun _ => .val x2) (some true) fun a48 H p w =>
 dq false false 3 7 (b45 + 3) H p w (fun _ => intV (qaa .lss).f a47 a48) (some true) fun a49 H p w =>
 dq false false 4 15 (b45 + 4) H p w (fun _ => .val a49) (some true) fun a50 H p w =>
 dq false false 5 31 (b45 + 5) H p w (fun _ => .val x0) (qac true a50) fun a51 H p w =>
 dq false false 6 31 (b45 + 6) H p w (fun _ => .val x3) (qac true a50) fun a52 H p w =>
 dq false false 7 31 (b45 + 7) H p w (fun _ => .val x9) (qac true a50) fun a53 H p w =>
 dq false false 8 223 (b45 + 8) H p w (fun _ => intV (qaa .add).f a52 a53) (qac true a50) fun a54 H p w =>
 dq false false 9 511 (b45 + 9) H p w (fun _ => idxS 1 a51 a54) (qac true a50) fun a55 H p w =>
 dq true false 10 1023 (b45 + 10) H p w (fun H => qaf H a55) (qac true a50) fun a56 H p w =>
 dq false false 11 31 (b45 + 11) H p w (fun _ => .val x0) (qac true a50) fun a57 H p w =>
 dq false false 12 31 (b45 + 12) H p w (fun _ => .val x3) (qac true a50) fun a58 H p w =>
 dq false false 13 31 (b45 + 13) H p w (fun _ => .val x9) (qac true a50) fun a59 H p w =>
 dq false false 14 12319 (b45 + 14) H p w (fun _ => intV (qaa .add).f a58 a59) (qac true a50) fun a60 H p w =>
 dq false false 15 28703 (b45 + 15) H p w (fun _ => intV (qaa .add).f a60 (.int .i64 (.ofNat 1))) (qac true a50) fun a61 H p w =>
 dq false false 16 63519 (b45 + 16) H p w (fun _ => idxS 1 a57 a61) (qac true a50) fun a62 H p w =>
 dq true false 17 129055 (b45 + 17) H p w (fun H => qaf H a62) (qac true a50) fun a63 H p w =>
 de 262143 H p w (call (.f qbk) [a56, a63] (qaq 262143 p H)) (qac true a50) fun a64 H p w =>
 dq false false 19 524287 (b45 + 19) H p w (fun _ => qbj a50 a64 (.bool false)) (some true) fun a65 H p w =>
 dz2 p H fun H =>
 cd a65 (
 vq (intV (qaa .add).f x9 (.int .i64 (.ofNat 1))) H fun a66 H =>
 qgx call q0r g0 x0 x3 x8 a66 H) (
 qgx call q0r g0 x0 x3 x8 x9 H)
def qr5 (call : Ev.Call) (q0e0 : Hp → R1) (q0r : Hp → R1) (x0 x2 x3 : AV) (g0 : AV → Hp → R1) (x8 : AV) (H : Hp) : R1 :=
 vq (intV (qaa .mul).f (.int .i64 (.ofNat 2)) x8) H fun a1 H =>
 vq (intV (qaa .add).f a1 (.int .i64 (.ofNat 1))) H fun a2 H =>
 vq (intV (qaa .geq).f a2 x2) H fun a68 H =>
 cd a68 (
 q0e0 H) (
 qnx call q0r g0 x0 x2 x3 x8 a2 H)
def qe5 (call : Ev.Call) (q0e0 : Hp → R1) (q0r : Hp → R1) (x0 x2 x3 : AV) (n : Nat) : AV → Hp → R1 :=
 Nat.rec (motive := fun _ => AV → Hp → R1) (fun _ _ => .bad) (fun _ ih => qr5 call q0e0 q0r x0 x2 x3 ih) n
def qr6 (call : Ev.Call) (q0e0 : Hp → R1) (q0r : Hp → R1) (x0 x2 x3 : AV) : AV → Hp → R1 := qe5 call q0e0 q0r x0 x2 x3 qba
def qwu (call : Ev.Call) (x0 x1 x2 x3 : AV) (H : Hp) : R1 :=
 qr6 call (fun H => .ok (.tup []) H) (fun H => .ok (.tup []) H) x0 x2 x3 x1 H
def o_sift (call : Ev.Call) (x0 x1 x2 x3 : AV) (H : Hp) : R1 := qwu call x0 x1 x2 x3 H
def qoe (call : Ev.Call) (x0 x1 x2 : AV) (H : Hp) : R1 :=
 vq (intV (qaa .sub).f x1 (.int .i64 (.ofNat 1))) H fun a0 H =>
 vq (intV (qaa .add).f x1 (.int .i64 (.ofNat 1))) H fun a1 H =>
 ve (call (.f qmn) [x0, a0, x1, a1, x2] H) fun a2 H =>
 .ok a2 H
def o_medadj (call : Ev.Call) (x0 x1 x2 : AV) (H : Hp) : R1 := qoe call x0 x1 x2 H
def q14 (call : Ev.Call) (x0 x1 x2 x3 x4 : AV) (H : Hp) : R1 :=
 ve (call (.f qg6) [x0, x1, x2, x4] H) fun a0 H =>
 vq (extr 0 a0) H fun a1 H =>
 vq (extr 1 a0) H fun a2 H =>
 ve (call (.f qg6) [x0, a2, x3, x4] H) fun a3 H =>
 vq (extr 0 a3) H fun a4 H =>
 vq (extr 1 a3) H fun a5 H =>
 ve (call (.f qg6) [x0, a1, a4, x4] H) fun a6 H =>
 vq (extr 0 a6) H fun a7 H =>
 vq (extr 1 a6) H fun a8 H =>
 .ok a8 H
def o_med (call : Ev.Call) (x0 x1 x2 x3 x4 : AV) (H : Hp) : R1 := q14 call x0 x1 x2 x3 x4 H
def qsj (call : Ev.Call) (x1 x2 : AV) (H : Hp) : R1 :=
 .ok (.tup [x1, x2]) H
def qw0 (call : Ev.Call) (x0 x1 x2 x3 : AV) (H : Hp) : R1 :=
 dz 0 H fun b1 H =>
 dq false false 0 0 (b1 + 0) H [] [] (fun _ => .val x0) (some true) fun a2 H p w =>
 dq false false 1 0 (b1 + 1) H p w (fun _ => .val x2) (some true) fun a3 H p w =>
 dq false false 2 3 (b1 + 2) H p w (fun _ => idxS 1 a2 a3) (some true) fun a4 H p w =>
 dq true false 3 7 (b1 + 3) H p w (fun H => qaf H a4) (some true) fun a5 H p w =>
 dq false false 4 0 (b1 + 4) H p w (fun _ => .val x0) (some true) fun a6 H p w =>
 dq false false 5 0 (b1 + 5) H p w (fun _ => .val x1) (some true) fun a7 H p w =>
 dq false false 6 48 (b1 + 6) H p w (fun _ => idxS 1 a6 a7) (some true) fun a8 H p w =>
 dq true false 7 112 (b1 + 7) H p w (fun H => qaf H a8) (some true) fun a9 H p w =>
 de 255 H p w (call (.f qbk) [a5, a9] (qaq 255 p H)) (some true) fun a10 H p w =>
 dz2 p H fun H =>
 cd a10 (
 vq (nilC x3) H fun a11 H =>
 vq (qaf H a11) H fun a12 H =>
 vq (intV (qaa .add).f a12 (.int .i64 (.ofNat 1))) H fun a13 H =>
 vq (nilC x3) H fun a14 H =>
 ve (qao H a14 a13) fun _ H =>
 .ok (.tup [x2, x1]) H) (
 qsj call x1 x2 H)
def o_ord2 (call : Ev.Call) (x0 x1 x2 x3 : AV) (H : Hp) : R1 := qw0 call x0 x1 x2 x3 H
end Go.Di
end
noncomputable section
namespace Go.Di
open Go.Ev
structure LnkO (c d : Ev.Call) : Prop where
 o_Sort : ∀ (x0 : AV) (H : Hp), c (.f qee) [x0] H = Di.o_Sort d x0 H
 o_Compact : ∀ (x0 : AV) (H : Hp), c (.f qf0) [x0] H = Di.o_Compact d x0 H
 o_pdq : ∀ (x0 x1 x2 x3 : AV) (H : Hp), c (.f qhx) [x0, x1, x2, x3] H = Di.o_pdq d x0 x1 x2 x3 H
 o_ins : ∀ (x0 x1 x2 : AV) (H : Hp), c (.f qmo) [x0, x1, x2] H = Di.o_ins d x0 x1 x2 H
 o_heap : ∀ (x0 x1 x2 : AV) (H : Hp), c (.f qmp) [x0, x1, x2] H = Di.o_heap d x0 x1 x2 H
 o_brk : ∀ (x0 x1 x2 : AV) (H : Hp), c (.f qqf) [x0, x1, x2] H = Di.o_brk d x0 x1 x2 H
 o_piv : ∀ (x0 x1 x2 : AV) (H : Hp), c (.f qqd) [x0, x1, x2] H = Di.o_piv d x0 x1 x2 H
 o_rev : ∀ (x0 x1 x2 : AV) (H : Hp), c (.f qqc) [x0, x1, x2] H = Di.o_rev d x0 x1 x2 H
 o_pins : ∀ (x0 x1 x2 : AV) (H : Hp), c (.f qjb) [x0, x1, x2] H = Di.o_pins d x0 x1 x2 H
 o_less : ∀ (x0 x1 : AV) (H : Hp), c (.f qbk) [x0, x1] H = Di.o_less d x0 x1 H
 o_peq : ∀ (x0 x1 x2 x3 : AV) (H : Hp), c (.f qqe) [x0, x1, x2, x3] H = Di.o_peq d x0 x1 x2 x3 H
 o_part : ∀ (x0 x1 x2 x3 : AV) (H : Hp), c (.f qmm) [x0, x1, x2, x3] H = Di.o_part d x0 x1 x2 x3 H
 o_sift : ∀ (x0 x1 x2 x3 : AV) (H : Hp), c (.f qja) [x0, x1, x2, x3] H = Di.o_sift d x0 x1 x2 x3 H
 o_medadj : ∀ (x0 x1 x2 : AV) (H : Hp), c (.f qds) [x0, x1, x2] H = Di.o_medadj d x0 x1 x2 H
 o_med : ∀ (x0 x1 x2 x3 x4 : AV) (H : Hp), c (.f qmn) [x0, x1, x2, x3, x4] H = Di.o_med d x0 x1 x2 x3 x4 H
 o_ord2 : ∀ (x0 x1 x2 x3 : AV) (H : Hp), c (.f qg6) [x0, x1, x2, x3] H = Di.o_ord2 d x0 x1 x2 x3 H
abbrev qc7 (C : Nat → Ev.Call) : Prop := ∀ k, LnkO (C (k + 1)) (C k)
end Go.Di
end
