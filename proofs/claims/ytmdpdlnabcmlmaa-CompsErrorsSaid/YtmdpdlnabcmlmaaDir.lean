/-
 For countersignlaw17.CompsErrors: the functions of the law in direct style (printed by a program). No conditions beyond those that each theorem states.
-/
import Derived.Test.YtmdpdlnabcmlmaaEv4
import Derived.Test.YtmdpdlnabcmlmaaGraB
set_option linter.unusedSimpArgs false
set_option linter.unusedVariables false
noncomputable section
namespace Go.Di
open Go.Ev
def zfa : FuncId := 6
def qca : FuncId := 15
def qo0 : FuncId := 23
def qmy : FuncId := 10
def qtg : FuncId := 16
def qtd : FuncId := 19
def qtf : FuncId := 20
def qte : FuncId := 13
def qxw : FuncId := 37
def qmx : FuncId := 27
def qxx : FuncId := 26
def qln : FuncId := 28
def qms : FuncId := 29
def qtc : FuncId := 32
def qta : FuncId := 31
def qqj : FuncId := 33
def qs8 : FuncId := 34
def qxu : FuncId := 30
def qo1 : FuncId := 49
def qtb : FuncId := 50
def q4s : FuncId := 48
def qqo : FuncId := 43
def qlo : FuncId := 41
def qjf : FuncId := 42
def qxr : FuncId := 45
def qs9 : FuncId := 44
def qlp : FuncId := 65
def qji : FuncId := 52
def qha : FuncId := 53
def qxs : FuncId := 74
def q2n : FuncId := 76
def qxq : FuncId := 75
def qdu : FuncId := 86
def qxt : FuncId := 85
def qxv : FuncId := 89
def qcu : FuncId := 40
def qjz : FuncId := 47
def qhy : FuncId := 51
def qoz : FuncId := 63
def qoy : FuncId := 64
def qmq : FuncId := 66
def qmr : FuncId := 67
def qqi : FuncId := 68
def qqg : FuncId := 69
def qqf : FuncId := 70
def qjd : FuncId := 71
def qqh : FuncId := 72
def qmo : FuncId := 73
def qje : FuncId := 78
def qer : FuncId := 79
def qjc : FuncId := 82
def qee : FuncId := 83
def qmp : FuncId := 84
def qg8 : FuncId := 88
def qes : FuncId := 35
def qf5 : FuncId := 36
def qhz : FuncId := 46
def qmv : FuncId := 54
def qmw : FuncId := 55
def qqn : FuncId := 56
def qql : FuncId := 57
def qqk : FuncId := 58
def qjh : FuncId := 59
def qb5 : FuncId := 60
def qqm : FuncId := 61
def qmt : FuncId := 62
def qjg : FuncId := 77
def qef : FuncId := 80
def qmu : FuncId := 81
def qg9 : FuncId := 87
def qbs (call : Ev.Call) (x1 x2 x6 x11 x14 : AV) (H : Hp) : R1 :=
 vq (qbu x14) H fun a3 H =>
 vq (qan 0 x2) H fun a4 H =>
 vq (qaf H a4) H fun a5 H =>
 vq (intV (qaa .eql).f a3 a5) H fun a6 H =>
 vg (qad true a6) (.val x11) H fun a7 H =>
 vg (qad true a6) (intV (qaa .eql).f a7 (.int .i64 (.ofNat 0))) H fun a8 H =>
 vg (qad true a6) (.val x1) H fun a9 H =>
 vg (qad true a6) (intV (qaa .geq).f a9 (.int .i64 (.ofNat 0))) H fun a10 H =>
 vg (qad true a6) (.val a10) H fun a11 H =>
 vg (qad true a11) (.val x1) H fun a12 H =>
 vg (qad true a11) (qan 0 x6) H fun a13 H =>
 vg (qad true a11) (qaf H a13) H fun a14 H =>
 vg (qad true a11) (qbu a14) H fun a15 H =>
 vg (qad true a11) (intV (qaa .lss).f a12 a15) H fun a16 H =>
 vg (qad true a6) (qb6 a11 a16 (.bool false)) H fun a17 H =>
 vg (qad true a6) (qpz false ((⟨E2.f ⟨qkf⟩⟩ : E2).f a8 a17)) H fun a18 H =>
 vq (qb6 a6 a18 (.bool false)) H fun a19 H =>
 veg (qad true a19) (call (.f qca) [] H) H fun a20 H =>
 vq (qb6 a19 a20 (.bool false)) H fun a21 H =>
 .ok a21 H
def qxm : Ev.Call → AV → AV → AV → AV → AV → Hp → R1 := Classical.choose (⟨qbs, rfl⟩ : ∃ f, f = qbs)
theorem qvc : qxm = qbs := Classical.choose_spec (⟨qbs, rfl⟩ : ∃ f, f = qbs)
def qbr (call : Ev.Call) (x1 x2 x5 x6 x8 x10 x11 x12 x14 : AV) (H : Hp) : R1 :=
 vq (intV (qaa .neq).f x5 (.int .i64 (.ofNat 0))) H fun a23 H =>
 cd a23 (
 vq (intV (qaa .eql).f x11 x5) H fun a24 H =>
 vg (qad true a24) (.val x10) H fun a25 H =>
 vg (qad true a24) ((unS .not).f a25) H fun a26 H =>
 vq (qb6 a24 a26 (.bool false)) H fun a27 H =>
 vg (qad true a27) (qan 0 x6) H fun a28 H =>
 vg (qad true a27) (qaf H a28) H fun a29 H =>
 vg (qad true a27) (qbu a29) H fun a30 H =>
 vg (qad true a27) (qan 1 x6) H fun a31 H =>
 vg (qad true a27) (qaf H a31) H fun a32 H =>
 vg (qad true a27) (qbu a32) H fun a33 H =>
 vg (qad true a27) (intV (qaa .add).f a30 a33) H fun a34 H =>
 vg (qad true a27) (qan 1 x8) H fun a35 H =>
 vg (qad true a27) (qaf H a35) H fun a36 H =>
 vg (qad true a27) (qbu a36) H fun a37 H =>
 vg (qad true a27) (intV (qaa .add).f a34 a37) H fun a38 H =>
 vg (qad true a27) (qan 0 x8) H fun a39 H =>
 vg (qad true a27) (qaf H a39) H fun a40 H =>
 vg (qad true a27) (intV (qaa .add).f a38 a40) H fun a41 H =>
 vg (qad true a27) (.val x12) H fun a42 H =>
 vg (qad true a27) (qbu a42) H fun a43 H =>
 vg (qad true a27) (intV (qaa .add).f a41 a43) H fun a44 H =>
 vg (qad true a27) (.val x14) H fun a45 H =>
 vg (qad true a27) (qbu a45) H fun a46 H =>
 vg (qad true a27) (intV (qaa .add).f a44 a46) H fun a47 H =>
 vg (qad true a27) (intV (qaa .eql).f a47 (.int .i64 (.ofNat 0))) H fun a48 H =>
 vq (qb6 a27 a48 (.bool false)) H fun a49 H =>
 veg (qad true a49) (call (.f qca) [] H) H fun a50 H =>
 vq (qb6 a49 a50 (.bool false)) H fun a51 H =>
 .ok a51 H) (
 qxm call x1 x2 x6 x11 x14 H)
def qxl : Ev.Call → AV → AV → AV → AV → AV → AV → AV → AV → AV → Hp → R1 := Classical.choose (⟨qbr, rfl⟩ : ∃ f, f = qbr)
theorem qvb : qxl = qbr := Classical.choose_spec (⟨qbr, rfl⟩ : ∃ f, f = qbr)
def qbq (call : Ev.Call) (x1 x2 x5 x6 x8 x10 x11 x12 x14 x74 : AV) (H : Hp) : R1 :=
 cd x74 (
 .ok (.bool false) H) (
 qxl call x1 x2 x5 x6 x8 x10 x11 x12 x14 H)
def qxk : Ev.Call → AV → AV → AV → AV → AV → AV → AV → AV → AV → AV → Hp → R1 := Classical.choose (⟨qbq, rfl⟩ : ∃ f, f = qbq)
theorem qva : qxk = qbq := Classical.choose_spec (⟨qbq, rfl⟩ : ∃ f, f = qbq)
def qbp (call : Ev.Call) (x1 x2 x5 x6 x7 x8 x9 x10 x11 x12 x13 x14 x15 : AV) (H : Hp) : R1 :=
 vq (intV (qaa .neq).f x7 x5) H fun a54 H =>
 vg (qad false a54) (.val x9) H fun a55 H =>
 vg (qad false a54) (.val x5) H fun a56 H =>
 vg (qad false a54) (intV (qaa .neq).f a55 a56) H fun a57 H =>
 vq (qb6 a54 (.bool true) a57) H fun a58 H =>
 vg (qad false a58) (.val x13) H fun a59 H =>
 vg (qad false a58) (.val x5) H fun a60 H =>
 vg (qad false a58) (intV (qaa .neq).f a59 a60) H fun a61 H =>
 vq (qb6 a58 (.bool true) a61) H fun a62 H =>
 vg (qad false a62) (.val x15) H fun a63 H =>
 vg (qad false a62) (.val x5) H fun a64 H =>
 vg (qad false a62) (intV (qaa .neq).f a63 a64) H fun a65 H =>
 vq (qb6 a62 (.bool true) a65) H fun a66 H =>
 qxk call x1 x2 x5 x6 x8 x10 x11 x12 x14 a66 H
def qxj : Ev.Call → AV → AV → AV → AV → AV → AV → AV → AV → AV → AV → AV → AV → AV → Hp → R1 := Classical.choose (⟨qbp, rfl⟩ : ∃ f, f = qbp)
theorem qu9 : qxj = qbp := Classical.choose_spec (⟨qbp, rfl⟩ : ∃ f, f = qbp)
def qbo (call : Ev.Call) (x1 x2 x5 x6 x7 x8 x9 x10 x11 x12 x13 : AV) (H : Hp) : R1 :=
 vq (qco 2 H x2) H fun a68 H =>
 ve (call (.f qte) [a68] H) fun a69 H =>
 vq (extr 0 a69) H fun a70 H =>
 vq (extr 1 a69) H fun a71 H =>
 qxj call x1 x2 x5 x6 x7 x8 x9 x10 x11 x12 x13 a70 a71 H
def qxi : Ev.Call → AV → AV → AV → AV → AV → AV → AV → AV → AV → AV → AV → Hp → R1 := Classical.choose (⟨qbo, rfl⟩ : ∃ f, f = qbo)
theorem qu8 : qxi = qbo := Classical.choose_spec (⟨qbo, rfl⟩ : ∃ f, f = qbo)
def qbn (call : Ev.Call) (x1 x2 x5 x6 x7 x8 x9 x10 x11 : AV) (H : Hp) : R1 :=
 vq (qco 2 H x2) H fun a73 H =>
 ve (call (.f qtf) [a73] H) fun a74 H =>
 vq (extr 0 a74) H fun a75 H =>
 vq (extr 1 a74) H fun a76 H =>
 qxi call x1 x2 x5 x6 x7 x8 x9 x10 x11 a75 a76 H
def qxh : Ev.Call → AV → AV → AV → AV → AV → AV → AV → AV → AV → Hp → R1 := Classical.choose (⟨qbn, rfl⟩ : ∃ f, f = qbn)
theorem qu7 : qxh = qbn := Classical.choose_spec (⟨qbn, rfl⟩ : ∃ f, f = qbn)
def qbm (call : Ev.Call) (x1 x2 x5 x6 x7 x8 x9 : AV) (H : Hp) : R1 :=
 vq (qco 2 H x2) H fun a78 H =>
 ve (call (.f qtd) [a78, x1] H) fun a79 H =>
 vq (extr 0 a79) H fun a80 H =>
 vq (extr 1 a79) H fun a81 H =>
 qxh call x1 x2 x5 x6 x7 x8 x9 a80 a81 H
def qxg : Ev.Call → AV → AV → AV → AV → AV → AV → AV → Hp → R1 := Classical.choose (⟨qbm, rfl⟩ : ∃ f, f = qbm)
theorem qu6 : qxg = qbm := Classical.choose_spec (⟨qbm, rfl⟩ : ∃ f, f = qbm)
def qbl (call : Ev.Call) (x1 x2 x5 x6 x7 : AV) (H : Hp) : R1 :=
 vq (qco 2 H x2) H fun a83 H =>
 ve (call (.f qtg) [a83] H) fun a84 H =>
 vq (extr 0 a84) H fun a85 H =>
 vq (extr 1 a84) H fun a86 H =>
 vq (.new (.ptr H.nx 0) (qac 0 [.int .i64 (.ofNat 0), .nilsl])) H fun a87 H =>
 ve (qdf 2 H a87 a85) fun _ H =>
 qxg call x1 x2 x5 x6 x7 a87 a86 H
def qxf : Ev.Call → AV → AV → AV → AV → AV → Hp → R1 := Classical.choose (⟨qbl, rfl⟩ : ∃ f, f = qbl)
theorem qu5 : qxf = qbl := Classical.choose_spec (⟨qbl, rfl⟩ : ∃ f, f = qbl)
def qbk (call : Ev.Call) (x1 x2 x5 : AV) (H : Hp) : R1 :=
 vq (qco 2 H x2) H fun a90 H =>
 ve (call (.f qmy) [a90] H) fun a91 H =>
 vq (extr 0 a91) H fun a92 H =>
 vq (extr 1 a91) H fun a93 H =>
 vq (.new (.ptr H.nx 0) (qac 0 [.nilsl, .nilsl])) H fun a94 H =>
 ve (qdf 2 H a94 a92) fun _ H =>
 qxf call x1 x2 x5 a94 a93 H
def qxe : Ev.Call → AV → AV → AV → Hp → R1 := Classical.choose (⟨qbk, rfl⟩ : ∃ f, f = qbk)
theorem qu4 : qxe = qbk := Classical.choose_spec (⟨qbk, rfl⟩ : ∃ f, f = qbk)
def qbj (call : Ev.Call) (x1 x2 x5 x29 : AV) (H : Hp) : R1 :=
 cd x29 (
 ve (call (.f qca) [] H) fun a97 H =>
 .ok a97 H) (
 qxe call x1 x2 x5 H)
def qxd : Ev.Call → AV → AV → AV → AV → Hp → R1 := Classical.choose (⟨qbj, rfl⟩ : ∃ f, f = qbj)
theorem qu3 : qxd = qbj := Classical.choose_spec (⟨qbj, rfl⟩ : ∃ f, f = qbj)
def qa0 (call : Ev.Call) (x1 x2 : AV) (H : Hp) : R1 :=
 vq (qco 2 H x2) H fun a1 H =>
 ve (call (.f qo0) [a1] H) fun a2 H =>
 vq (intV (qaa .eql).f a2 (.int .i64 (.ofNat 0))) H fun a99 H =>
 vg (qad true a99) (qan 0 x2) H fun a100 H =>
 vg (qad true a99) (qaf H a100) H fun a101 H =>
 vg (qad true a99) (intV (qaa .gtr).f a101 (.int .i64 (.ofNat 40))) H fun a102 H =>
 vq (qb6 a99 a102 (.bool false)) H fun a103 H =>
 qxd call x1 x2 a2 a103 H
def qqe : Ev.Call → AV → AV → Hp → R1 := Classical.choose (⟨qa0, rfl⟩ : ∃ f, f = qa0)
theorem qs3 : qqe = qa0 := Classical.choose_spec (⟨qa0, rfl⟩ : ∃ f, f = qa0)
def qaz (call : Ev.Call) (x1 x2 x19 : AV) (H : Hp) : R1 :=
 cd x19 (
 ve (call (.f qca) [] H) fun a105 H =>
 .ok a105 H) (
 qqe call x1 x2 H)
def qqd : Ev.Call → AV → AV → AV → Hp → R1 := Classical.choose (⟨qaz, rfl⟩ : ∃ f, f = qaz)
theorem qs2 : qqd = qaz := Classical.choose_spec (⟨qaz, rfl⟩ : ∃ f, f = qaz)
def zgm (call : Ev.Call) (x0 x1 : AV) (H : Hp) : R1 :=
 vq (boxA 2 H.nx x0) H fun a0 H =>
 vq (qan 1 a0) H fun a107 H =>
 vq (qaf H a107) H fun a108 H =>
 vq (qbu a108) H fun a109 H =>
 vq (intV (qaa .gtr).f a109 (.int .i64 (.ofNat 60))) H fun a110 H =>
 qqd call x1 a0 a110 H
def lwE (call : Ev.Call) (x0 x1 : AV) (H : Hp) : R1 := zgm call x0 x1 H
def qjk (call : Ev.Call) (H : Hp) : R1 :=
 .ok (.int .i64 (.ofNat 0)) H
def qo2 (call : Ev.Call) (g5 : AV → Hp → R1) (x16 : AV) (H : Hp) : R1 :=
 vq (intV (qaa .add).f x16 (.int .i64 (.ofNat 1))) H fun a7 H =>
 g5 a7 H
def q4t (call : Ev.Call) (q5r : AV → Hp → R1) (g5 : AV → Hp → R1) (x1 x3 x4 x16 : AV) (H : Hp) : R1 :=
 vq (qan 0 x4) H fun a13 H =>
 vq (qaf H a13) H fun a14 H =>
 vq (qan 1 x4) H fun a15 H =>
 vq (qaf H a15) H fun a16 H =>
 vq (qh1 minV a14 [a16]) H fun a17 H =>
 vq (intV (qaa .lss).f a17 (.int .i64 (.ofNat 0))) H fun a18 H =>
 vg (qad false a18) (qan 0 x4) H fun a19 H =>
 vg (qad false a18) (qaf H a19) H fun a20 H =>
 vg (qad false a18) (qan 1 x4) H fun a21 H =>
 vg (qad false a18) (qaf H a21) H fun a22 H =>
 vg (qad false a18) (qh1 maxV a20 [a22]) H fun a23 H =>
 vg (qad false a18) (qan 0 x1) H fun a24 H =>
 vg (qad false a18) (qaf H a24) H fun a25 H =>
 vg (qad false a18) (intV (qaa .geq).f a23 a25) H fun a26 H =>
 vq (qb6 a18 (.bool true) a26) H fun a27 H =>
 cd a27 (
 q5r (.int .i64 (.ofNat 4)) H) (
 dz 0 H fun b28 H =>
 dq false false 0 0 (b28 + 0) H [] [] (fun _ => .val x3) (some true) fun a29 H p w =>
 dq false false 1 1 (b28 + 1) H p w (fun _ => intV (qaa .gtr).f a29 (.int .i64 (.ofNat 0))) (some true) fun a30 H p w =>
 dq false false 2 3 (b28 + 2) H p w (fun _ => .val a30) (some true) fun a31 H p w =>
 dq false false 3 7 (b28 + 3) H p w (fun _ => qan 1 x1) (qad true a31) fun a32 H p w =>
 dq true false 4 15 (b28 + 4) H p w (fun H => qaf H a32) (qad true a31) fun a33 H p w =>
 dq false false 5 7 (b28 + 5) H p w (fun _ => .val x3) (qad true a31) fun a34 H p w =>
 dq false false 6 39 (b28 + 6) H p w (fun _ => intV (qaa .sub).f a34 (.int .i64 (.ofNat 1))) (qad true a31) fun a35 H p w =>
 dq false false 7 127 (b28 + 7) H p w (fun _ => idxS 3 a33 a35) (qad true a31) fun a36 H p w =>
 dq true false 8 255 (b28 + 8) H p w (fun H => qco 3 H a36) (qad true a31) fun a37 H p w =>
 dq true false 9 7 (b28 + 9) H p w (fun H => qco 3 H x4) (qad true a31) fun a38 H p w =>
 de 1023 H p w (call (.f qxw) [a37, a38] (qas 1023 p H)) (qad true a31) fun a39 H p w =>
 dq false false 11 2047 (b28 + 11) H p w (fun _ => intV (qaa .geq).f a39 (.int .i64 (.ofNat 0))) (qad true a31) fun a40 H p w =>
 dq false false 12 4095 (b28 + 12) H p w (fun _ => qb6 a31 a40 (.bool false)) (some true) fun a41 H p w =>
 dq false false 13 8191 (b28 + 13) H p w (fun _ => .val a41) (some true) fun a42 H p w =>
 dz2 p H fun H =>
 cd a42 (
 q5r (.int .i64 (.ofNat 18)) H) (
 qo2 call g5 x16 H))
def qqq (call : Ev.Call) (q5r : AV → Hp → R1) (g5 : AV → Hp → R1) (x1 x14 x16 : AV) (H : Hp) : R1 :=
 vq (idxS 3 x14 x16) H fun a9 H =>
 vq (qco 3 H a9) H fun a10 H =>
 vq (.new (.ptr H.nx 0) (qac 0 [.int .i64 (.ofNat 0), .int .i64 (.ofNat 0), .bool false])) H fun a11 H =>
 ve (qdf 3 H a11 a10) fun _ H =>
 q4t call q5r g5 x1 x16 a11 x16 H
def qti (call : Ev.Call) (q5r : AV → Hp → R1) (q5e0 : Hp → R1) (x1 x14 x15 : AV) (g5 : AV → Hp → R1) (x16 : AV) (H : Hp) : R1 :=
 vq (intV (qaa .lss).f x16 x15) H fun a6 H =>
 cd a6 (
 qqq call q5r g5 x1 x14 x16 H) (
 q5e0 H)
def qh0 (call : Ev.Call) (q5r : AV → Hp → R1) (q5e0 : Hp → R1) (x1 x14 x15 : AV) (n : Nat) : AV → Hp → R1 :=
 Nat.rec (motive := fun _ => AV → Hp → R1) (fun _ _ => .bad) (fun _ ih => qti call q5r q5e0 x1 x14 x15 ih) n
def qx0 (call : Ev.Call) (q5r : AV → Hp → R1) (q5e0 : Hp → R1) (x1 x14 x15 : AV) : AV → Hp → R1 := qh0 call q5r q5e0 x1 x14 x15 qbx
def qqp (call : Ev.Call) (x1 : AV) (H : Hp) : R1 :=
 vq (qan 1 x1) H fun a2 H =>
 vq (qaf H a2) H fun a3 H =>
 vq (qbu a3) H fun a4 H =>
 qx0 call (fun x2 H => .ok x2 H) (fun H => qjk call H) x1 a3 a4 (.int .i64 (.ofNat 0)) H
def q4u (call : Ev.Call) (x0 : AV) (H : Hp) : R1 :=
 vq (boxA 2 H.nx x0) H fun a0 H =>
 vq (qan 0 a0) H fun a45 H =>
 vq (qaf H a45) H fun a46 H =>
 vq (intV (qaa .lss).f a46 (.int .i64 (.ofNat 0))) H fun a47 H =>
 vg (qad false a47) (qan 0 a0) H fun a48 H =>
 vg (qad false a47) (qaf H a48) H fun a49 H =>
 vg (qad false a47) (intV (qaa .gtr).f a49 (.int .i64 (.ofNat 256))) H fun a50 H =>
 vq (qb6 a47 (.bool true) a50) H fun a51 H =>
 cd a51 (
 .ok (.int .i64 (.ofNat 3)) H) (
 qqp call a0 H)
def gChk (call : Ev.Call) (x0 : AV) (H : Hp) : R1 := q4u call x0 H
def qcw (call : Ev.Call) (x2 x6 : AV) (H : Hp) : R1 :=
 vq (qan 1 x6) H fun a14 H =>
 vq (qaf H a14) H fun a15 H =>
 ve (call (.f qqj) [a15] H) fun a16 H =>
 vq (qan 1 x6) H fun a17 H =>
 ve (qao H a17 a16) fun _ H =>
 vq (qco 2 H x6) H fun a19 H =>
 ve (qdf 2 H x2 a19) fun _ H =>
 finR (tupO (qpy (rV (qco 2 H x2)) (qpy (some (.int .i64 (.ofNat 0))) (some [])))) H
def qdv (call : Ev.Call) (g25 : AV → Hp → R1) (x27 : AV) (H : Hp) : R1 :=
 vq (intV (qaa .add).f x27 (.int .i64 (.ofNat 1))) H fun a27 H =>
 g25 a27 H
def qh9 (call : Ev.Call) (g32 : AV → Hp → R1) (x33 : AV) (H : Hp) : R1 :=
 vq (intV (qaa .add).f x33 (.int .i64 (.ofNat 1))) H fun a34 H =>
 g32 a34 H
def qm1 (call : Ev.Call) (g36 : AV → Hp → R1) (x36 : AV) (H : Hp) : R1 :=
 vq (intV (qaa .add).f x36 (.int .i64 (.ofNat 1))) H fun a38 H =>
 g36 a38 H
def qqt (call : Ev.Call) (g36 : AV → Hp → R1) (x1 x4 x6 x7 x8 x36 : AV) (H : Hp) : R1 :=
 vq (intV (qaa .eql).f x36 (.int .i64 (.ofNat 1))) H fun a40 H =>
 vq (aggN (qa3 [.int .i64 (.ofNat 0), .int .i64 (.ofNat 0), .bool false] [(0, 1, x7), (1, 1, x8), (2, 1, a40)])) H fun a41 H =>
 vq (.new (.ptr H.nx 0) (qac 0 [.int .i64 (.ofNat 0), .int .i64 (.ofNat 0), .bool false])) H fun a42 H =>
 ve (qdf 3 H a42 a41) fun _ H =>
 vq (intV (qaa .neq).f x7 x8) H fun a44 H =>
 vg (qad true a44) (qan 1 x1) H fun a45 H =>
 vg (qad true a44) (qaf H a45) H fun a46 H =>
 vg (qad true a44) (.val (.fn qtc [] [x4, a42])) H fun a47 H =>
 veg (qad true a44) (call (.f qta) [a46, a47] H) H fun a48 H =>
 vq (qb6 a44 a48 (.bool false)) H fun a49 H =>
 cd a49 (
 vq (qan 1 x6) H fun a50 H =>
 vq (qaf H a50) H fun a51 H =>
 vq (qco 3 H a42) H fun a52 H =>
 vq (qov 1 H.nx (qa3 (reps [.int .i64 (.ofNat 0), .int .i64 (.ofNat 0), .bool false] 1) [(0, 3, a52)])) H fun a53 H =>
 ve (qb2 3 24 H a51 (qdh 3 H a53)) fun a54 H =>
 vq (qan 1 x6) H fun a55 H =>
 ve (qao H a55 a54) fun _ H =>
 qm1 call g36 x36 H) (
 qm1 call g36 x36 H)
def qys (call : Ev.Call) (q36e4 : Hp → R1) (x1 x4 x6 x7 x8 : AV) (g36 : AV → Hp → R1) (x36 : AV) (H : Hp) : R1 :=
 vq (intV (qaa .lss).f x36 (.int .i64 (.ofNat 2))) H fun a37 H =>
 cd a37 (
 qqt call g36 x1 x4 x6 x7 x8 x36 H) (
 q36e4 H)
def qj7 (call : Ev.Call) (q36e4 : Hp → R1) (x1 x4 x6 x7 x8 : AV) (n : Nat) : AV → Hp → R1 :=
 Nat.rec (motive := fun _ => AV → Hp → R1) (fun _ _ => .bad) (fun _ ih => qys call q36e4 x1 x4 x6 x7 x8 ih) n
def qyv (call : Ev.Call) (q36e4 : Hp → R1) (x1 x4 x6 x7 x8 : AV) : AV → Hp → R1 := qj7 call q36e4 x1 x4 x6 x7 x8 qbx
def qyr (call : Ev.Call) (g32 : AV → Hp → R1) (x1 x4 x6 x7 x33 : AV) (H : Hp) : R1 :=
 qyv call (fun H => qh9 call g32 x33 H) x1 x4 x6 x7 x33 (.int .i64 (.ofNat 0)) H
def qyt (call : Ev.Call) (q32e2 : Hp → R1) (x1 x4 x6 x7 x32 : AV) (g32 : AV → Hp → R1) (x33 : AV) (H : Hp) : R1 :=
 vq (intV (qaa .lss).f x33 x32) H fun a33 H =>
 cd a33 (
 qyr call g32 x1 x4 x6 x7 x33 H) (
 q32e2 H)
def qem (call : Ev.Call) (q32e2 : Hp → R1) (x1 x4 x6 x7 x32 : AV) (n : Nat) : AV → Hp → R1 :=
 Nat.rec (motive := fun _ => AV → Hp → R1) (fun _ _ => .bad) (fun _ ih => qyt call q32e2 x1 x4 x6 x7 x32 ih) n
def qyw (call : Ev.Call) (q32e2 : Hp → R1) (x1 x4 x6 x7 x32 : AV) : AV → Hp → R1 := qem call q32e2 x1 x4 x6 x7 x32 qbx
def qyq (call : Ev.Call) (g25 : AV → Hp → R1) (x1 x4 x6 x27 : AV) (H : Hp) : R1 :=
 vq (qan 0 x4) H fun a29 H =>
 vq (qaf H a29) H fun a30 H =>
 vq (qbu a30) H fun a31 H =>
 qyw call (fun H => qdv call g25 x27 H) x1 x4 x6 x27 a31 (.int .i64 (.ofNat 0)) H
def qyu (call : Ev.Call) (q25e0 : Hp → R1) (x1 x4 x6 x26 : AV) (g25 : AV → Hp → R1) (x27 : AV) (H : Hp) : R1 :=
 vq (intV (qaa .lss).f x27 x26) H fun a26 H =>
 cd a26 (
 qyq call g25 x1 x4 x6 x27 H) (
 q25e0 H)
def qc0 (call : Ev.Call) (q25e0 : Hp → R1) (x1 x4 x6 x26 : AV) (n : Nat) : AV → Hp → R1 :=
 Nat.rec (motive := fun _ => AV → Hp → R1) (fun _ _ => .bad) (fun _ ih => qyu call q25e0 x1 x4 x6 x26 ih) n
def qyx (call : Ev.Call) (q25e0 : Hp → R1) (x1 x4 x6 x26 : AV) : AV → Hp → R1 := qc0 call q25e0 x1 x4 x6 x26 qbx
def qfw (call : Ev.Call) (x1 x2 x4 : AV) (H : Hp) : R1 :=
 vq (qan 0 x4) H fun a8 H =>
 vq (qaf H a8) H fun a9 H =>
 vq (qbu a9) H fun a10 H =>
 vq (aggN (qa3 [.int .i64 (.ofNat 0), .nilsl] [(0, 1, a10)])) H fun a11 H =>
 vq (.new (.ptr H.nx 0) (qac 0 [.int .i64 (.ofNat 0), .nilsl])) H fun a12 H =>
 ve (qdf 2 H a12 a11) fun _ H =>
 vq (qan 0 x4) H fun a22 H =>
 vq (qaf H a22) H fun a23 H =>
 vq (qbu a23) H fun a24 H =>
 qyx call (fun H => qcw call x2 a12 H) x1 x4 a12 a24 (.int .i64 (.ofNat 0)) H
def qyp : Ev.Call → AV → AV → AV → Hp → R1 := Classical.choose (⟨qfw, rfl⟩ : ∃ f, f = qfw)
theorem qt2 : qyp = qfw := Classical.choose_spec (⟨qfw, rfl⟩ : ∃ f, f = qfw)
def q5f (call : Ev.Call) (x0 : AV) (H : Hp) : R1 :=
 vq (boxA 2 H.nx x0) H fun a0 H =>
 vq (.new (.ptr H.nx 0) (qac 0 [.int .i64 (.ofNat 0), .nilsl])) H fun a1 H =>
 vq (qco 2 H a0) H fun a2 H =>
 ve (call (.f qmy) [a2] H) fun a3 H =>
 vq (extr 0 a3) H fun a4 H =>
 vq (extr 1 a3) H fun a5 H =>
 vq (.new (.ptr H.nx 0) (qac 0 [.nilsl, .nilsl])) H fun a6 H =>
 ve (qdf 2 H a6 a4) fun _ H =>
 vq (intV (qaa .neq).f a5 (.int .i64 (.ofNat 0))) H fun a61 H =>
 cd a61 (
 vq (aggN (qa3 [.int .i64 (.ofNat 0), .nilsl] [])) H fun a62 H =>
 ve (qdf 2 H a1 a62) fun _ H =>
 finR (tupO (qpy (rV (qco 2 H a1)) (qpy (some a5) (some [])))) H) (
 qyp call a0 a1 a6 H)
def cCnd (call : Ev.Call) (x0 : AV) (H : Hp) : R1 := q5f call x0 H
def qfs (call : Ev.Call) (x1 x2 x6 : AV) (H : Hp) : R1 :=
 vq (qan 0 x6) H fun a7 H =>
 vq (qaf H a7) H fun a8 H =>
 vq (idxS 1 a8 x1) H fun a9 H =>
 vq (qaf H a9) H fun a10 H =>
 vq (.new (.ptr H.nx 0) (qac 0 [.nilsl])) H fun a11 H =>
 ve (qao H a11 a10) fun _ H =>
 vq (qaf H a11) H fun a13 H =>
 vq (qbu a13) H fun a14 H =>
 vq (intV (qaa .eql).f a14 (.int .i64 (.ofNat 1))) H fun a15 H =>
 vg (qad true a15) (qan 1 x2) H fun a16 H =>
 vg (qad true a15) (qaf H a16) H fun a17 H =>
 vg (qad true a15) (.val (.fn qs8 [] [a11])) H fun a18 H =>
 veg (qad true a15) (call (.f qta) [a17, a18] H) H fun a19 H =>
 vg (qad true a15) ((unS .not).f a19) H fun a20 H =>
 vq (qb6 a15 a20 (.bool false)) H fun a21 H =>
 .ok (.tup [a21, (.int .i64 (.ofNat 0))]) H
def qya : Ev.Call → AV → AV → AV → Hp → R1 := Classical.choose (⟨qfs, rfl⟩ : ∃ f, f = qfs)
theorem qtw : qya = qfs := Classical.choose_spec (⟨qfs, rfl⟩ : ∃ f, f = qfs)
def q5b (call : Ev.Call) (x0 x1 : AV) (H : Hp) : R1 :=
 vq (boxA 2 H.nx x0) H fun a0 H =>
 vq (qco 2 H a0) H fun a1 H =>
 ve (call (.f qmy) [a1] H) fun a2 H =>
 vq (extr 0 a2) H fun a3 H =>
 vq (extr 1 a2) H fun a4 H =>
 vq (.new (.ptr H.nx 0) (qac 0 [.nilsl, .nilsl])) H fun a5 H =>
 ve (qdf 2 H a5 a3) fun _ H =>
 vq (intV (qaa .neq).f a4 (.int .i64 (.ofNat 0))) H fun a23 H =>
 cd a23 (
 .ok (.tup [(.bool false), a4]) H) (
 vq (intV (qaa .lss).f x1 (.int .i64 (.ofNat 0))) H fun a24 H =>
 vg (qad false a24) (.val x1) H fun a25 H =>
 vg (qad false a24) (qan 0 a5) H fun a26 H =>
 vg (qad false a24) (qaf H a26) H fun a27 H =>
 vg (qad false a24) (qbu a27) H fun a28 H =>
 vg (qad false a24) (intV (qaa .geq).f a25 a28) H fun a29 H =>
 vq (qb6 a24 (.bool true) a29) H fun a30 H =>
 cd a30 (
 .ok (.tup [(.bool false), (.int .i64 (.ofNat 4))]) H) (
 qya call x1 a0 a5 H))
def cSim (call : Ev.Call) (x0 x1 : AV) (H : Hp) : R1 := q5b call x0 x1 H
def qh8 (call : Ev.Call) (x6 : AV) (H : Hp) : R1 :=
 ve (call (.f qes) [x6] H) fun a7 H =>
 ve (call (.f qf5) [x6] H) fun a8 H =>
 ve (call (.f qln) [a8] H) fun a9 H =>
 .ok (.tup [a9, (.int .i64 (.ofNat 0))]) H
def qj6 (call : Ev.Call) (g14 : AV → AV → Hp → R1) (x6 x20 : AV) (H : Hp) : R1 :=
 vq (intV (qaa .add).f x20 (.int .i64 (.ofNat 1))) H fun a16 H =>
 g14 x6 a16 H
def qyl (call : Ev.Call) (g14 : AV → AV → Hp → R1) (x4 x6 x18 x20 : AV) (H : Hp) : R1 :=
 vq (idxS 3 x18 x20) H fun a18 H =>
 vq (qco 3 H a18) H fun a19 H =>
 vq (.new (.ptr H.nx 0) (qac 0 [.int .i64 (.ofNat 0), .int .i64 (.ofNat 0), .bool false])) H fun a20 H =>
 ve (qdf 3 H a20 a19) fun _ H =>
 vl (qan 2 a20) fun a22 =>
 vl (qaf H a22) fun a23 =>
 vlg (qad true a23) (qan 1 x4) fun a24 =>
 vlg (qad true a23) (qaf H a24) fun a25 =>
 vlg (qad true a23) (qan 0 a20) fun a26 =>
 vlg (qad true a23) (qaf H a26) fun a27 =>
 vlg (qad true a23) (idxS 1 a25 a27) fun a28 =>
 vlg (qad true a23) (qaf H a28) fun a29 =>
 vlg (qad true a23) (qan 1 x4) fun a30 =>
 vlg (qad true a23) (qaf H a30) fun a31 =>
 vlg (qad true a23) (qan 1 a20) fun a32 =>
 vlg (qad true a23) (qaf H a32) fun a33 =>
 vlg (qad true a23) (idxS 1 a31 a33) fun a34 =>
 vlg (qad true a23) (qaf H a34) fun a35 =>
 vlg (qad true a23) (intV (qaa .eql).f a29 a35) fun a36 =>
 vl (qb6 a23 a36 (.bool false)) fun a37 =>
 cd a37 (
 vq (qan 1 x4) H fun a38 H =>
 vq (qaf H a38) H fun a39 H =>
 vq (qan 0 a20) H fun a40 H =>
 vq (qaf H a40) H fun a41 H =>
 vq (idxS 1 a39 a41) H fun a42 H =>
 vq (qaf H a42) H fun a43 H =>
 vq (qov 1 H.nx (qa3 (reps [.int .i64 (.ofNat 0)] 1) [(0, 1, a43)])) H fun a44 H =>
 ve (qb2 1 8 H x6 (qdh 1 H a44)) fun a45 H =>
 qj6 call g14 a45 x20 H) (
 qj6 call g14 x6 x20 H)
def qym (call : Ev.Call) (q14e0 : AV → Hp → R1) (x4 x18 x19 : AV) (g14 : AV → AV → Hp → R1) (x6 x20 : AV) (H : Hp) : R1 :=
 vq (intV (qaa .lss).f x20 x19) H fun a15 H =>
 cd a15 (
 qyl call g14 x4 x6 x18 x20 H) (
 q14e0 x6 H)
def qj5 (call : Ev.Call) (q14e0 : AV → Hp → R1) (x4 x18 x19 : AV) (n : Nat) : AV → AV → Hp → R1 :=
 Nat.rec (motive := fun _ => AV → AV → Hp → R1) (fun _ _ _ => .bad) (fun _ ih => qym call q14e0 x4 x18 x19 ih) n
def qyn (call : Ev.Call) (q14e0 : AV → Hp → R1) (x4 x18 x19 : AV) : AV → AV → Hp → R1 := qj5 call q14e0 x4 x18 x19 qbx
def qfv (call : Ev.Call) (x1 x4 : AV) (H : Hp) : R1 :=
 vq (qan 1 x1) H fun a11 H =>
 vq (qaf H a11) H fun a12 H =>
 vq (qbu a12) H fun a13 H =>
 qyn call (fun x6 H => qh8 call x6 H) x4 a12 a13 (.nilsl) (.int .i64 (.ofNat 0)) H
def qyk : Ev.Call → AV → AV → Hp → R1 := Classical.choose (⟨qfv, rfl⟩ : ∃ f, f = qfv)
theorem qt1 : qyk = qfv := Classical.choose_spec (⟨qfv, rfl⟩ : ∃ f, f = qfv)
def q5d (call : Ev.Call) (x0 : AV) (H : Hp) : R1 :=
 vq (boxA 2 H.nx x0) H fun a0 H =>
 vq (qco 2 H a0) H fun a1 H =>
 ve (call (.f qmy) [a1] H) fun a2 H =>
 vq (extr 0 a2) H fun a3 H =>
 vq (extr 1 a2) H fun a4 H =>
 vq (.new (.ptr H.nx 0) (qac 0 [.nilsl, .nilsl])) H fun a5 H =>
 ve (qdf 2 H a5 a3) fun _ H =>
 vq (intV (qaa .neq).f a4 (.int .i64 (.ofNat 0))) H fun a48 H =>
 cd a48 (
 .ok (.tup [(.nilsl), a4]) H) (
 qyk call a0 a5 H)
def cMix (call : Ev.Call) (x0 : AV) (H : Hp) : R1 := q5d call x0 H
def qyj (call : Ev.Call) (x4 : AV) (H : Hp) : R1 :=
 vq (qan 0 x4) H fun a7 H =>
 vq (qaf H a7) H fun a8 H =>
 ve (call (.f qxu) [a8] H) fun a9 H =>
 ve (call (.f qln) [a9] H) fun a10 H =>
 .ok (.tup [a10, (.int .i64 (.ofNat 0))]) H
def q5c (call : Ev.Call) (x0 : AV) (H : Hp) : R1 :=
 vq (boxA 2 H.nx x0) H fun a0 H =>
 vq (qco 2 H a0) H fun a1 H =>
 ve (call (.f qmy) [a1] H) fun a2 H =>
 vq (extr 0 a2) H fun a3 H =>
 vq (extr 1 a2) H fun a4 H =>
 vq (.new (.ptr H.nx 0) (qac 0 [.nilsl, .nilsl])) H fun a5 H =>
 ve (qdf 2 H a5 a3) fun _ H =>
 vq (intV (qaa .neq).f a4 (.int .i64 (.ofNat 0))) H fun a12 H =>
 cd a12 (
 .ok (.tup [(.nilsl), a4]) H) (
 qyj call a5 H)
def cOrd (call : Ev.Call) (x0 : AV) (H : Hp) : R1 := q5c call x0 H
def zar (call : Ev.Call) (x0 x1 : AV) (H : Hp) : R1 :=
 vq (boxA 3 H.nx x0) H fun a0 H =>
 vq (boxA 3 H.nx x1) H fun a1 H =>
 dz 18 H fun b2 H =>
 dq false false 0 0 (b2 + 0) H [] [] (fun _ => qan 0 a0) (some true) fun a3 H p w =>
 dq true false 1 1 (b2 + 1) H p w (fun H => qaf H a3) (some true) fun a4 H p w =>
 dq false false 2 0 (b2 + 2) H p w (fun _ => qan 0 a1) (some true) fun a5 H p w =>
 dq true false 3 4 (b2 + 3) H p w (fun H => qaf H a5) (some true) fun a6 H p w =>
 dq false false 5 0 (b2 + 5) H p w (fun _ => qan 1 a0) (some true) fun a7 H p w =>
 dq true false 6 32 (b2 + 6) H p w (fun H => qaf H a7) (some true) fun a8 H p w =>
 dq false false 7 0 (b2 + 7) H p w (fun _ => qan 1 a1) (some true) fun a9 H p w =>
 dq true false 8 128 (b2 + 8) H p w (fun H => qaf H a9) (some true) fun a10 H p w =>
 dq true false 10 0 (b2 + 10) H p w (fun H => qco 3 H a0) (some true) fun a11 H p w =>
 dq true false 12 0 (b2 + 12) H p w (fun H => qco 3 H a1) (some true) fun a12 H p w =>
 de 15 H p w (call (.f qo1) [a4, a6] (qas 15 p H)) (some true) fun a13 H p w =>
 de 511 H p w (call (.f qo1) [a8, a10] (qas 511 p H)) (some true) fun a14 H p w =>
 de 2047 H p w (call (.f qtb) [a11] (qas 2047 p H)) (some true) fun a15 H p w =>
 de 8191 H p w (call (.f qtb) [a12] (qas 8191 p H)) (some true) fun a16 H p w =>
 de 16383 H p w (call (.f qo1) [a15, a16] (qas 16383 p H)) (some true) fun a17 H p w =>
 dq false true 15 32767 (b2 + 15) H p w (fun _ => qov 3 (b2 + 15) (qa3 (reps [.int .i64 (.ofNat 0)] 3) [(0, 1, a13), (1, 1, a14), (2, 1, a17)])) (some true) fun a18 H p w =>
 de 65535 H p w (call (.f q4s) [a18] (qas 65535 p H)) (some true) fun a19 H p w =>
 dq false false 17 131071 (b2 + 17) H p w (fun _ => .val a19) (some true) fun a20 H p w =>
 dz2 p H fun H =>
 .ok a20 H
def gCmp (call : Ev.Call) (x0 x1 : AV) (H : Hp) : R1 := zar call x0 x1 H
def qfu (call : Ev.Call) (x3 : AV) (H : Hp) : R1 :=
 vq (qan 1026 x3) H fun a2 H =>
 vq (qaf H a2) H fun a3 H =>
 .ok a3 H
def qhe (call : Ev.Call) (g7 : AV → Hp → R1) (x30 : AV) (H : Hp) : R1 :=
 vq (intV (qaa .add).f x30 (.int .i64 (.ofNat 1))) H fun a9 H =>
 g7 a9 H
def qpc (call : Ev.Call) (g7 : AV → Hp → R1) (x3 x30 : AV) (H : Hp) : R1 :=
 vq (qan 256 x3) H fun a11 H =>
 vq (idxA 256 1 a11 x30) H fun a12 H =>
 vq (qaf H a12) H fun a13 H =>
 vq (intV (qaa .eql).f a13 (.int .i64 (.ofNat 0))) H fun a14 H =>
 cd a14 (
 ve (call (.f qqo) [x3, x30] H) fun a15 H =>
 qhe call g7 x30 H) (
 qhe call g7 x30 H)
def qtx (call : Ev.Call) (q7e2 : Hp → R1) (x3 x29 : AV) (g7 : AV → Hp → R1) (x30 : AV) (H : Hp) : R1 :=
 vq (intV (qaa .lss).f x30 x29) H fun a8 H =>
 cd a8 (
 qpc call g7 x3 x30 H) (
 q7e2 H)
def qhd (call : Ev.Call) (q7e2 : Hp → R1) (x3 x29 : AV) (n : Nat) : AV → Hp → R1 :=
 Nat.rec (motive := fun _ => AV → Hp → R1) (fun _ _ => .bad) (fun _ ih => qtx call q7e2 x3 x29 ih) n
def qty (call : Ev.Call) (q7e2 : Hp → R1) (x3 x29 : AV) : AV → Hp → R1 := qhd call q7e2 x3 x29 qbx
def qeh (call : Ev.Call) (x1 x3 : AV) (H : Hp) : R1 :=
 vq (qan 0 x1) H fun a5 H =>
 vq (qaf H a5) H fun a6 H =>
 qty call (fun H => qfu call x3 H) x3 a6 (.int .i64 (.ofNat 0)) H
def qpb (call : Ev.Call) (g21 : AV → Hp → R1) (x10 : AV) (H : Hp) : R1 :=
 vq (intV (qaa .add).f x10 (.int .i64 (.ofNat 1))) H fun a23 H =>
 g21 a23 H
def qpa (call : Ev.Call) (g21 : AV → Hp → R1) (x3 x8 x10 : AV) (H : Hp) : R1 :=
 vq (idxS 3 x8 x10) H fun a25 H =>
 vq (qco 3 H a25) H fun a26 H =>
 vq (.new (.ptr H.nx 0) (qac 0 [.int .i64 (.ofNat 0), .int .i64 (.ofNat 0), .bool false])) H fun a27 H =>
 ve (qdf 3 H a27 a26) fun _ H =>
 dz 14 H fun b29 H =>
 dq false false 0 0 (b29 + 0) H [] [] (fun _ => qan 0 a27) (some true) fun a30 H p w =>
 dq true false 1 1 (b29 + 1) H p w (fun H => qaf H a30) (some true) fun a31 H p w =>
 dq false false 2 0 (b29 + 2) H p w (fun _ => qan 0 a27) (some true) fun a32 H p w =>
 dq true false 3 4 (b29 + 3) H p w (fun H => qaf H a32) (some true) fun a33 H p w =>
 dq false false 4 0 (b29 + 4) H p w (fun _ => qan 0 x3) (some true) fun a34 H p w =>
 dq false false 5 28 (b29 + 5) H p w (fun _ => idxA 256 1 a34 a33) (some true) fun a35 H p w =>
 dq true false 6 60 (b29 + 6) H p w (fun H => qaf H a35) (some true) fun a36 H p w =>
 dq false false 7 0 (b29 + 7) H p w (fun _ => qan 1 a27) (some true) fun a37 H p w =>
 dq true false 8 128 (b29 + 8) H p w (fun H => qaf H a37) (some true) fun a38 H p w =>
 dq false true 9 384 (b29 + 9) H p w (fun _ => qov 1 (b29 + 9) (qa3 (reps [.int .i64 (.ofNat 0)] 1) [(0, 1, a38)])) (some true) fun a39 H p w =>
 dq false false 11 0 (b29 + 11) H p w (fun _ => qan 0 x3) (some true) fun a40 H p w =>
 de 1020 H p w (qb2 1 8 (qas 1020 p H) a36 (qdh 1 (qas 1020 p H) a39)) (some true) fun a41 H p w =>
 dq false false 12 4095 (b29 + 12) H p w (fun _ => idxA 256 1 a40 a31) (some true) fun a42 H p w =>
 de 8191 H p w (qao (qas 8191 p H) a42 a41) (some true) fun _ H p w =>
 dz2 p H fun H =>
 qpb call g21 x10 H
def qpd (call : Ev.Call) (q21e0 : Hp → R1) (x3 x8 x9 : AV) (g21 : AV → Hp → R1) (x10 : AV) (H : Hp) : R1 :=
 vq (intV (qaa .lss).f x10 x9) H fun a22 H =>
 cd a22 (
 qpa call g21 x3 x8 x10 H) (
 q21e0 H)
def qe7 (call : Ev.Call) (q21e0 : Hp → R1) (x3 x8 x9 : AV) (n : Nat) : AV → Hp → R1 :=
 Nat.rec (motive := fun _ => AV → Hp → R1) (fun _ _ => .bad) (fun _ ih => qpd call q21e0 x3 x8 x9 ih) n
def qpe (call : Ev.Call) (q21e0 : Hp → R1) (x3 x8 x9 : AV) : AV → Hp → R1 := qe7 call q21e0 x3 x8 x9 qbx
def qyi (call : Ev.Call) (x0 : AV) (H : Hp) : R1 :=
 vq (boxA 2 H.nx x0) H fun a0 H =>
 vq (.new (.ptr H.nx 0) (qac 0 (List.replicate 256 (.nilsl) ++ List.replicate 512 (.int .i64 (.ofNat 0)) ++ List.replicate 256 (.bool false) ++ [.nilsl] ++ [.int .i64 (.ofNat 0)] ++ [.nilsl]))) H fun a1 H =>
 vq (qan 1 a0) H fun a18 H =>
 vq (qaf H a18) H fun a19 H =>
 vq (qbu a19) H fun a20 H =>
 qpe call (fun H => qeh call a0 a1 H) a1 a19 a20 (.int .i64 (.ofNat 0)) H
def cParts (call : Ev.Call) (x0 : AV) (H : Hp) : R1 := qyi call x0 H
def qft (call : Ev.Call) (x2 x3 x5 : AV) (H : Hp) : R1 :=
 .ok (.fn qjf [] [x3, x2, x5]) H
def qh7 (call : Ev.Call) (g12 : AV → Hp → R1) (x17 : AV) (H : Hp) : R1 :=
 vq (intV (qaa .add).f x17 (.int .i64 (.ofNat 1))) H fun a14 H =>
 g12 a14 H
def qyd (call : Ev.Call) (g19 : AV → Hp → R1) (x24 : AV) (H : Hp) : R1 :=
 vq (intV (qaa .add).f x24 (.int .i64 (.ofNat 1))) H fun a21 H =>
 g19 a21 H
def qyc (call : Ev.Call) (g19 : AV → Hp → R1) (x5 x6 x22 x24 : AV) (H : Hp) : R1 :=
 vq (idxS 1 x22 x24) H fun a23 H =>
 vq (qaf H a23) H fun a24 H =>
 vq (qaf H x5) H fun a25 H =>
 vq (idxS 1 a25 a24) H fun a26 H =>
 ve (qao H a26 x6) fun _ H =>
 qyd call g19 x24 H
def qye (call : Ev.Call) (q19e2 : Hp → R1) (x5 x6 x22 x23 : AV) (g19 : AV → Hp → R1) (x24 : AV) (H : Hp) : R1 :=
 vq (intV (qaa .lss).f x24 x23) H fun a20 H =>
 cd a20 (
 qyc call g19 x5 x6 x22 x24 H) (
 q19e2 H)
def qj4 (call : Ev.Call) (q19e2 : Hp → R1) (x5 x6 x22 x23 : AV) (n : Nat) : AV → Hp → R1 :=
 Nat.rec (motive := fun _ => AV → Hp → R1) (fun _ _ => .bad) (fun _ ih => qye call q19e2 x5 x6 x22 x23 ih) n
def qyg (call : Ev.Call) (q19e2 : Hp → R1) (x5 x6 x22 x23 : AV) : AV → Hp → R1 := qj4 call q19e2 x5 x6 x22 x23 qbx
def qyb (call : Ev.Call) (g12 : AV → Hp → R1) (x5 x15 x17 : AV) (H : Hp) : R1 :=
 vq (idxS 1 x15 x17) H fun a16 H =>
 vq (qaf H a16) H fun a17 H =>
 vq (qbu a17) H fun a18 H =>
 qyg call (fun H => qh7 call g12 x17 H) x5 x17 a17 a18 (.int .i64 (.ofNat 0)) H
def qyf (call : Ev.Call) (q12e0 : Hp → R1) (x5 x15 x16 : AV) (g12 : AV → Hp → R1) (x17 : AV) (H : Hp) : R1 :=
 vq (intV (qaa .lss).f x17 x16) H fun a13 H =>
 cd a13 (
 qyb call g12 x5 x15 x17 H) (
 q12e0 H)
def qel (call : Ev.Call) (q12e0 : Hp → R1) (x5 x15 x16 : AV) (n : Nat) : AV → Hp → R1 :=
 Nat.rec (motive := fun _ => AV → Hp → R1) (fun _ _ => .bad) (fun _ ih => qyf call q12e0 x5 x15 x16 ih) n
def qyh (call : Ev.Call) (q12e0 : Hp → R1) (x5 x15 x16 : AV) : AV → Hp → R1 := qel call q12e0 x5 x15 x16 qbx
def zbq (call : Ev.Call) (x0 x1 : AV) (H : Hp) : R1 :=
 vq (boxA 2 H.nx x0) H fun a0 H =>
 vq (box1 H.nx x1) H fun a1 H =>
 vq (qaf H a1) H fun a2 H =>
 ve (call (.f qcu) [a2, (.fn qlo [] [])] H) fun a3 H =>
 vq (qan 0 a0) H fun a4 H =>
 vq (qaf H a4) H fun a5 H =>
 vq (qps [.int .i64 (.ofNat 0)] 8 H.nx a5 a5) H fun a6 H =>
 vq (.new (.ptr H.nx 0) (qac 0 [.nilsl])) H fun a7 H =>
 ve (qao H a7 a6) fun _ H =>
 vq (qaf H a1) H fun a10 H =>
 vq (qbu a10) H fun a11 H =>
 qyh call (fun H => qft call a0 a1 a7 H) a7 a10 a11 (.int .i64 (.ofNat 0)) H
def cRdy (call : Ev.Call) (x0 x1 : AV) (H : Hp) : R1 := zbq call x0 x1 H
def q35 (call : Ev.Call) (x0 : AV) (H : Hp) : R1 :=
 vq (qbu x0) H fun a0 H =>
 vq (qbu x0) H fun a1 H =>
 vq (qb9 1 x0 none (some a0) (some a1)) H fun a2 H =>
 .ok a2 H
def sClp (call : Ev.Call) (x0 : AV) (H : Hp) : R1 := q35 call x0 H
def q1s (call : Ev.Call) (x0 : AV) (H : Hp) : R1 :=
 vq (qbu x0) H fun a0 H =>
 vq (qbu x0) H fun a1 H =>
 vq (qb9 1 x0 none (some a0) (some a1)) H fun a2 H =>
 .ok a2 H
def sClpS (call : Ev.Call) (x0 : AV) (H : Hp) : R1 := q1s call x0 H
def zbj (call : Ev.Call) (x0 x1 x2 : AV) (H : Hp) : R1 :=
 vq (boxA 3 H.nx x0) H fun a0 H =>
 vl (qan 1 x1) fun a1 =>
 vl (qaf H a1) fun a2 =>
 vl (qan 0 a0) fun a3 =>
 vl (qaf H a3) fun a4 =>
 vl (idxS 1 a2 a4) fun a5 =>
 vl (qaf H a5) fun a6 =>
 vl (qan 1 x1) fun a7 =>
 vl (qaf H a7) fun a8 =>
 vl (qan 1 a0) fun a9 =>
 vl (qaf H a9) fun a10 =>
 vl (idxS 1 a8 a10) fun a11 =>
 vl (qaf H a11) fun a12 =>
 vl (qan 2 a0) fun a13 =>
 vl (qaf H a13) fun a14 =>
 vl (aggN (qa3 [.int .i64 (.ofNat 0), .int .i64 (.ofNat 0), .bool false] [(0, 1, a6), (1, 1, a12), (2, 1, a14)])) fun a15 =>
 vl (qco 3 H x2) fun a16 =>
 vl (qpz false ((⟨E2.f ⟨qx2 (eqFields [(p1, ⟨quh⟩, 0), (p1, ⟨quh⟩, 1), (p1, ⟨qkf⟩, 2)])⟩⟩ : E2).f a15 a16)) fun a17 =>
 .ok a17 H
def cndA (call : Ev.Call) (x0 x1 x2 : AV) (H : Hp) : R1 := zbj call x0 x1 x2 H
def q8s (call : Ev.Call) (x0 x1 : AV) (H : Hp) : R1 :=
 ve (call (.f qxr) [x0, x1] H) fun a0 H =>
 vq (intV (qaa .geq).f a0 (.int .i64 (.ofNat 0))) H fun a1 H =>
 .ok a1 H
def sCon (call : Ev.Call) (x0 x1 : AV) (H : Hp) : R1 := q8s call x0 x1 H
def q1t (call : Ev.Call) (x0 : AV) (H : Hp) : R1 :=
 vq (qbu x0) H fun a0 H =>
 vq (qbu x0) H fun a1 H =>
 vq (qb9 3 x0 none (some a0) (some a1)) H fun a2 H =>
 .ok a2 H
def sClpE (call : Ev.Call) (x0 : AV) (H : Hp) : R1 := q1t call x0 H
def q8d (call : Ev.Call) (x0 x1 : AV) (H : Hp) : R1 :=
 vq (boxA 3 H.nx x0) H fun a0 H =>
 vl (qan 0 a0) fun a1 =>
 vl (qaf H a1) fun a2 =>
 vl (qaf H x1) fun a3 =>
 vl (idxS 1 a3 (.int .i64 (.ofNat 0))) fun a4 =>
 vl (qaf H a4) fun a5 =>
 vl (intV (qaa .eql).f a2 a5) fun a6 =>
 vlg (qad true a6) (qan 1 a0) fun a7 =>
 vlg (qad true a6) (qaf H a7) fun a8 =>
 vlg (qad true a6) (qaf H x1) fun a9 =>
 vlg (qad true a6) (idxS 1 a9 (.int .i64 (.ofNat 0))) fun a10 =>
 vlg (qad true a6) (qaf H a10) fun a11 =>
 vlg (qad true a6) (intV (qaa .eql).f a8 a11) fun a12 =>
 vl (qb6 a6 a12 (.bool false)) fun a13 =>
 .ok a13 H
def simA (call : Ev.Call) (x0 x1 : AV) (H : Hp) : R1 := q8d call x0 x1 H
def qis (call : Ev.Call) (x6 : AV) (H : Hp) : R1 :=
 .ok x6 H
def q1u (call : Ev.Call) (g3 : AV → AV → Hp → R1) (x6 x27 : AV) (H : Hp) : R1 :=
 vq (intV (qaa .add).f x27 (.int .i64 (.ofNat 1))) H fun a5 H =>
 g3 x6 a5 H
def qwh (call : Ev.Call) (g3 : AV → AV → Hp → R1) (x6 x25 x27 : AV) (H : Hp) : R1 :=
 vq (idxS 1 x25 x27) H fun a7 H =>
 vq (qaf H a7) H fun a8 H =>
 ve (qb2 1 8 H x6 (qdh 1 H a8)) fun a9 H =>
 q1u call g3 a9 x27 H
def qru (call : Ev.Call) (q3e2 : AV → Hp → R1) (x25 x26 : AV) (g3 : AV → AV → Hp → R1) (x6 x27 : AV) (H : Hp) : R1 :=
 vq (intV (qaa .lss).f x27 x26) H fun a4 H =>
 cd a4 (
 qwh call g3 x6 x25 x27 H) (
 q3e2 x6 H)
def qk2 (call : Ev.Call) (q3e2 : AV → Hp → R1) (x25 x26 : AV) (n : Nat) : AV → AV → Hp → R1 :=
 Nat.rec (motive := fun _ => AV → AV → Hp → R1) (fun _ _ _ => .bad) (fun _ ih => qru call q3e2 x25 x26 ih) n
def qwj (call : Ev.Call) (q3e2 : AV → Hp → R1) (x25 x26 : AV) : AV → AV → Hp → R1 := qk2 call q3e2 x25 x26 qbx
def qhk (call : Ev.Call) (x0 x3 : AV) (H : Hp) : R1 :=
 ve (call (.f qs9) [(.nilsl), x3] H) fun a0 H =>
 vq (qbu x0) H fun a2 H =>
 qwj call (fun x6 H => qis call x6 H) x0 a2 a0 (.int .i64 (.ofNat 0)) H
def qp4 (call : Ev.Call) (g13 : AV → AV → Hp → R1) (x3 x11 : AV) (H : Hp) : R1 :=
 vq (intV (qaa .add).f x11 (.int .i64 (.ofNat 1))) H fun a15 H =>
 g13 x3 a15 H
def qwg (call : Ev.Call) (g13 : AV → AV → Hp → R1) (x3 x9 x11 : AV) (H : Hp) : R1 :=
 vq (idxS 1 x9 x11) H fun a17 H =>
 vq (qaf H a17) H fun a18 H =>
 vq (qbu a18) H fun a19 H =>
 vq (intV (qaa .add).f x3 a19) H fun a20 H =>
 vq (intV (qaa .lss).f a20 (.int .i64 (.ofNat 0))) H fun a21 H =>
 cd a21 (
 ve (.bad) fun _ H =>
 qp4 call g13 a20 x11 H) (
 qp4 call g13 a20 x11 H)
def qwi (call : Ev.Call) (q13e0 : AV → Hp → R1) (x9 x10 : AV) (g13 : AV → AV → Hp → R1) (x3 x11 : AV) (H : Hp) : R1 :=
 vq (intV (qaa .lss).f x11 x10) H fun a14 H =>
 cd a14 (
 qwg call g13 x3 x9 x11 H) (
 q13e0 x3 H)
def qjv (call : Ev.Call) (q13e0 : AV → Hp → R1) (x9 x10 : AV) (n : Nat) : AV → AV → Hp → R1 :=
 Nat.rec (motive := fun _ => AV → AV → Hp → R1) (fun _ _ _ => .bad) (fun _ ih => qwi call q13e0 x9 x10 ih) n
def qwk (call : Ev.Call) (q13e0 : AV → Hp → R1) (x9 x10 : AV) : AV → AV → Hp → R1 := qjv call q13e0 x9 x10 qbx
def q8x (call : Ev.Call) (x0 : AV) (H : Hp) : R1 :=
 vq (qbu x0) H fun a12 H =>
 qwk call (fun x3 H => qhk call x0 x3 H) x0 a12 (.int .i64 (.ofNat 0)) (.int .i64 (.ofNat 0)) H
def sCat (call : Ev.Call) (x0 : AV) (H : Hp) : R1 := q8x call x0 H
def q3i (call : Ev.Call) (H : Hp) : R1 :=
 .ok (.int .i64 (.ofNat 0)) H
def q3h (call : Ev.Call) (x0 x1 : AV) (H : Hp) : R1 :=
 vq (intV (qaa .gtr).f x0 x1) H fun a3 H =>
 cd a3 (
 .ok (.int .i64 (.ofNat 1)) H) (
 q3i call H)
def q3g (call : Ev.Call) (x0 x1 : AV) (H : Hp) : R1 :=
 vq (intV (qaa .lss).f x0 x1) H fun a5 H =>
 cd a5 (
 .ok (.int .i64 (.negSucc 0)) H) (
 q3h call x0 x1 H)
def q3f (call : Ev.Call) (x0 x1 x6 : AV) (H : Hp) : R1 :=
 cd x6 (
 .ok (.int .i64 (.ofNat 1)) H) (
 q3g call x0 x1 H)
def zb2 (call : Ev.Call) (H : Hp) : R1 :=
 .ok (.int .i64 (.negSucc 0)) H
def zb3 (call : Ev.Call) (x0 x1 : AV) (H : Hp) : R1 :=
 ve (call (.f qlp) [x0] H) fun a0 H =>
 ve (call (.f qlp) [x1] H) fun a1 H =>
 cd a0 (
 cd a1 (
 .ok (.int .i64 (.ofNat 0)) H) (
 zb2 call H)) (
 q3f call x0 x1 a1 H)
def cCmp (call : Ev.Call) (x0 x1 : AV) (H : Hp) : R1 := zb3 call x0 x1 H
def q2s (call : Ev.Call) (H : Hp) : R1 :=
 .ok (.int .i64 (.ofNat 0)) H
def zao (call : Ev.Call) (x0 : AV) (H : Hp) : R1 :=
 vq (boxA 3 H.nx x0) H fun a0 H =>
 vq (qan 2 a0) H fun a2 H =>
 vq (qaf H a2) H fun a3 H =>
 cd a3 (
 .ok (.int .i64 (.ofNat 1)) H) (
 q2s call H)
def gSgn (call : Ev.Call) (x0 : AV) (H : Hp) : R1 := zao call x0 H
def qtz (call : Ev.Call) (x3 : AV) (H : Hp) : R1 :=
 .ok x3 H
def zbt (call : Ev.Call) (g2 : AV → Hp → R1) (x8 : AV) (H : Hp) : R1 :=
 vq (intV (qaa .add).f x8 (.int .i64 (.ofNat 1))) H fun a4 H =>
 g2 a4 H
def zbs (call : Ev.Call) (q2r : AV → Hp → R1) (g2 : AV → Hp → R1) (x3 x6 x8 : AV) (H : Hp) : R1 :=
 vq (idxS 1 x6 x8) H fun a6 H =>
 vq (qaf H a6) H fun a7 H =>
 vq (intV (qaa .neq).f a7 x3) H fun a8 H =>
 cd a8 (
 q2r a7 H) (
 zbt call g2 x8 H)
def zbu (call : Ev.Call) (q2r : AV → Hp → R1) (q2e0 : Hp → R1) (x3 x6 x7 : AV) (g2 : AV → Hp → R1) (x8 : AV) (H : Hp) : R1 :=
 vq (intV (qaa .lss).f x8 x7) H fun a3 H =>
 cd a3 (
 zbs call q2r g2 x3 x6 x8 H) (
 q2e0 H)
def qvj (call : Ev.Call) (q2r : AV → Hp → R1) (q2e0 : Hp → R1) (x3 x6 x7 : AV) (n : Nat) : AV → Hp → R1 :=
 Nat.rec (motive := fun _ => AV → Hp → R1) (fun _ _ => .bad) (fun _ ih => zbu call q2r q2e0 x3 x6 x7 ih) n
def zbv (call : Ev.Call) (q2r : AV → Hp → R1) (q2e0 : Hp → R1) (x3 x6 x7 : AV) : AV → Hp → R1 := qvj call q2r q2e0 x3 x6 x7 qbx
def zhi (call : Ev.Call) (x0 : AV) (H : Hp) : R1 :=
 vq (qbu x0) H fun a1 H =>
 zbv call (fun x2 H => .ok x2 H) (fun H => qtz call (.int .i64 (.ofNat 0)) H) (.int .i64 (.ofNat 0)) x0 a1 (.int .i64 (.ofNat 0)) H
def cOr (call : Ev.Call) (x0 : AV) (H : Hp) : R1 := zhi call x0 H
def qeu (call : Ev.Call) (g3 : AV → Hp → R1) (x0 x4 x5 : AV) (H : Hp) : R1 :=
 vq (nilC x5) H fun a7 H =>
 vq (qan 0 a7) H fun a8 H =>
 vq (qaf H a8) H fun a9 H =>
 ve (call (.f qha) [x0, a9] H) fun a10 H =>
 vq (qbu x4) H fun a11 H =>
 vq (intV (qaa .sub).f a11 (.int .i64 (.ofNat 1))) H fun a12 H =>
 vq (qb9 2 x4 none (some a12) none) H fun a13 H =>
 vq (qbu a13) H fun a14 H =>
 vq (intV (qaa .gtr).f a14 (.int .i64 (.ofNat 0))) H fun a15 H =>
 cd a15 (
 vq (qbu a13) H fun a16 H =>
 vq (intV (qaa .sub).f a16 (.int .i64 (.ofNat 1))) H fun a17 H =>
 vq (idxS 2 a13 a17) H fun a18 H =>
 vq (qan 0 a18) H fun a19 H =>
 vq (qaf H a19) H fun a20 H =>
 dz 0 H fun b21 H =>
 dq false false 0 0 (b21 + 0) H [] [] (fun _ => .val x0) (some true) fun a22 H p w =>
 dq false false 1 0 (b21 + 1) H p w (fun _ => .val a20) (some true) fun a23 H p w =>
 dq false false 2 0 (b21 + 2) H p w (fun _ => .val x0) (some true) fun a24 H p w =>
 dq false false 3 0 (b21 + 3) H p w (fun _ => .val a20) (some true) fun a25 H p w =>
 dq false false 4 4 (b21 + 4) H p w (fun _ => nilC a24) (some true) fun a26 H p w =>
 dq false false 5 20 (b21 + 5) H p w (fun _ => qan 512 a26) (some true) fun a27 H p w =>
 dq false false 6 60 (b21 + 6) H p w (fun _ => idxA 256 1 a27 a25) (some true) fun a28 H p w =>
 dq true false 7 124 (b21 + 7) H p w (fun H => qaf H a28) (some true) fun a29 H p w =>
 dq false false 8 0 (b21 + 8) H p w (fun _ => .val x0) (some true) fun a30 H p w =>
 dq false false 9 0 (b21 + 9) H p w (fun _ => .val a9) (some true) fun a31 H p w =>
 dq false false 10 256 (b21 + 10) H p w (fun _ => nilC a30) (some true) fun a32 H p w =>
 dq false false 11 1280 (b21 + 11) H p w (fun _ => qan 512 a32) (some true) fun a33 H p w =>
 dq false false 12 3840 (b21 + 12) H p w (fun _ => idxA 256 1 a33 a31) (some true) fun a34 H p w =>
 dq true false 13 7936 (b21 + 13) H p w (fun H => qaf H a34) (some true) fun a35 H p w =>
 dq false false 14 16380 (b21 + 14) H p w (fun _ => qh1 minV a29 [a35]) (some true) fun a36 H p w =>
 dq false false 15 1 (b21 + 15) H p w (fun _ => nilC a22) (some true) fun a37 H p w =>
 dq false false 16 32769 (b21 + 16) H p w (fun _ => qan 512 a37) (some true) fun a38 H p w =>
 dq false false 17 131071 (b21 + 17) H p w (fun _ => idxA 256 1 a38 a23) (some true) fun a39 H p w =>
 de 262143 H p w (qao (qas 262143 p H) a39 a36) (some true) fun _ H p w =>
 dz2 p H fun H =>
 g3 a13 H) (
 g3 a13 H)
def qtt (call : Ev.Call) (g42 : AV → Hp → R1) (x0 x4 x5 x6 : AV) (H : Hp) : R1 :=
 vq (nilC x0) H fun a62 H =>
 vq (qan 768 a62) H fun a63 H =>
 vq (idxA 256 1 a63 x6) H fun a64 H =>
 vq (qaf H a64) H fun a65 H =>
 cd a65 (
 dz 0 H fun b66 H =>
 dq false false 0 0 (b66 + 0) H [] [] (fun _ => .val x0) (some true) fun a67 H p w =>
 dq false false 1 0 (b66 + 1) H p w (fun _ => .val x5) (some true) fun a68 H p w =>
 dq false false 2 2 (b66 + 2) H p w (fun _ => nilC a68) (some true) fun a69 H p w =>
 dq false false 3 6 (b66 + 3) H p w (fun _ => qan 0 a69) (some true) fun a70 H p w =>
 dq true false 4 14 (b66 + 4) H p w (fun H => qaf H a70) (some true) fun a71 H p w =>
 dq false false 5 0 (b66 + 5) H p w (fun _ => .val x0) (some true) fun a72 H p w =>
 dq false false 6 0 (b66 + 6) H p w (fun _ => .val x5) (some true) fun a73 H p w =>
 dq false false 7 64 (b66 + 7) H p w (fun _ => nilC a73) (some true) fun a74 H p w =>
 dq false false 8 192 (b66 + 8) H p w (fun _ => qan 0 a74) (some true) fun a75 H p w =>
 dq true false 9 448 (b66 + 9) H p w (fun H => qaf H a75) (some true) fun a76 H p w =>
 dq false false 10 32 (b66 + 10) H p w (fun _ => nilC a72) (some true) fun a77 H p w =>
 dq false false 11 1056 (b66 + 11) H p w (fun _ => qan 512 a77) (some true) fun a78 H p w =>
 dq false false 12 4064 (b66 + 12) H p w (fun _ => idxA 256 1 a78 a76) (some true) fun a79 H p w =>
 dq true false 13 8160 (b66 + 13) H p w (fun H => qaf H a79) (some true) fun a80 H p w =>
 dq false false 14 0 (b66 + 14) H p w (fun _ => .val x0) (some true) fun a81 H p w =>
 dq false false 15 0 (b66 + 15) H p w (fun _ => .val x6) (some true) fun a82 H p w =>
 dq false false 16 16384 (b66 + 16) H p w (fun _ => nilC a81) (some true) fun a83 H p w =>
 dq false false 17 81920 (b66 + 17) H p w (fun _ => qan 256 a83) (some true) fun a84 H p w =>
 dq false false 18 245760 (b66 + 18) H p w (fun _ => idxA 256 1 a84 a82) (some true) fun a85 H p w =>
 dq true false 19 507904 (b66 + 19) H p w (fun H => qaf H a85) (some true) fun a86 H p w =>
 dq false false 20 1048544 (b66 + 20) H p w (fun _ => qh1 minV a80 [a86]) (some true) fun a87 H p w =>
 dq false false 21 1 (b66 + 21) H p w (fun _ => nilC a67) (some true) fun a88 H p w =>
 dq false false 22 2097153 (b66 + 22) H p w (fun _ => qan 512 a88) (some true) fun a89 H p w =>
 dq false false 23 8388607 (b66 + 23) H p w (fun _ => idxA 256 1 a89 a71) (some true) fun a90 H p w =>
 de 16777215 H p w (qao (qas 16777215 p H) a90 a87) (some true) fun _ H p w =>
 dz2 p H fun H =>
 g42 x4 H) (
 g42 x4 H)
def qo9 (call : Ev.Call) (q42e1 : AV → Hp → R1) (g42 : AV → Hp → R1) (x0 x4 x5 : AV) (H : Hp) : R1 :=
 vl (nilC x5) fun a43 =>
 vl (qan 0 a43) fun a44 =>
 vl (qaf H a44) fun a45 =>
 vl (nilC x0) fun a46 =>
 vl (qan 0 a46) fun a47 =>
 vl (idxA 256 1 a47 a45) fun a48 =>
 vl (qaf H a48) fun a49 =>
 vl (nilC x5) fun a50 =>
 vl (qan 1 a50) fun a51 =>
 vl (qaf H a51) fun a52 =>
 vl (idxS 1 a49 a52) fun a53 =>
 vl (qaf H a53) fun a54 =>
 vq (nilC x5) H fun a55 H =>
 vq (qan 1 a55) H fun a56 H =>
 vq (qaf H a56) H fun a57 H =>
 vq (intV (qaa .add).f a57 (.int .i64 (.ofNat 1))) H fun a58 H =>
 vq (nilC x5) H fun a59 H =>
 vq (qan 1 a59) H fun a60 H =>
 ve (qao H a60 a58) fun _ H =>
 vq (nilC x0) H fun a93 H =>
 vq (qan 256 a93) H fun a94 H =>
 vq (idxA 256 1 a94 a54) H fun a95 H =>
 vq (qaf H a95) H fun a96 H =>
 vq (intV (qaa .eql).f a96 (.int .i64 (.ofNat 0))) H fun a97 H =>
 cd a97 (
 ve (call (.f qji) [x0, a54] H) fun a98 H =>
 vq (aggN (qa3 [.int .i64 (.ofNat 0), .int .i64 (.ofNat 0)] [(0, 1, a54), (1, 1, (.int .i64 (.ofNat 0)))])) H fun a99 H =>
 vq (qov 1 H.nx (qa3 (reps [.int .i64 (.ofNat 0), .int .i64 (.ofNat 0)] 1) [(0, 2, a99)])) H fun a100 H =>
 ve (qb2 2 16 H x4 (qdh 2 H a100)) fun a101 H =>
 q42e1 a101 H) (
 qtt call g42 x0 x4 x5 a54 H)
def qtu (call : Ev.Call) (q42e1 : AV → Hp → R1) (q42e2 : AV → Hp → R1) (x0 x5 : AV) (g42 : AV → Hp → R1) (x4 : AV) (H : Hp) : R1 :=
 vl (nilC x5) fun a103 =>
 vl (qan 1 a103) fun a104 =>
 vl (qaf H a104) fun a105 =>
 vl (nilC x5) fun a106 =>
 vl (qan 0 a106) fun a107 =>
 vl (qaf H a107) fun a108 =>
 vl (nilC x0) fun a109 =>
 vl (qan 0 a109) fun a110 =>
 vl (idxA 256 1 a110 a108) fun a111 =>
 vl (qaf H a111) fun a112 =>
 vl (qbu a112) fun a113 =>
 vl (intV (qaa .lss).f a105 a113) fun a114 =>
 cd a114 (
 qo9 call q42e1 g42 x0 x4 x5 H) (
 q42e2 x4 H)
def qhc (call : Ev.Call) (q42e1 : AV → Hp → R1) (q42e2 : AV → Hp → R1) (x0 x5 : AV) (n : Nat) : AV → Hp → R1 :=
 Nat.rec (motive := fun _ => AV → Hp → R1) (fun _ _ => .bad) (fun _ ih => qtu call q42e1 q42e2 x0 x5 ih) n
def qtv (call : Ev.Call) (q42e1 : AV → Hp → R1) (q42e2 : AV → Hp → R1) (x0 x5 : AV) : AV → Hp → R1 := qhc call q42e1 q42e2 x0 x5 qbx
def qo8 (call : Ev.Call) (g3 : AV → Hp → R1) (x0 x4 : AV) (H : Hp) : R1 :=
 vq (qbu x4) H fun a4 H =>
 vq (intV (qaa .sub).f a4 (.int .i64 (.ofNat 1))) H fun a5 H =>
 vq (idxS 2 x4 a5) H fun a6 H =>
 qtv call (fun x4 H => g3 x4 H) (fun x4 H => qeu call g3 x0 x4 a6 H) x0 a6 x4 H
def qx8 (call : Ev.Call) (q3e0 : Hp → R1) (x0 : AV) (g3 : AV → Hp → R1) (x4 : AV) (H : Hp) : R1 :=
 vq (qbu x4) H fun a116 H =>
 vq (intV (qaa .gtr).f a116 (.int .i64 (.ofNat 0))) H fun a117 H =>
 cd a117 (
 qo8 call g3 x0 x4 H) (
 q3e0 H)
def qcv (call : Ev.Call) (q3e0 : Hp → R1) (x0 : AV) (n : Nat) : AV → Hp → R1 :=
 Nat.rec (motive := fun _ => AV → Hp → R1) (fun _ _ => .bad) (fun _ ih => qx8 call q3e0 x0 ih) n
def qx9 (call : Ev.Call) (q3e0 : Hp → R1) (x0 : AV) : AV → Hp → R1 := qcv call q3e0 x0 qbx
def qo7 (call : Ev.Call) (x0 x4 : AV) (H : Hp) : R1 :=
 qx9 call (fun H => .ok (.tup []) H) x0 x4 H
def q25 (call : Ev.Call) (x0 x1 : AV) (H : Hp) : R1 :=
 ve (call (.f qji) [x0, x1] H) fun a0 H =>
 vq (aggN (qa3 [.int .i64 (.ofNat 0), .int .i64 (.ofNat 0)] [(0, 1, x1), (1, 1, (.int .i64 (.ofNat 0)))])) H fun a1 H =>
 vq (qov 1 H.nx (qa3 (reps [.int .i64 (.ofNat 0), .int .i64 (.ofNat 0)] 1) [(0, 2, a1)])) H fun a2 H =>
 qo7 call x0 a2 H
def cWalk (call : Ev.Call) (x0 x1 : AV) (H : Hp) : R1 := q25 call x0 x1 H
def q9a (call : Ev.Call) (x0 x1 : AV) (H : Hp) : R1 :=
 vl (idxS 1 x0 (.int .i64 (.ofNat 0))) fun a0 =>
 vl (qaf H a0) fun a1 =>
 vl (idxS 1 x1 (.int .i64 (.ofNat 0))) fun a2 =>
 vl (qaf H a2) fun a3 =>
 vl (intV (qaa .sub).f a1 a3) fun a4 =>
 .ok a4 H
def rdyA (call : Ev.Call) (x0 x1 : AV) (H : Hp) : R1 := q9a call x0 x1 H
def qhp (call : Ev.Call) (g5 : AV → Hp → R1) (x17 : AV) (H : Hp) : R1 :=
 vq (intV (qaa .add).f x17 (.int .i64 (.ofNat 1))) H fun a7 H =>
 g5 a7 H
def qp6 (call : Ev.Call) (g14 : AV → Hp → R1) (x55 : AV) (H : Hp) : R1 :=
 vq (intV (qaa .add).f x55 (.int .i64 (.ofNat 1))) H fun a16 H =>
 g14 a16 H
def qwp (call : Ev.Call) (q14r : Hp → R1) (q14e4 : Hp → R1) (g14 : AV → Hp → R1) (x0 x1 x5 x6 x55 : AV) (H : Hp) : R1 :=
 vq (idxS 1 x5 x55) H fun a18 H =>
 vq (qaf H a18) H fun a19 H =>
 vq ((unS .not).f a19) H fun a20 H =>
 vg (qad true a20) (.val x6) H fun a21 H =>
 vg (qad true a20) (.val x55) H fun a22 H =>
 vg (qad true a20) (idxS 1 a21 a22) H fun a23 H =>
 vg (qad true a20) (qaf H a23) H fun a24 H =>
 vg (qad true a20) ((unS .not).f a24) H fun a25 H =>
 vq (qb6 a20 a25 (.bool false)) H fun a26 H =>
 cd a26 (
 vq (idxS 1 x5 x55) H fun a27 H =>
 ve (qao H a27 (.bool true)) fun _ H =>
 vq (qaf H x1) H fun a29 H =>
 vq (idxS 1 a29 x55) H fun a30 H =>
 vq (qaf H a30) H fun a31 H =>
 ve (qey call x0 [a31] H) fun a32 H =>
 vq ((unS .not).f a32) H fun a33 H =>
 cd a33 (
 q14r H) (
 q14e4 H)) (
 qp6 call g14 x55 H)
def qwr (call : Ev.Call) (q14r : Hp → R1) (q14e4 : Hp → R1) (x0 x1 x5 x6 x54 : AV) (g14 : AV → Hp → R1) (x55 : AV) (H : Hp) : R1 :=
 vq (intV (qaa .lss).f x55 x54) H fun a15 H =>
 cd a15 (
 qwp call q14r q14e4 g14 x0 x1 x5 x6 x55 H) (
 q14e4 H)
def qho (call : Ev.Call) (q14r : Hp → R1) (q14e4 : Hp → R1) (x0 x1 x5 x6 x54 : AV) (n : Nat) : AV → Hp → R1 :=
 Nat.rec (motive := fun _ => AV → Hp → R1) (fun _ _ => .bad) (fun _ ih => qwr call q14r q14e4 x0 x1 x5 x6 x54 ih) n
def qwt (call : Ev.Call) (q14r : Hp → R1) (q14e4 : Hp → R1) (x0 x1 x5 x6 x54 : AV) : AV → Hp → R1 := qho call q14r q14e4 x0 x1 x5 x6 x54 qbx
def qhq (call : Ev.Call) (q5r : Hp → R1) (g5 : AV → Hp → R1) (x0 x1 x5 x6 x17 : AV) (H : Hp) : R1 :=
 vq (qaf H x1) H fun a12 H =>
 vq (qbu a12) H fun a13 H =>
 qwt call (fun H => q5r H) (fun H => qhp call g5 x17 H) x0 x1 x5 x6 a13 (.int .i64 (.ofNat 0)) H
def ql8 (call : Ev.Call) (g39 : AV → Hp → R1) (x25 : AV) (H : Hp) : R1 :=
 vq (intV (qaa .add).f x25 (.int .i64 (.ofNat 1))) H fun a41 H =>
 g39 a41 H
def qwo (call : Ev.Call) (g39 : AV → Hp → R1) (x3 x5 x6 x23 x25 : AV) (H : Hp) : R1 :=
 vq (idxS 3 x23 x25) H fun a43 H =>
 vq (qco 3 H a43) H fun a44 H =>
 vq (.new (.ptr H.nx 0) (qac 0 [.int .i64 (.ofNat 0), .int .i64 (.ofNat 0), .bool false])) H fun a45 H =>
 ve (qdf 3 H a45 a44) fun _ H =>
 vl (qaf H x3) fun a47 =>
 vl (qan 0 a45) fun a48 =>
 vl (qaf H a48) fun a49 =>
 vl (idxS 1 a47 a49) fun a50 =>
 vl (qaf H a50) fun a51 =>
 vl (qaf H x3) fun a52 =>
 vl (qan 1 a45) fun a53 =>
 vl (qaf H a53) fun a54 =>
 vl (idxS 1 a52 a54) fun a55 =>
 vl (qaf H a55) fun a56 =>
 vq (intV (qaa .neq).f a51 a56) H fun a57 H =>
 vg (qad true a57) (.val x5) H fun a58 H =>
 vg (qad true a57) (.val a56) H fun a59 H =>
 vg (qad true a57) (idxS 1 a58 a59) H fun a60 H =>
 vg (qad true a57) (qaf H a60) H fun a61 H =>
 vg (qad true a57) ((unS .not).f a61) H fun a62 H =>
 vq (qb6 a57 a62 (.bool false)) H fun a63 H =>
 cd a63 (
 vq (idxS 1 x6 a51) H fun a64 H =>
 ve (qao H a64 (.bool true)) fun _ H =>
 ql8 call g39 x25 H) (
 ql8 call g39 x25 H)
def qwq (call : Ev.Call) (q39e2 : Hp → R1) (x3 x5 x6 x23 x24 : AV) (g39 : AV → Hp → R1) (x25 : AV) (H : Hp) : R1 :=
 vq (intV (qaa .lss).f x25 x24) H fun a40 H =>
 cd a40 (
 qwo call g39 x3 x5 x6 x23 x25 H) (
 q39e2 H)
def qhn (call : Ev.Call) (q39e2 : Hp → R1) (x3 x5 x6 x23 x24 : AV) (n : Nat) : AV → Hp → R1 :=
 Nat.rec (motive := fun _ => AV → Hp → R1) (fun _ _ => .bad) (fun _ ih => qwq call q39e2 x3 x5 x6 x23 x24 ih) n
def qws (call : Ev.Call) (q39e2 : Hp → R1) (x3 x5 x6 x23 x24 : AV) : AV → Hp → R1 := qhn call q39e2 x3 x5 x6 x23 x24 qbx
def qwn (call : Ev.Call) (q5r : Hp → R1) (g5 : AV → Hp → R1) (x0 x1 x2 x3 x5 x17 : AV) (H : Hp) : R1 :=
 vq (qaf H x1) H fun a9 H =>
 vq (qbu a9) H fun a10 H =>
 vq (qps [.bool false] 1 H.nx a10 a10) H fun a11 H =>
 vq (qan 1 x2) H fun a36 H =>
 vq (qaf H a36) H fun a37 H =>
 vq (qbu a37) H fun a38 H =>
 qws call (fun H => qhq call q5r g5 x0 x1 x5 a11 x17 H) x3 x5 a11 a37 a38 (.int .i64 (.ofNat 0)) H
def q1w (call : Ev.Call) (q5r : Hp → R1) (q5e0 : Hp → R1) (x0 x1 x2 x3 x5 x16 : AV) (g5 : AV → Hp → R1) (x17 : AV) (H : Hp) : R1 :=
 vq (intV (qaa .lss).f x17 x16) H fun a6 H =>
 cd a6 (
 qwn call q5r g5 x0 x1 x2 x3 x5 x17 H) (
 q5e0 H)
def qdg (call : Ev.Call) (q5r : Hp → R1) (q5e0 : Hp → R1) (x0 x1 x2 x3 x5 x16 : AV) (n : Nat) : AV → Hp → R1 :=
 Nat.rec (motive := fun _ => AV → Hp → R1) (fun _ _ => .bad) (fun _ ih => q1w call q5r q5e0 x0 x1 x2 x3 x5 x16 ih) n
def q1x (call : Ev.Call) (q5r : Hp → R1) (q5e0 : Hp → R1) (x0 x1 x2 x3 x5 x16 : AV) : AV → Hp → R1 := qdg call q5r q5e0 x0 x1 x2 x3 x5 x16 qbx
def q88 (call : Ev.Call) (x0 x1 x2 x3 : AV) (H : Hp) : R1 :=
 vq (qaf H x1) H fun a0 H =>
 vq (qbu a0) H fun a1 H =>
 vq (qps [.bool false] 1 H.nx a1 a1) H fun a2 H =>
 vq (qaf H x1) H fun a3 H =>
 vq (qbu a3) H fun a4 H =>
 q1x call (fun H => .ok (.tup []) H) (fun H => .ok (.tup []) H) x0 x1 x2 x3 a2 a4 (.int .i64 (.ofNat 0)) H
def rdyB (call : Ev.Call) (x0 x1 x2 x3 : AV) (H : Hp) : R1 := q88 call x0 x1 x2 x3 H
def qk1 (call : Ev.Call) (H : Hp) : R1 :=
 .ok (.int .i64 (.negSucc 0)) H
def q1k (call : Ev.Call) (g2 : AV → Hp → R1) (x8 : AV) (H : Hp) : R1 :=
 vq (intV (qaa .add).f x8 (.int .i64 (.ofNat 1))) H fun a4 H =>
 g2 a4 H
def q1j (call : Ev.Call) (q2r : AV → Hp → R1) (g2 : AV → Hp → R1) (x0 x1 x8 : AV) (H : Hp) : R1 :=
 vq (idxS 3 x0 x8) H fun a6 H =>
 vq (qco 3 H a6) H fun a7 H =>
 ve (qey call x1 [a7] H) fun a8 H =>
 cd a8 (
 q2r x8 H) (
 q1k call g2 x8 H)
def q1l (call : Ev.Call) (q2r : AV → Hp → R1) (q2e0 : Hp → R1) (x0 x1 x7 : AV) (g2 : AV → Hp → R1) (x8 : AV) (H : Hp) : R1 :=
 vq (intV (qaa .lss).f x8 x7) H fun a3 H =>
 cd a3 (
 q1j call q2r g2 x0 x1 x8 H) (
 q2e0 H)
def qn0 (call : Ev.Call) (q2r : AV → Hp → R1) (q2e0 : Hp → R1) (x0 x1 x7 : AV) (n : Nat) : AV → Hp → R1 :=
 Nat.rec (motive := fun _ => AV → Hp → R1) (fun _ _ => .bad) (fun _ ih => q1l call q2r q2e0 x0 x1 x7 ih) n
def q1m (call : Ev.Call) (q2r : AV → Hp → R1) (q2e0 : Hp → R1) (x0 x1 x7 : AV) : AV → Hp → R1 := qn0 call q2r q2e0 x0 x1 x7 qbx
def q8n (call : Ev.Call) (x0 x1 : AV) (H : Hp) : R1 :=
 vq (qbu x0) H fun a1 H =>
 q1m call (fun x4 H => .ok x4 H) (fun H => qk1 call H) x0 x1 a1 (.int .i64 (.ofNat 0)) H
def sIxF (call : Ev.Call) (x0 x1 : AV) (H : Hp) : R1 := q8n call x0 x1 H
def qrs (call : Ev.Call) (x0 : AV) (H : Hp) : R1 :=
 .ok x0 H
def ql4 (call : Ev.Call) (x0 x1 : AV) (H : Hp) : R1 :=
 vq (capV x0) H fun a1 H =>
 vq (qbu x0) H fun a2 H =>
 vq (intV (qaa .sub).f a1 a2) H fun a3 H =>
 vq (intV (qaa .sub).f x1 a3) H fun a4 H =>
 vq (intV (qaa .gtr).f a4 (.int .i64 (.ofNat 0))) H fun a5 H =>
 cd a5 (
 vq (capV x0) H fun a6 H =>
 vq (qb9 1 x0 none (some a6) none) H fun a7 H =>
 ve (qb2 1 8 H a7 (qm8 8 [.int .i64 (.ofNat 0)] a4)) fun a8 H =>
 vq (qbu x0) H fun a9 H =>
 vq (qb9 1 a8 none (some a9) none) H fun a10 H =>
 qrs call a10 H) (
 qrs call x0 H)
def q34 (call : Ev.Call) (x0 x1 : AV) (H : Hp) : R1 :=
 vq (intV (qaa .lss).f x1 (.int .i64 (.ofNat 0))) H fun a12 H =>
 cd a12 (
 ve (.bad) fun _ H =>
 ql4 call x0 x1 H) (
 ql4 call x0 x1 H)
def sGrw (call : Ev.Call) (x0 x1 : AV) (H : Hp) : R1 := q34 call x0 x1 H
def zby (call : Ev.Call) (x0 : AV) (H : Hp) : R1 :=
 vq (intV (qaa .neq).f x0 x0) H fun a0 H =>
 .ok a0 H
def cNaN (call : Ev.Call) (x0 : AV) (H : Hp) : R1 := zby call x0 H
def qyo (call : Ev.Call) (x0 x1 : AV) (H : Hp) : R1 :=
 vq (nilC x0) H fun a0 H =>
 vq (qan 1025 a0) H fun a1 H =>
 vq (qaf H a1) H fun a2 H =>
 vq (intV (qaa .add).f a2 (.int .i64 (.ofNat 1))) H fun a3 H =>
 vq (nilC x0) H fun a4 H =>
 vq (qan 1025 a4) H fun a5 H =>
 ve (qao H a5 a3) fun _ H =>
 dz 0 H fun b7 H =>
 dq false false 0 0 (b7 + 0) H [] [] (fun _ => .val x0) (some true) fun a8 H p w =>
 dq false false 1 0 (b7 + 1) H p w (fun _ => .val x1) (some true) fun a9 H p w =>
 dq false false 2 0 (b7 + 2) H p w (fun _ => .val x0) (some true) fun a10 H p w =>
 dq false false 3 0 (b7 + 3) H p w (fun _ => .val x1) (some true) fun a11 H p w =>
 dq false false 4 0 (b7 + 4) H p w (fun _ => .val x0) (some true) fun a12 H p w =>
 dq false false 5 0 (b7 + 5) H p w (fun _ => .val x1) (some true) fun a13 H p w =>
 dq false false 6 0 (b7 + 6) H p w (fun _ => .val x0) (some true) fun a14 H p w =>
 dq false false 7 64 (b7 + 7) H p w (fun _ => nilC a14) (some true) fun a15 H p w =>
 dq false false 8 192 (b7 + 8) H p w (fun _ => qan 1025 a15) (some true) fun a16 H p w =>
 dq true false 9 448 (b7 + 9) H p w (fun H => qaf H a16) (some true) fun a17 H p w =>
 dq false false 10 0 (b7 + 10) H p w (fun _ => .val x0) (some true) fun a18 H p w =>
 dq false false 11 1024 (b7 + 11) H p w (fun _ => nilC a18) (some true) fun a19 H p w =>
 dq false false 12 3072 (b7 + 12) H p w (fun _ => qan 1025 a19) (some true) fun a20 H p w =>
 dq true false 13 7168 (b7 + 13) H p w (fun H => qaf H a20) (some true) fun a21 H p w =>
 dq false false 14 1 (b7 + 14) H p w (fun _ => nilC a8) (some true) fun a22 H p w =>
 dq false false 15 16385 (b7 + 15) H p w (fun _ => qan 256 a22) (some true) fun a23 H p w =>
 dq false false 16 65475 (b7 + 16) H p w (fun _ => idxA 256 1 a23 a9) (some true) fun a24 H p w =>
 dq false false 18 4 (b7 + 18) H p w (fun _ => nilC a10) (some true) fun a25 H p w =>
 dq false false 19 262148 (b7 + 19) H p w (fun _ => qan 512 a25) (some true) fun a26 H p w =>
 dq false false 22 16 (b7 + 22) H p w (fun _ => nilC a12) (some true) fun a27 H p w =>
 dq false false 23 4194320 (b7 + 23) H p w (fun _ => qan 768 a27) (some true) fun a28 H p w =>
 de 131011 H p w (qao (qas 131011 p H) a24 a17) (some true) fun _ H p w =>
 dq false false 20 1048527 (b7 + 20) H p w (fun _ => idxA 256 1 a26 a11) (some true) fun a30 H p w =>
 de 2097103 H p w (qao (qas 2097103 p H) a30 a21) (some true) fun _ H p w =>
 dq false false 24 16777215 (b7 + 24) H p w (fun _ => idxA 256 1 a28 a13) (some true) fun a32 H p w =>
 de 33554431 H p w (qao (qas 33554431 p H) a32 (.bool true)) (some true) fun _ H p w =>
 dz2 p H fun H =>
 vq (nilC x0) H fun a34 H =>
 vq (qan 1024 a34) H fun a35 H =>
 vq (qaf H a35) H fun a36 H =>
 vq (qov 1 H.nx (qa3 (reps [.int .i64 (.ofNat 0)] 1) [(0, 1, x1)])) H fun a37 H =>
 ve (qb2 1 8 H a36 (qdh 1 H a37)) fun a38 H =>
 vq (nilC x0) H fun a39 H =>
 vq (qan 1024 a39) H fun a40 H =>
 ve (qao H a40 a38) fun _ H =>
 .ok (.tup []) H
def cEnter (call : Ev.Call) (x0 x1 : AV) (H : Hp) : R1 := qyo call x0 x1 H
def qei (call : Ev.Call) (x0 x4 x5 : AV) (H : Hp) : R1 :=
 vq (nilC x0) H fun a10 H =>
 vq (qan 1024 a10) H fun a11 H =>
 vq (qaf H a11) H fun a12 H =>
 vq (qb9 1 a12 none (some x4) none) H fun a13 H =>
 vq (nilC x0) H fun a14 H =>
 vq (qan 1024 a14) H fun a15 H =>
 ve (qao H a15 a13) fun _ H =>
 vq (nilC x0) H fun a17 H =>
 vq (qan 1026 a17) H fun a18 H =>
 vq (qaf H a18) H fun a19 H =>
 vq (qov 1 H.nx (qa3 (reps [.nilsl] 1) [(0, 1, x5)])) H fun a20 H =>
 ve (qb2 1 24 H a19 (qdh 1 H a20)) fun a21 H =>
 vq (nilC x0) H fun a22 H =>
 vq (qan 1026 a22) H fun a23 H =>
 ve (qao H a23 a21) fun _ H =>
 .ok (.tup []) H
def qpi (call : Ev.Call) (g27 : AV → Hp → R1) (x37 : AV) (H : Hp) : R1 :=
 vq (intV (qaa .add).f x37 (.int .i64 (.ofNat 1))) H fun a29 H =>
 g27 a29 H
def qph (call : Ev.Call) (g27 : AV → Hp → R1) (x0 x35 x37 : AV) (H : Hp) : R1 :=
 vq (idxS 1 x35 x37) H fun a31 H =>
 vq (qaf H a31) H fun a32 H =>
 vq (nilC x0) H fun a33 H =>
 vq (qan 768 a33) H fun a34 H =>
 vq (idxA 256 1 a34 a32) H fun a35 H =>
 ve (qao H a35 (.bool false)) fun _ H =>
 qpi call g27 x37 H
def qpj (call : Ev.Call) (q27e0 : Hp → R1) (x0 x35 x36 : AV) (g27 : AV → Hp → R1) (x37 : AV) (H : Hp) : R1 :=
 vq (intV (qaa .lss).f x37 x36) H fun a28 H =>
 cd a28 (
 qph call g27 x0 x35 x37 H) (
 q27e0 H)
def qe8 (call : Ev.Call) (q27e0 : Hp → R1) (x0 x35 x36 : AV) (n : Nat) : AV → Hp → R1 :=
 Nat.rec (motive := fun _ => AV → Hp → R1) (fun _ _ => .bad) (fun _ ih => qpj call q27e0 x0 x35 x36 ih) n
def qpk (call : Ev.Call) (q27e0 : Hp → R1) (x0 x35 x36 : AV) : AV → Hp → R1 := qe8 call q27e0 x0 x35 x36 qbx
def qpg (call : Ev.Call) (x0 x1 : AV) (H : Hp) : R1 :=
 vq (nilC x0) H fun a0 H =>
 vq (qan 1024 a0) H fun a1 H =>
 vq (qaf H a1) H fun a2 H =>
 ve (call (.f qxs) [a2, x1] H) fun a3 H =>
 vq (nilC x0) H fun a4 H =>
 vq (qan 1024 a4) H fun a5 H =>
 vq (qaf H a5) H fun a6 H =>
 vq (qb9 1 a6 (some a3) none none) H fun a7 H =>
 ve (call (.f q2n) [a7] H) fun a8 H =>
 ve (call (.f qxq) [a8] H) fun a9 H =>
 vq (qbu a9) H fun a26 H =>
 qpk call (fun H => qei call x0 a3 a9 H) x0 a9 a26 (.int .i64 (.ofNat 0)) H
def qqs (call : Ev.Call) (x0 x1 : AV) (H : Hp) : R1 :=
 vl (nilC x0) fun a39 =>
 vl (qan 512 a39) fun a40 =>
 vl (idxA 256 1 a40 x1) fun a41 =>
 vl (qaf H a41) fun a42 =>
 vl (nilC x0) fun a43 =>
 vl (qan 256 a43) fun a44 =>
 vl (idxA 256 1 a44 x1) fun a45 =>
 vl (qaf H a45) fun a46 =>
 vl (intV (qaa .lss).f a42 a46) fun a47 =>
 cd a47 (
 .ok (.tup []) H) (
 qpg call x0 x1 H)
def cLeave (call : Ev.Call) (x0 x1 : AV) (H : Hp) : R1 := qqs call x0 x1 H
def qn2 (call : Ev.Call) (H : Hp) : R1 :=
 .ok (.int .i64 (.negSucc 0)) H
def q1o (call : Ev.Call) (g2 : AV → Hp → R1) (x8 : AV) (H : Hp) : R1 :=
 vq (intV (qaa .add).f x8 (.int .i64 (.ofNat 1))) H fun a4 H =>
 g2 a4 H
def q1n (call : Ev.Call) (q2r : AV → Hp → R1) (g2 : AV → Hp → R1) (x0 x1 x8 : AV) (H : Hp) : R1 :=
 vq (idxS 1 x0 x8) H fun a6 H =>
 vq (qaf H a6) H fun a7 H =>
 vq (intV (qaa .eql).f x1 a7) H fun a8 H =>
 cd a8 (
 q2r x8 H) (
 q1o call g2 x8 H)
def q1p (call : Ev.Call) (q2r : AV → Hp → R1) (q2e0 : Hp → R1) (x0 x1 x7 : AV) (g2 : AV → Hp → R1) (x8 : AV) (H : Hp) : R1 :=
 vq (intV (qaa .lss).f x8 x7) H fun a3 H =>
 cd a3 (
 q1n call q2r g2 x0 x1 x8 H) (
 q2e0 H)
def qn1 (call : Ev.Call) (q2r : AV → Hp → R1) (q2e0 : Hp → R1) (x0 x1 x7 : AV) (n : Nat) : AV → Hp → R1 :=
 Nat.rec (motive := fun _ => AV → Hp → R1) (fun _ _ => .bad) (fun _ ih => q1p call q2r q2e0 x0 x1 x7 ih) n
def q1q (call : Ev.Call) (q2r : AV → Hp → R1) (q2e0 : Hp → R1) (x0 x1 x7 : AV) : AV → Hp → R1 := qn1 call q2r q2e0 x0 x1 x7 qbx
def q8p (call : Ev.Call) (x0 x1 : AV) (H : Hp) : R1 :=
 vq (qbu x0) H fun a1 H =>
 q1q call (fun x4 H => .ok x4 H) (fun H => qn2 call H) x0 x1 a1 (.int .i64 (.ofNat 0)) H
def sIdx (call : Ev.Call) (x0 x1 : AV) (H : Hp) : R1 := q8p call x0 x1 H
def q8i (call : Ev.Call) (x0 : AV) (H : Hp) : R1 :=
 vq (box1 H.nx x0) H fun a0 H =>
 .ok (.fn qdu [] [a0]) H
def sVal (call : Ev.Call) (x0 : AV) (H : Hp) : R1 := q8i call x0 H
def q8k (call : Ev.Call) (x0 : AV) (H : Hp) : R1 :=
 ve (call (.f qxt) [x0] H) fun a0 H =>
 ve (call (.f qes) [a0] H) fun a1 H =>
 .ok a0 H
def sSrt (call : Ev.Call) (x0 : AV) (H : Hp) : R1 := q8k call x0 H
def qwb (call : Ev.Call) (g2 : AV → Hp → R1) (x7 : AV) (H : Hp) : R1 :=
 vq (intV (qaa .add).f x7 (.int .i64 (.ofNat 1))) H fun a4 H =>
 g2 a4 H
def qrq (call : Ev.Call) (q2r : Hp → R1) (g2 : AV → Hp → R1) (x0 x5 x7 : AV) (H : Hp) : R1 :=
 vq (idxS 1 x5 x7) H fun a6 H =>
 vq (qaf H a6) H fun a7 H =>
 ve (qey call x0 [a7] H) fun a8 H =>
 vq ((unS .not).f a8) H fun a9 H =>
 cd a9 (
 q2r H) (
 qwb call g2 x7 H)
def qwc (call : Ev.Call) (q2r : Hp → R1) (q2e0 : Hp → R1) (x0 x5 x6 : AV) (g2 : AV → Hp → R1) (x7 : AV) (H : Hp) : R1 :=
 vq (intV (qaa .lss).f x7 x6) H fun a3 H =>
 cd a3 (
 qrq call q2r g2 x0 x5 x7 H) (
 q2e0 H)
def qjt (call : Ev.Call) (q2r : Hp → R1) (q2e0 : Hp → R1) (x0 x5 x6 : AV) (n : Nat) : AV → Hp → R1 :=
 Nat.rec (motive := fun _ => AV → Hp → R1) (fun _ _ => .bad) (fun _ ih => qwc call q2r q2e0 x0 x5 x6 ih) n
def qwd (call : Ev.Call) (q2r : Hp → R1) (q2e0 : Hp → R1) (x0 x5 x6 : AV) : AV → Hp → R1 := qjt call q2r q2e0 x0 x5 x6 qbx
def q1i (call : Ev.Call) (x0 x1 : AV) (H : Hp) : R1 :=
 vq (qaf H x1) H fun a0 H =>
 vq (qbu a0) H fun a1 H =>
 qwd call (fun H => .ok (.tup []) H) (fun H => .ok (.tup []) H) x0 a0 a1 (.int .i64 (.ofNat 0)) H
def sValA (call : Ev.Call) (x0 x1 : AV) (H : Hp) : R1 := q1i call x0 x1 H
def q8u (call : Ev.Call) (x0 : AV) (H : Hp) : R1 :=
 ve (call (.f qxv) [(.nilsl), x0] H) fun a0 H =>
 .ok a0 H
def sCol (call : Ev.Call) (x0 : AV) (H : Hp) : R1 := q8u call x0 H
end Go.Di
end
noncomputable section
namespace Go.Di
open Go.Ev
structure Lnk (c d : Ev.Call) : Prop where
 lwE : ∀ (x0 x1 : AV) (H : Hp), c (.f zfa) [x0, x1] H = Di.lwE d x0 x1 H
 gChk : ∀ (x0 : AV) (H : Hp), c (.f qo0) [x0] H = Di.gChk d x0 H
 cCnd : ∀ (x0 : AV) (H : Hp), c (.f qtg) [x0] H = Di.cCnd d x0 H
 cSim : ∀ (x0 x1 : AV) (H : Hp), c (.f qtd) [x0, x1] H = Di.cSim d x0 x1 H
 cMix : ∀ (x0 : AV) (H : Hp), c (.f qtf) [x0] H = Di.cMix d x0 H
 cOrd : ∀ (x0 : AV) (H : Hp), c (.f qte) [x0] H = Di.cOrd d x0 H
 gCmp : ∀ (x0 x1 : AV) (H : Hp), c (.f qxw) [x0, x1] H = Di.gCmp d x0 x1 H
 cParts : ∀ (x0 : AV) (H : Hp), c (.f qmx) [x0] H = Di.cParts d x0 H
 cRdy : ∀ (x0 x1 : AV) (H : Hp), c (.f qxx) [x0, x1] H = Di.cRdy d x0 x1 H
 sClp : ∀ (x0 : AV) (H : Hp), c (.f qln) [x0] H = Di.sClp d x0 H
 sClpS : ∀ (x0 : AV) (H : Hp), c (.f qms) [x0] H = Di.sClpS d x0 H
 cndA : ∀ (x0 x1 x2 : AV) (H : Hp), c (.f qtc) [x0, x1, x2] H = Di.cndA d x0 x1 x2 H
 sCon : ∀ (x0 x1 : AV) (H : Hp), c (.f qta) [x0, x1] H = Di.sCon d x0 x1 H
 sClpE : ∀ (x0 : AV) (H : Hp), c (.f qqj) [x0] H = Di.sClpE d x0 H
 simA : ∀ (x0 x1 : AV) (H : Hp), c (.f qs8) [x0, x1] H = Di.simA d x0 x1 H
 sCat : ∀ (x0 : AV) (H : Hp), c (.f qxu) [x0] H = Di.sCat d x0 H
 cCmp : ∀ (x0 x1 : AV) (H : Hp), c (.f qo1) [x0, x1] H = Di.cCmp d x0 x1 H
 gSgn : ∀ (x0 : AV) (H : Hp), c (.f qtb) [x0] H = Di.gSgn d x0 H
 cOr : ∀ (x0 : AV) (H : Hp), c (.f q4s) [x0] H = Di.cOr d x0 H
 cWalk : ∀ (x0 x1 : AV) (H : Hp), c (.f qqo) [x0, x1] H = Di.cWalk d x0 x1 H
 rdyA : ∀ (x0 x1 : AV) (H : Hp), c (.f qlo) [x0, x1] H = Di.rdyA d x0 x1 H
 rdyB : ∀ (x0 x1 x2 x3 : AV) (H : Hp), c (.f qjf) [x0, x1, x2, x3] H = Di.rdyB d x0 x1 x2 x3 H
 sIxF : ∀ (x0 x1 : AV) (H : Hp), c (.f qxr) [x0, x1] H = Di.sIxF d x0 x1 H
 sGrw : ∀ (x0 x1 : AV) (H : Hp), c (.f qs9) [x0, x1] H = Di.sGrw d x0 x1 H
 cNaN : ∀ (x0 : AV) (H : Hp), c (.f qlp) [x0] H = Di.cNaN d x0 H
 cEnter : ∀ (x0 x1 : AV) (H : Hp), c (.f qji) [x0, x1] H = Di.cEnter d x0 x1 H
 cLeave : ∀ (x0 x1 : AV) (H : Hp), c (.f qha) [x0, x1] H = Di.cLeave d x0 x1 H
 sIdx : ∀ (x0 x1 : AV) (H : Hp), c (.f qxs) [x0, x1] H = Di.sIdx d x0 x1 H
 sVal : ∀ (x0 : AV) (H : Hp), c (.f q2n) [x0] H = Di.sVal d x0 H
 sSrt : ∀ (x0 : AV) (H : Hp), c (.f qxq) [x0] H = Di.sSrt d x0 H
 sValA : ∀ (x0 x1 : AV) (H : Hp), c (.f qdu) [x0, x1] H = Di.sValA d x0 x1 H
 sCol : ∀ (x0 : AV) (H : Hp), c (.f qxt) [x0] H = Di.sCol d x0 H
theorem qbd {call : Ev.Call} {x1 x2 x6 x11 x14 : AV} {H : Hp} {Q : AV → Hp → Prop} (h : Ok (qbs call x1 x2 x6 x11 x14 H) Q) : Ok (qxm call x1 x2 x6 x11 x14 H) Q := by rw [qvc]; exact h
theorem qbc {call : Ev.Call} {x1 x2 x5 x6 x8 x10 x11 x12 x14 : AV} {H : Hp} {Q : AV → Hp → Prop} (h : Ok (qbr call x1 x2 x5 x6 x8 x10 x11 x12 x14 H) Q) : Ok (qxl call x1 x2 x5 x6 x8 x10 x11 x12 x14 H) Q := by rw [qvb]; exact h
theorem qbb {call : Ev.Call} {x1 x2 x5 x6 x8 x10 x11 x12 x14 x74 : AV} {H : Hp} {Q : AV → Hp → Prop} (h : Ok (qbq call x1 x2 x5 x6 x8 x10 x11 x12 x14 x74 H) Q) : Ok (qxk call x1 x2 x5 x6 x8 x10 x11 x12 x14 x74 H) Q := by rw [qva]; exact h
theorem qba {call : Ev.Call} {x1 x2 x5 x6 x7 x8 x9 x10 x11 x12 x13 x14 x15 : AV} {H : Hp} {Q : AV → Hp → Prop} (h : Ok (qbp call x1 x2 x5 x6 x7 x8 x9 x10 x11 x12 x13 x14 x15 H) Q) : Ok (qxj call x1 x2 x5 x6 x7 x8 x9 x10 x11 x12 x13 x14 x15 H) Q := by rw [qu9]; exact h
theorem qa9 {call : Ev.Call} {x1 x2 x5 x6 x7 x8 x9 x10 x11 x12 x13 : AV} {H : Hp} {Q : AV → Hp → Prop} (h : Ok (qbo call x1 x2 x5 x6 x7 x8 x9 x10 x11 x12 x13 H) Q) : Ok (qxi call x1 x2 x5 x6 x7 x8 x9 x10 x11 x12 x13 H) Q := by rw [qu8]; exact h
theorem qa8 {call : Ev.Call} {x1 x2 x5 x6 x7 x8 x9 x10 x11 : AV} {H : Hp} {Q : AV → Hp → Prop} (h : Ok (qbn call x1 x2 x5 x6 x7 x8 x9 x10 x11 H) Q) : Ok (qxh call x1 x2 x5 x6 x7 x8 x9 x10 x11 H) Q := by rw [qu7]; exact h
theorem qa7 {call : Ev.Call} {x1 x2 x5 x6 x7 x8 x9 : AV} {H : Hp} {Q : AV → Hp → Prop} (h : Ok (qbm call x1 x2 x5 x6 x7 x8 x9 H) Q) : Ok (qxg call x1 x2 x5 x6 x7 x8 x9 H) Q := by rw [qu6]; exact h
theorem qa6 {call : Ev.Call} {x1 x2 x5 x6 x7 : AV} {H : Hp} {Q : AV → Hp → Prop} (h : Ok (qbl call x1 x2 x5 x6 x7 H) Q) : Ok (qxf call x1 x2 x5 x6 x7 H) Q := by rw [qu5]; exact h
theorem qa5 {call : Ev.Call} {x1 x2 x5 : AV} {H : Hp} {Q : AV → Hp → Prop} (h : Ok (qbk call x1 x2 x5 H) Q) : Ok (qxe call x1 x2 x5 H) Q := by rw [qu4]; exact h
theorem qa4 {call : Ev.Call} {x1 x2 x5 x29 : AV} {H : Hp} {Q : AV → Hp → Prop} (h : Ok (qbj call x1 x2 x5 x29 H) Q) : Ok (qxd call x1 x2 x5 x29 H) Q := by rw [qu3]; exact h
theorem qax {call : Ev.Call} {x1 x2 : AV} {H : Hp} {Q : AV → Hp → Prop} (h : Ok (qa0 call x1 x2 H) Q) : Ok (qqe call x1 x2 H) Q := by rw [qs3]; exact h
theorem qaw {call : Ev.Call} {x1 x2 x19 : AV} {H : Hp} {Q : AV → Hp → Prop} (h : Ok (qaz call x1 x2 x19 H) Q) : Ok (qqd call x1 x2 x19 H) Q := by rw [qs2]; exact h
end Go.Di
end
noncomputable section
namespace Go.Di
open Go.Ev
def qf2 (call : Ev.Call) (x0 x1 : AV) (H : Hp) : R1 :=
 vq (qbu x0) H fun a0 H =>
 vq (qig .u64 a0) H fun a1 H =>
 ve (call (.f qjz) [a1] H) fun a2 H =>
 ve (call (.f qhy) [x0, (.int .i64 (.ofNat 0)), a0, a2, x1] H) fun a3 H =>
 .ok (.tup []) H
def s_SortFunc (call : Ev.Call) (x0 x1 : AV) (H : Hp) : R1 := qf2 call x0 x1 H
def qwa (call : Ev.Call) (x0 : AV) (H : Hp) : R1 :=
 ve (call (.f qoy) [x0] H) fun a0 H =>
 .ok a0 H
def q1h (call : Ev.Call) (x0 : AV) (H : Hp) : R1 :=
 cd (.bool false) (
 vq (qig .u32 x0) H fun a2 H =>
 ve (call (.f qoz) [a2] H) fun a3 H =>
 .ok a3 H) (
 qwa call x0 H)
def s_Len (call : Ev.Call) (x0 : AV) (H : Hp) : R1 := q1h call x0 H
def ql0 (call : Ev.Call) (g0 : AV → AV → AV → AV → AV → Hp → R1) (x0 x1 x2 x3 x4 x12 x13 : AV) (H : Hp) : R1 :=
 ve (call (.f qmo) [x0, x1, x2, x13, x4] H) fun a5 H =>
 vq (extr 0 a5) H fun a6 H =>
 vq (extr 1 a5) H fun a7 H =>
 vq (intV (qaa .sub).f a6 x1) H fun a8 H =>
 vq (intV (qaa .sub).f x2 a6) H fun a9 H =>
 vq (intV (qaa .quo).f x12 (.int .i64 (.ofNat 8))) H fun a10 H =>
 vq (intV (qaa .lss).f a8 a9) H fun a11 H =>
 cd a11 (
 vq (intV (qaa .geq).f a8 a10) H fun a12 H =>
 ve (call (.f qhy) [x0, x1, a6, x3, x4] H) fun a13 H =>
 vq (intV (qaa .add).f a6 (.int .i64 (.ofNat 1))) H fun a14 H =>
 g0 a14 x2 x3 a12 a7 H) (
 vq (intV (qaa .geq).f a9 a10) H fun a15 H =>
 vq (intV (qaa .add).f a6 (.int .i64 (.ofNat 1))) H fun a16 H =>
 ve (call (.f qhy) [x0, a16, x2, x3, x4] H) fun a17 H =>
 g0 x1 a6 x3 a15 a7 H)
def qfd (call : Ev.Call) (g0 : AV → AV → AV → AV → AV → Hp → R1) (x0 x1 x2 x3 x4 x10 x11 x12 x13 : AV) (H : Hp) : R1 :=
 dz 0 H fun b19 H =>
 dq false false 0 0 (b19 + 0) H [] [] (fun _ => .val x1) (some true) fun a20 H p w =>
 dq false false 1 1 (b19 + 1) H p w (fun _ => intV (qaa .gtr).f a20 (.int .i64 (.ofNat 0))) (some true) fun a21 H p w =>
 dq false false 2 3 (b19 + 2) H p w (fun _ => .val a21) (some true) fun a22 H p w =>
 dq false false 3 7 (b19 + 3) H p w (fun _ => .val x4) (qad true a22) fun a23 H p w =>
 dq false false 4 7 (b19 + 4) H p w (fun _ => .val x0) (qad true a22) fun a24 H p w =>
 dq false false 5 7 (b19 + 5) H p w (fun _ => .val x1) (qad true a22) fun a25 H p w =>
 dq false false 6 39 (b19 + 6) H p w (fun _ => intV (qaa .sub).f a25 (.int .i64 (.ofNat 1))) (qad true a22) fun a26 H p w =>
 dq false false 7 119 (b19 + 7) H p w (fun _ => idxS 1 a24 a26) (qad true a22) fun a27 H p w =>
 dq true false 8 247 (b19 + 8) H p w (fun H => qaf H a27) (qad true a22) fun a28 H p w =>
 dq false false 9 7 (b19 + 9) H p w (fun _ => .val x0) (qad true a22) fun a29 H p w =>
 dq false false 10 7 (b19 + 10) H p w (fun _ => .val x13) (qad true a22) fun a30 H p w =>
 dq false false 11 1543 (b19 + 11) H p w (fun _ => idxS 1 a29 a30) (qad true a22) fun a31 H p w =>
 dq true false 12 3591 (b19 + 12) H p w (fun H => qaf H a31) (qad true a22) fun a32 H p w =>
 de 8191 H p w (qey call a23 [a28, a32] (qas 8191 p H)) (qad true a22) fun a33 H p w =>
 dq false false 14 16383 (b19 + 14) H p w (fun _ => intV (qaa .lss).f a33 (.int .i64 (.ofNat 0))) (qad true a22) fun a34 H p w =>
 dq false false 15 32767 (b19 + 15) H p w (fun _ => (unS .not).f a34) (qad true a22) fun a35 H p w =>
 dq false false 16 65535 (b19 + 16) H p w (fun _ => qb6 a22 a35 (.bool false)) (some true) fun a36 H p w =>
 dz2 p H fun H =>
 cd a36 (
 ve (call (.f qqh) [x0, x1, x2, x13, x4] H) fun a37 H =>
 g0 a37 x2 x3 x10 x11 H) (
 ql0 call g0 x0 x1 x2 x3 x4 x12 x13 H)
def qip (call : Ev.Call) (q0r : Hp → R1) (g0 : AV → AV → AV → AV → AV → Hp → R1) (x0 x1 x2 x3 x4 x10 x11 x12 x13 x14 : AV) (H : Hp) : R1 :=
 vg (qad true x10) (.val x11) H fun a39 H =>
 vq (qb6 x10 a39 (.bool false)) H fun a40 H =>
 vg (qad true a40) (.val x14) H fun a41 H =>
 vg (qad true a40) (intV (qaa .eql).f a41 (.int .i64 (.ofNat 1))) H fun a42 H =>
 vq (qb6 a40 a42 (.bool false)) H fun a43 H =>
 cd a43 (
 ve (call (.f qjd) [x0, x1, x2, x4] H) fun a44 H =>
 cd a44 (
 q0r H) (
 qfd call g0 x0 x1 x2 x3 x4 x10 x11 x12 x13 H)) (
 qfd call g0 x0 x1 x2 x3 x4 x10 x11 x12 x13 H)
def qio (call : Ev.Call) (q0r : Hp → R1) (g0 : AV → AV → AV → AV → AV → Hp → R1) (x0 x1 x2 x3 x4 x10 x11 x12 : AV) (H : Hp) : R1 :=
 ve (call (.f qqg) [x0, x1, x2, x4] H) fun a2 H =>
 vq (extr 0 a2) H fun a3 H =>
 vq (extr 1 a2) H fun a4 H =>
 vq (intV (qaa .eql).f a4 (.int .i64 (.ofNat 2))) H fun a46 H =>
 cd a46 (
 ve (call (.f qqf) [x0, x1, x2, x4] H) fun a47 H =>
 vq (intV (qaa .sub).f x2 (.int .i64 (.ofNat 1))) H fun a48 H =>
 vq (intV (qaa .sub).f a3 x1) H fun a49 H =>
 vq (intV (qaa .sub).f a48 a49) H fun a50 H =>
 qip call q0r g0 x0 x1 x2 x3 x4 x10 x11 x12 a50 (.int .i64 (.ofNat 1)) H) (
 qip call q0r g0 x0 x1 x2 x3 x4 x10 x11 x12 a3 a4 H)
def qre (call : Ev.Call) (q0r : Hp → R1) (g0 : AV → AV → AV → AV → AV → Hp → R1) (x0 x1 x2 x3 x4 x10 x11 x12 : AV) (H : Hp) : R1 :=
 vq ((unS .not).f x10) H fun a52 H =>
 cd a52 (
 ve (call (.f qqi) [x0, x1, x2, x4] H) fun a53 H =>
 vq (intV (qaa .sub).f x3 (.int .i64 (.ofNat 1))) H fun a54 H =>
 qio call q0r g0 x0 x1 x2 a54 x4 x10 x11 x12 H) (
 qio call q0r g0 x0 x1 x2 x3 x4 x10 x11 x12 H)
def qrd (call : Ev.Call) (q0r : Hp → R1) (g0 : AV → AV → AV → AV → AV → Hp → R1) (x0 x1 x2 x3 x4 x10 x11 x12 : AV) (H : Hp) : R1 :=
 vq (intV (qaa .eql).f x3 (.int .i64 (.ofNat 0))) H fun a56 H =>
 cd a56 (
 ve (call (.f qmr) [x0, x1, x2, x4] H) fun a57 H =>
 q0r H) (
 qre call q0r g0 x0 x1 x2 x3 x4 x10 x11 x12 H)
def ql1 (call : Ev.Call) (q0r : Hp → R1) (x0 x4 : AV) (g0 : AV → AV → AV → AV → AV → Hp → R1) (x1 x2 x3 x10 x11 : AV) (H : Hp) : R1 :=
 vq (intV (qaa .sub).f x2 x1) H fun a1 H =>
 vq (intV (qaa .leq).f a1 (.int .i64 (.ofNat 12))) H fun a59 H =>
 cd a59 (
 ve (call (.f qmq) [x0, x1, x2, x4] H) fun a60 H =>
 q0r H) (
 qrd call q0r g0 x0 x1 x2 x3 x4 x10 x11 a1 H)
def qcf (call : Ev.Call) (q0r : Hp → R1) (x0 x4 : AV) (n : Nat) : AV → AV → AV → AV → AV → Hp → R1 :=
 Nat.rec (motive := fun _ => AV → AV → AV → AV → AV → Hp → R1) (fun _ _ _ _ _ _ => .bad) (fun _ ih => ql1 call q0r x0 x4 ih) n
def qp1 (call : Ev.Call) (q0r : Hp → R1) (x0 x4 : AV) : AV → AV → AV → AV → AV → Hp → R1 := qcf call q0r x0 x4 qbx
def qv0 (call : Ev.Call) (x0 x1 x2 x3 x4 : AV) (H : Hp) : R1 :=
 qp1 call (fun H => .ok (.tup []) H) x0 x4 x1 x2 x3 (.bool true) (.bool true) H
def s_pdq (call : Ev.Call) (x0 x1 x2 x3 x4 : AV) (H : Hp) : R1 := qv0 call x0 x1 x2 x3 x4 H
def qnz (call : Ev.Call) (x0 x2 : AV) (H : Hp) : R1 :=
 vq (qig .u8 x0) H fun a0 H =>
 vq (qs7 (.str 256 1013866857139168856493015739252390649739422828853819106890363778118420553376247557433637691341895324351018602695588957474325319502760499485336098898398377509666851054660423406800006203933793007272033180812049178612605246075062580585469430410618860250057463399279570354286669047577758927328864388992123306212451509403152394148136105363817402562688186708175358218852349079190158732807302672745370040257219644697201681238697346923541678507645485296520536209706771857694240900605172937619415410180424934769249448772944216470541052485265558808433676546390051204254346932932316488017972311616136051587427851453983453479168) a0) H fun a1 H =>
 vq (qig .i64 a1) H fun a2 H =>
 vq (intV (qaa .add).f x2 a2) H fun a3 H =>
 .ok a3 H
def qny (call : Ev.Call) (x0 x2 : AV) (H : Hp) : R1 :=
 vq (intV (qaa .geq).f x0 (.int .u32 (.ofNat 256))) H fun a5 H =>
 cd a5 (
 vq (qfa (qcr .shr).f x0 (.int .u64 (.ofNat 8))) H fun a6 H =>
 vq (intV (qaa .add).f x2 (.int .i64 (.ofNat 8))) H fun a7 H =>
 qnz call a6 a7 H) (
 qnz call x0 x2 H)
def qzf (call : Ev.Call) (x0 : AV) (H : Hp) : R1 :=
 vq (intV (qaa .geq).f x0 (.int .u32 (.ofNat 65536))) H fun a9 H =>
 cd a9 (
 vq (qfa (qcr .shr).f x0 (.int .u64 (.ofNat 16))) H fun a10 H =>
 qny call a10 (.int .i64 (.ofNat 16)) H) (
 qny call x0 (.int .i64 (.ofNat 0)) H)
def s_Len32 (call : Ev.Call) (x0 : AV) (H : Hp) : R1 := qzf call x0 H
def qgu (call : Ev.Call) (x0 x2 : AV) (H : Hp) : R1 :=
 vq (qig .u8 x0) H fun a0 H =>
 vq (qs7 (.str 256 1013866857139168856493015739252390649739422828853819106890363778118420553376247557433637691341895324351018602695588957474325319502760499485336098898398377509666851054660423406800006203933793007272033180812049178612605246075062580585469430410618860250057463399279570354286669047577758927328864388992123306212451509403152394148136105363817402562688186708175358218852349079190158732807302672745370040257219644697201681238697346923541678507645485296520536209706771857694240900605172937619415410180424934769249448772944216470541052485265558808433676546390051204254346932932316488017972311616136051587427851453983453479168) a0) H fun a1 H =>
 vq (qig .i64 a1) H fun a2 H =>
 vq (intV (qaa .add).f x2 a2) H fun a3 H =>
 .ok a3 H
def qgt (call : Ev.Call) (x0 x2 : AV) (H : Hp) : R1 :=
 vq (intV (qaa .geq).f x0 (.int .u64 (.ofNat 256))) H fun a5 H =>
 cd a5 (
 vq (qfa (qcr .shr).f x0 (.int .u64 (.ofNat 8))) H fun a6 H =>
 vq (intV (qaa .add).f x2 (.int .i64 (.ofNat 8))) H fun a7 H =>
 qgu call a6 a7 H) (
 qgu call x0 x2 H)
def qfi (call : Ev.Call) (x0 x2 : AV) (H : Hp) : R1 :=
 vq (intV (qaa .geq).f x0 (.int .u64 (.ofNat 65536))) H fun a9 H =>
 cd a9 (
 vq (qfa (qcr .shr).f x0 (.int .u64 (.ofNat 16))) H fun a10 H =>
 vq (intV (qaa .add).f x2 (.int .i64 (.ofNat 16))) H fun a11 H =>
 qgt call a10 a11 H) (
 qgt call x0 x2 H)
def qrp (call : Ev.Call) (x0 : AV) (H : Hp) : R1 :=
 vq (intV (qaa .geq).f x0 (.int .u64 (.ofNat 4294967296))) H fun a13 H =>
 cd a13 (
 vq (qfa (qcr .shr).f x0 (.int .u64 (.ofNat 32))) H fun a14 H =>
 qfi call a14 (.int .i64 (.ofNat 32)) H) (
 qfi call x0 (.int .i64 (.ofNat 0)) H)
def s_Len64 (call : Ev.Call) (x0 : AV) (H : Hp) : R1 := qrp call x0 H
def qhj (call : Ev.Call) (g1 : AV → Hp → R1) (x8 : AV) (H : Hp) : R1 :=
 vq (intV (qaa .add).f x8 (.int .i64 (.ofNat 1))) H fun a2 H =>
 g1 a2 H
def qv5 (call : Ev.Call) (g4 : AV → Hp → R1) (x9 : AV) (H : Hp) : R1 :=
 vq (intV (qaa .sub).f x9 (.int .i64 (.ofNat 1))) H fun a5 H =>
 g4 a5 H
def qrh (call : Ev.Call) (g4 : AV → Hp → R1) (x0 x9 : AV) (H : Hp) : R1 :=
 dz 0 H fun b7 H =>
 dq false false 0 0 (b7 + 0) H [] [] (fun _ => .val x0) (some true) fun a8 H p w =>
 dq false false 1 0 (b7 + 1) H p w (fun _ => .val x9) (some true) fun a9 H p w =>
 dq false false 2 0 (b7 + 2) H p w (fun _ => .val x0) (some true) fun a10 H p w =>
 dq false false 3 0 (b7 + 3) H p w (fun _ => .val x9) (some true) fun a11 H p w =>
 dq false false 4 8 (b7 + 4) H p w (fun _ => intV (qaa .sub).f a11 (.int .i64 (.ofNat 1))) (some true) fun a12 H p w =>
 dq false false 5 0 (b7 + 5) H p w (fun _ => .val x0) (some true) fun a13 H p w =>
 dq false false 6 0 (b7 + 6) H p w (fun _ => .val x9) (some true) fun a14 H p w =>
 dq false false 7 64 (b7 + 7) H p w (fun _ => intV (qaa .sub).f a14 (.int .i64 (.ofNat 1))) (some true) fun a15 H p w =>
 dq false false 8 224 (b7 + 8) H p w (fun _ => idxS 1 a13 a15) (some true) fun a16 H p w =>
 dq true false 9 480 (b7 + 9) H p w (fun H => qaf H a16) (some true) fun a17 H p w =>
 dq false false 10 0 (b7 + 10) H p w (fun _ => .val x0) (some true) fun a18 H p w =>
 dq false false 11 0 (b7 + 11) H p w (fun _ => .val x9) (some true) fun a19 H p w =>
 dq false false 12 3072 (b7 + 12) H p w (fun _ => idxS 1 a18 a19) (some true) fun a20 H p w =>
 dq true false 13 7168 (b7 + 13) H p w (fun H => qaf H a20) (some true) fun a21 H p w =>
 dq false false 14 16355 (b7 + 14) H p w (fun _ => idxS 1 a8 a9) (some true) fun a22 H p w =>
 de 32739 H p w (qao (qas 32739 p H) a22 a17) (some true) fun _ H p w =>
 dq false false 16 65535 (b7 + 16) H p w (fun _ => idxS 1 a10 a12) (some true) fun a24 H p w =>
 de 131071 H p w (qao (qas 131071 p H) a24 a21) (some true) fun _ H p w =>
 dz2 p H fun H =>
 qv5 call g4 x9 H
def qv7 (call : Ev.Call) (q4e2 : Hp → R1) (x0 x1 x3 : AV) (g4 : AV → Hp → R1) (x9 : AV) (H : Hp) : R1 :=
 dz 0 H fun b27 H =>
 dq false false 0 0 (b27 + 0) H [] [] (fun _ => .val x9) (some true) fun a28 H p w =>
 dq false false 1 0 (b27 + 1) H p w (fun _ => .val x1) (some true) fun a29 H p w =>
 dq false false 2 3 (b27 + 2) H p w (fun _ => intV (qaa .gtr).f a28 a29) (some true) fun a30 H p w =>
 dq false false 3 7 (b27 + 3) H p w (fun _ => .val a30) (some true) fun a31 H p w =>
 dq false false 4 15 (b27 + 4) H p w (fun _ => .val x3) (qad true a31) fun a32 H p w =>
 dq false false 5 15 (b27 + 5) H p w (fun _ => .val x0) (qad true a31) fun a33 H p w =>
 dq false false 6 15 (b27 + 6) H p w (fun _ => .val x9) (qad true a31) fun a34 H p w =>
 dq false false 7 111 (b27 + 7) H p w (fun _ => idxS 1 a33 a34) (qad true a31) fun a35 H p w =>
 dq true false 8 239 (b27 + 8) H p w (fun H => qaf H a35) (qad true a31) fun a36 H p w =>
 dq false false 9 15 (b27 + 9) H p w (fun _ => .val x0) (qad true a31) fun a37 H p w =>
 dq false false 10 15 (b27 + 10) H p w (fun _ => .val x9) (qad true a31) fun a38 H p w =>
 dq false false 11 1039 (b27 + 11) H p w (fun _ => intV (qaa .sub).f a38 (.int .i64 (.ofNat 1))) (qad true a31) fun a39 H p w =>
 dq false false 12 3599 (b27 + 12) H p w (fun _ => idxS 1 a37 a39) (qad true a31) fun a40 H p w =>
 dq true false 13 7695 (b27 + 13) H p w (fun H => qaf H a40) (qad true a31) fun a41 H p w =>
 de 16383 H p w (qey call a32 [a36, a41] (qas 16383 p H)) (qad true a31) fun a42 H p w =>
 dq false false 15 32767 (b27 + 15) H p w (fun _ => intV (qaa .lss).f a42 (.int .i64 (.ofNat 0))) (qad true a31) fun a43 H p w =>
 dq false false 16 65535 (b27 + 16) H p w (fun _ => qb6 a31 a43 (.bool false)) (some true) fun a44 H p w =>
 dz2 p H fun H =>
 cd a44 (
 qrh call g4 x0 x9 H) (
 q4e2 H)
def qjs (call : Ev.Call) (q4e2 : Hp → R1) (x0 x1 x3 : AV) (n : Nat) : AV → Hp → R1 :=
 Nat.rec (motive := fun _ => AV → Hp → R1) (fun _ _ => .bad) (fun _ ih => qv7 call q4e2 x0 x1 x3 ih) n
def qv8 (call : Ev.Call) (q4e2 : Hp → R1) (x0 x1 x3 : AV) : AV → Hp → R1 := qjs call q4e2 x0 x1 x3 qbx
def qrg (call : Ev.Call) (g1 : AV → Hp → R1) (x0 x1 x3 x8 : AV) (H : Hp) : R1 :=
 qv8 call (fun H => qhj call g1 x8 H) x0 x1 x3 x8 H
def ql2 (call : Ev.Call) (q1e0 : Hp → R1) (x0 x1 x2 x3 : AV) (g1 : AV → Hp → R1) (x8 : AV) (H : Hp) : R1 :=
 vq (intV (qaa .lss).f x8 x2) H fun a46 H =>
 cd a46 (
 qrg call g1 x0 x1 x3 x8 H) (
 q1e0 H)
def qdq (call : Ev.Call) (q1e0 : Hp → R1) (x0 x1 x2 x3 : AV) (n : Nat) : AV → Hp → R1 :=
 Nat.rec (motive := fun _ => AV → Hp → R1) (fun _ _ => .bad) (fun _ ih => ql2 call q1e0 x0 x1 x2 x3 ih) n
def qp2 (call : Ev.Call) (q1e0 : Hp → R1) (x0 x1 x2 x3 : AV) : AV → Hp → R1 := qdq call q1e0 x0 x1 x2 x3 qbx
def qv6 (call : Ev.Call) (x0 x1 x2 x3 : AV) (H : Hp) : R1 :=
 vq (intV (qaa .add).f x1 (.int .i64 (.ofNat 1))) H fun a0 H =>
 qp2 call (fun H => .ok (.tup []) H) x0 x1 x2 x3 a0 H
def s_ins (call : Ev.Call) (x0 x1 x2 x3 : AV) (H : Hp) : R1 := qv6 call x0 x1 x2 x3 H
def qri (call : Ev.Call) (g2 : AV → Hp → R1) (x12 : AV) (H : Hp) : R1 :=
 vq (intV (qaa .sub).f x12 (.int .i64 (.ofNat 1))) H fun a3 H =>
 g2 a3 H
def qnw (call : Ev.Call) (g2 : AV → Hp → R1) (x0 x3 x8 x9 x12 : AV) (H : Hp) : R1 :=
 dz 0 H fun b5 H =>
 dq false false 0 0 (b5 + 0) H [] [] (fun _ => .val x0) (some true) fun a6 H p w =>
 dq false false 1 0 (b5 + 1) H p w (fun _ => .val x8) (some true) fun a7 H p w =>
 dq false false 2 0 (b5 + 2) H p w (fun _ => .val x0) (some true) fun a8 H p w =>
 dq false false 3 0 (b5 + 3) H p w (fun _ => .val x8) (some true) fun a9 H p w =>
 dq false false 4 0 (b5 + 4) H p w (fun _ => .val x12) (some true) fun a10 H p w =>
 dq false false 5 24 (b5 + 5) H p w (fun _ => intV (qaa .add).f a9 a10) (some true) fun a11 H p w =>
 dq false false 6 0 (b5 + 6) H p w (fun _ => .val x0) (some true) fun a12 H p w =>
 dq false false 7 0 (b5 + 7) H p w (fun _ => .val x8) (some true) fun a13 H p w =>
 dq false false 8 0 (b5 + 8) H p w (fun _ => .val x12) (some true) fun a14 H p w =>
 dq false false 9 384 (b5 + 9) H p w (fun _ => intV (qaa .add).f a13 a14) (some true) fun a15 H p w =>
 dq false false 10 960 (b5 + 10) H p w (fun _ => idxS 1 a12 a15) (some true) fun a16 H p w =>
 dq true false 11 1984 (b5 + 11) H p w (fun H => qaf H a16) (some true) fun a17 H p w =>
 dq false false 12 0 (b5 + 12) H p w (fun _ => .val x0) (some true) fun a18 H p w =>
 dq false false 13 0 (b5 + 13) H p w (fun _ => .val x8) (some true) fun a19 H p w =>
 dq false false 14 12288 (b5 + 14) H p w (fun _ => idxS 1 a18 a19) (some true) fun a20 H p w =>
 dq true false 15 28672 (b5 + 15) H p w (fun H => qaf H a20) (some true) fun a21 H p w =>
 dq false false 16 65475 (b5 + 16) H p w (fun _ => idxS 1 a6 a7) (some true) fun a22 H p w =>
 de 131011 H p w (qao (qas 131011 p H) a22 a17) (some true) fun _ H p w =>
 dq false false 18 262143 (b5 + 18) H p w (fun _ => idxS 1 a8 a11) (some true) fun a24 H p w =>
 de 524287 H p w (qao (qas 524287 p H) a24 a21) (some true) fun _ H p w =>
 dz2 p H fun H =>
 ve (call (.f qjc) [x0, x9, x12, x8, x3] H) fun a26 H =>
 qri call g2 x12 H
def qiq (call : Ev.Call) (q2e2 : Hp → R1) (x0 x3 x8 x9 : AV) (g2 : AV → Hp → R1) (x12 : AV) (H : Hp) : R1 :=
 vq (intV (qaa .geq).f x12 (.int .i64 (.ofNat 0))) H fun a28 H =>
 cd a28 (
 qnw call g2 x0 x3 x8 x9 x12 H) (
 q2e2 H)
def qfh (call : Ev.Call) (q2e2 : Hp → R1) (x0 x3 x8 x9 : AV) (n : Nat) : AV → Hp → R1 :=
 Nat.rec (motive := fun _ => AV → Hp → R1) (fun _ _ => .bad) (fun _ ih => qiq call q2e2 x0 x3 x8 x9 ih) n
def qrj (call : Ev.Call) (q2e2 : Hp → R1) (x0 x3 x8 x9 : AV) : AV → Hp → R1 := qfh call q2e2 x0 x3 x8 x9 qbx
def qd5 (call : Ev.Call) (x0 x3 x8 x9 x10 : AV) (H : Hp) : R1 :=
 vq (intV (qaa .sub).f x10 (.int .i64 (.ofNat 1))) H fun a1 H =>
 qrj call (fun H => .ok (.tup []) H) x0 x3 x8 x9 a1 H
def qnv (call : Ev.Call) (g32 : AV → Hp → R1) (x11 : AV) (H : Hp) : R1 :=
 vq (intV (qaa .sub).f x11 (.int .i64 (.ofNat 1))) H fun a33 H =>
 g32 a33 H
def qnu (call : Ev.Call) (g32 : AV → Hp → R1) (x0 x3 x8 x10 x11 : AV) (H : Hp) : R1 :=
 ve (call (.f qjc) [x0, x11, x10, x8, x3] H) fun a35 H =>
 qnv call g32 x11 H
def qgs (call : Ev.Call) (q32e0 : Hp → R1) (x0 x3 x8 x10 : AV) (g32 : AV → Hp → R1) (x11 : AV) (H : Hp) : R1 :=
 vq (intV (qaa .geq).f x11 (.int .i64 (.ofNat 0))) H fun a37 H =>
 cd a37 (
 qnu call g32 x0 x3 x8 x10 x11 H) (
 q32e0 H)
def qd4 (call : Ev.Call) (q32e0 : Hp → R1) (x0 x3 x8 x10 : AV) (n : Nat) : AV → Hp → R1 :=
 Nat.rec (motive := fun _ => AV → Hp → R1) (fun _ _ => .bad) (fun _ ih => qgs call q32e0 x0 x3 x8 x10 ih) n
def qnx (call : Ev.Call) (q32e0 : Hp → R1) (x0 x3 x8 x10 : AV) : AV → Hp → R1 := qd4 call q32e0 x0 x3 x8 x10 qbx
def qv9 (call : Ev.Call) (x0 x1 x2 x3 : AV) (H : Hp) : R1 :=
 vq (intV (qaa .sub).f x2 x1) H fun a0 H =>
 vq (intV (qaa .sub).f a0 (.int .i64 (.ofNat 1))) H fun a30 H =>
 vq (intV (qaa .quo).f a30 (.int .i64 (.ofNat 2))) H fun a31 H =>
 qnx call (fun H => qd5 call x0 x3 x1 (.int .i64 (.ofNat 0)) a0 H) x0 x3 x1 a0 a31 H
def s_heap (call : Ev.Call) (x0 x1 x2 x3 : AV) (H : Hp) : R1 := qv9 call x0 x1 x2 x3 H
def qrl (call : Ev.Call) (g10 : AV → Hp → R1) (x11 : AV) (H : Hp) : R1 :=
 vq (intV (qaa .add).f x11 (.int .i64 (.ofNat 1))) H fun a11 H =>
 g10 a11 H
def qir (call : Ev.Call) (g10 : AV → Hp → R1) (x0 x1 x11 x12 : AV) (H : Hp) : R1 :=
 dz 0 H fun b17 H =>
 dq false false 0 0 (b17 + 0) H [] [] (fun _ => .val x0) (some true) fun a18 H p w =>
 dq false false 1 0 (b17 + 1) H p w (fun _ => .val x11) (some true) fun a19 H p w =>
 dq false false 2 0 (b17 + 2) H p w (fun _ => .val x0) (some true) fun a20 H p w =>
 dq false false 3 0 (b17 + 3) H p w (fun _ => .val x1) (some true) fun a21 H p w =>
 dq false false 4 0 (b17 + 4) H p w (fun _ => .val x12) (some true) fun a22 H p w =>
 dq false false 5 24 (b17 + 5) H p w (fun _ => intV (qaa .add).f a21 a22) (some true) fun a23 H p w =>
 dq false false 6 0 (b17 + 6) H p w (fun _ => .val x0) (some true) fun a24 H p w =>
 dq false false 7 0 (b17 + 7) H p w (fun _ => .val x1) (some true) fun a25 H p w =>
 dq false false 8 0 (b17 + 8) H p w (fun _ => .val x12) (some true) fun a26 H p w =>
 dq false false 9 384 (b17 + 9) H p w (fun _ => intV (qaa .add).f a25 a26) (some true) fun a27 H p w =>
 dq false false 10 960 (b17 + 10) H p w (fun _ => idxS 1 a24 a27) (some true) fun a28 H p w =>
 dq true false 11 1984 (b17 + 11) H p w (fun H => qaf H a28) (some true) fun a29 H p w =>
 dq false false 12 0 (b17 + 12) H p w (fun _ => .val x0) (some true) fun a30 H p w =>
 dq false false 13 0 (b17 + 13) H p w (fun _ => .val x11) (some true) fun a31 H p w =>
 dq false false 14 12288 (b17 + 14) H p w (fun _ => idxS 1 a30 a31) (some true) fun a32 H p w =>
 dq true false 15 28672 (b17 + 15) H p w (fun H => qaf H a32) (some true) fun a33 H p w =>
 dq false false 16 65475 (b17 + 16) H p w (fun _ => idxS 1 a18 a19) (some true) fun a34 H p w =>
 de 131011 H p w (qao (qas 131011 p H) a34 a29) (some true) fun _ H p w =>
 dq false false 18 262143 (b17 + 18) H p w (fun _ => idxS 1 a20 a23) (some true) fun a36 H p w =>
 de 524287 H p w (qao (qas 524287 p H) a36 a33) (some true) fun _ H p w =>
 dz2 p H fun H =>
 qrl call g10 x11 H
def qrk (call : Ev.Call) (g10 : AV → Hp → R1) (x0 x1 x8 x9 x10 x11 : AV) (H : Hp) : R1 :=
 ve (call (.f qer) [x9] H) fun a13 H =>
 vq (intV (qaa .sub).f x10 (.int .u64 (.ofNat 1))) H fun a14 H =>
 vq (intV (qaa .and).f a13 a14) H fun a15 H =>
 vq (qig .i64 a15) H fun a16 H =>
 vq (intV (qaa .geq).f a16 x8) H fun a39 H =>
 cd a39 (
 vq (intV (qaa .sub).f a16 x8) H fun a40 H =>
 qir call g10 x0 x1 x11 a40 H) (
 qir call g10 x0 x1 x11 a16 H)
def qrm (call : Ev.Call) (q10e0 : Hp → R1) (x0 x1 x8 x9 x10 : AV) (g10 : AV → Hp → R1) (x11 : AV) (H : Hp) : R1 :=
 vq (intV (qaa .quo).f x8 (.int .i64 (.ofNat 4))) H fun a42 H =>
 vq (intV (qaa .mul).f a42 (.int .i64 (.ofNat 2))) H fun a43 H =>
 vq (intV (qaa .add).f x1 a43) H fun a44 H =>
 vq (intV (qaa .add).f a44 (.int .i64 (.ofNat 1))) H fun a45 H =>
 vq (intV (qaa .leq).f x11 a45) H fun a46 H =>
 cd a46 (
 qrk call g10 x0 x1 x8 x9 x10 x11 H) (
 q10e0 H)
def qeo (call : Ev.Call) (q10e0 : Hp → R1) (x0 x1 x8 x9 x10 : AV) (n : Nat) : AV → Hp → R1 :=
 Nat.rec (motive := fun _ => AV → Hp → R1) (fun _ _ => .bad) (fun _ ih => qrm call q10e0 x0 x1 x8 x9 x10 ih) n
def qrn (call : Ev.Call) (q10e0 : Hp → R1) (x0 x1 x8 x9 x10 : AV) : AV → Hp → R1 := qeo call q10e0 x0 x1 x8 x9 x10 qbx
def q1g (call : Ev.Call) (x0 x1 x2 : AV) (H : Hp) : R1 :=
 vq (intV (qaa .sub).f x2 x1) H fun a0 H =>
 vq (intV (qaa .geq).f a0 (.int .i64 (.ofNat 8))) H fun a1 H =>
 cd a1 (
 vq (qig .u64 a0) H fun a2 H =>
 vq (.new (.ptr H.nx 0) (qac 0 [.int .u64 (.ofNat 0)])) H fun a3 H =>
 ve (qao H a3 a2) fun _ H =>
 ve (call (.f qje) [a0] H) fun a5 H =>
 vq (intV (qaa .quo).f a0 (.int .i64 (.ofNat 4))) H fun a6 H =>
 vq (intV (qaa .mul).f a6 (.int .i64 (.ofNat 2))) H fun a7 H =>
 vq (intV (qaa .add).f x1 a7) H fun a8 H =>
 vq (intV (qaa .sub).f a8 (.int .i64 (.ofNat 1))) H fun a9 H =>
 qrn call (fun H => .ok (.tup []) H) x0 x1 a0 a3 a5 a9 H) (
 .ok (.tup []) H)
def s_brk (call : Ev.Call) (x0 x1 x2 x3 : AV) (H : Hp) : R1 := q1g call x0 x1 x2 H
def qik (call : Ev.Call) (x11 x13 : AV) (H : Hp) : R1 :=
 vq (qaf H x11) H fun a11 H =>
 vq (intV (qaa .eql).f a11 (.int .i64 (.ofNat 0))) H fun a12 H =>
 cd a12 (
 .ok (.tup [x13, (.int .i64 (.ofNat 1))]) H) (
 vq (intV (qaa .eql).f a11 (.int .i64 (.ofNat 12))) H fun a13 H =>
 cd a13 (
 .ok (.tup [x13, (.int .i64 (.ofNat 2))]) H) (
 .ok (.tup [x13, (.int .i64 (.ofNat 0))]) H))
def qij (call : Ev.Call) (x0 x3 x11 x12 x13 x14 : AV) (H : Hp) : R1 :=
 ve (call (.f qmp) [x0, x12, x13, x14, x11, x3] H) fun a16 H =>
 qik call x11 a16 H
def q08 (call : Ev.Call) (x0 x1 x2 x3 : AV) (H : Hp) : R1 :=
 vq (intV (qaa .sub).f x2 x1) H fun a0 H =>
 vq (.new (.ptr H.nx 0) (qac 0 [.int .i64 (.ofNat 0)])) H fun a1 H =>
 vq (intV (qaa .quo).f a0 (.int .i64 (.ofNat 4))) H fun a2 H =>
 vq (intV (qaa .mul).f a2 (.int .i64 (.ofNat 1))) H fun a3 H =>
 vq (intV (qaa .add).f x1 a3) H fun a4 H =>
 vq (intV (qaa .quo).f a0 (.int .i64 (.ofNat 4))) H fun a5 H =>
 vq (intV (qaa .mul).f a5 (.int .i64 (.ofNat 2))) H fun a6 H =>
 vq (intV (qaa .add).f x1 a6) H fun a7 H =>
 vq (intV (qaa .quo).f a0 (.int .i64 (.ofNat 4))) H fun a8 H =>
 vq (intV (qaa .mul).f a8 (.int .i64 (.ofNat 3))) H fun a9 H =>
 vq (intV (qaa .add).f x1 a9) H fun a10 H =>
 vq (intV (qaa .geq).f a0 (.int .i64 (.ofNat 8))) H fun a15 H =>
 cd a15 (
 vq (intV (qaa .geq).f a0 (.int .i64 (.ofNat 50))) H fun a18 H =>
 cd a18 (
 ve (call (.f qee) [x0, a4, a1, x3] H) fun a19 H =>
 ve (call (.f qee) [x0, a7, a1, x3] H) fun a20 H =>
 ve (call (.f qee) [x0, a10, a1, x3] H) fun a21 H =>
 qij call x0 x3 a1 a19 a20 a21 H) (
 qij call x0 x3 a1 a4 a7 a10 H)) (
 qik call a1 a7 H)
def s_piv (call : Ev.Call) (x0 x1 x2 x3 : AV) (H : Hp) : R1 := q08 call x0 x1 x2 x3 H
def qq3 (call : Ev.Call) (g1 : AV → AV → Hp → R1) (x0 x8 x9 : AV) (H : Hp) : R1 :=
 dz 0 H fun b2 H =>
 dq false false 0 0 (b2 + 0) H [] [] (fun _ => .val x0) (some true) fun a3 H p w =>
 dq false false 1 0 (b2 + 1) H p w (fun _ => .val x8) (some true) fun a4 H p w =>
 dq false false 2 0 (b2 + 2) H p w (fun _ => .val x0) (some true) fun a5 H p w =>
 dq false false 3 0 (b2 + 3) H p w (fun _ => .val x9) (some true) fun a6 H p w =>
 dq false false 4 0 (b2 + 4) H p w (fun _ => .val x0) (some true) fun a7 H p w =>
 dq false false 5 0 (b2 + 5) H p w (fun _ => .val x9) (some true) fun a8 H p w =>
 dq false false 6 48 (b2 + 6) H p w (fun _ => idxS 1 a7 a8) (some true) fun a9 H p w =>
 dq true false 7 112 (b2 + 7) H p w (fun H => qaf H a9) (some true) fun a10 H p w =>
 dq false false 8 0 (b2 + 8) H p w (fun _ => .val x0) (some true) fun a11 H p w =>
 dq false false 9 0 (b2 + 9) H p w (fun _ => .val x8) (some true) fun a12 H p w =>
 dq false false 10 768 (b2 + 10) H p w (fun _ => idxS 1 a11 a12) (some true) fun a13 H p w =>
 dq true false 11 1792 (b2 + 11) H p w (fun H => qaf H a13) (some true) fun a14 H p w =>
 dq false false 12 4083 (b2 + 12) H p w (fun _ => idxS 1 a3 a4) (some true) fun a15 H p w =>
 de 8179 H p w (qao (qas 8179 p H) a15 a10) (some true) fun _ H p w =>
 dq false false 14 16383 (b2 + 14) H p w (fun _ => idxS 1 a5 a6) (some true) fun a17 H p w =>
 de 32767 H p w (qao (qas 32767 p H) a17 a14) (some true) fun _ H p w =>
 dz2 p H fun H =>
 vq (intV (qaa .add).f x8 (.int .i64 (.ofNat 1))) H fun a19 H =>
 vq (intV (qaa .sub).f x9 (.int .i64 (.ofNat 1))) H fun a20 H =>
 g1 a19 a20 H
def qvx (call : Ev.Call) (q1e0 : Hp → R1) (x0 : AV) (g1 : AV → AV → Hp → R1) (x8 x9 : AV) (H : Hp) : R1 :=
 vq (intV (qaa .lss).f x8 x9) H fun a22 H =>
 cd a22 (
 qq3 call g1 x0 x8 x9 H) (
 q1e0 H)
def qlz (call : Ev.Call) (q1e0 : Hp → R1) (x0 : AV) (n : Nat) : AV → AV → Hp → R1 :=
 Nat.rec (motive := fun _ => AV → AV → Hp → R1) (fun _ _ _ => .bad) (fun _ ih => qvx call q1e0 x0 ih) n
def qvy (call : Ev.Call) (q1e0 : Hp → R1) (x0 : AV) : AV → AV → Hp → R1 := qlz call q1e0 x0 qbx
def q07 (call : Ev.Call) (x0 x1 x2 : AV) (H : Hp) : R1 :=
 vq (intV (qaa .sub).f x2 (.int .i64 (.ofNat 1))) H fun a0 H =>
 qvy call (fun H => .ok (.tup []) H) x0 x1 a0 H
def s_rev (call : Ev.Call) (x0 x1 x2 x3 : AV) (H : Hp) : R1 := q07 call x0 x1 x2 H
def qbe (call : Ev.Call) (H : Hp) : R1 :=
 .ok (.bool false) H
def qc7 (call : Ev.Call) (g2 : AV → AV → Hp → R1) (x9 x10 : AV) (H : Hp) : R1 :=
 vq (intV (qaa .add).f x10 (.int .i64 (.ofNat 1))) H fun a3 H =>
 g2 x9 a3 H
def qnk (call : Ev.Call) (g27 : AV → Hp → R1) (x12 : AV) (H : Hp) : R1 :=
 vq (intV (qaa .add).f x12 (.int .i64 (.ofNat 1))) H fun a28 H =>
 g27 a28 H
def qnj (call : Ev.Call) (g27 : AV → Hp → R1) (x0 x12 : AV) (H : Hp) : R1 :=
 dz 0 H fun b30 H =>
 dq false false 0 0 (b30 + 0) H [] [] (fun _ => .val x0) (some true) fun a31 H p w =>
 dq false false 1 0 (b30 + 1) H p w (fun _ => .val x12) (some true) fun a32 H p w =>
 dq false false 2 0 (b30 + 2) H p w (fun _ => .val x0) (some true) fun a33 H p w =>
 dq false false 3 0 (b30 + 3) H p w (fun _ => .val x12) (some true) fun a34 H p w =>
 dq false false 4 8 (b30 + 4) H p w (fun _ => intV (qaa .sub).f a34 (.int .i64 (.ofNat 1))) (some true) fun a35 H p w =>
 dq false false 5 0 (b30 + 5) H p w (fun _ => .val x0) (some true) fun a36 H p w =>
 dq false false 6 0 (b30 + 6) H p w (fun _ => .val x12) (some true) fun a37 H p w =>
 dq false false 7 64 (b30 + 7) H p w (fun _ => intV (qaa .sub).f a37 (.int .i64 (.ofNat 1))) (some true) fun a38 H p w =>
 dq false false 8 224 (b30 + 8) H p w (fun _ => idxS 1 a36 a38) (some true) fun a39 H p w =>
 dq true false 9 480 (b30 + 9) H p w (fun H => qaf H a39) (some true) fun a40 H p w =>
 dq false false 10 0 (b30 + 10) H p w (fun _ => .val x0) (some true) fun a41 H p w =>
 dq false false 11 0 (b30 + 11) H p w (fun _ => .val x12) (some true) fun a42 H p w =>
 dq false false 12 3072 (b30 + 12) H p w (fun _ => idxS 1 a41 a42) (some true) fun a43 H p w =>
 dq true false 13 7168 (b30 + 13) H p w (fun H => qaf H a43) (some true) fun a44 H p w =>
 dq false false 14 16355 (b30 + 14) H p w (fun _ => idxS 1 a31 a32) (some true) fun a45 H p w =>
 de 32739 H p w (qao (qas 32739 p H) a45 a40) (some true) fun _ H p w =>
 dq false false 16 65535 (b30 + 16) H p w (fun _ => idxS 1 a33 a35) (some true) fun a47 H p w =>
 de 131071 H p w (qao (qas 131071 p H) a47 a44) (some true) fun _ H p w =>
 dz2 p H fun H =>
 qnk call g27 x12 H
def qni (call : Ev.Call) (q27e6 : Hp → R1) (g27 : AV → Hp → R1) (x0 x3 x12 : AV) (H : Hp) : R1 :=
 dz 0 H fun b50 H =>
 dq false false 0 0 (b50 + 0) H [] [] (fun _ => .val x3) (some true) fun a51 H p w =>
 dq false false 1 0 (b50 + 1) H p w (fun _ => .val x0) (some true) fun a52 H p w =>
 dq false false 2 0 (b50 + 2) H p w (fun _ => .val x12) (some true) fun a53 H p w =>
 dq false false 3 6 (b50 + 3) H p w (fun _ => idxS 1 a52 a53) (some true) fun a54 H p w =>
 dq true false 4 14 (b50 + 4) H p w (fun H => qaf H a54) (some true) fun a55 H p w =>
 dq false false 5 0 (b50 + 5) H p w (fun _ => .val x0) (some true) fun a56 H p w =>
 dq false false 6 0 (b50 + 6) H p w (fun _ => .val x12) (some true) fun a57 H p w =>
 dq false false 7 64 (b50 + 7) H p w (fun _ => intV (qaa .sub).f a57 (.int .i64 (.ofNat 1))) (some true) fun a58 H p w =>
 dq false false 8 224 (b50 + 8) H p w (fun _ => idxS 1 a56 a58) (some true) fun a59 H p w =>
 dq true false 9 480 (b50 + 9) H p w (fun H => qaf H a59) (some true) fun a60 H p w =>
 de 1023 H p w (qey call a51 [a55, a60] (qas 1023 p H)) (some true) fun a61 H p w =>
 dq false false 11 2047 (b50 + 11) H p w (fun _ => intV (qaa .lss).f a61 (.int .i64 (.ofNat 0))) (some true) fun a62 H p w =>
 dq false false 12 4095 (b50 + 12) H p w (fun _ => (unS .not).f a62) (some true) fun a63 H p w =>
 dz2 p H fun H =>
 cd a63 (
 q27e6 H) (
 qnj call g27 x0 x12 H)
def qnl (call : Ev.Call) (q27e6 : Hp → R1) (x0 x2 x3 : AV) (g27 : AV → Hp → R1) (x12 : AV) (H : Hp) : R1 :=
 vq (intV (qaa .lss).f x12 x2) H fun a65 H =>
 cd a65 (
 qni call q27e6 g27 x0 x3 x12 H) (
 q27e6 H)
def qdy (call : Ev.Call) (q27e6 : Hp → R1) (x0 x2 x3 : AV) (n : Nat) : AV → Hp → R1 :=
 Nat.rec (motive := fun _ => AV → Hp → R1) (fun _ _ => .bad) (fun _ ih => qnl call q27e6 x0 x2 x3 ih) n
def qnn (call : Ev.Call) (q27e6 : Hp → R1) (x0 x2 x3 : AV) : AV → Hp → R1 := qdy call q27e6 x0 x2 x3 qbx
def qci (call : Ev.Call) (g2 : AV → AV → Hp → R1) (x0 x2 x3 x9 x10 : AV) (H : Hp) : R1 :=
 vq (intV (qaa .sub).f x2 x9) H fun a24 H =>
 vq (intV (qaa .geq).f a24 (.int .i64 (.ofNat 2))) H fun a25 H =>
 cd a25 (
 vq (intV (qaa .add).f x9 (.int .i64 (.ofNat 1))) H fun a26 H =>
 qnn call (fun H => qc7 call g2 x9 x10 H) x0 x2 x3 a26 H) (
 qc7 call g2 x9 x10 H)
def qnh (call : Ev.Call) (g70 : AV → Hp → R1) (x11 : AV) (H : Hp) : R1 :=
 vq (intV (qaa .sub).f x11 (.int .i64 (.ofNat 1))) H fun a71 H =>
 g70 a71 H
def qng (call : Ev.Call) (g70 : AV → Hp → R1) (x0 x11 : AV) (H : Hp) : R1 :=
 dz 0 H fun b73 H =>
 dq false false 0 0 (b73 + 0) H [] [] (fun _ => .val x0) (some true) fun a74 H p w =>
 dq false false 1 0 (b73 + 1) H p w (fun _ => .val x11) (some true) fun a75 H p w =>
 dq false false 2 0 (b73 + 2) H p w (fun _ => .val x0) (some true) fun a76 H p w =>
 dq false false 3 0 (b73 + 3) H p w (fun _ => .val x11) (some true) fun a77 H p w =>
 dq false false 4 8 (b73 + 4) H p w (fun _ => intV (qaa .sub).f a77 (.int .i64 (.ofNat 1))) (some true) fun a78 H p w =>
 dq false false 5 0 (b73 + 5) H p w (fun _ => .val x0) (some true) fun a79 H p w =>
 dq false false 6 0 (b73 + 6) H p w (fun _ => .val x11) (some true) fun a80 H p w =>
 dq false false 7 64 (b73 + 7) H p w (fun _ => intV (qaa .sub).f a80 (.int .i64 (.ofNat 1))) (some true) fun a81 H p w =>
 dq false false 8 224 (b73 + 8) H p w (fun _ => idxS 1 a79 a81) (some true) fun a82 H p w =>
 dq true false 9 480 (b73 + 9) H p w (fun H => qaf H a82) (some true) fun a83 H p w =>
 dq false false 10 0 (b73 + 10) H p w (fun _ => .val x0) (some true) fun a84 H p w =>
 dq false false 11 0 (b73 + 11) H p w (fun _ => .val x11) (some true) fun a85 H p w =>
 dq false false 12 3072 (b73 + 12) H p w (fun _ => idxS 1 a84 a85) (some true) fun a86 H p w =>
 dq true false 13 7168 (b73 + 13) H p w (fun H => qaf H a86) (some true) fun a87 H p w =>
 dq false false 14 16355 (b73 + 14) H p w (fun _ => idxS 1 a74 a75) (some true) fun a88 H p w =>
 de 32739 H p w (qao (qas 32739 p H) a88 a83) (some true) fun _ H p w =>
 dq false false 16 65535 (b73 + 16) H p w (fun _ => idxS 1 a76 a78) (some true) fun a90 H p w =>
 de 131071 H p w (qao (qas 131071 p H) a90 a87) (some true) fun _ H p w =>
 dz2 p H fun H =>
 qnh call g70 x11 H
def qkp (call : Ev.Call) (q70e4 : Hp → R1) (g70 : AV → Hp → R1) (x0 x3 x11 : AV) (H : Hp) : R1 :=
 dz 0 H fun b93 H =>
 dq false false 0 0 (b93 + 0) H [] [] (fun _ => .val x3) (some true) fun a94 H p w =>
 dq false false 1 0 (b93 + 1) H p w (fun _ => .val x0) (some true) fun a95 H p w =>
 dq false false 2 0 (b93 + 2) H p w (fun _ => .val x11) (some true) fun a96 H p w =>
 dq false false 3 6 (b93 + 3) H p w (fun _ => idxS 1 a95 a96) (some true) fun a97 H p w =>
 dq true false 4 14 (b93 + 4) H p w (fun H => qaf H a97) (some true) fun a98 H p w =>
 dq false false 5 0 (b93 + 5) H p w (fun _ => .val x0) (some true) fun a99 H p w =>
 dq false false 6 0 (b93 + 6) H p w (fun _ => .val x11) (some true) fun a100 H p w =>
 dq false false 7 64 (b93 + 7) H p w (fun _ => intV (qaa .sub).f a100 (.int .i64 (.ofNat 1))) (some true) fun a101 H p w =>
 dq false false 8 224 (b93 + 8) H p w (fun _ => idxS 1 a99 a101) (some true) fun a102 H p w =>
 dq true false 9 480 (b93 + 9) H p w (fun H => qaf H a102) (some true) fun a103 H p w =>
 de 1023 H p w (qey call a94 [a98, a103] (qas 1023 p H)) (some true) fun a104 H p w =>
 dq false false 11 2047 (b93 + 11) H p w (fun _ => intV (qaa .lss).f a104 (.int .i64 (.ofNat 0))) (some true) fun a105 H p w =>
 dq false false 12 4095 (b93 + 12) H p w (fun _ => (unS .not).f a105) (some true) fun a106 H p w =>
 dz2 p H fun H =>
 cd a106 (
 q70e4 H) (
 qng call g70 x0 x11 H)
def qgn (call : Ev.Call) (q70e4 : Hp → R1) (x0 x3 : AV) (g70 : AV → Hp → R1) (x11 : AV) (H : Hp) : R1 :=
 vq (intV (qaa .geq).f x11 (.int .i64 (.ofNat 1))) H fun a108 H =>
 cd a108 (
 qkp call q70e4 g70 x0 x3 x11 H) (
 q70e4 H)
def qdm (call : Ev.Call) (q70e4 : Hp → R1) (x0 x3 : AV) (n : Nat) : AV → Hp → R1 :=
 Nat.rec (motive := fun _ => AV → Hp → R1) (fun _ _ => .bad) (fun _ ih => qgn call q70e4 x0 x3 ih) n
def qnm (call : Ev.Call) (q70e4 : Hp → R1) (x0 x3 : AV) : AV → Hp → R1 := qdm call q70e4 x0 x3 qbx
def qko (call : Ev.Call) (g2 : AV → AV → Hp → R1) (x0 x1 x2 x3 x9 x10 : AV) (H : Hp) : R1 :=
 dz 0 H fun b5 H =>
 dq false false 0 0 (b5 + 0) H [] [] (fun _ => .val x0) (some true) fun a6 H p w =>
 dq false false 1 0 (b5 + 1) H p w (fun _ => .val x9) (some true) fun a7 H p w =>
 dq false false 2 0 (b5 + 2) H p w (fun _ => .val x0) (some true) fun a8 H p w =>
 dq false false 3 0 (b5 + 3) H p w (fun _ => .val x9) (some true) fun a9 H p w =>
 dq false false 4 8 (b5 + 4) H p w (fun _ => intV (qaa .sub).f a9 (.int .i64 (.ofNat 1))) (some true) fun a10 H p w =>
 dq false false 5 0 (b5 + 5) H p w (fun _ => .val x0) (some true) fun a11 H p w =>
 dq false false 6 0 (b5 + 6) H p w (fun _ => .val x9) (some true) fun a12 H p w =>
 dq false false 7 64 (b5 + 7) H p w (fun _ => intV (qaa .sub).f a12 (.int .i64 (.ofNat 1))) (some true) fun a13 H p w =>
 dq false false 8 224 (b5 + 8) H p w (fun _ => idxS 1 a11 a13) (some true) fun a14 H p w =>
 dq true false 9 480 (b5 + 9) H p w (fun H => qaf H a14) (some true) fun a15 H p w =>
 dq false false 10 0 (b5 + 10) H p w (fun _ => .val x0) (some true) fun a16 H p w =>
 dq false false 11 0 (b5 + 11) H p w (fun _ => .val x9) (some true) fun a17 H p w =>
 dq false false 12 3072 (b5 + 12) H p w (fun _ => idxS 1 a16 a17) (some true) fun a18 H p w =>
 dq true false 13 7168 (b5 + 13) H p w (fun H => qaf H a18) (some true) fun a19 H p w =>
 dq false false 14 16355 (b5 + 14) H p w (fun _ => idxS 1 a6 a7) (some true) fun a20 H p w =>
 de 32739 H p w (qao (qas 32739 p H) a20 a15) (some true) fun _ H p w =>
 dq false false 16 65535 (b5 + 16) H p w (fun _ => idxS 1 a8 a10) (some true) fun a22 H p w =>
 de 131071 H p w (qao (qas 131071 p H) a22 a19) (some true) fun _ H p w =>
 dz2 p H fun H =>
 vq (intV (qaa .sub).f x9 x1) H fun a67 H =>
 vq (intV (qaa .geq).f a67 (.int .i64 (.ofNat 2))) H fun a68 H =>
 cd a68 (
 vq (intV (qaa .sub).f x9 (.int .i64 (.ofNat 1))) H fun a69 H =>
 qnm call (fun H => qci call g2 x0 x2 x3 x9 x10 H) x0 x3 a69 H) (
 qci call g2 x0 x2 x3 x9 x10 H)
def qkn (call : Ev.Call) (q2r : AV → Hp → R1) (g2 : AV → AV → Hp → R1) (x0 x1 x2 x3 x9 x10 : AV) (H : Hp) : R1 :=
 vq (intV (qaa .sub).f x2 x1) H fun a110 H =>
 vq (intV (qaa .lss).f a110 (.int .i64 (.ofNat 50))) H fun a111 H =>
 cd a111 (
 q2r (.bool false) H) (
 qko call g2 x0 x1 x2 x3 x9 x10 H)
def qdz (call : Ev.Call) (q2r : AV → Hp → R1) (g2 : AV → AV → Hp → R1) (x0 x1 x2 x3 x9 x10 : AV) (H : Hp) : R1 :=
 vq (intV (qaa .eql).f x9 x2) H fun a113 H =>
 cd a113 (
 q2r (.bool true) H) (
 qkn call q2r g2 x0 x1 x2 x3 x9 x10 H)
def qkm (call : Ev.Call) (g115 : AV → Hp → R1) (x9 : AV) (H : Hp) : R1 :=
 vq (intV (qaa .add).f x9 (.int .i64 (.ofNat 1))) H fun a116 H =>
 g115 a116 H
def qkq (call : Ev.Call) (q115e2 : AV → Hp → R1) (x0 x2 x3 : AV) (g115 : AV → Hp → R1) (x9 : AV) (H : Hp) : R1 :=
 dz 0 H fun b118 H =>
 dq false false 0 0 (b118 + 0) H [] [] (fun _ => .val x9) (some true) fun a119 H p w =>
 dq false false 1 0 (b118 + 1) H p w (fun _ => .val x2) (some true) fun a120 H p w =>
 dq false false 2 3 (b118 + 2) H p w (fun _ => intV (qaa .lss).f a119 a120) (some true) fun a121 H p w =>
 dq false false 3 7 (b118 + 3) H p w (fun _ => .val a121) (some true) fun a122 H p w =>
 dq false false 4 15 (b118 + 4) H p w (fun _ => .val x3) (qad true a122) fun a123 H p w =>
 dq false false 5 15 (b118 + 5) H p w (fun _ => .val x0) (qad true a122) fun a124 H p w =>
 dq false false 6 15 (b118 + 6) H p w (fun _ => .val x9) (qad true a122) fun a125 H p w =>
 dq false false 7 111 (b118 + 7) H p w (fun _ => idxS 1 a124 a125) (qad true a122) fun a126 H p w =>
 dq true false 8 239 (b118 + 8) H p w (fun H => qaf H a126) (qad true a122) fun a127 H p w =>
 dq false false 9 15 (b118 + 9) H p w (fun _ => .val x0) (qad true a122) fun a128 H p w =>
 dq false false 10 15 (b118 + 10) H p w (fun _ => .val x9) (qad true a122) fun a129 H p w =>
 dq false false 11 1039 (b118 + 11) H p w (fun _ => intV (qaa .sub).f a129 (.int .i64 (.ofNat 1))) (qad true a122) fun a130 H p w =>
 dq false false 12 3599 (b118 + 12) H p w (fun _ => idxS 1 a128 a130) (qad true a122) fun a131 H p w =>
 dq true false 13 7695 (b118 + 13) H p w (fun H => qaf H a131) (qad true a122) fun a132 H p w =>
 de 16383 H p w (qey call a123 [a127, a132] (qas 16383 p H)) (qad true a122) fun a133 H p w =>
 dq false false 15 32767 (b118 + 15) H p w (fun _ => intV (qaa .lss).f a133 (.int .i64 (.ofNat 0))) (qad true a122) fun a134 H p w =>
 dq false false 16 65535 (b118 + 16) H p w (fun _ => (unS .not).f a134) (qad true a122) fun a135 H p w =>
 dq false false 17 131071 (b118 + 17) H p w (fun _ => qb6 a122 a135 (.bool false)) (some true) fun a136 H p w =>
 dz2 p H fun H =>
 cd a136 (
 qkm call g115 x9 H) (
 q115e2 x9 H)
def qfc (call : Ev.Call) (q115e2 : AV → Hp → R1) (x0 x2 x3 : AV) (n : Nat) : AV → Hp → R1 :=
 Nat.rec (motive := fun _ => AV → Hp → R1) (fun _ _ => .bad) (fun _ ih => qkq call q115e2 x0 x2 x3 ih) n
def qkr (call : Ev.Call) (q115e2 : AV → Hp → R1) (x0 x2 x3 : AV) : AV → Hp → R1 := qfc call q115e2 x0 x2 x3 qbx
def qkl (call : Ev.Call) (q2r : AV → Hp → R1) (g2 : AV → AV → Hp → R1) (x0 x1 x2 x3 x9 x10 : AV) (H : Hp) : R1 :=
 qkr call (fun x9 H => qdz call q2r g2 x0 x1 x2 x3 x9 x10 H) x0 x2 x3 x9 H
def qil (call : Ev.Call) (q2r : AV → Hp → R1) (q2e0 : Hp → R1) (x0 x1 x2 x3 : AV) (g2 : AV → AV → Hp → R1) (x9 x10 : AV) (H : Hp) : R1 :=
 vq (intV (qaa .lss).f x10 (.int .i64 (.ofNat 5))) H fun a138 H =>
 cd a138 (
 qkl call q2r g2 x0 x1 x2 x3 x9 x10 H) (
 q2e0 H)
def qa1 (call : Ev.Call) (q2r : AV → Hp → R1) (q2e0 : Hp → R1) (x0 x1 x2 x3 : AV) (n : Nat) : AV → AV → Hp → R1 :=
 Nat.rec (motive := fun _ => AV → AV → Hp → R1) (fun _ _ _ => .bad) (fun _ ih => qil call q2r q2e0 x0 x1 x2 x3 ih) n
def qq4 (call : Ev.Call) (q2r : AV → Hp → R1) (q2e0 : Hp → R1) (x0 x1 x2 x3 : AV) : AV → AV → Hp → R1 := qa1 call q2r q2e0 x0 x1 x2 x3 qbx
def qvz (call : Ev.Call) (x0 x1 x2 x3 : AV) (H : Hp) : R1 :=
 vq (intV (qaa .add).f x1 (.int .i64 (.ofNat 1))) H fun a0 H =>
 qq4 call (fun x8 H => .ok x8 H) (fun H => qbe call H) x0 x1 x2 x3 a0 (.int .i64 (.ofNat 0)) H
def s_pins (call : Ev.Call) (x0 x1 x2 x3 : AV) (H : Hp) : R1 := qvz call x0 x1 x2 x3 H
def qbv (call : Ev.Call) (x11 : AV) (H : Hp) : R1 :=
 .ok x11 H
def qq7 (call : Ev.Call) (g20 : AV → AV → Hp → R1) (x0 x11 x12 : AV) (H : Hp) : R1 :=
 dz 0 H fun b21 H =>
 dq false false 0 0 (b21 + 0) H [] [] (fun _ => .val x0) (some true) fun a22 H p w =>
 dq false false 1 0 (b21 + 1) H p w (fun _ => .val x11) (some true) fun a23 H p w =>
 dq false false 2 0 (b21 + 2) H p w (fun _ => .val x0) (some true) fun a24 H p w =>
 dq false false 3 0 (b21 + 3) H p w (fun _ => .val x12) (some true) fun a25 H p w =>
 dq false false 4 0 (b21 + 4) H p w (fun _ => .val x0) (some true) fun a26 H p w =>
 dq false false 5 0 (b21 + 5) H p w (fun _ => .val x12) (some true) fun a27 H p w =>
 dq false false 6 48 (b21 + 6) H p w (fun _ => idxS 1 a26 a27) (some true) fun a28 H p w =>
 dq true false 7 112 (b21 + 7) H p w (fun H => qaf H a28) (some true) fun a29 H p w =>
 dq false false 8 0 (b21 + 8) H p w (fun _ => .val x0) (some true) fun a30 H p w =>
 dq false false 9 0 (b21 + 9) H p w (fun _ => .val x11) (some true) fun a31 H p w =>
 dq false false 10 768 (b21 + 10) H p w (fun _ => idxS 1 a30 a31) (some true) fun a32 H p w =>
 dq true false 11 1792 (b21 + 11) H p w (fun H => qaf H a32) (some true) fun a33 H p w =>
 dq false false 12 4083 (b21 + 12) H p w (fun _ => idxS 1 a22 a23) (some true) fun a34 H p w =>
 de 8179 H p w (qao (qas 8179 p H) a34 a29) (some true) fun _ H p w =>
 dq false false 14 16383 (b21 + 14) H p w (fun _ => idxS 1 a24 a25) (some true) fun a36 H p w =>
 de 32767 H p w (qao (qas 32767 p H) a36 a33) (some true) fun _ H p w =>
 dz2 p H fun H =>
 vq (intV (qaa .add).f x11 (.int .i64 (.ofNat 1))) H fun a38 H =>
 vq (intV (qaa .sub).f x12 (.int .i64 (.ofNat 1))) H fun a39 H =>
 g20 a38 a39 H
def qgq (call : Ev.Call) (q20e0 : AV → Hp → R1) (g20 : AV → AV → Hp → R1) (x0 x11 x12 : AV) (H : Hp) : R1 :=
 vq (intV (qaa .gtr).f x11 x12) H fun a41 H =>
 cd a41 (
 q20e0 x11 H) (
 qq7 call g20 x0 x11 x12 H)
def qq6 (call : Ev.Call) (g43 : AV → Hp → R1) (x12 : AV) (H : Hp) : R1 :=
 vq (intV (qaa .sub).f x12 (.int .i64 (.ofNat 1))) H fun a44 H =>
 g43 a44 H
def qin (call : Ev.Call) (q43e4 : AV → Hp → R1) (x0 x1 x4 x11 : AV) (g43 : AV → Hp → R1) (x12 : AV) (H : Hp) : R1 :=
 dz 0 H fun b46 H =>
 dq false false 0 0 (b46 + 0) H [] [] (fun _ => .val x11) (some true) fun a47 H p w =>
 dq false false 1 0 (b46 + 1) H p w (fun _ => .val x12) (some true) fun a48 H p w =>
 dq false false 2 3 (b46 + 2) H p w (fun _ => intV (qaa .leq).f a47 a48) (some true) fun a49 H p w =>
 dq false false 3 7 (b46 + 3) H p w (fun _ => .val a49) (some true) fun a50 H p w =>
 dq false false 4 15 (b46 + 4) H p w (fun _ => .val x4) (qad true a50) fun a51 H p w =>
 dq false false 5 15 (b46 + 5) H p w (fun _ => .val x0) (qad true a50) fun a52 H p w =>
 dq false false 6 15 (b46 + 6) H p w (fun _ => .val x1) (qad true a50) fun a53 H p w =>
 dq false false 7 111 (b46 + 7) H p w (fun _ => idxS 1 a52 a53) (qad true a50) fun a54 H p w =>
 dq true false 8 239 (b46 + 8) H p w (fun H => qaf H a54) (qad true a50) fun a55 H p w =>
 dq false false 9 15 (b46 + 9) H p w (fun _ => .val x0) (qad true a50) fun a56 H p w =>
 dq false false 10 15 (b46 + 10) H p w (fun _ => .val x12) (qad true a50) fun a57 H p w =>
 dq false false 11 1551 (b46 + 11) H p w (fun _ => idxS 1 a56 a57) (qad true a50) fun a58 H p w =>
 dq true false 12 3599 (b46 + 12) H p w (fun H => qaf H a58) (qad true a50) fun a59 H p w =>
 de 8191 H p w (qey call a51 [a55, a59] (qas 8191 p H)) (qad true a50) fun a60 H p w =>
 dq false false 14 16383 (b46 + 14) H p w (fun _ => intV (qaa .lss).f a60 (.int .i64 (.ofNat 0))) (qad true a50) fun a61 H p w =>
 dq false false 15 32767 (b46 + 15) H p w (fun _ => qb6 a50 a61 (.bool false)) (some true) fun a62 H p w =>
 dz2 p H fun H =>
 cd a62 (
 qq6 call g43 x12 H) (
 q43e4 x12 H)
def qgo (call : Ev.Call) (q43e4 : AV → Hp → R1) (x0 x1 x4 x11 : AV) (n : Nat) : AV → Hp → R1 :=
 Nat.rec (motive := fun _ => AV → Hp → R1) (fun _ _ => .bad) (fun _ ih => qin call q43e4 x0 x1 x4 x11 ih) n
def qrb (call : Ev.Call) (q43e4 : AV → Hp → R1) (x0 x1 x4 x11 : AV) : AV → Hp → R1 := qgo call q43e4 x0 x1 x4 x11 qbx
def qgp (call : Ev.Call) (q20e0 : AV → Hp → R1) (g20 : AV → AV → Hp → R1) (x0 x1 x4 x11 x12 : AV) (H : Hp) : R1 :=
 qrb call (fun x12 H => qgq call q20e0 g20 x0 x11 x12 H) x0 x1 x4 x11 x12 H
def qq5 (call : Ev.Call) (g64 : AV → Hp → R1) (x11 : AV) (H : Hp) : R1 :=
 vq (intV (qaa .add).f x11 (.int .i64 (.ofNat 1))) H fun a65 H =>
 g64 a65 H
def qq8 (call : Ev.Call) (q64e2 : AV → Hp → R1) (x0 x1 x4 x12 : AV) (g64 : AV → Hp → R1) (x11 : AV) (H : Hp) : R1 :=
 dz 0 H fun b67 H =>
 dq false false 0 0 (b67 + 0) H [] [] (fun _ => .val x11) (some true) fun a68 H p w =>
 dq false false 1 0 (b67 + 1) H p w (fun _ => .val x12) (some true) fun a69 H p w =>
 dq false false 2 3 (b67 + 2) H p w (fun _ => intV (qaa .leq).f a68 a69) (some true) fun a70 H p w =>
 dq false false 3 7 (b67 + 3) H p w (fun _ => .val a70) (some true) fun a71 H p w =>
 dq false false 4 15 (b67 + 4) H p w (fun _ => .val x4) (qad true a71) fun a72 H p w =>
 dq false false 5 15 (b67 + 5) H p w (fun _ => .val x0) (qad true a71) fun a73 H p w =>
 dq false false 6 15 (b67 + 6) H p w (fun _ => .val x1) (qad true a71) fun a74 H p w =>
 dq false false 7 111 (b67 + 7) H p w (fun _ => idxS 1 a73 a74) (qad true a71) fun a75 H p w =>
 dq true false 8 239 (b67 + 8) H p w (fun H => qaf H a75) (qad true a71) fun a76 H p w =>
 dq false false 9 15 (b67 + 9) H p w (fun _ => .val x0) (qad true a71) fun a77 H p w =>
 dq false false 10 15 (b67 + 10) H p w (fun _ => .val x11) (qad true a71) fun a78 H p w =>
 dq false false 11 1551 (b67 + 11) H p w (fun _ => idxS 1 a77 a78) (qad true a71) fun a79 H p w =>
 dq true false 12 3599 (b67 + 12) H p w (fun H => qaf H a79) (qad true a71) fun a80 H p w =>
 de 8191 H p w (qey call a72 [a76, a80] (qas 8191 p H)) (qad true a71) fun a81 H p w =>
 dq false false 14 16383 (b67 + 14) H p w (fun _ => intV (qaa .lss).f a81 (.int .i64 (.ofNat 0))) (qad true a71) fun a82 H p w =>
 dq false false 15 32767 (b67 + 15) H p w (fun _ => (unS .not).f a82) (qad true a71) fun a83 H p w =>
 dq false false 16 65535 (b67 + 16) H p w (fun _ => qb6 a71 a83 (.bool false)) (some true) fun a84 H p w =>
 dz2 p H fun H =>
 cd a84 (
 qq5 call g64 x11 H) (
 q64e2 x11 H)
def qim (call : Ev.Call) (q64e2 : AV → Hp → R1) (x0 x1 x4 x12 : AV) (n : Nat) : AV → Hp → R1 :=
 Nat.rec (motive := fun _ => AV → Hp → R1) (fun _ _ => .bad) (fun _ ih => qq8 call q64e2 x0 x1 x4 x12 ih) n
def qra (call : Ev.Call) (q64e2 : AV → Hp → R1) (x0 x1 x4 x12 : AV) : AV → Hp → R1 := qim call q64e2 x0 x1 x4 x12 qbx
def qq9 (call : Ev.Call) (q20e0 : AV → Hp → R1) (x0 x1 x4 : AV) (g20 : AV → AV → Hp → R1) (x11 x12 : AV) (H : Hp) : R1 :=
 qra call (fun x11 H => qgp call q20e0 g20 x0 x1 x4 x11 x12 H) x0 x1 x4 x12 x11 H
def qcj (call : Ev.Call) (q20e0 : AV → Hp → R1) (x0 x1 x4 : AV) (n : Nat) : AV → AV → Hp → R1 :=
 Nat.rec (motive := fun _ => AV → AV → Hp → R1) (fun _ _ _ => .bad) (fun _ ih => qq9 call q20e0 x0 x1 x4 ih) n
def qrc (call : Ev.Call) (q20e0 : AV → Hp → R1) (x0 x1 x4 : AV) : AV → AV → Hp → R1 := qcj call q20e0 x0 x1 x4 qbx
def q1a (call : Ev.Call) (x0 x1 x2 x3 x4 : AV) (H : Hp) : R1 :=
 dz 0 H fun b0 H =>
 dq false false 0 0 (b0 + 0) H [] [] (fun _ => .val x0) (some true) fun a1 H p w =>
 dq false false 1 0 (b0 + 1) H p w (fun _ => .val x1) (some true) fun a2 H p w =>
 dq false false 2 0 (b0 + 2) H p w (fun _ => .val x0) (some true) fun a3 H p w =>
 dq false false 3 0 (b0 + 3) H p w (fun _ => .val x3) (some true) fun a4 H p w =>
 dq false false 4 0 (b0 + 4) H p w (fun _ => .val x0) (some true) fun a5 H p w =>
 dq false false 5 0 (b0 + 5) H p w (fun _ => .val x3) (some true) fun a6 H p w =>
 dq false false 6 48 (b0 + 6) H p w (fun _ => idxS 1 a5 a6) (some true) fun a7 H p w =>
 dq true false 7 112 (b0 + 7) H p w (fun H => qaf H a7) (some true) fun a8 H p w =>
 dq false false 8 0 (b0 + 8) H p w (fun _ => .val x0) (some true) fun a9 H p w =>
 dq false false 9 0 (b0 + 9) H p w (fun _ => .val x1) (some true) fun a10 H p w =>
 dq false false 10 768 (b0 + 10) H p w (fun _ => idxS 1 a9 a10) (some true) fun a11 H p w =>
 dq true false 11 1792 (b0 + 11) H p w (fun H => qaf H a11) (some true) fun a12 H p w =>
 dq false false 12 4083 (b0 + 12) H p w (fun _ => idxS 1 a1 a2) (some true) fun a13 H p w =>
 de 8179 H p w (qao (qas 8179 p H) a13 a8) (some true) fun _ H p w =>
 dq false false 14 16383 (b0 + 14) H p w (fun _ => idxS 1 a3 a4) (some true) fun a15 H p w =>
 de 32767 H p w (qao (qas 32767 p H) a15 a12) (some true) fun _ H p w =>
 dz2 p H fun H =>
 vq (intV (qaa .add).f x1 (.int .i64 (.ofNat 1))) H fun a17 H =>
 vq (intV (qaa .sub).f x2 (.int .i64 (.ofNat 1))) H fun a18 H =>
 qrc call (fun x11 H => qbv call x11 H) x0 x1 x4 a17 a18 H
def s_peq (call : Ev.Call) (x0 x1 x2 x3 x4 : AV) (H : Hp) : R1 := q1a call x0 x1 x2 x3 x4 H
def qbg (call : Ev.Call) (x0 x1 x13 : AV) (H : Hp) : R1 :=
 dz 0 H fun b38 H =>
 dq false false 0 0 (b38 + 0) H [] [] (fun _ => .val x0) (some true) fun a39 H p w =>
 dq false false 1 0 (b38 + 1) H p w (fun _ => .val x13) (some true) fun a40 H p w =>
 dq false false 2 0 (b38 + 2) H p w (fun _ => .val x0) (some true) fun a41 H p w =>
 dq false false 3 0 (b38 + 3) H p w (fun _ => .val x1) (some true) fun a42 H p w =>
 dq false false 4 0 (b38 + 4) H p w (fun _ => .val x0) (some true) fun a43 H p w =>
 dq false false 5 0 (b38 + 5) H p w (fun _ => .val x1) (some true) fun a44 H p w =>
 dq false false 6 48 (b38 + 6) H p w (fun _ => idxS 1 a43 a44) (some true) fun a45 H p w =>
 dq true false 7 112 (b38 + 7) H p w (fun H => qaf H a45) (some true) fun a46 H p w =>
 dq false false 8 0 (b38 + 8) H p w (fun _ => .val x0) (some true) fun a47 H p w =>
 dq false false 9 0 (b38 + 9) H p w (fun _ => .val x13) (some true) fun a48 H p w =>
 dq false false 10 768 (b38 + 10) H p w (fun _ => idxS 1 a47 a48) (some true) fun a49 H p w =>
 dq true false 11 1792 (b38 + 11) H p w (fun H => qaf H a49) (some true) fun a50 H p w =>
 dq false false 12 4083 (b38 + 12) H p w (fun _ => idxS 1 a39 a40) (some true) fun a51 H p w =>
 de 8179 H p w (qao (qas 8179 p H) a51 a46) (some true) fun _ H p w =>
 dq false false 14 16383 (b38 + 14) H p w (fun _ => idxS 1 a41 a42) (some true) fun a53 H p w =>
 de 32767 H p w (qao (qas 32767 p H) a53 a50) (some true) fun _ H p w =>
 dz2 p H fun H =>
 .ok (.tup [x13, (.bool false)]) H
def qnp (call : Ev.Call) (g56 : AV → AV → Hp → R1) (x0 x12 x13 : AV) (H : Hp) : R1 :=
 dz 0 H fun b57 H =>
 dq false false 0 0 (b57 + 0) H [] [] (fun _ => .val x0) (some true) fun a58 H p w =>
 dq false false 1 0 (b57 + 1) H p w (fun _ => .val x12) (some true) fun a59 H p w =>
 dq false false 2 0 (b57 + 2) H p w (fun _ => .val x0) (some true) fun a60 H p w =>
 dq false false 3 0 (b57 + 3) H p w (fun _ => .val x13) (some true) fun a61 H p w =>
 dq false false 4 0 (b57 + 4) H p w (fun _ => .val x0) (some true) fun a62 H p w =>
 dq false false 5 0 (b57 + 5) H p w (fun _ => .val x13) (some true) fun a63 H p w =>
 dq false false 6 48 (b57 + 6) H p w (fun _ => idxS 1 a62 a63) (some true) fun a64 H p w =>
 dq true false 7 112 (b57 + 7) H p w (fun H => qaf H a64) (some true) fun a65 H p w =>
 dq false false 8 0 (b57 + 8) H p w (fun _ => .val x0) (some true) fun a66 H p w =>
 dq false false 9 0 (b57 + 9) H p w (fun _ => .val x12) (some true) fun a67 H p w =>
 dq false false 10 768 (b57 + 10) H p w (fun _ => idxS 1 a66 a67) (some true) fun a68 H p w =>
 dq true false 11 1792 (b57 + 11) H p w (fun H => qaf H a68) (some true) fun a69 H p w =>
 dq false false 12 4083 (b57 + 12) H p w (fun _ => idxS 1 a58 a59) (some true) fun a70 H p w =>
 de 8179 H p w (qao (qas 8179 p H) a70 a65) (some true) fun _ H p w =>
 dq false false 14 16383 (b57 + 14) H p w (fun _ => idxS 1 a60 a61) (some true) fun a72 H p w =>
 de 32767 H p w (qao (qas 32767 p H) a72 a69) (some true) fun _ H p w =>
 dz2 p H fun H =>
 vq (intV (qaa .add).f x12 (.int .i64 (.ofNat 1))) H fun a74 H =>
 vq (intV (qaa .sub).f x13 (.int .i64 (.ofNat 1))) H fun a75 H =>
 g56 a74 a75 H
def qe1 (call : Ev.Call) (q56e4 : AV → Hp → R1) (g56 : AV → AV → Hp → R1) (x0 x12 x13 : AV) (H : Hp) : R1 :=
 vq (intV (qaa .gtr).f x12 x13) H fun a77 H =>
 cd a77 (
 q56e4 x13 H) (
 qnp call g56 x0 x12 x13 H)
def qno (call : Ev.Call) (g79 : AV → Hp → R1) (x13 : AV) (H : Hp) : R1 :=
 vq (intV (qaa .sub).f x13 (.int .i64 (.ofNat 1))) H fun a80 H =>
 g79 a80 H
def qgr (call : Ev.Call) (q79e8 : AV → Hp → R1) (x0 x1 x4 x12 : AV) (g79 : AV → Hp → R1) (x13 : AV) (H : Hp) : R1 :=
 dz 0 H fun b82 H =>
 dq false false 0 0 (b82 + 0) H [] [] (fun _ => .val x12) (some true) fun a83 H p w =>
 dq false false 1 0 (b82 + 1) H p w (fun _ => .val x13) (some true) fun a84 H p w =>
 dq false false 2 3 (b82 + 2) H p w (fun _ => intV (qaa .leq).f a83 a84) (some true) fun a85 H p w =>
 dq false false 3 7 (b82 + 3) H p w (fun _ => .val a85) (some true) fun a86 H p w =>
 dq false false 4 15 (b82 + 4) H p w (fun _ => .val x4) (qad true a86) fun a87 H p w =>
 dq false false 5 15 (b82 + 5) H p w (fun _ => .val x0) (qad true a86) fun a88 H p w =>
 dq false false 6 15 (b82 + 6) H p w (fun _ => .val x13) (qad true a86) fun a89 H p w =>
 dq false false 7 111 (b82 + 7) H p w (fun _ => idxS 1 a88 a89) (qad true a86) fun a90 H p w =>
 dq true false 8 239 (b82 + 8) H p w (fun H => qaf H a90) (qad true a86) fun a91 H p w =>
 dq false false 9 15 (b82 + 9) H p w (fun _ => .val x0) (qad true a86) fun a92 H p w =>
 dq false false 10 15 (b82 + 10) H p w (fun _ => .val x1) (qad true a86) fun a93 H p w =>
 dq false false 11 1551 (b82 + 11) H p w (fun _ => idxS 1 a92 a93) (qad true a86) fun a94 H p w =>
 dq true false 12 3599 (b82 + 12) H p w (fun H => qaf H a94) (qad true a86) fun a95 H p w =>
 de 8191 H p w (qey call a87 [a91, a95] (qas 8191 p H)) (qad true a86) fun a96 H p w =>
 dq false false 14 16383 (b82 + 14) H p w (fun _ => intV (qaa .lss).f a96 (.int .i64 (.ofNat 0))) (qad true a86) fun a97 H p w =>
 dq false false 15 32767 (b82 + 15) H p w (fun _ => (unS .not).f a97) (qad true a86) fun a98 H p w =>
 dq false false 16 65535 (b82 + 16) H p w (fun _ => qb6 a86 a98 (.bool false)) (some true) fun a99 H p w =>
 dz2 p H fun H =>
 cd a99 (
 qno call g79 x13 H) (
 q79e8 x13 H)
def qe0 (call : Ev.Call) (q79e8 : AV → Hp → R1) (x0 x1 x4 x12 : AV) (n : Nat) : AV → Hp → R1 :=
 Nat.rec (motive := fun _ => AV → Hp → R1) (fun _ _ => .bad) (fun _ ih => qgr call q79e8 x0 x1 x4 x12 ih) n
def qnr (call : Ev.Call) (q79e8 : AV → Hp → R1) (x0 x1 x4 x12 : AV) : AV → Hp → R1 := qe0 call q79e8 x0 x1 x4 x12 qbx
def qd3 (call : Ev.Call) (q56e4 : AV → Hp → R1) (g56 : AV → AV → Hp → R1) (x0 x1 x4 x12 x13 : AV) (H : Hp) : R1 :=
 qnr call (fun x13 H => qe1 call q56e4 g56 x0 x12 x13 H) x0 x1 x4 x12 x13 H
def qkv (call : Ev.Call) (g101 : AV → Hp → R1) (x12 : AV) (H : Hp) : R1 :=
 vq (intV (qaa .add).f x12 (.int .i64 (.ofNat 1))) H fun a102 H =>
 g101 a102 H
def qkx (call : Ev.Call) (q101e6 : AV → Hp → R1) (x0 x1 x4 x13 : AV) (g101 : AV → Hp → R1) (x12 : AV) (H : Hp) : R1 :=
 dz 0 H fun b104 H =>
 dq false false 0 0 (b104 + 0) H [] [] (fun _ => .val x12) (some true) fun a105 H p w =>
 dq false false 1 0 (b104 + 1) H p w (fun _ => .val x13) (some true) fun a106 H p w =>
 dq false false 2 3 (b104 + 2) H p w (fun _ => intV (qaa .leq).f a105 a106) (some true) fun a107 H p w =>
 dq false false 3 7 (b104 + 3) H p w (fun _ => .val a107) (some true) fun a108 H p w =>
 dq false false 4 15 (b104 + 4) H p w (fun _ => .val x4) (qad true a108) fun a109 H p w =>
 dq false false 5 15 (b104 + 5) H p w (fun _ => .val x0) (qad true a108) fun a110 H p w =>
 dq false false 6 15 (b104 + 6) H p w (fun _ => .val x12) (qad true a108) fun a111 H p w =>
 dq false false 7 111 (b104 + 7) H p w (fun _ => idxS 1 a110 a111) (qad true a108) fun a112 H p w =>
 dq true false 8 239 (b104 + 8) H p w (fun H => qaf H a112) (qad true a108) fun a113 H p w =>
 dq false false 9 15 (b104 + 9) H p w (fun _ => .val x0) (qad true a108) fun a114 H p w =>
 dq false false 10 15 (b104 + 10) H p w (fun _ => .val x1) (qad true a108) fun a115 H p w =>
 dq false false 11 1551 (b104 + 11) H p w (fun _ => idxS 1 a114 a115) (qad true a108) fun a116 H p w =>
 dq true false 12 3599 (b104 + 12) H p w (fun H => qaf H a116) (qad true a108) fun a117 H p w =>
 de 8191 H p w (qey call a109 [a113, a117] (qas 8191 p H)) (qad true a108) fun a118 H p w =>
 dq false false 14 16383 (b104 + 14) H p w (fun _ => intV (qaa .lss).f a118 (.int .i64 (.ofNat 0))) (qad true a108) fun a119 H p w =>
 dq false false 15 32767 (b104 + 15) H p w (fun _ => qb6 a108 a119 (.bool false)) (some true) fun a120 H p w =>
 dz2 p H fun H =>
 cd a120 (
 qkv call g101 x12 H) (
 q101e6 x12 H)
def qff (call : Ev.Call) (q101e6 : AV → Hp → R1) (x0 x1 x4 x13 : AV) (n : Nat) : AV → Hp → R1 :=
 Nat.rec (motive := fun _ => AV → Hp → R1) (fun _ _ => .bad) (fun _ ih => qkx call q101e6 x0 x1 x4 x13 ih) n
def qk0 (call : Ev.Call) (q101e6 : AV → Hp → R1) (x0 x1 x4 x13 : AV) : AV → Hp → R1 := qff call q101e6 x0 x1 x4 x13 qbx
def qnq (call : Ev.Call) (q56e4 : AV → Hp → R1) (x0 x1 x4 : AV) (g56 : AV → AV → Hp → R1) (x12 x13 : AV) (H : Hp) : R1 :=
 qk0 call (fun x12 H => qd3 call q56e4 g56 x0 x1 x4 x12 x13 H) x0 x1 x4 x13 x12 H
def qcb (call : Ev.Call) (q56e4 : AV → Hp → R1) (x0 x1 x4 : AV) (n : Nat) : AV → AV → Hp → R1 :=
 Nat.rec (motive := fun _ => AV → AV → Hp → R1) (fun _ _ _ => .bad) (fun _ ih => qnq call q56e4 x0 x1 x4 ih) n
def qns (call : Ev.Call) (q56e4 : AV → Hp → R1) (x0 x1 x4 : AV) : AV → AV → Hp → R1 := qcb call q56e4 x0 x1 x4 qbx
def qku (call : Ev.Call) (x0 x1 x4 x12 x13 : AV) (H : Hp) : R1 :=
 dz 0 H fun b19 H =>
 dq false false 0 0 (b19 + 0) H [] [] (fun _ => .val x0) (some true) fun a20 H p w =>
 dq false false 1 0 (b19 + 1) H p w (fun _ => .val x12) (some true) fun a21 H p w =>
 dq false false 2 0 (b19 + 2) H p w (fun _ => .val x0) (some true) fun a22 H p w =>
 dq false false 3 0 (b19 + 3) H p w (fun _ => .val x13) (some true) fun a23 H p w =>
 dq false false 4 0 (b19 + 4) H p w (fun _ => .val x0) (some true) fun a24 H p w =>
 dq false false 5 0 (b19 + 5) H p w (fun _ => .val x13) (some true) fun a25 H p w =>
 dq false false 6 48 (b19 + 6) H p w (fun _ => idxS 1 a24 a25) (some true) fun a26 H p w =>
 dq true false 7 112 (b19 + 7) H p w (fun H => qaf H a26) (some true) fun a27 H p w =>
 dq false false 8 0 (b19 + 8) H p w (fun _ => .val x0) (some true) fun a28 H p w =>
 dq false false 9 0 (b19 + 9) H p w (fun _ => .val x12) (some true) fun a29 H p w =>
 dq false false 10 768 (b19 + 10) H p w (fun _ => idxS 1 a28 a29) (some true) fun a30 H p w =>
 dq true false 11 1792 (b19 + 11) H p w (fun H => qaf H a30) (some true) fun a31 H p w =>
 dq false false 12 4083 (b19 + 12) H p w (fun _ => idxS 1 a20 a21) (some true) fun a32 H p w =>
 de 8179 H p w (qao (qas 8179 p H) a32 a27) (some true) fun _ H p w =>
 dq false false 14 16383 (b19 + 14) H p w (fun _ => idxS 1 a22 a23) (some true) fun a34 H p w =>
 de 32767 H p w (qao (qas 32767 p H) a34 a31) (some true) fun _ H p w =>
 dz2 p H fun H =>
 vq (intV (qaa .add).f x12 (.int .i64 (.ofNat 1))) H fun a36 H =>
 vq (intV (qaa .sub).f x13 (.int .i64 (.ofNat 1))) H fun a37 H =>
 qns call (fun x13 H => qbg call x0 x1 x13 H) x0 x1 x4 a36 a37 H
def qd2 (call : Ev.Call) (x0 x1 x4 x12 x13 : AV) (H : Hp) : R1 :=
 vq (intV (qaa .gtr).f x12 x13) H fun a122 H =>
 cd a122 (
 dz 0 H fun b123 H =>
 dq false false 0 0 (b123 + 0) H [] [] (fun _ => .val x0) (some true) fun a124 H p w =>
 dq false false 1 0 (b123 + 1) H p w (fun _ => .val x13) (some true) fun a125 H p w =>
 dq false false 2 0 (b123 + 2) H p w (fun _ => .val x0) (some true) fun a126 H p w =>
 dq false false 3 0 (b123 + 3) H p w (fun _ => .val x1) (some true) fun a127 H p w =>
 dq false false 4 0 (b123 + 4) H p w (fun _ => .val x0) (some true) fun a128 H p w =>
 dq false false 5 0 (b123 + 5) H p w (fun _ => .val x1) (some true) fun a129 H p w =>
 dq false false 6 48 (b123 + 6) H p w (fun _ => idxS 1 a128 a129) (some true) fun a130 H p w =>
 dq true false 7 112 (b123 + 7) H p w (fun H => qaf H a130) (some true) fun a131 H p w =>
 dq false false 8 0 (b123 + 8) H p w (fun _ => .val x0) (some true) fun a132 H p w =>
 dq false false 9 0 (b123 + 9) H p w (fun _ => .val x13) (some true) fun a133 H p w =>
 dq false false 10 768 (b123 + 10) H p w (fun _ => idxS 1 a132 a133) (some true) fun a134 H p w =>
 dq true false 11 1792 (b123 + 11) H p w (fun H => qaf H a134) (some true) fun a135 H p w =>
 dq false false 12 4083 (b123 + 12) H p w (fun _ => idxS 1 a124 a125) (some true) fun a136 H p w =>
 de 8179 H p w (qao (qas 8179 p H) a136 a131) (some true) fun _ H p w =>
 dq false false 14 16383 (b123 + 14) H p w (fun _ => idxS 1 a126 a127) (some true) fun a138 H p w =>
 de 32767 H p w (qao (qas 32767 p H) a138 a135) (some true) fun _ H p w =>
 dz2 p H fun H =>
 .ok (.tup [x13, (.bool true)]) H) (
 qku call x0 x1 x4 x12 x13 H)
def qkt (call : Ev.Call) (g141 : AV → Hp → R1) (x13 : AV) (H : Hp) : R1 :=
 vq (intV (qaa .sub).f x13 (.int .i64 (.ofNat 1))) H fun a142 H =>
 g141 a142 H
def qfg (call : Ev.Call) (q141e2 : AV → Hp → R1) (x0 x1 x4 x12 : AV) (g141 : AV → Hp → R1) (x13 : AV) (H : Hp) : R1 :=
 dz 0 H fun b144 H =>
 dq false false 0 0 (b144 + 0) H [] [] (fun _ => .val x12) (some true) fun a145 H p w =>
 dq false false 1 0 (b144 + 1) H p w (fun _ => .val x13) (some true) fun a146 H p w =>
 dq false false 2 3 (b144 + 2) H p w (fun _ => intV (qaa .leq).f a145 a146) (some true) fun a147 H p w =>
 dq false false 3 7 (b144 + 3) H p w (fun _ => .val a147) (some true) fun a148 H p w =>
 dq false false 4 15 (b144 + 4) H p w (fun _ => .val x4) (qad true a148) fun a149 H p w =>
 dq false false 5 15 (b144 + 5) H p w (fun _ => .val x0) (qad true a148) fun a150 H p w =>
 dq false false 6 15 (b144 + 6) H p w (fun _ => .val x13) (qad true a148) fun a151 H p w =>
 dq false false 7 111 (b144 + 7) H p w (fun _ => idxS 1 a150 a151) (qad true a148) fun a152 H p w =>
 dq true false 8 239 (b144 + 8) H p w (fun H => qaf H a152) (qad true a148) fun a153 H p w =>
 dq false false 9 15 (b144 + 9) H p w (fun _ => .val x0) (qad true a148) fun a154 H p w =>
 dq false false 10 15 (b144 + 10) H p w (fun _ => .val x1) (qad true a148) fun a155 H p w =>
 dq false false 11 1551 (b144 + 11) H p w (fun _ => idxS 1 a154 a155) (qad true a148) fun a156 H p w =>
 dq true false 12 3599 (b144 + 12) H p w (fun H => qaf H a156) (qad true a148) fun a157 H p w =>
 de 8191 H p w (qey call a149 [a153, a157] (qas 8191 p H)) (qad true a148) fun a158 H p w =>
 dq false false 14 16383 (b144 + 14) H p w (fun _ => intV (qaa .lss).f a158 (.int .i64 (.ofNat 0))) (qad true a148) fun a159 H p w =>
 dq false false 15 32767 (b144 + 15) H p w (fun _ => (unS .not).f a159) (qad true a148) fun a160 H p w =>
 dq false false 16 65535 (b144 + 16) H p w (fun _ => qb6 a148 a160 (.bool false)) (some true) fun a161 H p w =>
 dz2 p H fun H =>
 cd a161 (
 qkt call g141 x13 H) (
 q141e2 x13 H)
def qd0 (call : Ev.Call) (q141e2 : AV → Hp → R1) (x0 x1 x4 x12 : AV) (n : Nat) : AV → Hp → R1 :=
 Nat.rec (motive := fun _ => AV → Hp → R1) (fun _ _ => .bad) (fun _ ih => qfg call q141e2 x0 x1 x4 x12 ih) n
def qkz (call : Ev.Call) (q141e2 : AV → Hp → R1) (x0 x1 x4 x12 : AV) : AV → Hp → R1 := qd0 call q141e2 x0 x1 x4 x12 qbx
def qd1 (call : Ev.Call) (x0 x1 x4 x12 x13 : AV) (H : Hp) : R1 :=
 qkz call (fun x13 H => qd2 call x0 x1 x4 x12 x13 H) x0 x1 x4 x12 x13 H
def qks (call : Ev.Call) (g163 : AV → Hp → R1) (x12 : AV) (H : Hp) : R1 :=
 vq (intV (qaa .add).f x12 (.int .i64 (.ofNat 1))) H fun a164 H =>
 g163 a164 H
def qkw (call : Ev.Call) (q163e0 : AV → Hp → R1) (x0 x1 x4 x13 : AV) (g163 : AV → Hp → R1) (x12 : AV) (H : Hp) : R1 :=
 dz 0 H fun b166 H =>
 dq false false 0 0 (b166 + 0) H [] [] (fun _ => .val x12) (some true) fun a167 H p w =>
 dq false false 1 0 (b166 + 1) H p w (fun _ => .val x13) (some true) fun a168 H p w =>
 dq false false 2 3 (b166 + 2) H p w (fun _ => intV (qaa .leq).f a167 a168) (some true) fun a169 H p w =>
 dq false false 3 7 (b166 + 3) H p w (fun _ => .val a169) (some true) fun a170 H p w =>
 dq false false 4 15 (b166 + 4) H p w (fun _ => .val x4) (qad true a170) fun a171 H p w =>
 dq false false 5 15 (b166 + 5) H p w (fun _ => .val x0) (qad true a170) fun a172 H p w =>
 dq false false 6 15 (b166 + 6) H p w (fun _ => .val x12) (qad true a170) fun a173 H p w =>
 dq false false 7 111 (b166 + 7) H p w (fun _ => idxS 1 a172 a173) (qad true a170) fun a174 H p w =>
 dq true false 8 239 (b166 + 8) H p w (fun H => qaf H a174) (qad true a170) fun a175 H p w =>
 dq false false 9 15 (b166 + 9) H p w (fun _ => .val x0) (qad true a170) fun a176 H p w =>
 dq false false 10 15 (b166 + 10) H p w (fun _ => .val x1) (qad true a170) fun a177 H p w =>
 dq false false 11 1551 (b166 + 11) H p w (fun _ => idxS 1 a176 a177) (qad true a170) fun a178 H p w =>
 dq true false 12 3599 (b166 + 12) H p w (fun H => qaf H a178) (qad true a170) fun a179 H p w =>
 de 8191 H p w (qey call a171 [a175, a179] (qas 8191 p H)) (qad true a170) fun a180 H p w =>
 dq false false 14 16383 (b166 + 14) H p w (fun _ => intV (qaa .lss).f a180 (.int .i64 (.ofNat 0))) (qad true a170) fun a181 H p w =>
 dq false false 15 32767 (b166 + 15) H p w (fun _ => qb6 a170 a181 (.bool false)) (some true) fun a182 H p w =>
 dz2 p H fun H =>
 cd a182 (
 qks call g163 x12 H) (
 q163e0 x12 H)
def qfe (call : Ev.Call) (q163e0 : AV → Hp → R1) (x0 x1 x4 x13 : AV) (n : Nat) : AV → Hp → R1 :=
 Nat.rec (motive := fun _ => AV → Hp → R1) (fun _ _ => .bad) (fun _ ih => qkw call q163e0 x0 x1 x4 x13 ih) n
def qky (call : Ev.Call) (q163e0 : AV → Hp → R1) (x0 x1 x4 x13 : AV) : AV → Hp → R1 := qfe call q163e0 x0 x1 x4 x13 qbx
def qv1 (call : Ev.Call) (x0 x1 x2 x3 x4 : AV) (H : Hp) : R1 :=
 dz 0 H fun b0 H =>
 dq false false 0 0 (b0 + 0) H [] [] (fun _ => .val x0) (some true) fun a1 H p w =>
 dq false false 1 0 (b0 + 1) H p w (fun _ => .val x1) (some true) fun a2 H p w =>
 dq false false 2 0 (b0 + 2) H p w (fun _ => .val x0) (some true) fun a3 H p w =>
 dq false false 3 0 (b0 + 3) H p w (fun _ => .val x3) (some true) fun a4 H p w =>
 dq false false 4 0 (b0 + 4) H p w (fun _ => .val x0) (some true) fun a5 H p w =>
 dq false false 5 0 (b0 + 5) H p w (fun _ => .val x3) (some true) fun a6 H p w =>
 dq false false 6 48 (b0 + 6) H p w (fun _ => idxS 1 a5 a6) (some true) fun a7 H p w =>
 dq true false 7 112 (b0 + 7) H p w (fun H => qaf H a7) (some true) fun a8 H p w =>
 dq false false 8 0 (b0 + 8) H p w (fun _ => .val x0) (some true) fun a9 H p w =>
 dq false false 9 0 (b0 + 9) H p w (fun _ => .val x1) (some true) fun a10 H p w =>
 dq false false 10 768 (b0 + 10) H p w (fun _ => idxS 1 a9 a10) (some true) fun a11 H p w =>
 dq true false 11 1792 (b0 + 11) H p w (fun H => qaf H a11) (some true) fun a12 H p w =>
 dq false false 12 4083 (b0 + 12) H p w (fun _ => idxS 1 a1 a2) (some true) fun a13 H p w =>
 de 8179 H p w (qao (qas 8179 p H) a13 a8) (some true) fun _ H p w =>
 dq false false 14 16383 (b0 + 14) H p w (fun _ => idxS 1 a3 a4) (some true) fun a15 H p w =>
 de 32767 H p w (qao (qas 32767 p H) a15 a12) (some true) fun _ H p w =>
 dz2 p H fun H =>
 vq (intV (qaa .add).f x1 (.int .i64 (.ofNat 1))) H fun a17 H =>
 vq (intV (qaa .sub).f x2 (.int .i64 (.ofNat 1))) H fun a18 H =>
 qky call (fun x12 H => qd1 call x0 x1 x4 x12 a18 H) x0 x1 x4 a18 a17 H
def s_part (call : Ev.Call) (x0 x1 x2 x3 x4 : AV) (H : Hp) : R1 := qv1 call x0 x1 x2 x3 x4 H
def qv3 (call : Ev.Call) (x0 : AV) (H : Hp) : R1 :=
 vq (qig .u64 x0) H fun a0 H =>
 ve (call (.f qjz) [a0] H) fun a1 H =>
 vq (qfa (qcr .shl).f (.int .u64 (.ofNat 1)) a1) H fun a2 H =>
 .ok a2 H
def s_npow (call : Ev.Call) (x0 : AV) (H : Hp) : R1 := qv3 call x0 H
def qkk (call : Ev.Call) (x0 : AV) (H : Hp) : R1 :=
 dz 0 H fun b0 H =>
 dq false false 0 0 (b0 + 0) H [] [] (fun _ => .val x0) (some true) fun a1 H p w =>
 dq false false 1 1 (b0 + 1) H p w (fun _ => nilC a1) (some true) fun a2 H p w =>
 dq true false 2 3 (b0 + 2) H p w (fun H => qaf H a2) (some true) fun a3 H p w =>
 dq false false 3 0 (b0 + 3) H p w (fun _ => .val x0) (some true) fun a4 H p w =>
 dq false false 4 8 (b0 + 4) H p w (fun _ => nilC a4) (some true) fun a5 H p w =>
 dq true false 5 24 (b0 + 5) H p w (fun H => qaf H a5) (some true) fun a6 H p w =>
 dq false false 6 56 (b0 + 6) H p w (fun _ => qfa (qcr .shl).f a6 (.int .u64 (.ofNat 13))) (some true) fun a7 H p w =>
 dq false false 7 127 (b0 + 7) H p w (fun _ => intV (qaa .xor).f a3 a7) (some true) fun a8 H p w =>
 dq false false 8 255 (b0 + 8) H p w (fun _ => nilC a1) (some true) fun a9 H p w =>
 de 511 H p w (qao (qas 511 p H) a9 a8) (some true) fun _ H p w =>
 dz2 p H fun H =>
 dz 0 H fun b11 H =>
 dq false false 0 0 (b11 + 0) H [] [] (fun _ => .val x0) (some true) fun a12 H p w =>
 dq false false 1 1 (b11 + 1) H p w (fun _ => nilC a12) (some true) fun a13 H p w =>
 dq true false 2 3 (b11 + 2) H p w (fun H => qaf H a13) (some true) fun a14 H p w =>
 dq false false 3 0 (b11 + 3) H p w (fun _ => .val x0) (some true) fun a15 H p w =>
 dq false false 4 8 (b11 + 4) H p w (fun _ => nilC a15) (some true) fun a16 H p w =>
 dq true false 5 24 (b11 + 5) H p w (fun H => qaf H a16) (some true) fun a17 H p w =>
 dq false false 6 56 (b11 + 6) H p w (fun _ => qfa (qcr .shr).f a17 (.int .u64 (.ofNat 7))) (some true) fun a18 H p w =>
 dq false false 7 127 (b11 + 7) H p w (fun _ => intV (qaa .xor).f a14 a18) (some true) fun a19 H p w =>
 dq false false 8 255 (b11 + 8) H p w (fun _ => nilC a12) (some true) fun a20 H p w =>
 de 511 H p w (qao (qas 511 p H) a20 a19) (some true) fun _ H p w =>
 dz2 p H fun H =>
 dz 0 H fun b22 H =>
 dq false false 0 0 (b22 + 0) H [] [] (fun _ => .val x0) (some true) fun a23 H p w =>
 dq false false 1 1 (b22 + 1) H p w (fun _ => nilC a23) (some true) fun a24 H p w =>
 dq true false 2 3 (b22 + 2) H p w (fun H => qaf H a24) (some true) fun a25 H p w =>
 dq false false 3 0 (b22 + 3) H p w (fun _ => .val x0) (some true) fun a26 H p w =>
 dq false false 4 8 (b22 + 4) H p w (fun _ => nilC a26) (some true) fun a27 H p w =>
 dq true false 5 24 (b22 + 5) H p w (fun H => qaf H a27) (some true) fun a28 H p w =>
 dq false false 6 56 (b22 + 6) H p w (fun _ => qfa (qcr .shl).f a28 (.int .u64 (.ofNat 17))) (some true) fun a29 H p w =>
 dq false false 7 127 (b22 + 7) H p w (fun _ => intV (qaa .xor).f a25 a29) (some true) fun a30 H p w =>
 dq false false 8 255 (b22 + 8) H p w (fun _ => nilC a23) (some true) fun a31 H p w =>
 de 511 H p w (qao (qas 511 p H) a31 a30) (some true) fun _ H p w =>
 dz2 p H fun H =>
 vq (nilC x0) H fun a33 H =>
 vq (qaf H a33) H fun a34 H =>
 .ok a34 H
def s_xorNext (call : Ev.Call) (x0 : AV) (H : Hp) : R1 := qkk call x0 H
def qnf (call : Ev.Call) (g0 : AV → Hp → R1) (x0 x3 x10 x11 : AV) (H : Hp) : R1 :=
 dz 0 H fun b3 H =>
 dq false false 0 0 (b3 + 0) H [] [] (fun _ => .val x0) (some true) fun a4 H p w =>
 dq false false 1 0 (b3 + 1) H p w (fun _ => .val x3) (some true) fun a5 H p w =>
 dq false false 2 0 (b3 + 2) H p w (fun _ => .val x10) (some true) fun a6 H p w =>
 dq false false 3 6 (b3 + 3) H p w (fun _ => intV (qaa .add).f a5 a6) (some true) fun a7 H p w =>
 dq false false 4 0 (b3 + 4) H p w (fun _ => .val x0) (some true) fun a8 H p w =>
 dq false false 5 0 (b3 + 5) H p w (fun _ => .val x3) (some true) fun a9 H p w =>
 dq false false 6 0 (b3 + 6) H p w (fun _ => .val x11) (some true) fun a10 H p w =>
 dq false false 7 96 (b3 + 7) H p w (fun _ => intV (qaa .add).f a9 a10) (some true) fun a11 H p w =>
 dq false false 8 0 (b3 + 8) H p w (fun _ => .val x0) (some true) fun a12 H p w =>
 dq false false 9 0 (b3 + 9) H p w (fun _ => .val x3) (some true) fun a13 H p w =>
 dq false false 10 0 (b3 + 10) H p w (fun _ => .val x11) (some true) fun a14 H p w =>
 dq false false 11 1536 (b3 + 11) H p w (fun _ => intV (qaa .add).f a13 a14) (some true) fun a15 H p w =>
 dq false false 12 3840 (b3 + 12) H p w (fun _ => idxS 1 a12 a15) (some true) fun a16 H p w =>
 dq true false 13 7936 (b3 + 13) H p w (fun H => qaf H a16) (some true) fun a17 H p w =>
 dq false false 14 0 (b3 + 14) H p w (fun _ => .val x0) (some true) fun a18 H p w =>
 dq false false 15 0 (b3 + 15) H p w (fun _ => .val x3) (some true) fun a19 H p w =>
 dq false false 16 0 (b3 + 16) H p w (fun _ => .val x10) (some true) fun a20 H p w =>
 dq false false 17 98304 (b3 + 17) H p w (fun _ => intV (qaa .add).f a19 a20) (some true) fun a21 H p w =>
 dq false false 18 245760 (b3 + 18) H p w (fun _ => idxS 1 a18 a21) (some true) fun a22 H p w =>
 dq true false 19 507904 (b3 + 19) H p w (fun H => qaf H a22) (some true) fun a23 H p w =>
 dq false false 20 1048335 (b3 + 20) H p w (fun _ => idxS 1 a4 a7) (some true) fun a24 H p w =>
 de 2096911 H p w (qao (qas 2096911 p H) a24 a17) (some true) fun _ H p w =>
 dq false false 22 4194303 (b3 + 22) H p w (fun _ => idxS 1 a8 a11) (some true) fun a26 H p w =>
 de 8388607 H p w (qao (qas 8388607 p H) a26 a23) (some true) fun _ H p w =>
 dz2 p H fun H =>
 g0 x11 H
def qgm (call : Ev.Call) (q0r : Hp → R1) (g0 : AV → Hp → R1) (x0 x3 x4 x10 x11 : AV) (H : Hp) : R1 :=
 dz 0 H fun b29 H =>
 dq false false 0 0 (b29 + 0) H [] [] (fun _ => .val x4) (some true) fun a30 H p w =>
 dq false false 1 0 (b29 + 1) H p w (fun _ => .val x0) (some true) fun a31 H p w =>
 dq false false 2 0 (b29 + 2) H p w (fun _ => .val x3) (some true) fun a32 H p w =>
 dq false false 3 0 (b29 + 3) H p w (fun _ => .val x10) (some true) fun a33 H p w =>
 dq false false 4 12 (b29 + 4) H p w (fun _ => intV (qaa .add).f a32 a33) (some true) fun a34 H p w =>
 dq false false 5 30 (b29 + 5) H p w (fun _ => idxS 1 a31 a34) (some true) fun a35 H p w =>
 dq true false 6 62 (b29 + 6) H p w (fun H => qaf H a35) (some true) fun a36 H p w =>
 dq false false 7 0 (b29 + 7) H p w (fun _ => .val x0) (some true) fun a37 H p w =>
 dq false false 8 0 (b29 + 8) H p w (fun _ => .val x3) (some true) fun a38 H p w =>
 dq false false 9 0 (b29 + 9) H p w (fun _ => .val x11) (some true) fun a39 H p w =>
 dq false false 10 768 (b29 + 10) H p w (fun _ => intV (qaa .add).f a38 a39) (some true) fun a40 H p w =>
 dq false false 11 1920 (b29 + 11) H p w (fun _ => idxS 1 a37 a40) (some true) fun a41 H p w =>
 dq true false 12 3968 (b29 + 12) H p w (fun H => qaf H a41) (some true) fun a42 H p w =>
 de 8191 H p w (qey call a30 [a36, a42] (qas 8191 p H)) (some true) fun a43 H p w =>
 dq false false 14 16383 (b29 + 14) H p w (fun _ => intV (qaa .lss).f a43 (.int .i64 (.ofNat 0))) (some true) fun a44 H p w =>
 dq false false 15 32767 (b29 + 15) H p w (fun _ => (unS .not).f a44) (some true) fun a45 H p w =>
 dz2 p H fun H =>
 cd a45 (
 q0r H) (
 qnf call g0 x0 x3 x10 x11 H)
def qne (call : Ev.Call) (q0r : Hp → R1) (g0 : AV → Hp → R1) (x0 x2 x3 x4 x10 x11 : AV) (H : Hp) : R1 :=
 dz 0 H fun b47 H =>
 dq false false 0 0 (b47 + 0) H [] [] (fun _ => .val x11) (some true) fun a48 H p w =>
 dq false false 1 1 (b47 + 1) H p w (fun _ => intV (qaa .add).f a48 (.int .i64 (.ofNat 1))) (some true) fun a49 H p w =>
 dq false false 2 0 (b47 + 2) H p w (fun _ => .val x2) (some true) fun a50 H p w =>
 dq false false 3 7 (b47 + 3) H p w (fun _ => intV (qaa .lss).f a49 a50) (some true) fun a51 H p w =>
 dq false false 4 15 (b47 + 4) H p w (fun _ => .val a51) (some true) fun a52 H p w =>
 dq false false 5 31 (b47 + 5) H p w (fun _ => .val x4) (qad true a52) fun a53 H p w =>
 dq false false 6 31 (b47 + 6) H p w (fun _ => .val x0) (qad true a52) fun a54 H p w =>
 dq false false 7 31 (b47 + 7) H p w (fun _ => .val x3) (qad true a52) fun a55 H p w =>
 dq false false 8 31 (b47 + 8) H p w (fun _ => .val x11) (qad true a52) fun a56 H p w =>
 dq false false 9 415 (b47 + 9) H p w (fun _ => intV (qaa .add).f a55 a56) (qad true a52) fun a57 H p w =>
 dq false false 10 991 (b47 + 10) H p w (fun _ => idxS 1 a54 a57) (qad true a52) fun a58 H p w =>
 dq true false 11 2015 (b47 + 11) H p w (fun H => qaf H a58) (qad true a52) fun a59 H p w =>
 dq false false 12 31 (b47 + 12) H p w (fun _ => .val x0) (qad true a52) fun a60 H p w =>
 dq false false 13 31 (b47 + 13) H p w (fun _ => .val x3) (qad true a52) fun a61 H p w =>
 dq false false 14 31 (b47 + 14) H p w (fun _ => .val x11) (qad true a52) fun a62 H p w =>
 dq false false 15 24607 (b47 + 15) H p w (fun _ => intV (qaa .add).f a61 a62) (qad true a52) fun a63 H p w =>
 dq false false 16 57375 (b47 + 16) H p w (fun _ => intV (qaa .add).f a63 (.int .i64 (.ofNat 1))) (qad true a52) fun a64 H p w =>
 dq false false 17 127007 (b47 + 17) H p w (fun _ => idxS 1 a60 a64) (qad true a52) fun a65 H p w =>
 dq true false 18 258079 (b47 + 18) H p w (fun H => qaf H a65) (qad true a52) fun a66 H p w =>
 de 524287 H p w (qey call a53 [a59, a66] (qas 524287 p H)) (qad true a52) fun a67 H p w =>
 dq false false 20 1048575 (b47 + 20) H p w (fun _ => intV (qaa .lss).f a67 (.int .i64 (.ofNat 0))) (qad true a52) fun a68 H p w =>
 dq false false 21 2097151 (b47 + 21) H p w (fun _ => qb6 a52 a68 (.bool false)) (some true) fun a69 H p w =>
 dz2 p H fun H =>
 cd a69 (
 vq (intV (qaa .add).f x11 (.int .i64 (.ofNat 1))) H fun a70 H =>
 qgm call q0r g0 x0 x3 x4 x10 a70 H) (
 qgm call q0r g0 x0 x3 x4 x10 x11 H)
def qq1 (call : Ev.Call) (q0e0 : Hp → R1) (q0r : Hp → R1) (x0 x2 x3 x4 : AV) (g0 : AV → Hp → R1) (x10 : AV) (H : Hp) : R1 :=
 vq (intV (qaa .mul).f (.int .i64 (.ofNat 2)) x10) H fun a1 H =>
 vq (intV (qaa .add).f a1 (.int .i64 (.ofNat 1))) H fun a2 H =>
 vq (intV (qaa .geq).f a2 x2) H fun a72 H =>
 cd a72 (
 q0e0 H) (
 qne call q0r g0 x0 x2 x3 x4 x10 a2 H)
def qfb (call : Ev.Call) (q0e0 : Hp → R1) (q0r : Hp → R1) (x0 x2 x3 x4 : AV) (n : Nat) : AV → Hp → R1 :=
 Nat.rec (motive := fun _ => AV → Hp → R1) (fun _ _ => .bad) (fun _ ih => qq1 call q0e0 q0r x0 x2 x3 x4 ih) n
def qq2 (call : Ev.Call) (q0e0 : Hp → R1) (q0r : Hp → R1) (x0 x2 x3 x4 : AV) : AV → Hp → R1 := qfb call q0e0 q0r x0 x2 x3 x4 qbx
def qvw (call : Ev.Call) (x0 x1 x2 x3 x4 : AV) (H : Hp) : R1 :=
 qq2 call (fun H => .ok (.tup []) H) (fun H => .ok (.tup []) H) x0 x2 x3 x4 x1 H
def s_sift (call : Ev.Call) (x0 x1 x2 x3 x4 : AV) (H : Hp) : R1 := qvw call x0 x1 x2 x3 x4 H
def qnt (call : Ev.Call) (x0 x1 x2 x3 : AV) (H : Hp) : R1 :=
 vq (intV (qaa .sub).f x1 (.int .i64 (.ofNat 1))) H fun a0 H =>
 vq (intV (qaa .add).f x1 (.int .i64 (.ofNat 1))) H fun a1 H =>
 ve (call (.f qmp) [x0, a0, x1, a1, x2, x3] H) fun a2 H =>
 .ok a2 H
def s_medadj (call : Ev.Call) (x0 x1 x2 x3 : AV) (H : Hp) : R1 := qnt call x0 x1 x2 x3 H
def q1e (call : Ev.Call) (x0 x1 x2 x3 x4 x5 : AV) (H : Hp) : R1 :=
 ve (call (.f qg8) [x0, x1, x2, x4, x5] H) fun a0 H =>
 vq (extr 0 a0) H fun a1 H =>
 vq (extr 1 a0) H fun a2 H =>
 ve (call (.f qg8) [x0, a2, x3, x4, x5] H) fun a3 H =>
 vq (extr 0 a3) H fun a4 H =>
 vq (extr 1 a3) H fun a5 H =>
 ve (call (.f qg8) [x0, a1, a4, x4, x5] H) fun a6 H =>
 vq (extr 0 a6) H fun a7 H =>
 vq (extr 1 a6) H fun a8 H =>
 .ok a8 H
def s_med (call : Ev.Call) (x0 x1 x2 x3 x4 x5 : AV) (H : Hp) : R1 := q1e call x0 x1 x2 x3 x4 x5 H
def qrf (call : Ev.Call) (x1 x2 : AV) (H : Hp) : R1 :=
 .ok (.tup [x1, x2]) H
def qv2 (call : Ev.Call) (x0 x1 x2 x3 x4 : AV) (H : Hp) : R1 :=
 dz 0 H fun b1 H =>
 dq false false 0 0 (b1 + 0) H [] [] (fun _ => .val x4) (some true) fun a2 H p w =>
 dq false false 1 0 (b1 + 1) H p w (fun _ => .val x0) (some true) fun a3 H p w =>
 dq false false 2 0 (b1 + 2) H p w (fun _ => .val x2) (some true) fun a4 H p w =>
 dq false false 3 6 (b1 + 3) H p w (fun _ => idxS 1 a3 a4) (some true) fun a5 H p w =>
 dq true false 4 14 (b1 + 4) H p w (fun H => qaf H a5) (some true) fun a6 H p w =>
 dq false false 5 0 (b1 + 5) H p w (fun _ => .val x0) (some true) fun a7 H p w =>
 dq false false 6 0 (b1 + 6) H p w (fun _ => .val x1) (some true) fun a8 H p w =>
 dq false false 7 96 (b1 + 7) H p w (fun _ => idxS 1 a7 a8) (some true) fun a9 H p w =>
 dq true false 8 224 (b1 + 8) H p w (fun H => qaf H a9) (some true) fun a10 H p w =>
 de 511 H p w (qey call a2 [a6, a10] (qas 511 p H)) (some true) fun a11 H p w =>
 dq false false 10 1023 (b1 + 10) H p w (fun _ => intV (qaa .lss).f a11 (.int .i64 (.ofNat 0))) (some true) fun a12 H p w =>
 dz2 p H fun H =>
 cd a12 (
 vq (nilC x3) H fun a13 H =>
 vq (qaf H a13) H fun a14 H =>
 vq (intV (qaa .add).f a14 (.int .i64 (.ofNat 1))) H fun a15 H =>
 vq (nilC x3) H fun a16 H =>
 ve (qao H a16 a15) fun _ H =>
 .ok (.tup [x2, x1]) H) (
 qrf call x1 x2 H)
def s_ord2 (call : Ev.Call) (x0 x1 x2 x3 x4 : AV) (H : Hp) : R1 := qv2 call x0 x1 x2 x3 x4 H
end Go.Di
end
noncomputable section
namespace Go.Di
open Go.Ev
structure LnkS (c d : Ev.Call) : Prop where
 s_SortFunc : ∀ (x0 x1 : AV) (H : Hp), c (.f qcu) [x0, x1] H = Di.s_SortFunc d x0 x1 H
 s_Len : ∀ (x0 : AV) (H : Hp), c (.f qjz) [x0] H = Di.s_Len d x0 H
 s_pdq : ∀ (x0 x1 x2 x3 x4 : AV) (H : Hp), c (.f qhy) [x0, x1, x2, x3, x4] H = Di.s_pdq d x0 x1 x2 x3 x4 H
 s_Len32 : ∀ (x0 : AV) (H : Hp), c (.f qoz) [x0] H = Di.s_Len32 d x0 H
 s_Len64 : ∀ (x0 : AV) (H : Hp), c (.f qoy) [x0] H = Di.s_Len64 d x0 H
 s_ins : ∀ (x0 x1 x2 x3 : AV) (H : Hp), c (.f qmq) [x0, x1, x2, x3] H = Di.s_ins d x0 x1 x2 x3 H
 s_heap : ∀ (x0 x1 x2 x3 : AV) (H : Hp), c (.f qmr) [x0, x1, x2, x3] H = Di.s_heap d x0 x1 x2 x3 H
 s_brk : ∀ (x0 x1 x2 x3 : AV) (H : Hp), c (.f qqi) [x0, x1, x2, x3] H = Di.s_brk d x0 x1 x2 x3 H
 s_piv : ∀ (x0 x1 x2 x3 : AV) (H : Hp), c (.f qqg) [x0, x1, x2, x3] H = Di.s_piv d x0 x1 x2 x3 H
 s_rev : ∀ (x0 x1 x2 x3 : AV) (H : Hp), c (.f qqf) [x0, x1, x2, x3] H = Di.s_rev d x0 x1 x2 x3 H
 s_pins : ∀ (x0 x1 x2 x3 : AV) (H : Hp), c (.f qjd) [x0, x1, x2, x3] H = Di.s_pins d x0 x1 x2 x3 H
 s_peq : ∀ (x0 x1 x2 x3 x4 : AV) (H : Hp), c (.f qqh) [x0, x1, x2, x3, x4] H = Di.s_peq d x0 x1 x2 x3 x4 H
 s_part : ∀ (x0 x1 x2 x3 x4 : AV) (H : Hp), c (.f qmo) [x0, x1, x2, x3, x4] H = Di.s_part d x0 x1 x2 x3 x4 H
 s_npow : ∀ (x0 : AV) (H : Hp), c (.f qje) [x0] H = Di.s_npow d x0 H
 s_xorNext : ∀ (x0 : AV) (H : Hp), c (.f qer) [x0] H = Di.s_xorNext d x0 H
 s_sift : ∀ (x0 x1 x2 x3 x4 : AV) (H : Hp), c (.f qjc) [x0, x1, x2, x3, x4] H = Di.s_sift d x0 x1 x2 x3 x4 H
 s_medadj : ∀ (x0 x1 x2 x3 : AV) (H : Hp), c (.f qee) [x0, x1, x2, x3] H = Di.s_medadj d x0 x1 x2 x3 H
 s_med : ∀ (x0 x1 x2 x3 x4 x5 : AV) (H : Hp), c (.f qmp) [x0, x1, x2, x3, x4, x5] H = Di.s_med d x0 x1 x2 x3 x4 x5 H
 s_ord2 : ∀ (x0 x1 x2 x3 x4 : AV) (H : Hp), c (.f qg8) [x0, x1, x2, x3, x4] H = Di.s_ord2 d x0 x1 x2 x3 x4 H
abbrev qby (C : Nat → Ev.Call) : Prop := ∀ k, LnkS (C (k + 1)) (C k)
end Go.Di
end
noncomputable section
namespace Go.Di
open Go.Ev
def qqa (call : Ev.Call) (x0 : AV) (H : Hp) : R1 :=
 vq (qbu x0) H fun a0 H =>
 vq (qig .u64 a0) H fun a1 H =>
 ve (call (.f qjz) [a1] H) fun a2 H =>
 ve (call (.f qhz) [x0, (.int .i64 (.ofNat 0)), a0, a2] H) fun a3 H =>
 .ok (.tup []) H
def o_Sort (call : Ev.Call) (x0 : AV) (H : Hp) : R1 := qqa call x0 H
def qda (call : Ev.Call) (x0 : AV) (H : Hp) : R1 :=
 .ok x0 H
def qi8 (call : Ev.Call) (g1 : AV → Hp → R1) (x3 : AV) (H : Hp) : R1 :=
 vq (intV (qaa .add).f x3 (.int .i64 (.ofNat 1))) H fun a2 H =>
 g1 a2 H
def qct (call : Ev.Call) (q1r : AV → Hp → R1) (x0 x3 : AV) (H : Hp) : R1 :=
 vq (qb9 1 x0 (some x3) none none) H fun a11 H =>
 ve (qtr [.int .i64 (.ofNat 0)] H a11) fun _ H =>
 vq (qb9 1 x0 none (some x3) none) H fun a13 H =>
 q1r a13 H
def qdt (call : Ev.Call) (g15 : AV → AV → Hp → R1) (x3 x5 : AV) (H : Hp) : R1 :=
 vq (intV (qaa .add).f x5 (.int .i64 (.ofNat 1))) H fun a16 H =>
 g15 x3 a16 H
def qhu (call : Ev.Call) (g15 : AV → AV → Hp → R1) (x0 x3 x4 x5 : AV) (H : Hp) : R1 :=
 vl (idxS 1 x4 x5) fun a18 =>
 vl (qaf H a18) fun a19 =>
 vl (intV (qaa .sub).f x5 (.int .i64 (.ofNat 1))) fun a20 =>
 vl (idxS 1 x4 a20) fun a21 =>
 vl (qaf H a21) fun a22 =>
 vl (intV (qaa .neq).f a19 a22) fun a23 =>
 cd a23 (
 vq (idxS 1 x4 x5) H fun a24 H =>
 vq (qaf H a24) H fun a25 H =>
 vq (idxS 1 x0 x3) H fun a26 H =>
 ve (qao H a26 a25) fun _ H =>
 vq (intV (qaa .add).f x3 (.int .i64 (.ofNat 1))) H fun a28 H =>
 qdt call g15 a28 x5 H) (
 qdt call g15 x3 x5 H)
def qhv (call : Ev.Call) (q15e2 : AV → Hp → R1) (x0 x4 : AV) (g15 : AV → AV → Hp → R1) (x3 x5 : AV) (H : Hp) : R1 :=
 vq (qbu x4) H fun a30 H =>
 vq (intV (qaa .lss).f x5 a30) H fun a31 H =>
 cd a31 (
 qhu call g15 x0 x3 x4 x5 H) (
 q15e2 x3 H)
def qdd (call : Ev.Call) (q15e2 : AV → Hp → R1) (x0 x4 : AV) (n : Nat) : AV → AV → Hp → R1 :=
 Nat.rec (motive := fun _ => AV → AV → Hp → R1) (fun _ _ _ => .bad) (fun _ ih => qhv call q15e2 x0 x4 ih) n
def qhw (call : Ev.Call) (q15e2 : AV → Hp → R1) (x0 x4 : AV) : AV → AV → Hp → R1 := qdd call q15e2 x0 x4 qbx
def qht (call : Ev.Call) (q1r : AV → Hp → R1) (g1 : AV → Hp → R1) (x0 x3 : AV) (H : Hp) : R1 :=
 vl (idxS 1 x0 x3) fun a4 =>
 vl (qaf H a4) fun a5 =>
 vl (intV (qaa .sub).f x3 (.int .i64 (.ofNat 1))) fun a6 =>
 vl (idxS 1 x0 a6) fun a7 =>
 vl (qaf H a7) fun a8 =>
 vl (intV (qaa .eql).f a5 a8) fun a9 =>
 cd a9 (
 vq (qb9 1 x0 (some x3) none none) H fun a10 H =>
 qhw call (fun x3 H => qct call q1r x0 x3 H) x0 a10 x3 (.int .i64 (.ofNat 1)) H) (
 qi8 call g1 x3 H)
def qi9 (call : Ev.Call) (q1r : AV → Hp → R1) (q1e0 : Hp → R1) (x0 : AV) (g1 : AV → Hp → R1) (x3 : AV) (H : Hp) : R1 :=
 vq (qbu x0) H fun a33 H =>
 vq (intV (qaa .lss).f x3 a33) H fun a34 H =>
 cd a34 (
 qht call q1r g1 x0 x3 H) (
 q1e0 H)
def qdo (call : Ev.Call) (q1r : AV → Hp → R1) (q1e0 : Hp → R1) (x0 : AV) (n : Nat) : AV → Hp → R1 :=
 Nat.rec (motive := fun _ => AV → Hp → R1) (fun _ _ => .bad) (fun _ ih => qi9 call q1r q1e0 x0 ih) n
def qja (call : Ev.Call) (q1r : AV → Hp → R1) (q1e0 : Hp → R1) (x0 : AV) : AV → Hp → R1 := qdo call q1r q1e0 x0 qbx
def qhs (call : Ev.Call) (x0 : AV) (H : Hp) : R1 :=
 qja call (fun x2 H => .ok x2 H) (fun H => qda call x0 H) x0 (.int .i64 (.ofNat 1)) H
def qlm (call : Ev.Call) (x0 : AV) (H : Hp) : R1 :=
 vq (qbu x0) H fun a36 H =>
 vq (intV (qaa .lss).f a36 (.int .i64 (.ofNat 2))) H fun a37 H =>
 cd a37 (
 .ok x0 H) (
 qhs call x0 H)
def o_Compact (call : Ev.Call) (x0 : AV) (H : Hp) : R1 := qlm call x0 H
def qmj (call : Ev.Call) (g0 : AV → AV → AV → AV → AV → Hp → R1) (x0 x1 x2 x3 x10 x11 : AV) (H : Hp) : R1 :=
 ve (call (.f qmt) [x0, x1, x2, x11] H) fun a5 H =>
 vq (extr 0 a5) H fun a6 H =>
 vq (extr 1 a5) H fun a7 H =>
 vq (intV (qaa .sub).f a6 x1) H fun a8 H =>
 vq (intV (qaa .sub).f x2 a6) H fun a9 H =>
 vq (intV (qaa .quo).f x10 (.int .i64 (.ofNat 8))) H fun a10 H =>
 vq (intV (qaa .lss).f a8 a9) H fun a11 H =>
 cd a11 (
 vq (intV (qaa .geq).f a8 a10) H fun a12 H =>
 ve (call (.f qhz) [x0, x1, a6, x3] H) fun a13 H =>
 vq (intV (qaa .add).f a6 (.int .i64 (.ofNat 1))) H fun a14 H =>
 g0 a14 x2 x3 a12 a7 H) (
 vq (intV (qaa .geq).f a9 a10) H fun a15 H =>
 vq (intV (qaa .add).f a6 (.int .i64 (.ofNat 1))) H fun a16 H =>
 ve (call (.f qhz) [x0, a16, x2, x3] H) fun a17 H =>
 g0 x1 a6 x3 a15 a7 H)
def qfl (call : Ev.Call) (g0 : AV → AV → AV → AV → AV → Hp → R1) (x0 x1 x2 x3 x8 x9 x10 x11 : AV) (H : Hp) : R1 :=
 dz 0 H fun b19 H =>
 dq false false 0 0 (b19 + 0) H [] [] (fun _ => .val x1) (some true) fun a20 H p w =>
 dq false false 1 1 (b19 + 1) H p w (fun _ => intV (qaa .gtr).f a20 (.int .i64 (.ofNat 0))) (some true) fun a21 H p w =>
 dq false false 2 3 (b19 + 2) H p w (fun _ => .val a21) (some true) fun a22 H p w =>
 dq false false 3 7 (b19 + 3) H p w (fun _ => .val x0) (qad true a22) fun a23 H p w =>
 dq false false 4 7 (b19 + 4) H p w (fun _ => .val x1) (qad true a22) fun a24 H p w =>
 dq false false 5 23 (b19 + 5) H p w (fun _ => intV (qaa .sub).f a24 (.int .i64 (.ofNat 1))) (qad true a22) fun a25 H p w =>
 dq false false 6 63 (b19 + 6) H p w (fun _ => idxS 1 a23 a25) (qad true a22) fun a26 H p w =>
 dq true false 7 127 (b19 + 7) H p w (fun H => qaf H a26) (qad true a22) fun a27 H p w =>
 dq false false 8 7 (b19 + 8) H p w (fun _ => .val x0) (qad true a22) fun a28 H p w =>
 dq false false 9 7 (b19 + 9) H p w (fun _ => .val x11) (qad true a22) fun a29 H p w =>
 dq false false 10 775 (b19 + 10) H p w (fun _ => idxS 1 a28 a29) (qad true a22) fun a30 H p w =>
 dq true false 11 1799 (b19 + 11) H p w (fun H => qaf H a30) (qad true a22) fun a31 H p w =>
 de 4095 H p w (call (.f qb5) [a27, a31] (qas 4095 p H)) (qad true a22) fun a32 H p w =>
 dq false false 13 8191 (b19 + 13) H p w (fun _ => (unS .not).f a32) (qad true a22) fun a33 H p w =>
 dq false false 14 16383 (b19 + 14) H p w (fun _ => qb6 a22 a33 (.bool false)) (some true) fun a34 H p w =>
 dz2 p H fun H =>
 cd a34 (
 ve (call (.f qqm) [x0, x1, x2, x11] H) fun a35 H =>
 g0 a35 x2 x3 x8 x9 H) (
 qmj call g0 x0 x1 x2 x3 x10 x11 H)
def qi5 (call : Ev.Call) (q0r : Hp → R1) (g0 : AV → AV → AV → AV → AV → Hp → R1) (x0 x1 x2 x3 x8 x9 x10 x11 x12 : AV) (H : Hp) : R1 :=
 vg (qad true x8) (.val x9) H fun a37 H =>
 vq (qb6 x8 a37 (.bool false)) H fun a38 H =>
 vg (qad true a38) (.val x12) H fun a39 H =>
 vg (qad true a38) (intV (qaa .eql).f a39 (.int .i64 (.ofNat 1))) H fun a40 H =>
 vq (qb6 a38 a40 (.bool false)) H fun a41 H =>
 cd a41 (
 ve (call (.f qjh) [x0, x1, x2] H) fun a42 H =>
 cd a42 (
 q0r H) (
 qfl call g0 x0 x1 x2 x3 x8 x9 x10 x11 H)) (
 qfl call g0 x0 x1 x2 x3 x8 x9 x10 x11 H)
def qi4 (call : Ev.Call) (q0r : Hp → R1) (g0 : AV → AV → AV → AV → AV → Hp → R1) (x0 x1 x2 x3 x8 x9 x10 : AV) (H : Hp) : R1 :=
 ve (call (.f qql) [x0, x1, x2] H) fun a2 H =>
 vq (extr 0 a2) H fun a3 H =>
 vq (extr 1 a2) H fun a4 H =>
 vq (intV (qaa .eql).f a4 (.int .i64 (.ofNat 2))) H fun a44 H =>
 cd a44 (
 ve (call (.f qqk) [x0, x1, x2] H) fun a45 H =>
 vq (intV (qaa .sub).f x2 (.int .i64 (.ofNat 1))) H fun a46 H =>
 vq (intV (qaa .sub).f a3 x1) H fun a47 H =>
 vq (intV (qaa .sub).f a46 a47) H fun a48 H =>
 qi5 call q0r g0 x0 x1 x2 x3 x8 x9 x10 a48 (.int .i64 (.ofNat 1)) H) (
 qi5 call q0r g0 x0 x1 x2 x3 x8 x9 x10 a3 a4 H)
def qsq (call : Ev.Call) (q0r : Hp → R1) (g0 : AV → AV → AV → AV → AV → Hp → R1) (x0 x1 x2 x3 x8 x9 x10 : AV) (H : Hp) : R1 :=
 vq ((unS .not).f x8) H fun a50 H =>
 cd a50 (
 ve (call (.f qqn) [x0, x1, x2] H) fun a51 H =>
 vq (intV (qaa .sub).f x3 (.int .i64 (.ofNat 1))) H fun a52 H =>
 qi4 call q0r g0 x0 x1 x2 a52 x8 x9 x10 H) (
 qi4 call q0r g0 x0 x1 x2 x3 x8 x9 x10 H)
def qsp (call : Ev.Call) (q0r : Hp → R1) (g0 : AV → AV → AV → AV → AV → Hp → R1) (x0 x1 x2 x3 x8 x9 x10 : AV) (H : Hp) : R1 :=
 vq (intV (qaa .eql).f x3 (.int .i64 (.ofNat 0))) H fun a54 H =>
 cd a54 (
 ve (call (.f qmw) [x0, x1, x2] H) fun a55 H =>
 q0r H) (
 qsq call q0r g0 x0 x1 x2 x3 x8 x9 x10 H)
def qmk (call : Ev.Call) (q0r : Hp → R1) (x0 : AV) (g0 : AV → AV → AV → AV → AV → Hp → R1) (x1 x2 x3 x8 x9 : AV) (H : Hp) : R1 :=
 vq (intV (qaa .sub).f x2 x1) H fun a1 H =>
 vq (intV (qaa .leq).f a1 (.int .i64 (.ofNat 12))) H fun a57 H =>
 cd a57 (
 ve (call (.f qmv) [x0, x1, x2] H) fun a58 H =>
 q0r H) (
 qsp call q0r g0 x0 x1 x2 x3 x8 x9 a1 H)
def qcg (call : Ev.Call) (q0r : Hp → R1) (x0 : AV) (n : Nat) : AV → AV → AV → AV → AV → Hp → R1 :=
 Nat.rec (motive := fun _ => AV → AV → AV → AV → AV → Hp → R1) (fun _ _ _ _ _ _ => .bad) (fun _ ih => qmk call q0r x0 ih) n
def qp8 (call : Ev.Call) (q0r : Hp → R1) (x0 : AV) : AV → AV → AV → AV → AV → Hp → R1 := qcg call q0r x0 qbx
def qw2 (call : Ev.Call) (x0 x1 x2 x3 : AV) (H : Hp) : R1 :=
 qp8 call (fun H => .ok (.tup []) H) x0 x1 x2 x3 (.bool true) (.bool true) H
def o_pdq (call : Ev.Call) (x0 x1 x2 x3 : AV) (H : Hp) : R1 := qw2 call x0 x1 x2 x3 H
def qhr (call : Ev.Call) (g1 : AV → Hp → R1) (x6 : AV) (H : Hp) : R1 :=
 vq (intV (qaa .add).f x6 (.int .i64 (.ofNat 1))) H fun a2 H =>
 g1 a2 H
def qw7 (call : Ev.Call) (g4 : AV → Hp → R1) (x7 : AV) (H : Hp) : R1 :=
 vq (intV (qaa .sub).f x7 (.int .i64 (.ofNat 1))) H fun a5 H =>
 g4 a5 H
def qst (call : Ev.Call) (g4 : AV → Hp → R1) (x0 x7 : AV) (H : Hp) : R1 :=
 dz 0 H fun b7 H =>
 dq false false 0 0 (b7 + 0) H [] [] (fun _ => .val x0) (some true) fun a8 H p w =>
 dq false false 1 0 (b7 + 1) H p w (fun _ => .val x7) (some true) fun a9 H p w =>
 dq false false 2 0 (b7 + 2) H p w (fun _ => .val x0) (some true) fun a10 H p w =>
 dq false false 3 0 (b7 + 3) H p w (fun _ => .val x7) (some true) fun a11 H p w =>
 dq false false 4 8 (b7 + 4) H p w (fun _ => intV (qaa .sub).f a11 (.int .i64 (.ofNat 1))) (some true) fun a12 H p w =>
 dq false false 5 0 (b7 + 5) H p w (fun _ => .val x0) (some true) fun a13 H p w =>
 dq false false 6 0 (b7 + 6) H p w (fun _ => .val x7) (some true) fun a14 H p w =>
 dq false false 7 64 (b7 + 7) H p w (fun _ => intV (qaa .sub).f a14 (.int .i64 (.ofNat 1))) (some true) fun a15 H p w =>
 dq false false 8 224 (b7 + 8) H p w (fun _ => idxS 1 a13 a15) (some true) fun a16 H p w =>
 dq true false 9 480 (b7 + 9) H p w (fun H => qaf H a16) (some true) fun a17 H p w =>
 dq false false 10 0 (b7 + 10) H p w (fun _ => .val x0) (some true) fun a18 H p w =>
 dq false false 11 0 (b7 + 11) H p w (fun _ => .val x7) (some true) fun a19 H p w =>
 dq false false 12 3072 (b7 + 12) H p w (fun _ => idxS 1 a18 a19) (some true) fun a20 H p w =>
 dq true false 13 7168 (b7 + 13) H p w (fun H => qaf H a20) (some true) fun a21 H p w =>
 dq false false 14 16355 (b7 + 14) H p w (fun _ => idxS 1 a8 a9) (some true) fun a22 H p w =>
 de 32739 H p w (qao (qas 32739 p H) a22 a17) (some true) fun _ H p w =>
 dq false false 16 65535 (b7 + 16) H p w (fun _ => idxS 1 a10 a12) (some true) fun a24 H p w =>
 de 131071 H p w (qao (qas 131071 p H) a24 a21) (some true) fun _ H p w =>
 dz2 p H fun H =>
 qw7 call g4 x7 H
def qw9 (call : Ev.Call) (q4e2 : Hp → R1) (x0 x1 : AV) (g4 : AV → Hp → R1) (x7 : AV) (H : Hp) : R1 :=
 dz 0 H fun b27 H =>
 dq false false 0 0 (b27 + 0) H [] [] (fun _ => .val x7) (some true) fun a28 H p w =>
 dq false false 1 0 (b27 + 1) H p w (fun _ => .val x1) (some true) fun a29 H p w =>
 dq false false 2 3 (b27 + 2) H p w (fun _ => intV (qaa .gtr).f a28 a29) (some true) fun a30 H p w =>
 dq false false 3 7 (b27 + 3) H p w (fun _ => .val a30) (some true) fun a31 H p w =>
 dq false false 4 15 (b27 + 4) H p w (fun _ => .val x0) (qad true a31) fun a32 H p w =>
 dq false false 5 15 (b27 + 5) H p w (fun _ => .val x7) (qad true a31) fun a33 H p w =>
 dq false false 6 63 (b27 + 6) H p w (fun _ => idxS 1 a32 a33) (qad true a31) fun a34 H p w =>
 dq true false 7 127 (b27 + 7) H p w (fun H => qaf H a34) (qad true a31) fun a35 H p w =>
 dq false false 8 15 (b27 + 8) H p w (fun _ => .val x0) (qad true a31) fun a36 H p w =>
 dq false false 9 15 (b27 + 9) H p w (fun _ => .val x7) (qad true a31) fun a37 H p w =>
 dq false false 10 527 (b27 + 10) H p w (fun _ => intV (qaa .sub).f a37 (.int .i64 (.ofNat 1))) (qad true a31) fun a38 H p w =>
 dq false false 11 1807 (b27 + 11) H p w (fun _ => idxS 1 a36 a38) (qad true a31) fun a39 H p w =>
 dq true false 12 3855 (b27 + 12) H p w (fun H => qaf H a39) (qad true a31) fun a40 H p w =>
 de 8191 H p w (call (.f qb5) [a35, a40] (qas 8191 p H)) (qad true a31) fun a41 H p w =>
 dq false false 14 16383 (b27 + 14) H p w (fun _ => qb6 a31 a41 (.bool false)) (some true) fun a42 H p w =>
 dz2 p H fun H =>
 cd a42 (
 qst call g4 x0 x7 H) (
 q4e2 H)
def qjx (call : Ev.Call) (q4e2 : Hp → R1) (x0 x1 : AV) (n : Nat) : AV → Hp → R1 :=
 Nat.rec (motive := fun _ => AV → Hp → R1) (fun _ _ => .bad) (fun _ ih => qw9 call q4e2 x0 x1 ih) n
def qxa (call : Ev.Call) (q4e2 : Hp → R1) (x0 x1 : AV) : AV → Hp → R1 := qjx call q4e2 x0 x1 qbx
def qss (call : Ev.Call) (g1 : AV → Hp → R1) (x0 x1 x6 : AV) (H : Hp) : R1 :=
 qxa call (fun H => qhr call g1 x6 H) x0 x1 x6 H
def qml (call : Ev.Call) (q1e0 : Hp → R1) (x0 x1 x2 : AV) (g1 : AV → Hp → R1) (x6 : AV) (H : Hp) : R1 :=
 vq (intV (qaa .lss).f x6 x2) H fun a44 H =>
 cd a44 (
 qss call g1 x0 x1 x6 H) (
 q1e0 H)
def qds (call : Ev.Call) (q1e0 : Hp → R1) (x0 x1 x2 : AV) (n : Nat) : AV → Hp → R1 :=
 Nat.rec (motive := fun _ => AV → Hp → R1) (fun _ _ => .bad) (fun _ ih => qml call q1e0 x0 x1 x2 ih) n
def qp9 (call : Ev.Call) (q1e0 : Hp → R1) (x0 x1 x2 : AV) : AV → Hp → R1 := qds call q1e0 x0 x1 x2 qbx
def qw8 (call : Ev.Call) (x0 x1 x2 : AV) (H : Hp) : R1 :=
 vq (intV (qaa .add).f x1 (.int .i64 (.ofNat 1))) H fun a0 H =>
 qp9 call (fun H => .ok (.tup []) H) x0 x1 x2 a0 H
def o_ins (call : Ev.Call) (x0 x1 x2 : AV) (H : Hp) : R1 := qw8 call x0 x1 x2 H
def qsu (call : Ev.Call) (g2 : AV → Hp → R1) (x10 : AV) (H : Hp) : R1 :=
 vq (intV (qaa .sub).f x10 (.int .i64 (.ofNat 1))) H fun a3 H =>
 g2 a3 H
def qot (call : Ev.Call) (g2 : AV → Hp → R1) (x0 x6 x7 x10 : AV) (H : Hp) : R1 :=
 dz 0 H fun b5 H =>
 dq false false 0 0 (b5 + 0) H [] [] (fun _ => .val x0) (some true) fun a6 H p w =>
 dq false false 1 0 (b5 + 1) H p w (fun _ => .val x6) (some true) fun a7 H p w =>
 dq false false 2 0 (b5 + 2) H p w (fun _ => .val x0) (some true) fun a8 H p w =>
 dq false false 3 0 (b5 + 3) H p w (fun _ => .val x6) (some true) fun a9 H p w =>
 dq false false 4 0 (b5 + 4) H p w (fun _ => .val x10) (some true) fun a10 H p w =>
 dq false false 5 24 (b5 + 5) H p w (fun _ => intV (qaa .add).f a9 a10) (some true) fun a11 H p w =>
 dq false false 6 0 (b5 + 6) H p w (fun _ => .val x0) (some true) fun a12 H p w =>
 dq false false 7 0 (b5 + 7) H p w (fun _ => .val x6) (some true) fun a13 H p w =>
 dq false false 8 0 (b5 + 8) H p w (fun _ => .val x10) (some true) fun a14 H p w =>
 dq false false 9 384 (b5 + 9) H p w (fun _ => intV (qaa .add).f a13 a14) (some true) fun a15 H p w =>
 dq false false 10 960 (b5 + 10) H p w (fun _ => idxS 1 a12 a15) (some true) fun a16 H p w =>
 dq true false 11 1984 (b5 + 11) H p w (fun H => qaf H a16) (some true) fun a17 H p w =>
 dq false false 12 0 (b5 + 12) H p w (fun _ => .val x0) (some true) fun a18 H p w =>
 dq false false 13 0 (b5 + 13) H p w (fun _ => .val x6) (some true) fun a19 H p w =>
 dq false false 14 12288 (b5 + 14) H p w (fun _ => idxS 1 a18 a19) (some true) fun a20 H p w =>
 dq true false 15 28672 (b5 + 15) H p w (fun H => qaf H a20) (some true) fun a21 H p w =>
 dq false false 16 65475 (b5 + 16) H p w (fun _ => idxS 1 a6 a7) (some true) fun a22 H p w =>
 de 131011 H p w (qao (qas 131011 p H) a22 a17) (some true) fun _ H p w =>
 dq false false 18 262143 (b5 + 18) H p w (fun _ => idxS 1 a8 a11) (some true) fun a24 H p w =>
 de 524287 H p w (qao (qas 524287 p H) a24 a21) (some true) fun _ H p w =>
 dz2 p H fun H =>
 ve (call (.f qjg) [x0, x7, x10, x6] H) fun a26 H =>
 qsu call g2 x10 H
def qi6 (call : Ev.Call) (q2e2 : Hp → R1) (x0 x6 x7 : AV) (g2 : AV → Hp → R1) (x10 : AV) (H : Hp) : R1 :=
 vq (intV (qaa .geq).f x10 (.int .i64 (.ofNat 0))) H fun a28 H =>
 cd a28 (
 qot call g2 x0 x6 x7 x10 H) (
 q2e2 H)
def qfo (call : Ev.Call) (q2e2 : Hp → R1) (x0 x6 x7 : AV) (n : Nat) : AV → Hp → R1 :=
 Nat.rec (motive := fun _ => AV → Hp → R1) (fun _ _ => .bad) (fun _ ih => qi6 call q2e2 x0 x6 x7 ih) n
def qsv (call : Ev.Call) (q2e2 : Hp → R1) (x0 x6 x7 : AV) : AV → Hp → R1 := qfo call q2e2 x0 x6 x7 qbx
def qed (call : Ev.Call) (x0 x6 x7 x8 : AV) (H : Hp) : R1 :=
 vq (intV (qaa .sub).f x8 (.int .i64 (.ofNat 1))) H fun a1 H =>
 qsv call (fun H => .ok (.tup []) H) x0 x6 x7 a1 H
def qor (call : Ev.Call) (g32 : AV → Hp → R1) (x9 : AV) (H : Hp) : R1 :=
 vq (intV (qaa .sub).f x9 (.int .i64 (.ofNat 1))) H fun a33 H =>
 g32 a33 H
def qoq (call : Ev.Call) (g32 : AV → Hp → R1) (x0 x6 x8 x9 : AV) (H : Hp) : R1 :=
 ve (call (.f qjg) [x0, x9, x8, x6] H) fun a35 H =>
 qor call g32 x9 H
def qg7 (call : Ev.Call) (q32e0 : Hp → R1) (x0 x6 x8 : AV) (g32 : AV → Hp → R1) (x9 : AV) (H : Hp) : R1 :=
 vq (intV (qaa .geq).f x9 (.int .i64 (.ofNat 0))) H fun a37 H =>
 cd a37 (
 qoq call g32 x0 x6 x8 x9 H) (
 q32e0 H)
def qec (call : Ev.Call) (q32e0 : Hp → R1) (x0 x6 x8 : AV) (n : Nat) : AV → Hp → R1 :=
 Nat.rec (motive := fun _ => AV → Hp → R1) (fun _ _ => .bad) (fun _ ih => qg7 call q32e0 x0 x6 x8 ih) n
def qou (call : Ev.Call) (q32e0 : Hp → R1) (x0 x6 x8 : AV) : AV → Hp → R1 := qec call q32e0 x0 x6 x8 qbx
def qxb (call : Ev.Call) (x0 x1 x2 : AV) (H : Hp) : R1 :=
 vq (intV (qaa .sub).f x2 x1) H fun a0 H =>
 vq (intV (qaa .sub).f a0 (.int .i64 (.ofNat 1))) H fun a30 H =>
 vq (intV (qaa .quo).f a30 (.int .i64 (.ofNat 2))) H fun a31 H =>
 qou call (fun H => qed call x0 x1 (.int .i64 (.ofNat 0)) a0 H) x0 x1 a0 a31 H
def o_heap (call : Ev.Call) (x0 x1 x2 : AV) (H : Hp) : R1 := qxb call x0 x1 x2 H
def qsx (call : Ev.Call) (g10 : AV → Hp → R1) (x9 : AV) (H : Hp) : R1 :=
 vq (intV (qaa .add).f x9 (.int .i64 (.ofNat 1))) H fun a11 H =>
 g10 a11 H
def qi7 (call : Ev.Call) (g10 : AV → Hp → R1) (x0 x1 x9 x10 : AV) (H : Hp) : R1 :=
 dz 0 H fun b17 H =>
 dq false false 0 0 (b17 + 0) H [] [] (fun _ => .val x0) (some true) fun a18 H p w =>
 dq false false 1 0 (b17 + 1) H p w (fun _ => .val x9) (some true) fun a19 H p w =>
 dq false false 2 0 (b17 + 2) H p w (fun _ => .val x0) (some true) fun a20 H p w =>
 dq false false 3 0 (b17 + 3) H p w (fun _ => .val x1) (some true) fun a21 H p w =>
 dq false false 4 0 (b17 + 4) H p w (fun _ => .val x10) (some true) fun a22 H p w =>
 dq false false 5 24 (b17 + 5) H p w (fun _ => intV (qaa .add).f a21 a22) (some true) fun a23 H p w =>
 dq false false 6 0 (b17 + 6) H p w (fun _ => .val x0) (some true) fun a24 H p w =>
 dq false false 7 0 (b17 + 7) H p w (fun _ => .val x1) (some true) fun a25 H p w =>
 dq false false 8 0 (b17 + 8) H p w (fun _ => .val x10) (some true) fun a26 H p w =>
 dq false false 9 384 (b17 + 9) H p w (fun _ => intV (qaa .add).f a25 a26) (some true) fun a27 H p w =>
 dq false false 10 960 (b17 + 10) H p w (fun _ => idxS 1 a24 a27) (some true) fun a28 H p w =>
 dq true false 11 1984 (b17 + 11) H p w (fun H => qaf H a28) (some true) fun a29 H p w =>
 dq false false 12 0 (b17 + 12) H p w (fun _ => .val x0) (some true) fun a30 H p w =>
 dq false false 13 0 (b17 + 13) H p w (fun _ => .val x9) (some true) fun a31 H p w =>
 dq false false 14 12288 (b17 + 14) H p w (fun _ => idxS 1 a30 a31) (some true) fun a32 H p w =>
 dq true false 15 28672 (b17 + 15) H p w (fun H => qaf H a32) (some true) fun a33 H p w =>
 dq false false 16 65475 (b17 + 16) H p w (fun _ => idxS 1 a18 a19) (some true) fun a34 H p w =>
 de 131011 H p w (qao (qas 131011 p H) a34 a29) (some true) fun _ H p w =>
 dq false false 18 262143 (b17 + 18) H p w (fun _ => idxS 1 a20 a23) (some true) fun a36 H p w =>
 de 524287 H p w (qao (qas 524287 p H) a36 a33) (some true) fun _ H p w =>
 dz2 p H fun H =>
 qsx call g10 x9 H
def qsw (call : Ev.Call) (g10 : AV → Hp → R1) (x0 x1 x6 x7 x8 x9 : AV) (H : Hp) : R1 :=
 ve (call (.f qer) [x7] H) fun a13 H =>
 vq (intV (qaa .sub).f x8 (.int .u64 (.ofNat 1))) H fun a14 H =>
 vq (intV (qaa .and).f a13 a14) H fun a15 H =>
 vq (qig .i64 a15) H fun a16 H =>
 vq (intV (qaa .geq).f a16 x6) H fun a39 H =>
 cd a39 (
 vq (intV (qaa .sub).f a16 x6) H fun a40 H =>
 qi7 call g10 x0 x1 x9 a40 H) (
 qi7 call g10 x0 x1 x9 a16 H)
def qsy (call : Ev.Call) (q10e0 : Hp → R1) (x0 x1 x6 x7 x8 : AV) (g10 : AV → Hp → R1) (x9 : AV) (H : Hp) : R1 :=
 vq (intV (qaa .quo).f x6 (.int .i64 (.ofNat 4))) H fun a42 H =>
 vq (intV (qaa .mul).f a42 (.int .i64 (.ofNat 2))) H fun a43 H =>
 vq (intV (qaa .add).f x1 a43) H fun a44 H =>
 vq (intV (qaa .add).f a44 (.int .i64 (.ofNat 1))) H fun a45 H =>
 vq (intV (qaa .leq).f x9 a45) H fun a46 H =>
 cd a46 (
 qsw call g10 x0 x1 x6 x7 x8 x9 H) (
 q10e0 H)
def qeq (call : Ev.Call) (q10e0 : Hp → R1) (x0 x1 x6 x7 x8 : AV) (n : Nat) : AV → Hp → R1 :=
 Nat.rec (motive := fun _ => AV → Hp → R1) (fun _ _ => .bad) (fun _ ih => qsy call q10e0 x0 x1 x6 x7 x8 ih) n
def qsz (call : Ev.Call) (q10e0 : Hp → R1) (x0 x1 x6 x7 x8 : AV) : AV → Hp → R1 := qeq call q10e0 x0 x1 x6 x7 x8 qbx
def q2h (call : Ev.Call) (x0 x1 x2 : AV) (H : Hp) : R1 :=
 vq (intV (qaa .sub).f x2 x1) H fun a0 H =>
 vq (intV (qaa .geq).f a0 (.int .i64 (.ofNat 8))) H fun a1 H =>
 cd a1 (
 vq (qig .u64 a0) H fun a2 H =>
 vq (.new (.ptr H.nx 0) (qac 0 [.int .u64 (.ofNat 0)])) H fun a3 H =>
 ve (qao H a3 a2) fun _ H =>
 ve (call (.f qje) [a0] H) fun a5 H =>
 vq (intV (qaa .quo).f a0 (.int .i64 (.ofNat 4))) H fun a6 H =>
 vq (intV (qaa .mul).f a6 (.int .i64 (.ofNat 2))) H fun a7 H =>
 vq (intV (qaa .add).f x1 a7) H fun a8 H =>
 vq (intV (qaa .sub).f a8 (.int .i64 (.ofNat 1))) H fun a9 H =>
 qsz call (fun H => .ok (.tup []) H) x0 x1 a0 a3 a5 a9 H) (
 .ok (.tup []) H)
def o_brk (call : Ev.Call) (x0 x1 x2 : AV) (H : Hp) : R1 := q2h call x0 x1 x2 H
def qi0 (call : Ev.Call) (x9 x11 : AV) (H : Hp) : R1 :=
 vq (qaf H x9) H fun a11 H =>
 vq (intV (qaa .eql).f a11 (.int .i64 (.ofNat 0))) H fun a12 H =>
 cd a12 (
 .ok (.tup [x11, (.int .i64 (.ofNat 1))]) H) (
 vq (intV (qaa .eql).f a11 (.int .i64 (.ofNat 12))) H fun a13 H =>
 cd a13 (
 .ok (.tup [x11, (.int .i64 (.ofNat 2))]) H) (
 .ok (.tup [x11, (.int .i64 (.ofNat 0))]) H))
def qiz (call : Ev.Call) (x0 x9 x10 x11 x12 : AV) (H : Hp) : R1 :=
 ve (call (.f qmu) [x0, x10, x11, x12, x9] H) fun a16 H =>
 qi0 call x9 a16 H
def q18 (call : Ev.Call) (x0 x1 x2 : AV) (H : Hp) : R1 :=
 vq (intV (qaa .sub).f x2 x1) H fun a0 H =>
 vq (.new (.ptr H.nx 0) (qac 0 [.int .i64 (.ofNat 0)])) H fun a1 H =>
 vq (intV (qaa .quo).f a0 (.int .i64 (.ofNat 4))) H fun a2 H =>
 vq (intV (qaa .mul).f a2 (.int .i64 (.ofNat 1))) H fun a3 H =>
 vq (intV (qaa .add).f x1 a3) H fun a4 H =>
 vq (intV (qaa .quo).f a0 (.int .i64 (.ofNat 4))) H fun a5 H =>
 vq (intV (qaa .mul).f a5 (.int .i64 (.ofNat 2))) H fun a6 H =>
 vq (intV (qaa .add).f x1 a6) H fun a7 H =>
 vq (intV (qaa .quo).f a0 (.int .i64 (.ofNat 4))) H fun a8 H =>
 vq (intV (qaa .mul).f a8 (.int .i64 (.ofNat 3))) H fun a9 H =>
 vq (intV (qaa .add).f x1 a9) H fun a10 H =>
 vq (intV (qaa .geq).f a0 (.int .i64 (.ofNat 8))) H fun a15 H =>
 cd a15 (
 vq (intV (qaa .geq).f a0 (.int .i64 (.ofNat 50))) H fun a18 H =>
 cd a18 (
 ve (call (.f qef) [x0, a4, a1] H) fun a19 H =>
 ve (call (.f qef) [x0, a7, a1] H) fun a20 H =>
 ve (call (.f qef) [x0, a10, a1] H) fun a21 H =>
 qiz call x0 a1 a19 a20 a21 H) (
 qiz call x0 a1 a4 a7 a10 H)) (
 qi0 call a1 a7 H)
def o_piv (call : Ev.Call) (x0 x1 x2 : AV) (H : Hp) : R1 := q18 call x0 x1 x2 H
def qsf (call : Ev.Call) (g1 : AV → AV → Hp → R1) (x0 x6 x7 : AV) (H : Hp) : R1 :=
 dz 0 H fun b2 H =>
 dq false false 0 0 (b2 + 0) H [] [] (fun _ => .val x0) (some true) fun a3 H p w =>
 dq false false 1 0 (b2 + 1) H p w (fun _ => .val x6) (some true) fun a4 H p w =>
 dq false false 2 0 (b2 + 2) H p w (fun _ => .val x0) (some true) fun a5 H p w =>
 dq false false 3 0 (b2 + 3) H p w (fun _ => .val x7) (some true) fun a6 H p w =>
 dq false false 4 0 (b2 + 4) H p w (fun _ => .val x0) (some true) fun a7 H p w =>
 dq false false 5 0 (b2 + 5) H p w (fun _ => .val x7) (some true) fun a8 H p w =>
 dq false false 6 48 (b2 + 6) H p w (fun _ => idxS 1 a7 a8) (some true) fun a9 H p w =>
 dq true false 7 112 (b2 + 7) H p w (fun H => qaf H a9) (some true) fun a10 H p w =>
 dq false false 8 0 (b2 + 8) H p w (fun _ => .val x0) (some true) fun a11 H p w =>
 dq false false 9 0 (b2 + 9) H p w (fun _ => .val x6) (some true) fun a12 H p w =>
 dq false false 10 768 (b2 + 10) H p w (fun _ => idxS 1 a11 a12) (some true) fun a13 H p w =>
 dq true false 11 1792 (b2 + 11) H p w (fun H => qaf H a13) (some true) fun a14 H p w =>
 dq false false 12 4083 (b2 + 12) H p w (fun _ => idxS 1 a3 a4) (some true) fun a15 H p w =>
 de 8179 H p w (qao (qas 8179 p H) a15 a10) (some true) fun _ H p w =>
 dq false false 14 16383 (b2 + 14) H p w (fun _ => idxS 1 a5 a6) (some true) fun a17 H p w =>
 de 32767 H p w (qao (qas 32767 p H) a17 a14) (some true) fun _ H p w =>
 dz2 p H fun H =>
 vq (intV (qaa .add).f x6 (.int .i64 (.ofNat 1))) H fun a19 H =>
 vq (intV (qaa .sub).f x7 (.int .i64 (.ofNat 1))) H fun a20 H =>
 g1 a19 a20 H
def qwz (call : Ev.Call) (q1e0 : Hp → R1) (x0 : AV) (g1 : AV → AV → Hp → R1) (x6 x7 : AV) (H : Hp) : R1 :=
 vq (intV (qaa .lss).f x6 x7) H fun a22 H =>
 cd a22 (
 qsf call g1 x0 x6 x7 H) (
 q1e0 H)
def qmi (call : Ev.Call) (q1e0 : Hp → R1) (x0 : AV) (n : Nat) : AV → AV → Hp → R1 :=
 Nat.rec (motive := fun _ => AV → AV → Hp → R1) (fun _ _ _ => .bad) (fun _ ih => qwz call q1e0 x0 ih) n
def qw0 (call : Ev.Call) (q1e0 : Hp → R1) (x0 : AV) : AV → AV → Hp → R1 := qmi call q1e0 x0 qbx
def q17 (call : Ev.Call) (x0 x1 x2 : AV) (H : Hp) : R1 :=
 vq (intV (qaa .sub).f x2 (.int .i64 (.ofNat 1))) H fun a0 H =>
 qw0 call (fun H => .ok (.tup []) H) x0 x1 a0 H
def o_rev (call : Ev.Call) (x0 x1 x2 : AV) (H : Hp) : R1 := q17 call x0 x1 x2 H
def qbf (call : Ev.Call) (H : Hp) : R1 :=
 .ok (.bool false) H
def qc9 (call : Ev.Call) (g2 : AV → AV → Hp → R1) (x7 x8 : AV) (H : Hp) : R1 :=
 vq (intV (qaa .add).f x8 (.int .i64 (.ofNat 1))) H fun a3 H =>
 g2 x7 a3 H
def qoe (call : Ev.Call) (g27 : AV → Hp → R1) (x10 : AV) (H : Hp) : R1 :=
 vq (intV (qaa .add).f x10 (.int .i64 (.ofNat 1))) H fun a28 H =>
 g27 a28 H
def qod (call : Ev.Call) (g27 : AV → Hp → R1) (x0 x10 : AV) (H : Hp) : R1 :=
 dz 0 H fun b30 H =>
 dq false false 0 0 (b30 + 0) H [] [] (fun _ => .val x0) (some true) fun a31 H p w =>
 dq false false 1 0 (b30 + 1) H p w (fun _ => .val x10) (some true) fun a32 H p w =>
 dq false false 2 0 (b30 + 2) H p w (fun _ => .val x0) (some true) fun a33 H p w =>
 dq false false 3 0 (b30 + 3) H p w (fun _ => .val x10) (some true) fun a34 H p w =>
 dq false false 4 8 (b30 + 4) H p w (fun _ => intV (qaa .sub).f a34 (.int .i64 (.ofNat 1))) (some true) fun a35 H p w =>
 dq false false 5 0 (b30 + 5) H p w (fun _ => .val x0) (some true) fun a36 H p w =>
 dq false false 6 0 (b30 + 6) H p w (fun _ => .val x10) (some true) fun a37 H p w =>
 dq false false 7 64 (b30 + 7) H p w (fun _ => intV (qaa .sub).f a37 (.int .i64 (.ofNat 1))) (some true) fun a38 H p w =>
 dq false false 8 224 (b30 + 8) H p w (fun _ => idxS 1 a36 a38) (some true) fun a39 H p w =>
 dq true false 9 480 (b30 + 9) H p w (fun H => qaf H a39) (some true) fun a40 H p w =>
 dq false false 10 0 (b30 + 10) H p w (fun _ => .val x0) (some true) fun a41 H p w =>
 dq false false 11 0 (b30 + 11) H p w (fun _ => .val x10) (some true) fun a42 H p w =>
 dq false false 12 3072 (b30 + 12) H p w (fun _ => idxS 1 a41 a42) (some true) fun a43 H p w =>
 dq true false 13 7168 (b30 + 13) H p w (fun H => qaf H a43) (some true) fun a44 H p w =>
 dq false false 14 16355 (b30 + 14) H p w (fun _ => idxS 1 a31 a32) (some true) fun a45 H p w =>
 de 32739 H p w (qao (qas 32739 p H) a45 a40) (some true) fun _ H p w =>
 dq false false 16 65535 (b30 + 16) H p w (fun _ => idxS 1 a33 a35) (some true) fun a47 H p w =>
 de 131071 H p w (qao (qas 131071 p H) a47 a44) (some true) fun _ H p w =>
 dz2 p H fun H =>
 qoe call g27 x10 H
def qoc (call : Ev.Call) (q27e6 : Hp → R1) (g27 : AV → Hp → R1) (x0 x10 : AV) (H : Hp) : R1 :=
 dz 0 H fun b50 H =>
 dq false false 0 0 (b50 + 0) H [] [] (fun _ => .val x0) (some true) fun a51 H p w =>
 dq false false 1 0 (b50 + 1) H p w (fun _ => .val x10) (some true) fun a52 H p w =>
 dq false false 2 3 (b50 + 2) H p w (fun _ => idxS 1 a51 a52) (some true) fun a53 H p w =>
 dq true false 3 7 (b50 + 3) H p w (fun H => qaf H a53) (some true) fun a54 H p w =>
 dq false false 4 0 (b50 + 4) H p w (fun _ => .val x0) (some true) fun a55 H p w =>
 dq false false 5 0 (b50 + 5) H p w (fun _ => .val x10) (some true) fun a56 H p w =>
 dq false false 6 32 (b50 + 6) H p w (fun _ => intV (qaa .sub).f a56 (.int .i64 (.ofNat 1))) (some true) fun a57 H p w =>
 dq false false 7 112 (b50 + 7) H p w (fun _ => idxS 1 a55 a57) (some true) fun a58 H p w =>
 dq true false 8 240 (b50 + 8) H p w (fun H => qaf H a58) (some true) fun a59 H p w =>
 de 511 H p w (call (.f qb5) [a54, a59] (qas 511 p H)) (some true) fun a60 H p w =>
 dq false false 10 1023 (b50 + 10) H p w (fun _ => (unS .not).f a60) (some true) fun a61 H p w =>
 dz2 p H fun H =>
 cd a61 (
 q27e6 H) (
 qod call g27 x0 x10 H)
def qof (call : Ev.Call) (q27e6 : Hp → R1) (x0 x2 : AV) (g27 : AV → Hp → R1) (x10 : AV) (H : Hp) : R1 :=
 vq (intV (qaa .lss).f x10 x2) H fun a63 H =>
 cd a63 (
 qoc call q27e6 g27 x0 x10 H) (
 q27e6 H)
def qd7 (call : Ev.Call) (q27e6 : Hp → R1) (x0 x2 : AV) (n : Nat) : AV → Hp → R1 :=
 Nat.rec (motive := fun _ => AV → Hp → R1) (fun _ _ => .bad) (fun _ ih => qof call q27e6 x0 x2 ih) n
def qoh (call : Ev.Call) (q27e6 : Hp → R1) (x0 x2 : AV) : AV → Hp → R1 := qd7 call q27e6 x0 x2 qbx
def qcl (call : Ev.Call) (g2 : AV → AV → Hp → R1) (x0 x2 x7 x8 : AV) (H : Hp) : R1 :=
 vq (intV (qaa .sub).f x2 x7) H fun a24 H =>
 vq (intV (qaa .geq).f a24 (.int .i64 (.ofNat 2))) H fun a25 H =>
 cd a25 (
 vq (intV (qaa .add).f x7 (.int .i64 (.ofNat 1))) H fun a26 H =>
 qoh call (fun H => qc9 call g2 x7 x8 H) x0 x2 a26 H) (
 qc9 call g2 x7 x8 H)
def qob (call : Ev.Call) (g68 : AV → Hp → R1) (x9 : AV) (H : Hp) : R1 :=
 vq (intV (qaa .sub).f x9 (.int .i64 (.ofNat 1))) H fun a69 H =>
 g68 a69 H
def qoa (call : Ev.Call) (g68 : AV → Hp → R1) (x0 x9 : AV) (H : Hp) : R1 :=
 dz 0 H fun b71 H =>
 dq false false 0 0 (b71 + 0) H [] [] (fun _ => .val x0) (some true) fun a72 H p w =>
 dq false false 1 0 (b71 + 1) H p w (fun _ => .val x9) (some true) fun a73 H p w =>
 dq false false 2 0 (b71 + 2) H p w (fun _ => .val x0) (some true) fun a74 H p w =>
 dq false false 3 0 (b71 + 3) H p w (fun _ => .val x9) (some true) fun a75 H p w =>
 dq false false 4 8 (b71 + 4) H p w (fun _ => intV (qaa .sub).f a75 (.int .i64 (.ofNat 1))) (some true) fun a76 H p w =>
 dq false false 5 0 (b71 + 5) H p w (fun _ => .val x0) (some true) fun a77 H p w =>
 dq false false 6 0 (b71 + 6) H p w (fun _ => .val x9) (some true) fun a78 H p w =>
 dq false false 7 64 (b71 + 7) H p w (fun _ => intV (qaa .sub).f a78 (.int .i64 (.ofNat 1))) (some true) fun a79 H p w =>
 dq false false 8 224 (b71 + 8) H p w (fun _ => idxS 1 a77 a79) (some true) fun a80 H p w =>
 dq true false 9 480 (b71 + 9) H p w (fun H => qaf H a80) (some true) fun a81 H p w =>
 dq false false 10 0 (b71 + 10) H p w (fun _ => .val x0) (some true) fun a82 H p w =>
 dq false false 11 0 (b71 + 11) H p w (fun _ => .val x9) (some true) fun a83 H p w =>
 dq false false 12 3072 (b71 + 12) H p w (fun _ => idxS 1 a82 a83) (some true) fun a84 H p w =>
 dq true false 13 7168 (b71 + 13) H p w (fun H => qaf H a84) (some true) fun a85 H p w =>
 dq false false 14 16355 (b71 + 14) H p w (fun _ => idxS 1 a72 a73) (some true) fun a86 H p w =>
 de 32739 H p w (qao (qas 32739 p H) a86 a81) (some true) fun _ H p w =>
 dq false false 16 65535 (b71 + 16) H p w (fun _ => idxS 1 a74 a76) (some true) fun a88 H p w =>
 de 131071 H p w (qao (qas 131071 p H) a88 a85) (some true) fun _ H p w =>
 dz2 p H fun H =>
 qob call g68 x9 H
def qlc (call : Ev.Call) (q68e4 : Hp → R1) (g68 : AV → Hp → R1) (x0 x9 : AV) (H : Hp) : R1 :=
 dz 0 H fun b91 H =>
 dq false false 0 0 (b91 + 0) H [] [] (fun _ => .val x0) (some true) fun a92 H p w =>
 dq false false 1 0 (b91 + 1) H p w (fun _ => .val x9) (some true) fun a93 H p w =>
 dq false false 2 3 (b91 + 2) H p w (fun _ => idxS 1 a92 a93) (some true) fun a94 H p w =>
 dq true false 3 7 (b91 + 3) H p w (fun H => qaf H a94) (some true) fun a95 H p w =>
 dq false false 4 0 (b91 + 4) H p w (fun _ => .val x0) (some true) fun a96 H p w =>
 dq false false 5 0 (b91 + 5) H p w (fun _ => .val x9) (some true) fun a97 H p w =>
 dq false false 6 32 (b91 + 6) H p w (fun _ => intV (qaa .sub).f a97 (.int .i64 (.ofNat 1))) (some true) fun a98 H p w =>
 dq false false 7 112 (b91 + 7) H p w (fun _ => idxS 1 a96 a98) (some true) fun a99 H p w =>
 dq true false 8 240 (b91 + 8) H p w (fun H => qaf H a99) (some true) fun a100 H p w =>
 de 511 H p w (call (.f qb5) [a95, a100] (qas 511 p H)) (some true) fun a101 H p w =>
 dq false false 10 1023 (b91 + 10) H p w (fun _ => (unS .not).f a101) (some true) fun a102 H p w =>
 dz2 p H fun H =>
 cd a102 (
 q68e4 H) (
 qoa call g68 x0 x9 H)
def qg1 (call : Ev.Call) (q68e4 : Hp → R1) (x0 : AV) (g68 : AV → Hp → R1) (x9 : AV) (H : Hp) : R1 :=
 vq (intV (qaa .geq).f x9 (.int .i64 (.ofNat 1))) H fun a104 H =>
 cd a104 (
 qlc call q68e4 g68 x0 x9 H) (
 q68e4 H)
def qdn (call : Ev.Call) (q68e4 : Hp → R1) (x0 : AV) (n : Nat) : AV → Hp → R1 :=
 Nat.rec (motive := fun _ => AV → Hp → R1) (fun _ _ => .bad) (fun _ ih => qg1 call q68e4 x0 ih) n
def qog (call : Ev.Call) (q68e4 : Hp → R1) (x0 : AV) : AV → Hp → R1 := qdn call q68e4 x0 qbx
def qlb (call : Ev.Call) (g2 : AV → AV → Hp → R1) (x0 x1 x2 x7 x8 : AV) (H : Hp) : R1 :=
 dz 0 H fun b5 H =>
 dq false false 0 0 (b5 + 0) H [] [] (fun _ => .val x0) (some true) fun a6 H p w =>
 dq false false 1 0 (b5 + 1) H p w (fun _ => .val x7) (some true) fun a7 H p w =>
 dq false false 2 0 (b5 + 2) H p w (fun _ => .val x0) (some true) fun a8 H p w =>
 dq false false 3 0 (b5 + 3) H p w (fun _ => .val x7) (some true) fun a9 H p w =>
 dq false false 4 8 (b5 + 4) H p w (fun _ => intV (qaa .sub).f a9 (.int .i64 (.ofNat 1))) (some true) fun a10 H p w =>
 dq false false 5 0 (b5 + 5) H p w (fun _ => .val x0) (some true) fun a11 H p w =>
 dq false false 6 0 (b5 + 6) H p w (fun _ => .val x7) (some true) fun a12 H p w =>
 dq false false 7 64 (b5 + 7) H p w (fun _ => intV (qaa .sub).f a12 (.int .i64 (.ofNat 1))) (some true) fun a13 H p w =>
 dq false false 8 224 (b5 + 8) H p w (fun _ => idxS 1 a11 a13) (some true) fun a14 H p w =>
 dq true false 9 480 (b5 + 9) H p w (fun H => qaf H a14) (some true) fun a15 H p w =>
 dq false false 10 0 (b5 + 10) H p w (fun _ => .val x0) (some true) fun a16 H p w =>
 dq false false 11 0 (b5 + 11) H p w (fun _ => .val x7) (some true) fun a17 H p w =>
 dq false false 12 3072 (b5 + 12) H p w (fun _ => idxS 1 a16 a17) (some true) fun a18 H p w =>
 dq true false 13 7168 (b5 + 13) H p w (fun H => qaf H a18) (some true) fun a19 H p w =>
 dq false false 14 16355 (b5 + 14) H p w (fun _ => idxS 1 a6 a7) (some true) fun a20 H p w =>
 de 32739 H p w (qao (qas 32739 p H) a20 a15) (some true) fun _ H p w =>
 dq false false 16 65535 (b5 + 16) H p w (fun _ => idxS 1 a8 a10) (some true) fun a22 H p w =>
 de 131071 H p w (qao (qas 131071 p H) a22 a19) (some true) fun _ H p w =>
 dz2 p H fun H =>
 vq (intV (qaa .sub).f x7 x1) H fun a65 H =>
 vq (intV (qaa .geq).f a65 (.int .i64 (.ofNat 2))) H fun a66 H =>
 cd a66 (
 vq (intV (qaa .sub).f x7 (.int .i64 (.ofNat 1))) H fun a67 H =>
 qog call (fun H => qcl call g2 x0 x2 x7 x8 H) x0 a67 H) (
 qcl call g2 x0 x2 x7 x8 H)
def qla (call : Ev.Call) (q2r : AV → Hp → R1) (g2 : AV → AV → Hp → R1) (x0 x1 x2 x7 x8 : AV) (H : Hp) : R1 :=
 vq (intV (qaa .sub).f x2 x1) H fun a106 H =>
 vq (intV (qaa .lss).f a106 (.int .i64 (.ofNat 50))) H fun a107 H =>
 cd a107 (
 q2r (.bool false) H) (
 qlb call g2 x0 x1 x2 x7 x8 H)
def qd8 (call : Ev.Call) (q2r : AV → Hp → R1) (g2 : AV → AV → Hp → R1) (x0 x1 x2 x7 x8 : AV) (H : Hp) : R1 :=
 vq (intV (qaa .eql).f x7 x2) H fun a109 H =>
 cd a109 (
 q2r (.bool true) H) (
 qla call q2r g2 x0 x1 x2 x7 x8 H)
def qk9 (call : Ev.Call) (g111 : AV → Hp → R1) (x7 : AV) (H : Hp) : R1 :=
 vq (intV (qaa .add).f x7 (.int .i64 (.ofNat 1))) H fun a112 H =>
 g111 a112 H
def qld (call : Ev.Call) (q111e2 : AV → Hp → R1) (x0 x2 : AV) (g111 : AV → Hp → R1) (x7 : AV) (H : Hp) : R1 :=
 dz 0 H fun b114 H =>
 dq false false 0 0 (b114 + 0) H [] [] (fun _ => .val x7) (some true) fun a115 H p w =>
 dq false false 1 0 (b114 + 1) H p w (fun _ => .val x2) (some true) fun a116 H p w =>
 dq false false 2 3 (b114 + 2) H p w (fun _ => intV (qaa .lss).f a115 a116) (some true) fun a117 H p w =>
 dq false false 3 7 (b114 + 3) H p w (fun _ => .val a117) (some true) fun a118 H p w =>
 dq false false 4 15 (b114 + 4) H p w (fun _ => .val x0) (qad true a118) fun a119 H p w =>
 dq false false 5 15 (b114 + 5) H p w (fun _ => .val x7) (qad true a118) fun a120 H p w =>
 dq false false 6 63 (b114 + 6) H p w (fun _ => idxS 1 a119 a120) (qad true a118) fun a121 H p w =>
 dq true false 7 127 (b114 + 7) H p w (fun H => qaf H a121) (qad true a118) fun a122 H p w =>
 dq false false 8 15 (b114 + 8) H p w (fun _ => .val x0) (qad true a118) fun a123 H p w =>
 dq false false 9 15 (b114 + 9) H p w (fun _ => .val x7) (qad true a118) fun a124 H p w =>
 dq false false 10 527 (b114 + 10) H p w (fun _ => intV (qaa .sub).f a124 (.int .i64 (.ofNat 1))) (qad true a118) fun a125 H p w =>
 dq false false 11 1807 (b114 + 11) H p w (fun _ => idxS 1 a123 a125) (qad true a118) fun a126 H p w =>
 dq true false 12 3855 (b114 + 12) H p w (fun H => qaf H a126) (qad true a118) fun a127 H p w =>
 de 8191 H p w (call (.f qb5) [a122, a127] (qas 8191 p H)) (qad true a118) fun a128 H p w =>
 dq false false 14 16383 (b114 + 14) H p w (fun _ => (unS .not).f a128) (qad true a118) fun a129 H p w =>
 dq false false 15 32767 (b114 + 15) H p w (fun _ => qb6 a118 a129 (.bool false)) (some true) fun a130 H p w =>
 dz2 p H fun H =>
 cd a130 (
 qk9 call g111 x7 H) (
 q111e2 x7 H)
def qfk (call : Ev.Call) (q111e2 : AV → Hp → R1) (x0 x2 : AV) (n : Nat) : AV → Hp → R1 :=
 Nat.rec (motive := fun _ => AV → Hp → R1) (fun _ _ => .bad) (fun _ ih => qld call q111e2 x0 x2 ih) n
def qle (call : Ev.Call) (q111e2 : AV → Hp → R1) (x0 x2 : AV) : AV → Hp → R1 := qfk call q111e2 x0 x2 qbx
def qk8 (call : Ev.Call) (q2r : AV → Hp → R1) (g2 : AV → AV → Hp → R1) (x0 x1 x2 x7 x8 : AV) (H : Hp) : R1 :=
 qle call (fun x7 H => qd8 call q2r g2 x0 x1 x2 x7 x8 H) x0 x2 x7 H
def qi1 (call : Ev.Call) (q2r : AV → Hp → R1) (q2e0 : Hp → R1) (x0 x1 x2 : AV) (g2 : AV → AV → Hp → R1) (x7 x8 : AV) (H : Hp) : R1 :=
 vq (intV (qaa .lss).f x8 (.int .i64 (.ofNat 5))) H fun a132 H =>
 cd a132 (
 qk8 call q2r g2 x0 x1 x2 x7 x8 H) (
 q2e0 H)
def qa2 (call : Ev.Call) (q2r : AV → Hp → R1) (q2e0 : Hp → R1) (x0 x1 x2 : AV) (n : Nat) : AV → AV → Hp → R1 :=
 Nat.rec (motive := fun _ => AV → AV → Hp → R1) (fun _ _ _ => .bad) (fun _ ih => qi1 call q2r q2e0 x0 x1 x2 ih) n
def qsg (call : Ev.Call) (q2r : AV → Hp → R1) (q2e0 : Hp → R1) (x0 x1 x2 : AV) : AV → AV → Hp → R1 := qa2 call q2r q2e0 x0 x1 x2 qbx
def qw1 (call : Ev.Call) (x0 x1 x2 : AV) (H : Hp) : R1 :=
 vq (intV (qaa .add).f x1 (.int .i64 (.ofNat 1))) H fun a0 H =>
 qsg call (fun x6 H => .ok x6 H) (fun H => qbf call H) x0 x1 x2 a0 (.int .i64 (.ofNat 0)) H
def o_pins (call : Ev.Call) (x0 x1 x2 : AV) (H : Hp) : R1 := qw1 call x0 x1 x2 H
def qw6 (call : Ev.Call) (x0 x1 : AV) (H : Hp) : R1 :=
 ve (call (.f qlp) [x0] H) fun a0 H =>
 vg (qad true a0) (.val x1) H fun a1 H =>
 veg (qad true a0) (call (.f qlp) [a1] H) H fun a2 H =>
 vg (qad true a0) ((unS .not).f a2) H fun a3 H =>
 vq (qb6 a0 a3 (.bool false)) H fun a4 H =>
 vg (qad false a4) (.val x0) H fun a5 H =>
 vg (qad false a4) (.val x1) H fun a6 H =>
 vg (qad false a4) (intV (qaa .lss).f a5 a6) H fun a7 H =>
 vq (qb6 a4 (.bool true) a7) H fun a8 H =>
 .ok a8 H
def o_less (call : Ev.Call) (x0 x1 : AV) (H : Hp) : R1 := qw6 call x0 x1 H
def qbw (call : Ev.Call) (x9 : AV) (H : Hp) : R1 :=
 .ok x9 H
def qsj (call : Ev.Call) (g20 : AV → AV → Hp → R1) (x0 x9 x10 : AV) (H : Hp) : R1 :=
 dz 0 H fun b21 H =>
 dq false false 0 0 (b21 + 0) H [] [] (fun _ => .val x0) (some true) fun a22 H p w =>
 dq false false 1 0 (b21 + 1) H p w (fun _ => .val x9) (some true) fun a23 H p w =>
 dq false false 2 0 (b21 + 2) H p w (fun _ => .val x0) (some true) fun a24 H p w =>
 dq false false 3 0 (b21 + 3) H p w (fun _ => .val x10) (some true) fun a25 H p w =>
 dq false false 4 0 (b21 + 4) H p w (fun _ => .val x0) (some true) fun a26 H p w =>
 dq false false 5 0 (b21 + 5) H p w (fun _ => .val x10) (some true) fun a27 H p w =>
 dq false false 6 48 (b21 + 6) H p w (fun _ => idxS 1 a26 a27) (some true) fun a28 H p w =>
 dq true false 7 112 (b21 + 7) H p w (fun H => qaf H a28) (some true) fun a29 H p w =>
 dq false false 8 0 (b21 + 8) H p w (fun _ => .val x0) (some true) fun a30 H p w =>
 dq false false 9 0 (b21 + 9) H p w (fun _ => .val x9) (some true) fun a31 H p w =>
 dq false false 10 768 (b21 + 10) H p w (fun _ => idxS 1 a30 a31) (some true) fun a32 H p w =>
 dq true false 11 1792 (b21 + 11) H p w (fun H => qaf H a32) (some true) fun a33 H p w =>
 dq false false 12 4083 (b21 + 12) H p w (fun _ => idxS 1 a22 a23) (some true) fun a34 H p w =>
 de 8179 H p w (qao (qas 8179 p H) a34 a29) (some true) fun _ H p w =>
 dq false false 14 16383 (b21 + 14) H p w (fun _ => idxS 1 a24 a25) (some true) fun a36 H p w =>
 de 32767 H p w (qao (qas 32767 p H) a36 a33) (some true) fun _ H p w =>
 dz2 p H fun H =>
 vq (intV (qaa .add).f x9 (.int .i64 (.ofNat 1))) H fun a38 H =>
 vq (intV (qaa .sub).f x10 (.int .i64 (.ofNat 1))) H fun a39 H =>
 g20 a38 a39 H
def qg4 (call : Ev.Call) (q20e0 : AV → Hp → R1) (g20 : AV → AV → Hp → R1) (x0 x9 x10 : AV) (H : Hp) : R1 :=
 vq (intV (qaa .gtr).f x9 x10) H fun a41 H =>
 cd a41 (
 q20e0 x9 H) (
 qsj call g20 x0 x9 x10 H)
def qsi (call : Ev.Call) (g43 : AV → Hp → R1) (x10 : AV) (H : Hp) : R1 :=
 vq (intV (qaa .sub).f x10 (.int .i64 (.ofNat 1))) H fun a44 H =>
 g43 a44 H
def qi3 (call : Ev.Call) (q43e4 : AV → Hp → R1) (x0 x1 x9 : AV) (g43 : AV → Hp → R1) (x10 : AV) (H : Hp) : R1 :=
 dz 0 H fun b46 H =>
 dq false false 0 0 (b46 + 0) H [] [] (fun _ => .val x9) (some true) fun a47 H p w =>
 dq false false 1 0 (b46 + 1) H p w (fun _ => .val x10) (some true) fun a48 H p w =>
 dq false false 2 3 (b46 + 2) H p w (fun _ => intV (qaa .leq).f a47 a48) (some true) fun a49 H p w =>
 dq false false 3 7 (b46 + 3) H p w (fun _ => .val a49) (some true) fun a50 H p w =>
 dq false false 4 15 (b46 + 4) H p w (fun _ => .val x0) (qad true a50) fun a51 H p w =>
 dq false false 5 15 (b46 + 5) H p w (fun _ => .val x1) (qad true a50) fun a52 H p w =>
 dq false false 6 63 (b46 + 6) H p w (fun _ => idxS 1 a51 a52) (qad true a50) fun a53 H p w =>
 dq true false 7 127 (b46 + 7) H p w (fun H => qaf H a53) (qad true a50) fun a54 H p w =>
 dq false false 8 15 (b46 + 8) H p w (fun _ => .val x0) (qad true a50) fun a55 H p w =>
 dq false false 9 15 (b46 + 9) H p w (fun _ => .val x10) (qad true a50) fun a56 H p w =>
 dq false false 10 783 (b46 + 10) H p w (fun _ => idxS 1 a55 a56) (qad true a50) fun a57 H p w =>
 dq true false 11 1807 (b46 + 11) H p w (fun H => qaf H a57) (qad true a50) fun a58 H p w =>
 de 4095 H p w (call (.f qb5) [a54, a58] (qas 4095 p H)) (qad true a50) fun a59 H p w =>
 dq false false 13 8191 (b46 + 13) H p w (fun _ => qb6 a50 a59 (.bool false)) (some true) fun a60 H p w =>
 dz2 p H fun H =>
 cd a60 (
 qsi call g43 x10 H) (
 q43e4 x10 H)
def qg2 (call : Ev.Call) (q43e4 : AV → Hp → R1) (x0 x1 x9 : AV) (n : Nat) : AV → Hp → R1 :=
 Nat.rec (motive := fun _ => AV → Hp → R1) (fun _ _ => .bad) (fun _ ih => qi3 call q43e4 x0 x1 x9 ih) n
def qsn (call : Ev.Call) (q43e4 : AV → Hp → R1) (x0 x1 x9 : AV) : AV → Hp → R1 := qg2 call q43e4 x0 x1 x9 qbx
def qg3 (call : Ev.Call) (q20e0 : AV → Hp → R1) (g20 : AV → AV → Hp → R1) (x0 x1 x9 x10 : AV) (H : Hp) : R1 :=
 qsn call (fun x10 H => qg4 call q20e0 g20 x0 x9 x10 H) x0 x1 x9 x10 H
def qsh (call : Ev.Call) (g62 : AV → Hp → R1) (x9 : AV) (H : Hp) : R1 :=
 vq (intV (qaa .add).f x9 (.int .i64 (.ofNat 1))) H fun a63 H =>
 g62 a63 H
def qsk (call : Ev.Call) (q62e2 : AV → Hp → R1) (x0 x1 x10 : AV) (g62 : AV → Hp → R1) (x9 : AV) (H : Hp) : R1 :=
 dz 0 H fun b65 H =>
 dq false false 0 0 (b65 + 0) H [] [] (fun _ => .val x9) (some true) fun a66 H p w =>
 dq false false 1 0 (b65 + 1) H p w (fun _ => .val x10) (some true) fun a67 H p w =>
 dq false false 2 3 (b65 + 2) H p w (fun _ => intV (qaa .leq).f a66 a67) (some true) fun a68 H p w =>
 dq false false 3 7 (b65 + 3) H p w (fun _ => .val a68) (some true) fun a69 H p w =>
 dq false false 4 15 (b65 + 4) H p w (fun _ => .val x0) (qad true a69) fun a70 H p w =>
 dq false false 5 15 (b65 + 5) H p w (fun _ => .val x1) (qad true a69) fun a71 H p w =>
 dq false false 6 63 (b65 + 6) H p w (fun _ => idxS 1 a70 a71) (qad true a69) fun a72 H p w =>
 dq true false 7 127 (b65 + 7) H p w (fun H => qaf H a72) (qad true a69) fun a73 H p w =>
 dq false false 8 15 (b65 + 8) H p w (fun _ => .val x0) (qad true a69) fun a74 H p w =>
 dq false false 9 15 (b65 + 9) H p w (fun _ => .val x9) (qad true a69) fun a75 H p w =>
 dq false false 10 783 (b65 + 10) H p w (fun _ => idxS 1 a74 a75) (qad true a69) fun a76 H p w =>
 dq true false 11 1807 (b65 + 11) H p w (fun H => qaf H a76) (qad true a69) fun a77 H p w =>
 de 4095 H p w (call (.f qb5) [a73, a77] (qas 4095 p H)) (qad true a69) fun a78 H p w =>
 dq false false 13 8191 (b65 + 13) H p w (fun _ => (unS .not).f a78) (qad true a69) fun a79 H p w =>
 dq false false 14 16383 (b65 + 14) H p w (fun _ => qb6 a69 a79 (.bool false)) (some true) fun a80 H p w =>
 dz2 p H fun H =>
 cd a80 (
 qsh call g62 x9 H) (
 q62e2 x9 H)
def qi2 (call : Ev.Call) (q62e2 : AV → Hp → R1) (x0 x1 x10 : AV) (n : Nat) : AV → Hp → R1 :=
 Nat.rec (motive := fun _ => AV → Hp → R1) (fun _ _ => .bad) (fun _ ih => qsk call q62e2 x0 x1 x10 ih) n
def qsm (call : Ev.Call) (q62e2 : AV → Hp → R1) (x0 x1 x10 : AV) : AV → Hp → R1 := qi2 call q62e2 x0 x1 x10 qbx
def qsl (call : Ev.Call) (q20e0 : AV → Hp → R1) (x0 x1 : AV) (g20 : AV → AV → Hp → R1) (x9 x10 : AV) (H : Hp) : R1 :=
 qsm call (fun x9 H => qg3 call q20e0 g20 x0 x1 x9 x10 H) x0 x1 x10 x9 H
def qcm (call : Ev.Call) (q20e0 : AV → Hp → R1) (x0 x1 : AV) (n : Nat) : AV → AV → Hp → R1 :=
 Nat.rec (motive := fun _ => AV → AV → Hp → R1) (fun _ _ _ => .bad) (fun _ ih => qsl call q20e0 x0 x1 ih) n
def qso (call : Ev.Call) (q20e0 : AV → Hp → R1) (x0 x1 : AV) : AV → AV → Hp → R1 := qcm call q20e0 x0 x1 qbx
def q2a (call : Ev.Call) (x0 x1 x2 x3 : AV) (H : Hp) : R1 :=
 dz 0 H fun b0 H =>
 dq false false 0 0 (b0 + 0) H [] [] (fun _ => .val x0) (some true) fun a1 H p w =>
 dq false false 1 0 (b0 + 1) H p w (fun _ => .val x1) (some true) fun a2 H p w =>
 dq false false 2 0 (b0 + 2) H p w (fun _ => .val x0) (some true) fun a3 H p w =>
 dq false false 3 0 (b0 + 3) H p w (fun _ => .val x3) (some true) fun a4 H p w =>
 dq false false 4 0 (b0 + 4) H p w (fun _ => .val x0) (some true) fun a5 H p w =>
 dq false false 5 0 (b0 + 5) H p w (fun _ => .val x3) (some true) fun a6 H p w =>
 dq false false 6 48 (b0 + 6) H p w (fun _ => idxS 1 a5 a6) (some true) fun a7 H p w =>
 dq true false 7 112 (b0 + 7) H p w (fun H => qaf H a7) (some true) fun a8 H p w =>
 dq false false 8 0 (b0 + 8) H p w (fun _ => .val x0) (some true) fun a9 H p w =>
 dq false false 9 0 (b0 + 9) H p w (fun _ => .val x1) (some true) fun a10 H p w =>
 dq false false 10 768 (b0 + 10) H p w (fun _ => idxS 1 a9 a10) (some true) fun a11 H p w =>
 dq true false 11 1792 (b0 + 11) H p w (fun H => qaf H a11) (some true) fun a12 H p w =>
 dq false false 12 4083 (b0 + 12) H p w (fun _ => idxS 1 a1 a2) (some true) fun a13 H p w =>
 de 8179 H p w (qao (qas 8179 p H) a13 a8) (some true) fun _ H p w =>
 dq false false 14 16383 (b0 + 14) H p w (fun _ => idxS 1 a3 a4) (some true) fun a15 H p w =>
 de 32767 H p w (qao (qas 32767 p H) a15 a12) (some true) fun _ H p w =>
 dz2 p H fun H =>
 vq (intV (qaa .add).f x1 (.int .i64 (.ofNat 1))) H fun a17 H =>
 vq (intV (qaa .sub).f x2 (.int .i64 (.ofNat 1))) H fun a18 H =>
 qso call (fun x9 H => qbw call x9 H) x0 x1 a17 a18 H
def o_peq (call : Ev.Call) (x0 x1 x2 x3 : AV) (H : Hp) : R1 := q2a call x0 x1 x2 x3 H
def qbh (call : Ev.Call) (x0 x1 x11 : AV) (H : Hp) : R1 :=
 dz 0 H fun b38 H =>
 dq false false 0 0 (b38 + 0) H [] [] (fun _ => .val x0) (some true) fun a39 H p w =>
 dq false false 1 0 (b38 + 1) H p w (fun _ => .val x11) (some true) fun a40 H p w =>
 dq false false 2 0 (b38 + 2) H p w (fun _ => .val x0) (some true) fun a41 H p w =>
 dq false false 3 0 (b38 + 3) H p w (fun _ => .val x1) (some true) fun a42 H p w =>
 dq false false 4 0 (b38 + 4) H p w (fun _ => .val x0) (some true) fun a43 H p w =>
 dq false false 5 0 (b38 + 5) H p w (fun _ => .val x1) (some true) fun a44 H p w =>
 dq false false 6 48 (b38 + 6) H p w (fun _ => idxS 1 a43 a44) (some true) fun a45 H p w =>
 dq true false 7 112 (b38 + 7) H p w (fun H => qaf H a45) (some true) fun a46 H p w =>
 dq false false 8 0 (b38 + 8) H p w (fun _ => .val x0) (some true) fun a47 H p w =>
 dq false false 9 0 (b38 + 9) H p w (fun _ => .val x11) (some true) fun a48 H p w =>
 dq false false 10 768 (b38 + 10) H p w (fun _ => idxS 1 a47 a48) (some true) fun a49 H p w =>
 dq true false 11 1792 (b38 + 11) H p w (fun H => qaf H a49) (some true) fun a50 H p w =>
 dq false false 12 4083 (b38 + 12) H p w (fun _ => idxS 1 a39 a40) (some true) fun a51 H p w =>
 de 8179 H p w (qao (qas 8179 p H) a51 a46) (some true) fun _ H p w =>
 dq false false 14 16383 (b38 + 14) H p w (fun _ => idxS 1 a41 a42) (some true) fun a53 H p w =>
 de 32767 H p w (qao (qas 32767 p H) a53 a50) (some true) fun _ H p w =>
 dz2 p H fun H =>
 .ok (.tup [x11, (.bool false)]) H
def qoj (call : Ev.Call) (g56 : AV → AV → Hp → R1) (x0 x10 x11 : AV) (H : Hp) : R1 :=
 dz 0 H fun b57 H =>
 dq false false 0 0 (b57 + 0) H [] [] (fun _ => .val x0) (some true) fun a58 H p w =>
 dq false false 1 0 (b57 + 1) H p w (fun _ => .val x10) (some true) fun a59 H p w =>
 dq false false 2 0 (b57 + 2) H p w (fun _ => .val x0) (some true) fun a60 H p w =>
 dq false false 3 0 (b57 + 3) H p w (fun _ => .val x11) (some true) fun a61 H p w =>
 dq false false 4 0 (b57 + 4) H p w (fun _ => .val x0) (some true) fun a62 H p w =>
 dq false false 5 0 (b57 + 5) H p w (fun _ => .val x11) (some true) fun a63 H p w =>
 dq false false 6 48 (b57 + 6) H p w (fun _ => idxS 1 a62 a63) (some true) fun a64 H p w =>
 dq true false 7 112 (b57 + 7) H p w (fun H => qaf H a64) (some true) fun a65 H p w =>
 dq false false 8 0 (b57 + 8) H p w (fun _ => .val x0) (some true) fun a66 H p w =>
 dq false false 9 0 (b57 + 9) H p w (fun _ => .val x10) (some true) fun a67 H p w =>
 dq false false 10 768 (b57 + 10) H p w (fun _ => idxS 1 a66 a67) (some true) fun a68 H p w =>
 dq true false 11 1792 (b57 + 11) H p w (fun H => qaf H a68) (some true) fun a69 H p w =>
 dq false false 12 4083 (b57 + 12) H p w (fun _ => idxS 1 a58 a59) (some true) fun a70 H p w =>
 de 8179 H p w (qao (qas 8179 p H) a70 a65) (some true) fun _ H p w =>
 dq false false 14 16383 (b57 + 14) H p w (fun _ => idxS 1 a60 a61) (some true) fun a72 H p w =>
 de 32767 H p w (qao (qas 32767 p H) a72 a69) (some true) fun _ H p w =>
 dz2 p H fun H =>
 vq (intV (qaa .add).f x10 (.int .i64 (.ofNat 1))) H fun a74 H =>
 vq (intV (qaa .sub).f x11 (.int .i64 (.ofNat 1))) H fun a75 H =>
 g56 a74 a75 H
def qe5 (call : Ev.Call) (q56e4 : AV → Hp → R1) (g56 : AV → AV → Hp → R1) (x0 x10 x11 : AV) (H : Hp) : R1 :=
 vq (intV (qaa .gtr).f x10 x11) H fun a77 H =>
 cd a77 (
 q56e4 x11 H) (
 qoj call g56 x0 x10 x11 H)
def qoi (call : Ev.Call) (g79 : AV → Hp → R1) (x11 : AV) (H : Hp) : R1 :=
 vq (intV (qaa .sub).f x11 (.int .i64 (.ofNat 1))) H fun a80 H =>
 g79 a80 H
def qg6 (call : Ev.Call) (q79e8 : AV → Hp → R1) (x0 x1 x10 : AV) (g79 : AV → Hp → R1) (x11 : AV) (H : Hp) : R1 :=
 dz 0 H fun b82 H =>
 dq false false 0 0 (b82 + 0) H [] [] (fun _ => .val x10) (some true) fun a83 H p w =>
 dq false false 1 0 (b82 + 1) H p w (fun _ => .val x11) (some true) fun a84 H p w =>
 dq false false 2 3 (b82 + 2) H p w (fun _ => intV (qaa .leq).f a83 a84) (some true) fun a85 H p w =>
 dq false false 3 7 (b82 + 3) H p w (fun _ => .val a85) (some true) fun a86 H p w =>
 dq false false 4 15 (b82 + 4) H p w (fun _ => .val x0) (qad true a86) fun a87 H p w =>
 dq false false 5 15 (b82 + 5) H p w (fun _ => .val x11) (qad true a86) fun a88 H p w =>
 dq false false 6 63 (b82 + 6) H p w (fun _ => idxS 1 a87 a88) (qad true a86) fun a89 H p w =>
 dq true false 7 127 (b82 + 7) H p w (fun H => qaf H a89) (qad true a86) fun a90 H p w =>
 dq false false 8 15 (b82 + 8) H p w (fun _ => .val x0) (qad true a86) fun a91 H p w =>
 dq false false 9 15 (b82 + 9) H p w (fun _ => .val x1) (qad true a86) fun a92 H p w =>
 dq false false 10 783 (b82 + 10) H p w (fun _ => idxS 1 a91 a92) (qad true a86) fun a93 H p w =>
 dq true false 11 1807 (b82 + 11) H p w (fun H => qaf H a93) (qad true a86) fun a94 H p w =>
 de 4095 H p w (call (.f qb5) [a90, a94] (qas 4095 p H)) (qad true a86) fun a95 H p w =>
 dq false false 13 8191 (b82 + 13) H p w (fun _ => (unS .not).f a95) (qad true a86) fun a96 H p w =>
 dq false false 14 16383 (b82 + 14) H p w (fun _ => qb6 a86 a96 (.bool false)) (some true) fun a97 H p w =>
 dz2 p H fun H =>
 cd a97 (
 qoi call g79 x11 H) (
 q79e8 x11 H)
def qe3 (call : Ev.Call) (q79e8 : AV → Hp → R1) (x0 x1 x10 : AV) (n : Nat) : AV → Hp → R1 :=
 Nat.rec (motive := fun _ => AV → Hp → R1) (fun _ _ => .bad) (fun _ ih => qg6 call q79e8 x0 x1 x10 ih) n
def qon (call : Ev.Call) (q79e8 : AV → Hp → R1) (x0 x1 x10 : AV) : AV → Hp → R1 := qe3 call q79e8 x0 x1 x10 qbx
def qe4 (call : Ev.Call) (q56e4 : AV → Hp → R1) (g56 : AV → AV → Hp → R1) (x0 x1 x10 x11 : AV) (H : Hp) : R1 :=
 qon call (fun x11 H => qe5 call q56e4 g56 x0 x10 x11 H) x0 x1 x10 x11 H
def qli (call : Ev.Call) (g99 : AV → Hp → R1) (x10 : AV) (H : Hp) : R1 :=
 vq (intV (qaa .add).f x10 (.int .i64 (.ofNat 1))) H fun a100 H =>
 g99 a100 H
def qok (call : Ev.Call) (q99e6 : AV → Hp → R1) (x0 x1 x11 : AV) (g99 : AV → Hp → R1) (x10 : AV) (H : Hp) : R1 :=
 dz 0 H fun b102 H =>
 dq false false 0 0 (b102 + 0) H [] [] (fun _ => .val x10) (some true) fun a103 H p w =>
 dq false false 1 0 (b102 + 1) H p w (fun _ => .val x11) (some true) fun a104 H p w =>
 dq false false 2 3 (b102 + 2) H p w (fun _ => intV (qaa .leq).f a103 a104) (some true) fun a105 H p w =>
 dq false false 3 7 (b102 + 3) H p w (fun _ => .val a105) (some true) fun a106 H p w =>
 dq false false 4 15 (b102 + 4) H p w (fun _ => .val x0) (qad true a106) fun a107 H p w =>
 dq false false 5 15 (b102 + 5) H p w (fun _ => .val x10) (qad true a106) fun a108 H p w =>
 dq false false 6 63 (b102 + 6) H p w (fun _ => idxS 1 a107 a108) (qad true a106) fun a109 H p w =>
 dq true false 7 127 (b102 + 7) H p w (fun H => qaf H a109) (qad true a106) fun a110 H p w =>
 dq false false 8 15 (b102 + 8) H p w (fun _ => .val x0) (qad true a106) fun a111 H p w =>
 dq false false 9 15 (b102 + 9) H p w (fun _ => .val x1) (qad true a106) fun a112 H p w =>
 dq false false 10 783 (b102 + 10) H p w (fun _ => idxS 1 a111 a112) (qad true a106) fun a113 H p w =>
 dq true false 11 1807 (b102 + 11) H p w (fun H => qaf H a113) (qad true a106) fun a114 H p w =>
 de 4095 H p w (call (.f qb5) [a110, a114] (qas 4095 p H)) (qad true a106) fun a115 H p w =>
 dq false false 13 8191 (b102 + 13) H p w (fun _ => qb6 a106 a115 (.bool false)) (some true) fun a116 H p w =>
 dz2 p H fun H =>
 cd a116 (
 qli call g99 x10 H) (
 q99e6 x10 H)
def qg5 (call : Ev.Call) (q99e6 : AV → Hp → R1) (x0 x1 x11 : AV) (n : Nat) : AV → Hp → R1 :=
 Nat.rec (motive := fun _ => AV → Hp → R1) (fun _ _ => .bad) (fun _ ih => qok call q99e6 x0 x1 x11 ih) n
def qom (call : Ev.Call) (q99e6 : AV → Hp → R1) (x0 x1 x11 : AV) : AV → Hp → R1 := qg5 call q99e6 x0 x1 x11 qbx
def qol (call : Ev.Call) (q56e4 : AV → Hp → R1) (x0 x1 : AV) (g56 : AV → AV → Hp → R1) (x10 x11 : AV) (H : Hp) : R1 :=
 qom call (fun x10 H => qe4 call q56e4 g56 x0 x1 x10 x11 H) x0 x1 x11 x10 H
def qcc (call : Ev.Call) (q56e4 : AV → Hp → R1) (x0 x1 : AV) (n : Nat) : AV → AV → Hp → R1 :=
 Nat.rec (motive := fun _ => AV → AV → Hp → R1) (fun _ _ _ => .bad) (fun _ ih => qol call q56e4 x0 x1 ih) n
def qoo (call : Ev.Call) (q56e4 : AV → Hp → R1) (x0 x1 : AV) : AV → AV → Hp → R1 := qcc call q56e4 x0 x1 qbx
def qlh (call : Ev.Call) (x0 x1 x10 x11 : AV) (H : Hp) : R1 :=
 dz 0 H fun b19 H =>
 dq false false 0 0 (b19 + 0) H [] [] (fun _ => .val x0) (some true) fun a20 H p w =>
 dq false false 1 0 (b19 + 1) H p w (fun _ => .val x10) (some true) fun a21 H p w =>
 dq false false 2 0 (b19 + 2) H p w (fun _ => .val x0) (some true) fun a22 H p w =>
 dq false false 3 0 (b19 + 3) H p w (fun _ => .val x11) (some true) fun a23 H p w =>
 dq false false 4 0 (b19 + 4) H p w (fun _ => .val x0) (some true) fun a24 H p w =>
 dq false false 5 0 (b19 + 5) H p w (fun _ => .val x11) (some true) fun a25 H p w =>
 dq false false 6 48 (b19 + 6) H p w (fun _ => idxS 1 a24 a25) (some true) fun a26 H p w =>
 dq true false 7 112 (b19 + 7) H p w (fun H => qaf H a26) (some true) fun a27 H p w =>
 dq false false 8 0 (b19 + 8) H p w (fun _ => .val x0) (some true) fun a28 H p w =>
 dq false false 9 0 (b19 + 9) H p w (fun _ => .val x10) (some true) fun a29 H p w =>
 dq false false 10 768 (b19 + 10) H p w (fun _ => idxS 1 a28 a29) (some true) fun a30 H p w =>
 dq true false 11 1792 (b19 + 11) H p w (fun H => qaf H a30) (some true) fun a31 H p w =>
 dq false false 12 4083 (b19 + 12) H p w (fun _ => idxS 1 a20 a21) (some true) fun a32 H p w =>
 de 8179 H p w (qao (qas 8179 p H) a32 a27) (some true) fun _ H p w =>
 dq false false 14 16383 (b19 + 14) H p w (fun _ => idxS 1 a22 a23) (some true) fun a34 H p w =>
 de 32767 H p w (qao (qas 32767 p H) a34 a31) (some true) fun _ H p w =>
 dz2 p H fun H =>
 vq (intV (qaa .add).f x10 (.int .i64 (.ofNat 1))) H fun a36 H =>
 vq (intV (qaa .sub).f x11 (.int .i64 (.ofNat 1))) H fun a37 H =>
 qoo call (fun x11 H => qbh call x0 x1 x11 H) x0 x1 a36 a37 H
def qeb (call : Ev.Call) (x0 x1 x10 x11 : AV) (H : Hp) : R1 :=
 vq (intV (qaa .gtr).f x10 x11) H fun a118 H =>
 cd a118 (
 dz 0 H fun b119 H =>
 dq false false 0 0 (b119 + 0) H [] [] (fun _ => .val x0) (some true) fun a120 H p w =>
 dq false false 1 0 (b119 + 1) H p w (fun _ => .val x11) (some true) fun a121 H p w =>
 dq false false 2 0 (b119 + 2) H p w (fun _ => .val x0) (some true) fun a122 H p w =>
 dq false false 3 0 (b119 + 3) H p w (fun _ => .val x1) (some true) fun a123 H p w =>
 dq false false 4 0 (b119 + 4) H p w (fun _ => .val x0) (some true) fun a124 H p w =>
 dq false false 5 0 (b119 + 5) H p w (fun _ => .val x1) (some true) fun a125 H p w =>
 dq false false 6 48 (b119 + 6) H p w (fun _ => idxS 1 a124 a125) (some true) fun a126 H p w =>
 dq true false 7 112 (b119 + 7) H p w (fun H => qaf H a126) (some true) fun a127 H p w =>
 dq false false 8 0 (b119 + 8) H p w (fun _ => .val x0) (some true) fun a128 H p w =>
 dq false false 9 0 (b119 + 9) H p w (fun _ => .val x11) (some true) fun a129 H p w =>
 dq false false 10 768 (b119 + 10) H p w (fun _ => idxS 1 a128 a129) (some true) fun a130 H p w =>
 dq true false 11 1792 (b119 + 11) H p w (fun H => qaf H a130) (some true) fun a131 H p w =>
 dq false false 12 4083 (b119 + 12) H p w (fun _ => idxS 1 a120 a121) (some true) fun a132 H p w =>
 de 8179 H p w (qao (qas 8179 p H) a132 a127) (some true) fun _ H p w =>
 dq false false 14 16383 (b119 + 14) H p w (fun _ => idxS 1 a122 a123) (some true) fun a134 H p w =>
 de 32767 H p w (qao (qas 32767 p H) a134 a131) (some true) fun _ H p w =>
 dz2 p H fun H =>
 .ok (.tup [x11, (.bool true)]) H) (
 qlh call x0 x1 x10 x11 H)
def qlg (call : Ev.Call) (g137 : AV → Hp → R1) (x11 : AV) (H : Hp) : R1 :=
 vq (intV (qaa .sub).f x11 (.int .i64 (.ofNat 1))) H fun a138 H =>
 g137 a138 H
def qfn (call : Ev.Call) (q137e2 : AV → Hp → R1) (x0 x1 x10 : AV) (g137 : AV → Hp → R1) (x11 : AV) (H : Hp) : R1 :=
 dz 0 H fun b140 H =>
 dq false false 0 0 (b140 + 0) H [] [] (fun _ => .val x10) (some true) fun a141 H p w =>
 dq false false 1 0 (b140 + 1) H p w (fun _ => .val x11) (some true) fun a142 H p w =>
 dq false false 2 3 (b140 + 2) H p w (fun _ => intV (qaa .leq).f a141 a142) (some true) fun a143 H p w =>
 dq false false 3 7 (b140 + 3) H p w (fun _ => .val a143) (some true) fun a144 H p w =>
 dq false false 4 15 (b140 + 4) H p w (fun _ => .val x0) (qad true a144) fun a145 H p w =>
 dq false false 5 15 (b140 + 5) H p w (fun _ => .val x11) (qad true a144) fun a146 H p w =>
 dq false false 6 63 (b140 + 6) H p w (fun _ => idxS 1 a145 a146) (qad true a144) fun a147 H p w =>
 dq true false 7 127 (b140 + 7) H p w (fun H => qaf H a147) (qad true a144) fun a148 H p w =>
 dq false false 8 15 (b140 + 8) H p w (fun _ => .val x0) (qad true a144) fun a149 H p w =>
 dq false false 9 15 (b140 + 9) H p w (fun _ => .val x1) (qad true a144) fun a150 H p w =>
 dq false false 10 783 (b140 + 10) H p w (fun _ => idxS 1 a149 a150) (qad true a144) fun a151 H p w =>
 dq true false 11 1807 (b140 + 11) H p w (fun H => qaf H a151) (qad true a144) fun a152 H p w =>
 de 4095 H p w (call (.f qb5) [a148, a152] (qas 4095 p H)) (qad true a144) fun a153 H p w =>
 dq false false 13 8191 (b140 + 13) H p w (fun _ => (unS .not).f a153) (qad true a144) fun a154 H p w =>
 dq false false 14 16383 (b140 + 14) H p w (fun _ => qb6 a144 a154 (.bool false)) (some true) fun a155 H p w =>
 dz2 p H fun H =>
 cd a155 (
 qlg call g137 x11 H) (
 q137e2 x11 H)
def qd9 (call : Ev.Call) (q137e2 : AV → Hp → R1) (x0 x1 x10 : AV) (n : Nat) : AV → Hp → R1 :=
 Nat.rec (motive := fun _ => AV → Hp → R1) (fun _ _ => .bad) (fun _ ih => qfn call q137e2 x0 x1 x10 ih) n
def qll (call : Ev.Call) (q137e2 : AV → Hp → R1) (x0 x1 x10 : AV) : AV → Hp → R1 := qd9 call q137e2 x0 x1 x10 qbx
def qea (call : Ev.Call) (x0 x1 x10 x11 : AV) (H : Hp) : R1 :=
 qll call (fun x11 H => qeb call x0 x1 x10 x11 H) x0 x1 x10 x11 H
def qlf (call : Ev.Call) (g157 : AV → Hp → R1) (x10 : AV) (H : Hp) : R1 :=
 vq (intV (qaa .add).f x10 (.int .i64 (.ofNat 1))) H fun a158 H =>
 g157 a158 H
def qlj (call : Ev.Call) (q157e0 : AV → Hp → R1) (x0 x1 x11 : AV) (g157 : AV → Hp → R1) (x10 : AV) (H : Hp) : R1 :=
 dz 0 H fun b160 H =>
 dq false false 0 0 (b160 + 0) H [] [] (fun _ => .val x10) (some true) fun a161 H p w =>
 dq false false 1 0 (b160 + 1) H p w (fun _ => .val x11) (some true) fun a162 H p w =>
 dq false false 2 3 (b160 + 2) H p w (fun _ => intV (qaa .leq).f a161 a162) (some true) fun a163 H p w =>
 dq false false 3 7 (b160 + 3) H p w (fun _ => .val a163) (some true) fun a164 H p w =>
 dq false false 4 15 (b160 + 4) H p w (fun _ => .val x0) (qad true a164) fun a165 H p w =>
 dq false false 5 15 (b160 + 5) H p w (fun _ => .val x10) (qad true a164) fun a166 H p w =>
 dq false false 6 63 (b160 + 6) H p w (fun _ => idxS 1 a165 a166) (qad true a164) fun a167 H p w =>
 dq true false 7 127 (b160 + 7) H p w (fun H => qaf H a167) (qad true a164) fun a168 H p w =>
 dq false false 8 15 (b160 + 8) H p w (fun _ => .val x0) (qad true a164) fun a169 H p w =>
 dq false false 9 15 (b160 + 9) H p w (fun _ => .val x1) (qad true a164) fun a170 H p w =>
 dq false false 10 783 (b160 + 10) H p w (fun _ => idxS 1 a169 a170) (qad true a164) fun a171 H p w =>
 dq true false 11 1807 (b160 + 11) H p w (fun H => qaf H a171) (qad true a164) fun a172 H p w =>
 de 4095 H p w (call (.f qb5) [a168, a172] (qas 4095 p H)) (qad true a164) fun a173 H p w =>
 dq false false 13 8191 (b160 + 13) H p w (fun _ => qb6 a164 a173 (.bool false)) (some true) fun a174 H p w =>
 dz2 p H fun H =>
 cd a174 (
 qlf call g157 x10 H) (
 q157e0 x10 H)
def qfm (call : Ev.Call) (q157e0 : AV → Hp → R1) (x0 x1 x11 : AV) (n : Nat) : AV → Hp → R1 :=
 Nat.rec (motive := fun _ => AV → Hp → R1) (fun _ _ => .bad) (fun _ ih => qlj call q157e0 x0 x1 x11 ih) n
def qlk (call : Ev.Call) (q157e0 : AV → Hp → R1) (x0 x1 x11 : AV) : AV → Hp → R1 := qfm call q157e0 x0 x1 x11 qbx
def qw3 (call : Ev.Call) (x0 x1 x2 x3 : AV) (H : Hp) : R1 :=
 dz 0 H fun b0 H =>
 dq false false 0 0 (b0 + 0) H [] [] (fun _ => .val x0) (some true) fun a1 H p w =>
 dq false false 1 0 (b0 + 1) H p w (fun _ => .val x1) (some true) fun a2 H p w =>
 dq false false 2 0 (b0 + 2) H p w (fun _ => .val x0) (some true) fun a3 H p w =>
 dq false false 3 0 (b0 + 3) H p w (fun _ => .val x3) (some true) fun a4 H p w =>
 dq false false 4 0 (b0 + 4) H p w (fun _ => .val x0) (some true) fun a5 H p w =>
 dq false false 5 0 (b0 + 5) H p w (fun _ => .val x3) (some true) fun a6 H p w =>
 dq false false 6 48 (b0 + 6) H p w (fun _ => idxS 1 a5 a6) (some true) fun a7 H p w =>
 dq true false 7 112 (b0 + 7) H p w (fun H => qaf H a7) (some true) fun a8 H p w =>
 dq false false 8 0 (b0 + 8) H p w (fun _ => .val x0) (some true) fun a9 H p w =>
 dq false false 9 0 (b0 + 9) H p w (fun _ => .val x1) (some true) fun a10 H p w =>
 dq false false 10 768 (b0 + 10) H p w (fun _ => idxS 1 a9 a10) (some true) fun a11 H p w =>
 dq true false 11 1792 (b0 + 11) H p w (fun H => qaf H a11) (some true) fun a12 H p w =>
 dq false false 12 4083 (b0 + 12) H p w (fun _ => idxS 1 a1 a2) (some true) fun a13 H p w =>
 de 8179 H p w (qao (qas 8179 p H) a13 a8) (some true) fun _ H p w =>
 dq false false 14 16383 (b0 + 14) H p w (fun _ => idxS 1 a3 a4) (some true) fun a15 H p w =>
 de 32767 H p w (qao (qas 32767 p H) a15 a12) (some true) fun _ H p w =>
 dz2 p H fun H =>
 vq (intV (qaa .add).f x1 (.int .i64 (.ofNat 1))) H fun a17 H =>
 vq (intV (qaa .sub).f x2 (.int .i64 (.ofNat 1))) H fun a18 H =>
 qlk call (fun x10 H => qea call x0 x1 x10 a18 H) x0 x1 a18 a17 H
def o_part (call : Ev.Call) (x0 x1 x2 x3 : AV) (H : Hp) : R1 := qw3 call x0 x1 x2 x3 H
def qn9 (call : Ev.Call) (g0 : AV → Hp → R1) (x0 x3 x8 x9 : AV) (H : Hp) : R1 :=
 dz 0 H fun b3 H =>
 dq false false 0 0 (b3 + 0) H [] [] (fun _ => .val x0) (some true) fun a4 H p w =>
 dq false false 1 0 (b3 + 1) H p w (fun _ => .val x3) (some true) fun a5 H p w =>
 dq false false 2 0 (b3 + 2) H p w (fun _ => .val x8) (some true) fun a6 H p w =>
 dq false false 3 6 (b3 + 3) H p w (fun _ => intV (qaa .add).f a5 a6) (some true) fun a7 H p w =>
 dq false false 4 0 (b3 + 4) H p w (fun _ => .val x0) (some true) fun a8 H p w =>
 dq false false 5 0 (b3 + 5) H p w (fun _ => .val x3) (some true) fun a9 H p w =>
 dq false false 6 0 (b3 + 6) H p w (fun _ => .val x9) (some true) fun a10 H p w =>
 dq false false 7 96 (b3 + 7) H p w (fun _ => intV (qaa .add).f a9 a10) (some true) fun a11 H p w =>
 dq false false 8 0 (b3 + 8) H p w (fun _ => .val x0) (some true) fun a12 H p w =>
 dq false false 9 0 (b3 + 9) H p w (fun _ => .val x3) (some true) fun a13 H p w =>
 dq false false 10 0 (b3 + 10) H p w (fun _ => .val x9) (some true) fun a14 H p w =>
 dq false false 11 1536 (b3 + 11) H p w (fun _ => intV (qaa .add).f a13 a14) (some true) fun a15 H p w =>
 dq false false 12 3840 (b3 + 12) H p w (fun _ => idxS 1 a12 a15) (some true) fun a16 H p w =>
 dq true false 13 7936 (b3 + 13) H p w (fun H => qaf H a16) (some true) fun a17 H p w =>
 dq false false 14 0 (b3 + 14) H p w (fun _ => .val x0) (some true) fun a18 H p w =>
 dq false false 15 0 (b3 + 15) H p w (fun _ => .val x3) (some true) fun a19 H p w =>
 dq false false 16 0 (b3 + 16) H p w (fun _ => .val x8) (some true) fun a20 H p w =>
 dq false false 17 98304 (b3 + 17) H p w (fun _ => intV (qaa .add).f a19 a20) (some true) fun a21 H p w =>
 dq false false 18 245760 (b3 + 18) H p w (fun _ => idxS 1 a18 a21) (some true) fun a22 H p w =>
 dq true false 19 507904 (b3 + 19) H p w (fun H => qaf H a22) (some true) fun a23 H p w =>
 dq false false 20 1048335 (b3 + 20) H p w (fun _ => idxS 1 a4 a7) (some true) fun a24 H p w =>
 de 2096911 H p w (qao (qas 2096911 p H) a24 a17) (some true) fun _ H p w =>
 dq false false 22 4194303 (b3 + 22) H p w (fun _ => idxS 1 a8 a11) (some true) fun a26 H p w =>
 de 8388607 H p w (qao (qas 8388607 p H) a26 a23) (some true) fun _ H p w =>
 dz2 p H fun H =>
 g0 x9 H
def qg0 (call : Ev.Call) (q0r : Hp → R1) (g0 : AV → Hp → R1) (x0 x3 x8 x9 : AV) (H : Hp) : R1 :=
 dz 0 H fun b29 H =>
 dq false false 0 0 (b29 + 0) H [] [] (fun _ => .val x0) (some true) fun a30 H p w =>
 dq false false 1 0 (b29 + 1) H p w (fun _ => .val x3) (some true) fun a31 H p w =>
 dq false false 2 0 (b29 + 2) H p w (fun _ => .val x8) (some true) fun a32 H p w =>
 dq false false 3 6 (b29 + 3) H p w (fun _ => intV (qaa .add).f a31 a32) (some true) fun a33 H p w =>
 dq false false 4 15 (b29 + 4) H p w (fun _ => idxS 1 a30 a33) (some true) fun a34 H p w =>
 dq true false 5 31 (b29 + 5) H p w (fun H => qaf H a34) (some true) fun a35 H p w =>
 dq false false 6 0 (b29 + 6) H p w (fun _ => .val x0) (some true) fun a36 H p w =>
 dq false false 7 0 (b29 + 7) H p w (fun _ => .val x3) (some true) fun a37 H p w =>
 dq false false 8 0 (b29 + 8) H p w (fun _ => .val x9) (some true) fun a38 H p w =>
 dq false false 9 384 (b29 + 9) H p w (fun _ => intV (qaa .add).f a37 a38) (some true) fun a39 H p w =>
 dq false false 10 960 (b29 + 10) H p w (fun _ => idxS 1 a36 a39) (some true) fun a40 H p w =>
 dq true false 11 1984 (b29 + 11) H p w (fun H => qaf H a40) (some true) fun a41 H p w =>
 de 4095 H p w (call (.f qb5) [a35, a41] (qas 4095 p H)) (some true) fun a42 H p w =>
 dq false false 13 8191 (b29 + 13) H p w (fun _ => (unS .not).f a42) (some true) fun a43 H p w =>
 dz2 p H fun H =>
 cd a43 (
 q0r H) (
 qn9 call g0 x0 x3 x8 x9 H)
def qn8 (call : Ev.Call) (q0r : Hp → R1) (g0 : AV → Hp → R1) (x0 x2 x3 x8 x9 : AV) (H : Hp) : R1 :=
 dz 0 H fun b45 H =>
 dq false false 0 0 (b45 + 0) H [] [] (fun _ => .val x9) (some true) fun a46 H p w =>
 dq false false 1 1 (b45 + 1) H p w (fun _ => intV (qaa .add).f a46 (.int .i64 (.ofNat 1))) (some true) fun a47 H p w =>
 dq false false 2 0 (b45 + 2) H p w (fun _ => .val x2) (some true) fun a48 H p w =>
 dq false false 3 7 (b45 + 3) H p w (fun _ => intV (qaa .lss).f a47 a48) (some true) fun a49 H p w =>
 dq false false 4 15 (b45 + 4) H p w (fun _ => .val a49) (some true) fun a50 H p w =>
 dq false false 5 31 (b45 + 5) H p w (fun _ => .val x0) (qad true a50) fun a51 H p w =>
 dq false false 6 31 (b45 + 6) H p w (fun _ => .val x3) (qad true a50) fun a52 H p w =>
 dq false false 7 31 (b45 + 7) H p w (fun _ => .val x9) (qad true a50) fun a53 H p w =>
 dq false false 8 223 (b45 + 8) H p w (fun _ => intV (qaa .add).f a52 a53) (qad true a50) fun a54 H p w =>
 dq false false 9 511 (b45 + 9) H p w (fun _ => idxS 1 a51 a54) (qad true a50) fun a55 H p w =>
 dq true false 10 1023 (b45 + 10) H p w (fun H => qaf H a55) (qad true a50) fun a56 H p w =>
 dq false false 11 31 (b45 + 11) H p w (fun _ => .val x0) (qad true a50) fun a57 H p w =>
 dq false false 12 31 (b45 + 12) H p w (fun _ => .val x3) (qad true a50) fun a58 H p w =>
 dq false false 13 31 (b45 + 13) H p w (fun _ => .val x9) (qad true a50) fun a59 H p w =>
 dq false false 14 12319 (b45 + 14) H p w (fun _ => intV (qaa .add).f a58 a59) (qad true a50) fun a60 H p w =>
 dq false false 15 28703 (b45 + 15) H p w (fun _ => intV (qaa .add).f a60 (.int .i64 (.ofNat 1))) (qad true a50) fun a61 H p w =>
 dq false false 16 63519 (b45 + 16) H p w (fun _ => idxS 1 a57 a61) (qad true a50) fun a62 H p w =>
 dq true false 17 129055 (b45 + 17) H p w (fun H => qaf H a62) (qad true a50) fun a63 H p w =>
 de 262143 H p w (call (.f qb5) [a56, a63] (qas 262143 p H)) (qad true a50) fun a64 H p w =>
 dq false false 19 524287 (b45 + 19) H p w (fun _ => qb6 a50 a64 (.bool false)) (some true) fun a65 H p w =>
 dz2 p H fun H =>
 cd a65 (
 vq (intV (qaa .add).f x9 (.int .i64 (.ofNat 1))) H fun a66 H =>
 qg0 call q0r g0 x0 x3 x8 a66 H) (
 qg0 call q0r g0 x0 x3 x8 x9 H)
def qsd (call : Ev.Call) (q0e0 : Hp → R1) (q0r : Hp → R1) (x0 x2 x3 : AV) (g0 : AV → Hp → R1) (x8 : AV) (H : Hp) : R1 :=
 vq (intV (qaa .mul).f (.int .i64 (.ofNat 2)) x8) H fun a1 H =>
 vq (intV (qaa .add).f a1 (.int .i64 (.ofNat 1))) H fun a2 H =>
 vq (intV (qaa .geq).f a2 x2) H fun a68 H =>
 cd a68 (
 q0e0 H) (
 qn8 call q0r g0 x0 x2 x3 x8 a2 H)
def qfj (call : Ev.Call) (q0e0 : Hp → R1) (q0r : Hp → R1) (x0 x2 x3 : AV) (n : Nat) : AV → Hp → R1 :=
 Nat.rec (motive := fun _ => AV → Hp → R1) (fun _ _ => .bad) (fun _ ih => qsd call q0e0 q0r x0 x2 x3 ih) n
def qse (call : Ev.Call) (q0e0 : Hp → R1) (q0r : Hp → R1) (x0 x2 x3 : AV) : AV → Hp → R1 := qfj call q0e0 q0r x0 x2 x3 qbx
def qwy (call : Ev.Call) (x0 x1 x2 x3 : AV) (H : Hp) : R1 :=
 qse call (fun H => .ok (.tup []) H) (fun H => .ok (.tup []) H) x0 x2 x3 x1 H
def o_sift (call : Ev.Call) (x0 x1 x2 x3 : AV) (H : Hp) : R1 := qwy call x0 x1 x2 x3 H
def qop (call : Ev.Call) (x0 x1 x2 : AV) (H : Hp) : R1 :=
 vq (intV (qaa .sub).f x1 (.int .i64 (.ofNat 1))) H fun a0 H =>
 vq (intV (qaa .add).f x1 (.int .i64 (.ofNat 1))) H fun a1 H =>
 ve (call (.f qmu) [x0, a0, x1, a1, x2] H) fun a2 H =>
 .ok a2 H
def o_medadj (call : Ev.Call) (x0 x1 x2 : AV) (H : Hp) : R1 := qop call x0 x1 x2 H
def q2d (call : Ev.Call) (x0 x1 x2 x3 x4 : AV) (H : Hp) : R1 :=
 ve (call (.f qg9) [x0, x1, x2, x4] H) fun a0 H =>
 vq (extr 0 a0) H fun a1 H =>
 vq (extr 1 a0) H fun a2 H =>
 ve (call (.f qg9) [x0, a2, x3, x4] H) fun a3 H =>
 vq (extr 0 a3) H fun a4 H =>
 vq (extr 1 a3) H fun a5 H =>
 ve (call (.f qg9) [x0, a1, a4, x4] H) fun a6 H =>
 vq (extr 0 a6) H fun a7 H =>
 vq (extr 1 a6) H fun a8 H =>
 .ok a8 H
def o_med (call : Ev.Call) (x0 x1 x2 x3 x4 : AV) (H : Hp) : R1 := q2d call x0 x1 x2 x3 x4 H
def qsr (call : Ev.Call) (x1 x2 : AV) (H : Hp) : R1 :=
 .ok (.tup [x1, x2]) H
def qw4 (call : Ev.Call) (x0 x1 x2 x3 : AV) (H : Hp) : R1 :=
 dz 0 H fun b1 H =>
 dq false false 0 0 (b1 + 0) H [] [] (fun _ => .val x0) (some true) fun a2 H p w =>
 dq false false 1 0 (b1 + 1) H p w (fun _ => .val x2) (some true) fun a3 H p w =>
 dq false false 2 3 (b1 + 2) H p w (fun _ => idxS 1 a2 a3) (some true) fun a4 H p w =>
 dq true false 3 7 (b1 + 3) H p w (fun H => qaf H a4) (some true) fun a5 H p w =>
 dq false false 4 0 (b1 + 4) H p w (fun _ => .val x0) (some true) fun a6 H p w =>
 dq false false 5 0 (b1 + 5) H p w (fun _ => .val x1) (some true) fun a7 H p w =>
 dq false false 6 48 (b1 + 6) H p w (fun _ => idxS 1 a6 a7) (some true) fun a8 H p w =>
 dq true false 7 112 (b1 + 7) H p w (fun H => qaf H a8) (some true) fun a9 H p w =>
 de 255 H p w (call (.f qb5) [a5, a9] (qas 255 p H)) (some true) fun a10 H p w =>
 dz2 p H fun H =>
 cd a10 (
 vq (nilC x3) H fun a11 H =>
 vq (qaf H a11) H fun a12 H =>
 vq (intV (qaa .add).f a12 (.int .i64 (.ofNat 1))) H fun a13 H =>
 vq (nilC x3) H fun a14 H =>
 ve (qao H a14 a13) fun _ H =>
 .ok (.tup [x2, x1]) H) (
 qsr call x1 x2 H)
def o_ord2 (call : Ev.Call) (x0 x1 x2 x3 : AV) (H : Hp) : R1 := qw4 call x0 x1 x2 x3 H
end Go.Di
end
noncomputable section
namespace Go.Di
open Go.Ev
structure LnkO (c d : Ev.Call) : Prop where
 o_Sort : ∀ (x0 : AV) (H : Hp), c (.f qes) [x0] H = Di.o_Sort d x0 H
 o_Compact : ∀ (x0 : AV) (H : Hp), c (.f qf5) [x0] H = Di.o_Compact d x0 H
 o_pdq : ∀ (x0 x1 x2 x3 : AV) (H : Hp), c (.f qhz) [x0, x1, x2, x3] H = Di.o_pdq d x0 x1 x2 x3 H
 o_ins : ∀ (x0 x1 x2 : AV) (H : Hp), c (.f qmv) [x0, x1, x2] H = Di.o_ins d x0 x1 x2 H
 o_heap : ∀ (x0 x1 x2 : AV) (H : Hp), c (.f qmw) [x0, x1, x2] H = Di.o_heap d x0 x1 x2 H
 o_brk : ∀ (x0 x1 x2 : AV) (H : Hp), c (.f qqn) [x0, x1, x2] H = Di.o_brk d x0 x1 x2 H
 o_piv : ∀ (x0 x1 x2 : AV) (H : Hp), c (.f qql) [x0, x1, x2] H = Di.o_piv d x0 x1 x2 H
 o_rev : ∀ (x0 x1 x2 : AV) (H : Hp), c (.f qqk) [x0, x1, x2] H = Di.o_rev d x0 x1 x2 H
 o_pins : ∀ (x0 x1 x2 : AV) (H : Hp), c (.f qjh) [x0, x1, x2] H = Di.o_pins d x0 x1 x2 H
 o_less : ∀ (x0 x1 : AV) (H : Hp), c (.f qb5) [x0, x1] H = Di.o_less d x0 x1 H
 o_peq : ∀ (x0 x1 x2 x3 : AV) (H : Hp), c (.f qqm) [x0, x1, x2, x3] H = Di.o_peq d x0 x1 x2 x3 H
 o_part : ∀ (x0 x1 x2 x3 : AV) (H : Hp), c (.f qmt) [x0, x1, x2, x3] H = Di.o_part d x0 x1 x2 x3 H
 o_sift : ∀ (x0 x1 x2 x3 : AV) (H : Hp), c (.f qjg) [x0, x1, x2, x3] H = Di.o_sift d x0 x1 x2 x3 H
 o_medadj : ∀ (x0 x1 x2 : AV) (H : Hp), c (.f qef) [x0, x1, x2] H = Di.o_medadj d x0 x1 x2 H
 o_med : ∀ (x0 x1 x2 x3 x4 : AV) (H : Hp), c (.f qmu) [x0, x1, x2, x3, x4] H = Di.o_med d x0 x1 x2 x3 x4 H
 o_ord2 : ∀ (x0 x1 x2 x3 : AV) (H : Hp), c (.f qg9) [x0, x1, x2, x3] H = Di.o_ord2 d x0 x1 x2 x3 H
abbrev qdj (C : Nat → Ev.Call) : Prop := ∀ k, LnkO (C (k + 1)) (C k)
end Go.Di
end
