/-
  For countersignlaw17.CompsCondense: the functions of the law in direct style (printed by a program). No conditions beyond those that each theorem states.
-/
import Derived.Test.YtmdpdlnabcmlmaaEv4
import Derived.Test.YtmdpdlnabcmlmaaGraB
set_option linter.unusedSimpArgs false
set_option linter.unusedVariables false
noncomputable section
namespace Go.Di
open Go.Ev
set_option linter.unusedVariables false
def zcq : FuncId := 4
def qs0 : FuncId := 8
def qvq : FuncId := 9
def qof : FuncId := 16
def qob : FuncId := 18
def qvp : FuncId := 17
def qqf : FuncId := 10
def qoe : FuncId := 19
def qvo : FuncId := 11
def qc7 : FuncId := 15
def qkq : FuncId := 24
def qoa : FuncId := 25
def qod : FuncId := 32
def qn9 : FuncId := 31
def ql5 : FuncId := 33
def qs2 : FuncId := 23
def qjr : FuncId := 27
def qs3 : FuncId := 26
def qsw : FuncId := 28
def qjq : FuncId := 29
def qn8 : FuncId := 34
def ql6 : FuncId := 22
def qsz : FuncId := 38
def qsy : FuncId := 39
def qst : FuncId := 45
def qs1 : FuncId := 37
def ql8 : FuncId := 43
def qir : FuncId := 41
def qhc : FuncId := 42
def qkr : FuncId := 49
def qoc : FuncId := 50
def q0k : FuncId := 48
def qhf : FuncId := 52
def qf3 : FuncId := 53
def qis : FuncId := 65
def qsu : FuncId := 74
def qyf : FuncId := 76
def qss : FuncId := 75
def qdy : FuncId := 86
def qsv : FuncId := 85
def qsx : FuncId := 89
def qcw : FuncId := 40
def qjp : FuncId := 47
def qgn : FuncId := 51
def q2o : FuncId := 63
def qkp : FuncId := 64
def qjo : FuncId := 66
def q6x : FuncId := 67
def za1 : FuncId := 68
def zaz : FuncId := 69
def zay : FuncId := 70
def q6v : FuncId := 71
def za0 : FuncId := 72
def q6w : FuncId := 73
def qhe : FuncId := 35
def qhy : FuncId := 46
def ql7 : FuncId := 54
def q61 : FuncId := 55
def za5 : FuncId := 56
def za3 : FuncId := 57
def za2 : FuncId := 58
def q6y : FuncId := 59
def qhd : FuncId := 60
def za4 : FuncId := 61
def q60 : FuncId := 62
def qb1 (call : Ev.Call) (x1 x14 x15 x16 x18 : AV) (H : Hp) : R1 :=
  vq (idxS 1 x16 x1) H fun a1 H =>
  vq (qaf H a1) H fun a2 H =>
  vq (qb5 a2) H fun a3 H =>
  vq (intV (qaa .eql).f a3 (.int .i64 (.ofNat 1))) H fun a4 H =>
  vg (qac true a4) (.val x18) H fun a5 H =>
  vg (qac true a4) ((unS .not).f a5) H fun a6 H =>
  vq (qck a4 a6 (.bool false)) H fun a7 H =>
  vq (qj1 false ((⟨E2.f ⟨qgz⟩⟩ : E2).f x14 a7)) H fun a8 H =>
  vg (qac true a8) (.val x15) H fun a9 H =>
  vg (qac true a8) (intV (qaa .eql).f a9 (.int .i64 (.ofNat 0))) H fun a10 H =>
  vq (qck a8 a10 (.bool false)) H fun a11 H =>
  veg (qac true a11) (call (.f qc7) [] H) H fun a12 H =>
  vq (qck a11 a12 (.bool false)) H fun a13 H =>
  .ok a13 H
def qso : Ev.Call → AV → AV → AV → AV → AV → Hp → R1 := Classical.choose (⟨qb1, rfl⟩ : ∃ f, f = qb1)
theorem qqc : qso = qb1 := Classical.choose_spec (⟨qb1, rfl⟩ : ∃ f, f = qb1)
def qb0 (call : Ev.Call) (x1 x5 x14 x15 x16 : AV) (H : Hp) : R1 :=
  vl (qae 1 x5) fun a15 =>
  vl (qaf H a15) fun a16 =>
  vl (idxS 1 x16 x1) fun a17 =>
  vl (qaf H a17) fun a18 =>
  vl (idxS 1 a18 (.int .i64 (.ofNat 0))) fun a19 =>
  vl (qaf H a19) fun a20 =>
  vl (qae 0 x5) fun a21 =>
  vl (qaf H a21) fun a22 =>
  vl (intV (qaa .mul).f a20 a22) fun a23 =>
  vl (idxS 1 x16 x1) fun a24 =>
  vl (qaf H a24) fun a25 =>
  vl (idxS 1 a25 (.int .i64 (.ofNat 0))) fun a26 =>
  vl (qaf H a26) fun a27 =>
  vl (intV (qaa .add).f a23 a27) fun a28 =>
  vl (idxS 1 a16 a28) fun a29 =>
  vl (qaf H a29) fun a30 =>
  vl (intV (qaa .gtr).f a30 (.int .i64 (.ofNat 0))) fun a31 =>
  qso call x1 x14 x15 x16 a31 H
def qsn : Ev.Call → AV → AV → AV → AV → AV → Hp → R1 := Classical.choose (⟨qb0, rfl⟩ : ∃ f, f = qb0)
theorem qqb : qsn = qb0 := Classical.choose_spec (⟨qb0, rfl⟩ : ∃ f, f = qb0)
def qbz (call : Ev.Call) (x1 x5 x14 x15 x16 x119 : AV) (H : Hp) : R1 :=
  cd x119 (
  vq ((unS .not).f x14) H fun a33 H =>
  vg (qac true a33) (.val x15) H fun a34 H =>
  vg (qac true a33) (intV (qaa .eql).f a34 (.int .i64 (.ofNat 4))) H fun a35 H =>
  vq (qck a33 a35 (.bool false)) H fun a36 H =>
  veg (qac true a36) (call (.f qc7) [] H) H fun a37 H =>
  vq (qck a36 a37 (.bool false)) H fun a38 H =>
  .ok a38 H) (
  qsn call x1 x5 x14 x15 x16 H)
def qsm : Ev.Call → AV → AV → AV → AV → AV → AV → Hp → R1 := Classical.choose (⟨qbz, rfl⟩ : ∃ f, f = qbz)
theorem qqa : qsm = qbz := Classical.choose_spec (⟨qbz, rfl⟩ : ∃ f, f = qbz)
def qby (call : Ev.Call) (x1 x5 x14 x15 x16 : AV) (H : Hp) : R1 :=
  vq (intV (qaa .lss).f x1 (.int .i64 (.ofNat 0))) H fun a40 H =>
  vg (qac false a40) (.val x1) H fun a41 H =>
  vg (qac false a40) (.val x16) H fun a42 H =>
  vg (qac false a40) (qb5 a42) H fun a43 H =>
  vg (qac false a40) (intV (qaa .geq).f a41 a43) H fun a44 H =>
  vq (qck a40 (.bool true) a44) H fun a45 H =>
  qsm call x1 x5 x14 x15 x16 a45 H
def qsl : Ev.Call → AV → AV → AV → AV → AV → Hp → R1 := Classical.choose (⟨qby, rfl⟩ : ∃ f, f = qby)
theorem qp9 : qsl = qby := Classical.choose_spec (⟨qby, rfl⟩ : ∃ f, f = qby)
def qbx (call : Ev.Call) (x1 x5 x14 x15 x16 x111 : AV) (H : Hp) : R1 :=
  cd x111 (
  .ok (.bool false) H) (
  qsl call x1 x5 x14 x15 x16 H)
def qsk : Ev.Call → AV → AV → AV → AV → AV → AV → Hp → R1 := Classical.choose (⟨qbx, rfl⟩ : ∃ f, f = qbx)
theorem qp8 : qsk = qbx := Classical.choose_spec (⟨qbx, rfl⟩ : ∃ f, f = qbx)
def qbw (call : Ev.Call) (x1 x5 x8 x13 x14 x15 x16 : AV) (H : Hp) : R1 :=
  dz 0 H fun b48 H =>
  dq false false 0 0 (b48 + 0) H [] [] (fun _ => .val x8) (some true) fun a49 H p w =>
  dq false false 1 1 (b48 + 1) H p w (fun _ => intV (qaa .neq).f a49 (.int .i64 (.ofNat 0))) (some true) fun a50 H p w =>
  dq false false 2 3 (b48 + 2) H p w (fun _ => .val a50) (some true) fun a51 H p w =>
  dq true false 3 7 (b48 + 3) H p w (fun H => qcb 2 H x13) (qac false a51) fun a52 H p w =>
  dq true false 4 7 (b48 + 4) H p w (fun H => qcb 2 H x5) (qac false a51) fun a53 H p w =>
  de 23 H p w (call (.f qob) [a53] (qb7 23 p H)) (qac false a51) fun a54 H p w =>
  de 63 H p w (call (.f qvp) [a52, a54] (qb7 63 p H)) (qac false a51) fun a55 H p w =>
  dq false false 7 127 (b48 + 7) H p w (fun _ => (unS .not).f a55) (qac false a51) fun a56 H p w =>
  dq false false 8 255 (b48 + 8) H p w (fun _ => qck a51 (.bool true) a56) (some true) fun a57 H p w =>
  dz2 p H fun H =>
  qsk call x1 x5 x14 x15 x16 a57 H
def qsj : Ev.Call → AV → AV → AV → AV → AV → AV → AV → Hp → R1 := Classical.choose (⟨qbw, rfl⟩ : ∃ f, f = qbw)
theorem qp7 : qsj = qbw := Classical.choose_spec (⟨qbw, rfl⟩ : ∃ f, f = qbw)
def qbv (call : Ev.Call) (x1 x5 x8 x13 x14 x15 : AV) (H : Hp) : R1 :=
  vq (qcb 2 H x5) H fun a59 H =>
  ve (call (.f qvo) [a59] H) fun a60 H =>
  vq (extr 0 a60) H fun a61 H =>
  vq (extr 1 a60) H fun a62 H =>
  qsj call x1 x5 x8 x13 x14 x15 a61 H
def qsi : Ev.Call → AV → AV → AV → AV → AV → AV → Hp → R1 := Classical.choose (⟨qbv, rfl⟩ : ∃ f, f = qbv)
theorem qp6 : qsi = qbv := Classical.choose_spec (⟨qbv, rfl⟩ : ∃ f, f = qbv)
def qbu (call : Ev.Call) (x1 x5 x6 x8 x13 : AV) (H : Hp) : R1 :=
  vq (qcb 2 H x6) H fun a64 H =>
  ve (call (.f qoe) [a64, x1] H) fun a65 H =>
  vq (extr 0 a65) H fun a66 H =>
  vq (extr 1 a65) H fun a67 H =>
  qsi call x1 x5 x8 x13 a66 a67 H
def qsh : Ev.Call → AV → AV → AV → AV → AV → Hp → R1 := Classical.choose (⟨qbu, rfl⟩ : ∃ f, f = qbu)
theorem qp5 : qsh = qbu := Classical.choose_spec (⟨qbu, rfl⟩ : ∃ f, f = qbu)
def qbt (call : Ev.Call) (x1 x5 x6 x7 : AV) (H : Hp) : R1 :=
  vq (qcb 2 H x7) H fun a69 H =>
  ve (call (.f qof) [a69] H) fun a70 H =>
  vq (extr 0 a70) H fun a71 H =>
  vq (extr 1 a70) H fun a72 H =>
  vq (.new (.ptr H.nx 0) (qab 0 [.int .i64 (.ofNat 0), .nilsl])) H fun a73 H =>
  ve (qcm 2 H a73 a71) fun _ H =>
  qsh call x1 x5 x6 a72 a73 H
def qc9 : Ev.Call → AV → AV → AV → AV → Hp → R1 := Classical.choose (⟨qbt, rfl⟩ : ∃ f, f = qbt)
theorem qp4 : qc9 = qbt := Classical.choose_spec (⟨qbt, rfl⟩ : ∃ f, f = qbt)
def qbs (call : Ev.Call) (g76 : AV → Hp → R1) (x10 : AV) (H : Hp) : R1 :=
  vq (intV (qaa .add).f x10 (.int .i64 (.ofNat 1))) H fun a77 H =>
  g76 a77 H
def qsg : Ev.Call → (AV → Hp → R1) → AV → Hp → R1 := Classical.choose (⟨qbs, rfl⟩ : ∃ f, f = qbs)
theorem qp3 : qsg = qbs := Classical.choose_spec (⟨qbs, rfl⟩ : ∃ f, f = qbs)
def qbr (call : Ev.Call) (q76r : AV → Hp → R1) (g76 : AV → Hp → R1) (x10 x86 : AV) (H : Hp) : R1 :=
  cd x86 (
  q76r (.bool false) H) (
  qsg call g76 x10 H)
def qsf : Ev.Call → (AV → Hp → R1) → (AV → Hp → R1) → AV → AV → Hp → R1 := Classical.choose (⟨qbr, rfl⟩ : ∃ f, f = qbr)
theorem qp2 : qsf = qbr := Classical.choose_spec (⟨qbr, rfl⟩ : ∃ f, f = qbr)
def qbq (call : Ev.Call) (q76r : AV → Hp → R1) (g76 : AV → Hp → R1) (x9 x10 x11 x12 : AV) (H : Hp) : R1 :=
  vq ((unS .not).f x11) H fun a80 H =>
  vg (qac false a80) (.val x12) H fun a81 H =>
  vg (qac false a80) (intV (qaa .neq).f a81 (.int .i64 (.ofNat 0))) H fun a82 H =>
  vq (qck a80 (.bool true) a82) H fun a83 H =>
  vg (qac false a83) (qae 1 x9) H fun a84 H =>
  vg (qac false a83) (qaf H a84) H fun a85 H =>
  vg (qac false a83) (.val x10) H fun a86 H =>
  vg (qac false a83) (idxS 1 a85 a86) H fun a87 H =>
  vg (qac false a83) (qaf H a87) H fun a88 H =>
  vg (qac false a83) (.val x10) H fun a89 H =>
  vg (qac false a83) (intV (qaa .neq).f a88 a89) H fun a90 H =>
  vq (qck a83 (.bool true) a90) H fun a91 H =>
  qsf call q76r g76 x10 a91 H
def qse : Ev.Call → (AV → Hp → R1) → (AV → Hp → R1) → AV → AV → AV → AV → Hp → R1 := Classical.choose (⟨qbq, rfl⟩ : ∃ f, f = qbq)
theorem qp1 : qse = qbq := Classical.choose_spec (⟨qbq, rfl⟩ : ∃ f, f = qbq)
def qbp (call : Ev.Call) (q76r : AV → Hp → R1) (g76 : AV → Hp → R1) (x7 x9 x10 : AV) (H : Hp) : R1 :=
  vq (qcb 2 H x7) H fun a93 H =>
  ve (call (.f qoe) [a93, x10] H) fun a94 H =>
  vq (extr 0 a94) H fun a95 H =>
  vq (extr 1 a94) H fun a96 H =>
  qse call q76r g76 x9 x10 a95 a96 H
def qsd : Ev.Call → (AV → Hp → R1) → (AV → Hp → R1) → AV → AV → AV → Hp → R1 := Classical.choose (⟨qbp, rfl⟩ : ∃ f, f = qbp)
theorem qp0 : qsd = qbp := Classical.choose_spec (⟨qbp, rfl⟩ : ∃ f, f = qbp)
def qbo (call : Ev.Call) (q76r : AV → Hp → R1) (g76 : AV → Hp → R1) (q76e0 : Hp → R1) (x7 x9 x10 x63 : AV) (H : Hp) : R1 :=
  cd x63 (
  qsd call q76r g76 x7 x9 x10 H) (
  q76e0 H)
def qsc : Ev.Call → (AV → Hp → R1) → (AV → Hp → R1) → (Hp → R1) → AV → AV → AV → AV → Hp → R1 := Classical.choose (⟨qbo, rfl⟩ : ∃ f, f = qbo)
theorem qpz : qsc = qbo := Classical.choose_spec (⟨qbo, rfl⟩ : ∃ f, f = qbo)
def qx6 (call : Ev.Call) (q76r : AV → Hp → R1) (q76e0 : Hp → R1) (x7 x9 : AV) (g76 : AV → Hp → R1) (x10 : AV) (H : Hp) : R1 :=
  vq (qae 0 x7) H fun a99 H =>
  vq (qaf H a99) H fun a100 H =>
  vq (intV (qaa .lss).f x10 a100) H fun a101 H =>
  qsc call q76r g76 q76e0 x7 x9 x10 a101 H
def qdx (call : Ev.Call) (q76r : AV → Hp → R1) (q76e0 : Hp → R1) (x7 x9 : AV) (n : Nat) : AV → Hp → R1 :=
  Nat.rec (motive := fun _ => AV → Hp → R1) (fun _ _ => .bad) (fun _ ih => qx6 call q76r q76e0 x7 x9 ih) n
def qx7 (call : Ev.Call) (q76r : AV → Hp → R1) (q76e0 : Hp → R1) (x7 x9 : AV) : AV → Hp → R1 := qdx call q76r q76e0 x7 x9 qcn
def qa8 (call : Ev.Call) (x1 x5 x6 x7 x9 : AV) (H : Hp) : R1 :=
  qx7 call (fun x4 H => .ok x4 H) (fun H => qc9 call x1 x5 x6 x7 H) x7 x9 (.int .i64 (.ofNat 0)) H
def ql4 : Ev.Call → AV → AV → AV → AV → AV → Hp → R1 := Classical.choose (⟨qa8, rfl⟩ : ∃ f, f = qa8)
theorem qn3 : ql4 = qa8 := Classical.choose_spec (⟨qa8, rfl⟩ : ∃ f, f = qa8)
def qa7 (call : Ev.Call) (x1 x5 x6 x7 x9 x59 : AV) (H : Hp) : R1 :=
  cd x59 (
  .ok (.bool false) H) (
  ql4 call x1 x5 x6 x7 x9 H)
def ql3 : Ev.Call → AV → AV → AV → AV → AV → AV → Hp → R1 := Classical.choose (⟨qa7, rfl⟩ : ∃ f, f = qa7)
theorem qn2 : ql3 = qa7 := Classical.choose_spec (⟨qa7, rfl⟩ : ∃ f, f = qa7)
def qa6 (call : Ev.Call) (x1 x5 x6 x7 x8 x9 : AV) (H : Hp) : R1 :=
  vq (intV (qaa .neq).f x8 (.int .i64 (.ofNat 0))) H fun a104 H =>
  vg (qac false a104) (qae 0 x9) H fun a105 H =>
  vg (qac false a104) (qaf H a105) H fun a106 H =>
  vg (qac false a104) (qb5 a106) H fun a107 H =>
  vg (qac false a104) (qae 0 x7) H fun a108 H =>
  vg (qac false a104) (qaf H a108) H fun a109 H =>
  vg (qac false a104) (intV (qaa .neq).f a107 a109) H fun a110 H =>
  vq (qck a104 (.bool true) a110) H fun a111 H =>
  vg (qac false a111) (qae 1 x9) H fun a112 H =>
  vg (qac false a111) (qaf H a112) H fun a113 H =>
  vg (qac false a111) (qb5 a113) H fun a114 H =>
  vg (qac false a111) (qae 0 x7) H fun a115 H =>
  vg (qac false a111) (qaf H a115) H fun a116 H =>
  vg (qac false a111) (intV (qaa .neq).f a114 a116) H fun a117 H =>
  vq (qck a111 (.bool true) a117) H fun a118 H =>
  ql3 call x1 x5 x6 x7 x9 a118 H
def ql2 : Ev.Call → AV → AV → AV → AV → AV → AV → Hp → R1 := Classical.choose (⟨qa6, rfl⟩ : ∃ f, f = qa6)
theorem qn1 : ql2 = qa6 := Classical.choose_spec (⟨qa6, rfl⟩ : ∃ f, f = qa6)
def qa5 (call : Ev.Call) (x1 x5 x6 x7 : AV) (H : Hp) : R1 :=
  vq (qcb 2 H x7) H fun a120 H =>
  ve (call (.f qqf) [a120] H) fun a121 H =>
  vq (extr 0 a121) H fun a122 H =>
  vq (extr 1 a121) H fun a123 H =>
  vq (.new (.ptr H.nx 0) (qab 0 [.nilsl, .nilsl])) H fun a124 H =>
  ve (qcm 2 H a124 a122) fun _ H =>
  ql2 call x1 x5 x6 x7 a123 a124 H
def ql1 : Ev.Call → AV → AV → AV → AV → Hp → R1 := Classical.choose (⟨qa5, rfl⟩ : ∃ f, f = qa5)
theorem qn0 : ql1 = qa5 := Classical.choose_spec (⟨qa5, rfl⟩ : ∃ f, f = qa5)
def qa4 (call : Ev.Call) (x1 x5 x6 x7 x36 : AV) (H : Hp) : R1 :=
  cd x36 (
  .ok (.bool false) H) (
  ql1 call x1 x5 x6 x7 H)
def ql0 : Ev.Call → AV → AV → AV → AV → AV → Hp → R1 := Classical.choose (⟨qa4, rfl⟩ : ∃ f, f = qa4)
theorem qnz : ql0 = qa4 := Classical.choose_spec (⟨qa4, rfl⟩ : ∃ f, f = qa4)
def qa3 (call : Ev.Call) (x1 x5 x6 x7 x8 : AV) (H : Hp) : R1 :=
  dz 0 H fun b128 H =>
  dq false false 0 0 (b128 + 0) H [] [] (fun _ => .val x8) (some true) fun a129 H p w =>
  dq false false 1 1 (b128 + 1) H p w (fun _ => intV (qaa .neq).f a129 (.int .i64 (.ofNat 0))) (some true) fun a130 H p w =>
  dq false false 2 3 (b128 + 2) H p w (fun _ => .val a130) (some true) fun a131 H p w =>
  dq true false 3 7 (b128 + 3) H p w (fun H => qcb 2 H x7) (qac false a131) fun a132 H p w =>
  dq true false 4 7 (b128 + 4) H p w (fun H => qcb 2 H x5) (qac false a131) fun a133 H p w =>
  de 23 H p w (call (.f qob) [a133] (qb7 23 p H)) (qac false a131) fun a134 H p w =>
  de 63 H p w (call (.f qvp) [a132, a134] (qb7 63 p H)) (qac false a131) fun a135 H p w =>
  dq false false 7 127 (b128 + 7) H p w (fun _ => (unS .not).f a135) (qac false a131) fun a136 H p w =>
  dq false false 8 255 (b128 + 8) H p w (fun _ => qck a131 (.bool true) a136) (some true) fun a137 H p w =>
  dz2 p H fun H =>
  ql0 call x1 x5 x6 x7 a137 H
def qlz : Ev.Call → AV → AV → AV → AV → AV → Hp → R1 := Classical.choose (⟨qa3, rfl⟩ : ∃ f, f = qa3)
theorem qny : qlz = qa3 := Classical.choose_spec (⟨qa3, rfl⟩ : ∃ f, f = qa3)
def qa2 (call : Ev.Call) (x1 x5 x6 : AV) (H : Hp) : R1 :=
  vq (qcb 2 H x6) H fun a139 H =>
  ve (call (.f qof) [a139] H) fun a140 H =>
  vq (extr 0 a140) H fun a141 H =>
  vq (extr 1 a140) H fun a142 H =>
  vq (.new (.ptr H.nx 0) (qab 0 [.int .i64 (.ofNat 0), .nilsl])) H fun a143 H =>
  ve (qcm 2 H a143 a141) fun _ H =>
  qlz call x1 x5 x6 a143 a142 H
def qly : Ev.Call → AV → AV → AV → Hp → R1 := Classical.choose (⟨qa2, rfl⟩ : ∃ f, f = qa2)
theorem qnx : qly = qa2 := Classical.choose_spec (⟨qa2, rfl⟩ : ∃ f, f = qa2)
def qa1 (call : Ev.Call) (x1 x5 : AV) (H : Hp) : R1 :=
  vq (qcb 2 H x5) H fun a146 H =>
  ve (call (.f qvq) [a146] H) fun a147 H =>
  vq (.new (.ptr H.nx 0) (qab 0 [.int .i64 (.ofNat 0), .nilsl])) H fun a148 H =>
  ve (qcm 2 H a148 a147) fun _ H =>
  qly call x1 x5 a148 H
def qlx : Ev.Call → AV → AV → Hp → R1 := Classical.choose (⟨qa1, rfl⟩ : ∃ f, f = qa1)
theorem qnw : qlx = qa1 := Classical.choose_spec (⟨qa1, rfl⟩ : ∃ f, f = qa1)
def zec (call : Ev.Call) (x0 x1 : AV) (H : Hp) : R1 :=
  vq (boxA 2 H.nx x0) H fun a0 H =>
  vq (qcb 2 H a0) H fun a151 H =>
  ve (call (.f qs0) [a151] H) fun a152 H =>
  vq (.new (.ptr H.nx 0) (qab 0 [.int .i64 (.ofNat 0), .nilsl])) H fun a153 H =>
  ve (qcm 2 H a153 a152) fun _ H =>
  qlx call x1 a153 H
def lwD (call : Ev.Call) (x0 x1 : AV) (H : Hp) : R1 := zec call x0 x1 H
def qit (call : Ev.Call) (x2 x3 x4 : AV) (H : Hp) : R1 :=
  ve (call (.f qkq) [x3, x4] H) fun a6 H =>
  ve (qcm 2 H x2 a6) fun _ H =>
  finR (rV (qcb 2 H x2)) H
def qs6 (call : Ev.Call) (g9 : AV → AV → Hp → R1) (x4 x5 : AV) (H : Hp) : R1 :=
  vq (intV (qaa .add).f x5 (.int .i64 (.ofNat 1))) H fun a10 H =>
  g9 x4 a10 H
def qs5 (call : Ev.Call) (g9 : AV → AV → Hp → R1) (x1 x3 x4 x5 : AV) (H : Hp) : R1 :=
  dz 31 H fun b12 H =>
  dq false false 0 0 (b12 + 0) H [] [] (fun _ => .val x4) (some true) fun a13 H p w =>
  dq false false 1 0 (b12 + 1) H p w (fun _ => qae 1 x1) (some true) fun a14 H p w =>
  dq true false 2 2 (b12 + 2) H p w (fun H => qaf H a14) (some true) fun a15 H p w =>
  dq false false 3 0 (b12 + 3) H p w (fun _ => .val x5) (some true) fun a16 H p w =>
  dq false false 4 14 (b12 + 4) H p w (fun _ => idxS 3 a15 a16) (some true) fun a17 H p w =>
  dq false false 5 30 (b12 + 5) H p w (fun _ => idxA 3 1 a17 (.int .i64 (.ofNat 0))) (some true) fun a18 H p w =>
  dq true false 6 62 (b12 + 6) H p w (fun H => qaf H a18) (some true) fun a19 H p w =>
  dq false true 7 126 (b12 + 7) H p w (fun _ => qh6 .i64 a19) (some true) fun a20 H p w =>
  dq false false 8 0 (b12 + 8) H p w (fun _ => .val x3) (some true) fun a21 H p w =>
  dq false false 9 510 (b12 + 9) H p w (fun _ => intV (qaa .rem).f a20 a21) (some true) fun a22 H p w =>
  dq false false 10 0 (b12 + 10) H p w (fun _ => qae 1 x1) (some true) fun a23 H p w =>
  dq true false 11 1024 (b12 + 11) H p w (fun H => qaf H a23) (some true) fun a24 H p w =>
  dq false false 12 0 (b12 + 12) H p w (fun _ => .val x5) (some true) fun a25 H p w =>
  dq false false 13 7168 (b12 + 13) H p w (fun _ => idxS 3 a24 a25) (some true) fun a26 H p w =>
  dq false false 14 15360 (b12 + 14) H p w (fun _ => idxA 3 1 a26 (.int .i64 (.ofNat 1))) (some true) fun a27 H p w =>
  dq true false 15 31744 (b12 + 15) H p w (fun H => qaf H a27) (some true) fun a28 H p w =>
  dq false true 16 64512 (b12 + 16) H p w (fun _ => qh6 .i64 a28) (some true) fun a29 H p w =>
  dq false false 17 0 (b12 + 17) H p w (fun _ => .val x3) (some true) fun a30 H p w =>
  dq false false 18 261120 (b12 + 18) H p w (fun _ => intV (qaa .rem).f a29 a30) (some true) fun a31 H p w =>
  dq false false 19 0 (b12 + 19) H p w (fun _ => qae 1 x1) (some true) fun a32 H p w =>
  dq true false 20 524288 (b12 + 20) H p w (fun H => qaf H a32) (some true) fun a33 H p w =>
  dq false false 21 0 (b12 + 21) H p w (fun _ => .val x5) (some true) fun a34 H p w =>
  dq false false 22 3670016 (b12 + 22) H p w (fun _ => idxS 3 a33 a34) (some true) fun a35 H p w =>
  dq false false 23 7864320 (b12 + 23) H p w (fun _ => idxA 3 1 a35 (.int .i64 (.ofNat 2))) (some true) fun a36 H p w =>
  dq true false 24 16252928 (b12 + 24) H p w (fun H => qaf H a36) (some true) fun a37 H p w =>
  dq false false 25 33030144 (b12 + 25) H p w (fun _ => intV (qaa .rem).f a37 (.int .u8 (.ofNat 2))) (some true) fun a38 H p w =>
  dq false true 26 66584576 (b12 + 26) H p w (fun _ => qh6 .i64 a38) (some true) fun a39 H p w =>
  dq false false 27 134217726 (b12 + 27) H p w (fun _ => aggN (qap [.int .i64 (.ofNat 0), .int .i64 (.ofNat 0), .int .i64 (.ofNat 0)] [(0, 1, a22), (1, 1, a31), (2, 1, a39)])) (some true) fun a40 H p w =>
  dq false true 28 268435454 (b12 + 28) H p w (fun _ => qgl 1 (b12 + 28) (qap (reps [.int .i64 (.ofNat 0), .int .i64 (.ofNat 0), .int .i64 (.ofNat 0)] 1) [(0, 3, a40)])) (some true) fun a41 H p w =>
  de 536870911 H p w (qb9 3 24 (qb7 536870911 p H) a13 (qdb 3 (qb7 536870911 p H) a41)) (some true) fun a42 H p w =>
  dq false false 30 1073741823 (b12 + 30) H p w (fun _ => .val a42) (some true) fun a43 H p w =>
  dz2 p H fun H =>
  qs6 call g9 a43 x5 H
def qyh (call : Ev.Call) (q9e0 : AV → Hp → R1) (x1 x3 : AV) (g9 : AV → AV → Hp → R1) (x4 x5 : AV) (H : Hp) : R1 :=
  vq (intV (qaa .gtr).f x3 (.int .i64 (.ofNat 0))) H fun a45 H =>
  vg (qac true a45) (.val x5) H fun a46 H =>
  vg (qac true a45) (qae 1 x1) H fun a47 H =>
  vg (qac true a45) (qaf H a47) H fun a48 H =>
  vg (qac true a45) (qb5 a48) H fun a49 H =>
  vg (qac true a45) (intV (qaa .lss).f a46 a49) H fun a50 H =>
  vq (qck a45 a50 (.bool false)) H fun a51 H =>
  vg (qac true a51) (.val x5) H fun a52 H =>
  vg (qac true a51) (intV (qaa .lss).f a52 (.int .i64 (.ofNat 40))) H fun a53 H =>
  vq (qck a51 a53 (.bool false)) H fun a54 H =>
  cd a54 (
  qs5 call g9 x1 x3 x4 x5 H) (
  q9e0 x4 H)
def qks (call : Ev.Call) (q9e0 : AV → Hp → R1) (x1 x3 : AV) (n : Nat) : AV → AV → Hp → R1 :=
  Nat.rec (motive := fun _ => AV → AV → Hp → R1) (fun _ _ _ => .bad) (fun _ ih => qyh call q9e0 x1 x3 ih) n
def qyi (call : Ev.Call) (q9e0 : AV → Hp → R1) (x1 x3 : AV) : AV → AV → Hp → R1 := qks call q9e0 x1 x3 qcn
def q64 (call : Ev.Call) (x0 : AV) (H : Hp) : R1 :=
  vq (boxA 2 H.nx x0) H fun a0 H =>
  vq (.new (.ptr H.nx 0) (qab 0 [.int .i64 (.ofNat 0), .nilsl])) H fun a1 H =>
  vq (qae 0 a0) H fun a2 H =>
  vq (qaf H a2) H fun a3 H =>
  vq (intV (qaa .rem).f a3 (.int .u8 (.ofNat 13))) H fun a4 H =>
  vq (qh6 .i64 a4) H fun a5 H =>
  qyi call (fun x4 H => qit call a1 a5 x4 H) a0 a5 (.nilsl) (.int .i64 (.ofNat 0)) H
def hMat (call : Ev.Call) (x0 : AV) (H : Hp) : R1 := q64 call x0 H
def qiq (call : Ev.Call) (x2 x3 : AV) (H : Hp) : R1 :=
  vq (qcb 2 H x3) H fun a9 H =>
  ve (qcm 2 H x2 a9) fun _ H =>
  finR (rV (qcb 2 H x2)) H
def qya (call : Ev.Call) (g12 : AV → Hp → R1) (x5 : AV) (H : Hp) : R1 :=
  vq (intV (qaa .add).f x5 (.int .i64 (.ofNat 1))) H fun a13 H =>
  g12 a13 H
def qx9 (call : Ev.Call) (g12 : AV → Hp → R1) (x3 x4 x5 : AV) (H : Hp) : R1 :=
  dz 23 H fun b15 H =>
  dq false false 0 0 (b15 + 0) H [] [] (fun _ => qae 1 x3) (some true) fun a16 H p w =>
  dq true false 1 1 (b15 + 1) H p w (fun H => qaf H a16) (some true) fun a17 H p w =>
  dq false false 2 0 (b15 + 2) H p w (fun _ => .val x4) (some true) fun a18 H p w =>
  dq false false 3 0 (b15 + 3) H p w (fun _ => .val x5) (some true) fun a19 H p w =>
  dq false false 4 12 (b15 + 4) H p w (fun _ => idxS 3 a18 a19) (some true) fun a20 H p w =>
  dq false false 5 28 (b15 + 5) H p w (fun _ => idxA 3 1 a20 (.int .i64 (.ofNat 0))) (some true) fun a21 H p w =>
  dq true false 6 60 (b15 + 6) H p w (fun H => qaf H a21) (some true) fun a22 H p w =>
  dq false false 7 0 (b15 + 7) H p w (fun _ => .val x4) (some true) fun a23 H p w =>
  dq false false 8 0 (b15 + 8) H p w (fun _ => .val x5) (some true) fun a24 H p w =>
  dq false false 9 384 (b15 + 9) H p w (fun _ => idxS 3 a23 a24) (some true) fun a25 H p w =>
  dq false false 10 896 (b15 + 10) H p w (fun _ => idxA 3 1 a25 (.int .i64 (.ofNat 1))) (some true) fun a26 H p w =>
  dq true false 11 1920 (b15 + 11) H p w (fun H => qaf H a26) (some true) fun a27 H p w =>
  dq false false 12 0 (b15 + 12) H p w (fun _ => .val x4) (some true) fun a28 H p w =>
  dq false false 13 0 (b15 + 13) H p w (fun _ => .val x5) (some true) fun a29 H p w =>
  dq false false 14 12288 (b15 + 14) H p w (fun _ => idxS 3 a28 a29) (some true) fun a30 H p w =>
  dq false false 15 28672 (b15 + 15) H p w (fun _ => idxA 3 1 a30 (.int .i64 (.ofNat 2))) (some true) fun a31 H p w =>
  dq true false 16 61440 (b15 + 16) H p w (fun H => qaf H a31) (some true) fun a32 H p w =>
  dq false false 17 126976 (b15 + 17) H p w (fun _ => intV (qaa .eql).f a32 (.int .i64 (.ofNat 1))) (some true) fun a33 H p w =>
  dq false false 18 262140 (b15 + 18) H p w (fun _ => aggN (qap [.int .i64 (.ofNat 0), .int .i64 (.ofNat 0), .bool false] [(0, 1, a22), (1, 1, a27), (2, 1, a33)])) (some true) fun a34 H p w =>
  dq false true 19 524284 (b15 + 19) H p w (fun _ => qgl 1 (b15 + 19) (qap (reps [.int .i64 (.ofNat 0), .int .i64 (.ofNat 0), .bool false] 1) [(0, 3, a34)])) (some true) fun a35 H p w =>
  de 1048575 H p w (qb9 3 24 (qb7 1048575 p H) a17 (qdb 3 (qb7 1048575 p H) a35)) (some true) fun a36 H p w =>
  dq false false 21 2097151 (b15 + 21) H p w (fun _ => qae 1 x3) (some true) fun a37 H p w =>
  de 4194303 H p w (qb4 (qb7 4194303 p H) a37 a36) (some true) fun _ H p w =>
  dz2 p H fun H =>
  qya call g12 x5 H
def qyb (call : Ev.Call) (q12e0 : Hp → R1) (x3 x4 : AV) (g12 : AV → Hp → R1) (x5 : AV) (H : Hp) : R1 :=
  vq (qb5 x4) H fun a40 H =>
  vq (intV (qaa .lss).f x5 a40) H fun a41 H =>
  cd a41 (
  qx9 call g12 x3 x4 x5 H) (
  q12e0 H)
def qkn (call : Ev.Call) (q12e0 : Hp → R1) (x3 x4 : AV) (n : Nat) : AV → Hp → R1 :=
  Nat.rec (motive := fun _ => AV → Hp → R1) (fun _ _ => .bad) (fun _ ih => qyb call q12e0 x3 x4 ih) n
def qyc (call : Ev.Call) (q12e0 : Hp → R1) (x3 x4 : AV) : AV → Hp → R1 := qkn call q12e0 x3 x4 qcn
def zek (call : Ev.Call) (x0 : AV) (H : Hp) : R1 :=
  vq (boxA 2 H.nx x0) H fun a0 H =>
  vq (.new (.ptr H.nx 0) (qab 0 [.int .i64 (.ofNat 0), .nilsl])) H fun a1 H =>
  vq (qae 0 a0) H fun a2 H =>
  vq (qaf H a2) H fun a3 H =>
  vq (aggN (qap [.int .i64 (.ofNat 0), .nilsl] [(0, 1, a3)])) H fun a4 H =>
  vq (.new (.ptr H.nx 0) (qab 0 [.int .i64 (.ofNat 0), .nilsl])) H fun a5 H =>
  ve (qcm 2 H a5 a4) fun _ H =>
  vq (qcb 2 H a0) H fun a7 H =>
  ve (call (.f qoa) [a7] H) fun a8 H =>
  qyc call (fun H => qiq call a1 a5 H) a5 a8 (.int .i64 (.ofNat 0)) H
def lGr (call : Ev.Call) (x0 : AV) (H : Hp) : R1 := zek call x0 H
def qcy (call : Ev.Call) (x2 x6 : AV) (H : Hp) : R1 :=
  vq (qae 1 x6) H fun a14 H =>
  vq (qaf H a14) H fun a15 H =>
  ve (call (.f ql5) [a15] H) fun a16 H =>
  vq (qae 1 x6) H fun a17 H =>
  ve (qb4 H a17 a16) fun _ H =>
  vq (qcb 2 H x6) H fun a19 H =>
  ve (qcm 2 H x2 a19) fun _ H =>
  finR (tupO (qlm (rV (qcb 2 H x2)) (qlm (some (.int .i64 (.ofNat 0))) (some [])))) H
def qd0 (call : Ev.Call) (g25 : AV → Hp → R1) (x27 : AV) (H : Hp) : R1 :=
  vq (intV (qaa .add).f x27 (.int .i64 (.ofNat 1))) H fun a27 H =>
  g25 a27 H
def qgu (call : Ev.Call) (g32 : AV → Hp → R1) (x33 : AV) (H : Hp) : R1 :=
  vq (intV (qaa .add).f x33 (.int .i64 (.ofNat 1))) H fun a34 H =>
  g32 a34 H
def qjx (call : Ev.Call) (g36 : AV → Hp → R1) (x36 : AV) (H : Hp) : R1 :=
  vq (intV (qaa .add).f x36 (.int .i64 (.ofNat 1))) H fun a38 H =>
  g36 a38 H
def qmb (call : Ev.Call) (g36 : AV → Hp → R1) (x1 x4 x6 x7 x8 x36 : AV) (H : Hp) : R1 :=
  vq (intV (qaa .eql).f x36 (.int .i64 (.ofNat 1))) H fun a40 H =>
  vq (aggN (qap [.int .i64 (.ofNat 0), .int .i64 (.ofNat 0), .bool false] [(0, 1, x7), (1, 1, x8), (2, 1, a40)])) H fun a41 H =>
  vq (.new (.ptr H.nx 0) (qab 0 [.int .i64 (.ofNat 0), .int .i64 (.ofNat 0), .bool false])) H fun a42 H =>
  ve (qcm 3 H a42 a41) fun _ H =>
  vq (intV (qaa .neq).f x7 x8) H fun a44 H =>
  vg (qac true a44) (qae 1 x1) H fun a45 H =>
  vg (qac true a44) (qaf H a45) H fun a46 H =>
  vg (qac true a44) (.val (.fn qod [] [x4, a42])) H fun a47 H =>
  veg (qac true a44) (call (.f qn9) [a46, a47] H) H fun a48 H =>
  vq (qck a44 a48 (.bool false)) H fun a49 H =>
  cd a49 (
  vq (qae 1 x6) H fun a50 H =>
  vq (qaf H a50) H fun a51 H =>
  vq (qcb 3 H a42) H fun a52 H =>
  vq (qgl 1 H.nx (qap (reps [.int .i64 (.ofNat 0), .int .i64 (.ofNat 0), .bool false] 1) [(0, 3, a52)])) H fun a53 H =>
  ve (qb9 3 24 H a51 (qdb 3 H a53)) fun a54 H =>
  vq (qae 1 x6) H fun a55 H =>
  ve (qb4 H a55 a54) fun _ H =>
  qjx call g36 x36 H) (
  qjx call g36 x36 H)
def qt0 (call : Ev.Call) (q36e4 : Hp → R1) (x1 x4 x6 x7 x8 : AV) (g36 : AV → Hp → R1) (x36 : AV) (H : Hp) : R1 :=
  vq (intV (qaa .lss).f x36 (.int .i64 (.ofNat 2))) H fun a37 H =>
  cd a37 (
  qmb call g36 x1 x4 x6 x7 x8 x36 H) (
  q36e4 H)
def qh4 (call : Ev.Call) (q36e4 : Hp → R1) (x1 x4 x6 x7 x8 : AV) (n : Nat) : AV → Hp → R1 :=
  Nat.rec (motive := fun _ => AV → Hp → R1) (fun _ _ => .bad) (fun _ ih => qt0 call q36e4 x1 x4 x6 x7 x8 ih) n
def qt3 (call : Ev.Call) (q36e4 : Hp → R1) (x1 x4 x6 x7 x8 : AV) : AV → Hp → R1 := qh4 call q36e4 x1 x4 x6 x7 x8 qcn
def qtz (call : Ev.Call) (g32 : AV → Hp → R1) (x1 x4 x6 x7 x33 : AV) (H : Hp) : R1 :=
  qt3 call (fun H => qgu call g32 x33 H) x1 x4 x6 x7 x33 (.int .i64 (.ofNat 0)) H
def qt1 (call : Ev.Call) (q32e2 : Hp → R1) (x1 x4 x6 x7 x32 : AV) (g32 : AV → Hp → R1) (x33 : AV) (H : Hp) : R1 :=
  vq (intV (qaa .lss).f x33 x32) H fun a33 H =>
  cd a33 (
  qtz call g32 x1 x4 x6 x7 x33 H) (
  q32e2 H)
def qed (call : Ev.Call) (q32e2 : Hp → R1) (x1 x4 x6 x7 x32 : AV) (n : Nat) : AV → Hp → R1 :=
  Nat.rec (motive := fun _ => AV → Hp → R1) (fun _ _ => .bad) (fun _ ih => qt1 call q32e2 x1 x4 x6 x7 x32 ih) n
def qt4 (call : Ev.Call) (q32e2 : Hp → R1) (x1 x4 x6 x7 x32 : AV) : AV → Hp → R1 := qed call q32e2 x1 x4 x6 x7 x32 qcn
def qty (call : Ev.Call) (g25 : AV → Hp → R1) (x1 x4 x6 x27 : AV) (H : Hp) : R1 :=
  vq (qae 0 x4) H fun a29 H =>
  vq (qaf H a29) H fun a30 H =>
  vq (qb5 a30) H fun a31 H =>
  qt4 call (fun H => qd0 call g25 x27 H) x1 x4 x6 x27 a31 (.int .i64 (.ofNat 0)) H
def qt2 (call : Ev.Call) (q25e0 : Hp → R1) (x1 x4 x6 x26 : AV) (g25 : AV → Hp → R1) (x27 : AV) (H : Hp) : R1 :=
  vq (intV (qaa .lss).f x27 x26) H fun a26 H =>
  cd a26 (
  qty call g25 x1 x4 x6 x27 H) (
  q25e0 H)
def qdd (call : Ev.Call) (q25e0 : Hp → R1) (x1 x4 x6 x26 : AV) (n : Nat) : AV → Hp → R1 :=
  Nat.rec (motive := fun _ => AV → Hp → R1) (fun _ _ => .bad) (fun _ ih => qt2 call q25e0 x1 x4 x6 x26 ih) n
def qt5 (call : Ev.Call) (q25e0 : Hp → R1) (x1 x4 x6 x26 : AV) : AV → Hp → R1 := qdd call q25e0 x1 x4 x6 x26 qcn
def qe7 (call : Ev.Call) (x1 x2 x4 : AV) (H : Hp) : R1 :=
  vq (qae 0 x4) H fun a8 H =>
  vq (qaf H a8) H fun a9 H =>
  vq (qb5 a9) H fun a10 H =>
  vq (aggN (qap [.int .i64 (.ofNat 0), .nilsl] [(0, 1, a10)])) H fun a11 H =>
  vq (.new (.ptr H.nx 0) (qab 0 [.int .i64 (.ofNat 0), .nilsl])) H fun a12 H =>
  ve (qcm 2 H a12 a11) fun _ H =>
  vq (qae 0 x4) H fun a22 H =>
  vq (qaf H a22) H fun a23 H =>
  vq (qb5 a23) H fun a24 H =>
  qt5 call (fun H => qcy call x2 a12 H) x1 x4 a12 a24 (.int .i64 (.ofNat 0)) H
def qtx : Ev.Call → AV → AV → AV → Hp → R1 := Classical.choose (⟨qe7, rfl⟩ : ∃ f, f = qe7)
theorem qo4 : qtx = qe7 := Classical.choose_spec (⟨qe7, rfl⟩ : ∃ f, f = qe7)
def q8u (call : Ev.Call) (x0 : AV) (H : Hp) : R1 :=
  vq (boxA 2 H.nx x0) H fun a0 H =>
  vq (.new (.ptr H.nx 0) (qab 0 [.int .i64 (.ofNat 0), .nilsl])) H fun a1 H =>
  vq (qcb 2 H a0) H fun a2 H =>
  ve (call (.f qqf) [a2] H) fun a3 H =>
  vq (extr 0 a3) H fun a4 H =>
  vq (extr 1 a3) H fun a5 H =>
  vq (.new (.ptr H.nx 0) (qab 0 [.nilsl, .nilsl])) H fun a6 H =>
  ve (qcm 2 H a6 a4) fun _ H =>
  vq (intV (qaa .neq).f a5 (.int .i64 (.ofNat 0))) H fun a61 H =>
  cd a61 (
  vq (aggN (qap [.int .i64 (.ofNat 0), .nilsl] [])) H fun a62 H =>
  ve (qcm 2 H a1 a62) fun _ H =>
  finR (tupO (qlm (rV (qcb 2 H a1)) (qlm (some a5) (some [])))) H) (
  qtx call a0 a1 a6 H)
def cCnd (call : Ev.Call) (x0 : AV) (H : Hp) : R1 := q8u call x0 H
def qgj (call : Ev.Call) (x2 x3 x5 : AV) (H : Hp) : R1 :=
  vq (qb5 x3) H fun a8 H =>
  ve (call (.f qkq) [a8, x5] H) fun a9 H =>
  ve (qcm 2 H x2 a9) fun _ H =>
  finR (rV (qcb 2 H x2)) H
def qje (call : Ev.Call) (g12 : AV → AV → Hp → R1) (x5 x7 : AV) (H : Hp) : R1 :=
  vq (intV (qaa .add).f x7 (.int .i64 (.ofNat 1))) H fun a13 H =>
  g12 x5 a13 H
def qru (call : Ev.Call) (g12 : AV → AV → Hp → R1) (x4 x5 x6 x7 : AV) (H : Hp) : R1 :=
  vl (idxS 3 x6 x7) fun a15 =>
  vl (idxA 3 1 a15 (.int .i64 (.ofNat 0))) fun a16 =>
  vl (qaf H a16) fun a17 =>
  vl (idxS 1 x4 a17) fun a18 =>
  vl (qaf H a18) fun a19 =>
  vl (idxS 3 x6 x7) fun a20 =>
  vl (idxA 3 1 a20 (.int .i64 (.ofNat 1))) fun a21 =>
  vl (qaf H a21) fun a22 =>
  vl (idxS 1 x4 a22) fun a23 =>
  vl (qaf H a23) fun a24 =>
  vq (intV (qaa .neq).f a19 a24) H fun a25 H =>
  cd a25 (
  vq (idxS 3 x6 x7) H fun a26 H =>
  vq (idxA 3 1 a26 (.int .i64 (.ofNat 2))) H fun a27 H =>
  vq (qaf H a27) H fun a28 H =>
  vq (aggN (qap [.int .i64 (.ofNat 0), .int .i64 (.ofNat 0), .int .i64 (.ofNat 0)] [(0, 1, a19), (1, 1, a24), (2, 1, a28)])) H fun a29 H =>
  vq (qgl 1 H.nx (qap (reps [.int .i64 (.ofNat 0), .int .i64 (.ofNat 0), .int .i64 (.ofNat 0)] 1) [(0, 3, a29)])) H fun a30 H =>
  ve (qb9 3 24 H x5 (qdb 3 H a30)) fun a31 H =>
  qje call g12 a31 x7 H) (
  qje call g12 x5 x7 H)
def qrv (call : Ev.Call) (q12e0 : AV → Hp → R1) (x4 x6 : AV) (g12 : AV → AV → Hp → R1) (x5 x7 : AV) (H : Hp) : R1 :=
  vq (qb5 x6) H fun a33 H =>
  vq (intV (qaa .lss).f x7 a33) H fun a34 H =>
  cd a34 (
  qru call g12 x4 x5 x6 x7 H) (
  q12e0 x5 H)
def qhu (call : Ev.Call) (q12e0 : AV → Hp → R1) (x4 x6 : AV) (n : Nat) : AV → AV → Hp → R1 :=
  Nat.rec (motive := fun _ => AV → AV → Hp → R1) (fun _ _ _ => .bad) (fun _ ih => qrv call q12e0 x4 x6 ih) n
def qrw (call : Ev.Call) (q12e0 : AV → Hp → R1) (x4 x6 : AV) : AV → AV → Hp → R1 := qhu call q12e0 x4 x6 qcn
def q5n (call : Ev.Call) (x0 : AV) (H : Hp) : R1 :=
  vq (boxA 2 H.nx x0) H fun a0 H =>
  vq (.new (.ptr H.nx 0) (qab 0 [.int .i64 (.ofNat 0), .nilsl])) H fun a1 H =>
  vq (qcb 2 H a0) H fun a2 H =>
  ve (call (.f qvo) [a2] H) fun a3 H =>
  vq (extr 0 a3) H fun a4 H =>
  vq (extr 1 a3) H fun a5 H =>
  vq (qcb 2 H a0) H fun a6 H =>
  ve (call (.f qoa) [a6] H) fun a7 H =>
  qrw call (fun x5 H => qgj call a1 a4 x5 H) a5 a7 (.nilsl) (.int .i64 (.ofNat 0)) H
def rCnd (call : Ev.Call) (x0 : AV) (H : Hp) : R1 := q5n call x0 H
def qnv (call : Ev.Call) (H : Hp) : R1 :=
  .ok (.bool true) H
def q57 (call : Ev.Call) (g7 : AV → Hp → R1) (x6 : AV) (H : Hp) : R1 :=
  vq (intV (qaa .add).f x6 (.int .i64 (.ofNat 1))) H fun a8 H =>
  g7 a8 H
def qx5 (call : Ev.Call) (q7r : AV → Hp → R1) (g7 : AV → Hp → R1) (x2 x5 x6 : AV) (H : Hp) : R1 :=
  vl (qae 1 x2) fun a10 =>
  vl (qaf H a10) fun a11 =>
  vl (idxS 3 a11 x6) fun a12 =>
  vl (qcb 3 H a12) fun a13 =>
  vl (qae 1 x5) fun a14 =>
  vl (qaf H a14) fun a15 =>
  vl (idxS 3 a15 x6) fun a16 =>
  vl (qcb 3 H a16) fun a17 =>
  vl (qj1 true ((⟨E2.f ⟨qoq (eqFields [(p1, ⟨qju⟩, 0), (p1, ⟨qju⟩, 1), (p1, ⟨qgz⟩, 2)])⟩⟩ : E2).f a13 a17)) fun a18 =>
  cd a18 (
  q7r (.bool false) H) (
  q57 call g7 x6 H)
def q58 (call : Ev.Call) (q7r : AV → Hp → R1) (q7e0 : Hp → R1) (x2 x5 : AV) (g7 : AV → Hp → R1) (x6 : AV) (H : Hp) : R1 :=
  vq (qae 1 x2) H fun a20 H =>
  vq (qaf H a20) H fun a21 H =>
  vq (qb5 a21) H fun a22 H =>
  vq (intV (qaa .lss).f x6 a22) H fun a23 H =>
  cd a23 (
  qx5 call q7r g7 x2 x5 x6 H) (
  q7e0 H)
def qpy (call : Ev.Call) (q7r : AV → Hp → R1) (q7e0 : Hp → R1) (x2 x5 : AV) (n : Nat) : AV → Hp → R1 :=
  Nat.rec (motive := fun _ => AV → Hp → R1) (fun _ _ => .bad) (fun _ ih => q58 call q7r q7e0 x2 x5 ih) n
def q59 (call : Ev.Call) (q7r : AV → Hp → R1) (q7e0 : Hp → R1) (x2 x5 : AV) : AV → Hp → R1 := qpy call q7r q7e0 x2 x5 qcn
def qx4 (call : Ev.Call) (x2 x5 : AV) (H : Hp) : R1 :=
  q59 call (fun x4 H => .ok x4 H) (fun H => qnv call H) x2 x5 (.int .i64 (.ofNat 0)) H
def zeb (call : Ev.Call) (x0 x1 : AV) (H : Hp) : R1 :=
  vq (boxA 2 H.nx x0) H fun a0 H =>
  vq (boxA 2 H.nx x1) H fun a1 H =>
  vq (qcb 2 H a1) H fun a2 H =>
  ve (call (.f qvq) [a2] H) fun a3 H =>
  vq (.new (.ptr H.nx 0) (qab 0 [.int .i64 (.ofNat 0), .nilsl])) H fun a4 H =>
  ve (qcm 2 H a4 a3) fun _ H =>
  vq (qae 0 a0) H fun a25 H =>
  vq (qaf H a25) H fun a26 H =>
  vq (qae 0 a4) H fun a27 H =>
  vq (qaf H a27) H fun a28 H =>
  vq (intV (qaa .neq).f a26 a28) H fun a29 H =>
  vg (qac false a29) (qae 1 a0) H fun a30 H =>
  vg (qac false a29) (qaf H a30) H fun a31 H =>
  vg (qac false a29) (qb5 a31) H fun a32 H =>
  vg (qac false a29) (qae 1 a4) H fun a33 H =>
  vg (qac false a29) (qaf H a33) H fun a34 H =>
  vg (qac false a29) (qb5 a34) H fun a35 H =>
  vg (qac false a29) (intV (qaa .neq).f a32 a35) H fun a36 H =>
  vq (qck a29 (.bool true) a36) H fun a37 H =>
  vg (qac false a37) (qae 1 a0) H fun a38 H =>
  vg (qac false a37) (qaf H a38) H fun a39 H =>
  vg (qac false a37) (capV a39) H fun a40 H =>
  vg (qac false a37) (qae 1 a0) H fun a41 H =>
  vg (qac false a37) (qaf H a41) H fun a42 H =>
  vg (qac false a37) (qb5 a42) H fun a43 H =>
  vg (qac false a37) (intV (qaa .neq).f a40 a43) H fun a44 H =>
  vq (qck a37 (.bool true) a44) H fun a45 H =>
  cd a45 (
  .ok (.bool false) H) (
  qx4 call a0 a4 H)
def lwG (call : Ev.Call) (x0 x1 : AV) (H : Hp) : R1 := zeb call x0 x1 H
def qe4 (call : Ev.Call) (x1 x2 x6 : AV) (H : Hp) : R1 :=
  vq (qae 0 x6) H fun a7 H =>
  vq (qaf H a7) H fun a8 H =>
  vq (idxS 1 a8 x1) H fun a9 H =>
  vq (qaf H a9) H fun a10 H =>
  vq (.new (.ptr H.nx 0) (qab 0 [.nilsl])) H fun a11 H =>
  ve (qb4 H a11 a10) fun _ H =>
  vq (qaf H a11) H fun a13 H =>
  vq (qb5 a13) H fun a14 H =>
  vq (intV (qaa .eql).f a14 (.int .i64 (.ofNat 1))) H fun a15 H =>
  vg (qac true a15) (qae 1 x2) H fun a16 H =>
  vg (qac true a15) (qaf H a16) H fun a17 H =>
  vg (qac true a15) (.val (.fn qn8 [] [a11])) H fun a18 H =>
  veg (qac true a15) (call (.f qn9) [a17, a18] H) H fun a19 H =>
  vg (qac true a15) ((unS .not).f a19) H fun a20 H =>
  vq (qck a15 a20 (.bool false)) H fun a21 H =>
  .ok (.tup [a21, (.int .i64 (.ofNat 0))]) H
def qtn : Ev.Call → AV → AV → AV → Hp → R1 := Classical.choose (⟨qe4, rfl⟩ : ∃ f, f = qe4)
theorem qoz : qtn = qe4 := Classical.choose_spec (⟨qe4, rfl⟩ : ∃ f, f = qe4)
def q8j (call : Ev.Call) (x0 x1 : AV) (H : Hp) : R1 :=
  vq (boxA 2 H.nx x0) H fun a0 H =>
  vq (qcb 2 H a0) H fun a1 H =>
  ve (call (.f qqf) [a1] H) fun a2 H =>
  vq (extr 0 a2) H fun a3 H =>
  vq (extr 1 a2) H fun a4 H =>
  vq (.new (.ptr H.nx 0) (qab 0 [.nilsl, .nilsl])) H fun a5 H =>
  ve (qcm 2 H a5 a3) fun _ H =>
  vq (intV (qaa .neq).f a4 (.int .i64 (.ofNat 0))) H fun a23 H =>
  cd a23 (
  .ok (.tup [(.bool false), a4]) H) (
  vq (intV (qaa .lss).f x1 (.int .i64 (.ofNat 0))) H fun a24 H =>
  vg (qac false a24) (.val x1) H fun a25 H =>
  vg (qac false a24) (qae 0 a5) H fun a26 H =>
  vg (qac false a24) (qaf H a26) H fun a27 H =>
  vg (qac false a24) (qb5 a27) H fun a28 H =>
  vg (qac false a24) (intV (qaa .geq).f a25 a28) H fun a29 H =>
  vq (qck a24 (.bool true) a29) H fun a30 H =>
  cd a30 (
  .ok (.tup [(.bool false), (.int .i64 (.ofNat 4))]) H) (
  qtn call x1 a0 a5 H))
def cSim (call : Ev.Call) (x0 x1 : AV) (H : Hp) : R1 := q8j call x0 x1 H
def qcp (call : Ev.Call) (x6 x8 : AV) (H : Hp) : R1 :=
  .ok (.tup [x8, x6]) H
def qxh (call : Ev.Call) (g8 : AV → AV → AV → Hp → R1) (x8 x9 x10 : AV) (H : Hp) : R1 :=
  vq (intV (qaa .add).f x10 (.int .i64 (.ofNat 1))) H fun a9 H =>
  g8 x8 x9 a9 H
def qil (call : Ev.Call) (q8e4 : AV → AV → Hp → R1) (x8 x9 x13 : AV) (H : Hp) : R1 :=
  vq (qb5 x13) H fun a14 H =>
  vq (intV (qaa .add).f x9 a14) H fun a15 H =>
  vq (qgl 1 H.nx (qap (reps [.nilsl] 1) [(0, 1, x13)])) H fun a16 H =>
  ve (qb9 1 24 H x8 (qdb 1 H a16)) fun a17 H =>
  q8e4 a17 a15 H
def qkf (call : Ev.Call) (g19 : AV → AV → Hp → R1) (x13 x14 : AV) (H : Hp) : R1 :=
  vq (intV (qaa .add).f x14 (.int .i64 (.ofNat 1))) H fun a20 H =>
  g19 x13 a20 H
def qxg (call : Ev.Call) (g19 : AV → AV → Hp → R1) (x4 x5 x6 x8 x10 x13 x14 : AV) (H : Hp) : R1 :=
  vq (intV (qaa .mul).f x10 x4) H fun a22 H =>
  vq (intV (qaa .add).f a22 x14) H fun a23 H =>
  vq (idxS 1 x5 a23) H fun a24 H =>
  vq (qaf H a24) H fun a25 H =>
  vq (intV (qaa .geq).f a25 (.int .i64 (.ofNat 0))) H fun a26 H =>
  vg (qac true a26) (.val x5) H fun a27 H =>
  vg (qac true a26) (.val x14) H fun a28 H =>
  vg (qac true a26) (.val x4) H fun a29 H =>
  vg (qac true a26) (intV (qaa .mul).f a28 a29) H fun a30 H =>
  vg (qac true a26) (.val x10) H fun a31 H =>
  vg (qac true a26) (intV (qaa .add).f a30 a31) H fun a32 H =>
  vg (qac true a26) (idxS 1 a27 a32) H fun a33 H =>
  vg (qac true a26) (qaf H a33) H fun a34 H =>
  vg (qac true a26) (intV (qaa .geq).f a34 (.int .i64 (.ofNat 0))) H fun a35 H =>
  vq (qck a26 a35 (.bool false)) H fun a36 H =>
  cd a36 (
  vq (qgl 1 H.nx (qap (reps [.int .i64 (.ofNat 0)] 1) [(0, 1, x14)])) H fun a37 H =>
  ve (qb9 1 8 H x13 (qdb 1 H a37)) fun a38 H =>
  vq (qb5 x8) H fun a39 H =>
  vq (idxS 1 x6 x14) H fun a40 H =>
  ve (qb4 H a40 a39) fun _ H =>
  qkf call g19 a38 x14 H) (
  qkf call g19 x13 x14 H)
def qxk (call : Ev.Call) (q19e8 : AV → Hp → R1) (x4 x5 x6 x8 x10 : AV) (g19 : AV → AV → Hp → R1) (x13 x14 : AV) (H : Hp) : R1 :=
  vq (intV (qaa .lss).f x14 x4) H fun a43 H =>
  cd a43 (
  qxg call g19 x4 x5 x6 x8 x10 x13 x14 H) (
  q19e8 x13 H)
def qke (call : Ev.Call) (q19e8 : AV → Hp → R1) (x4 x5 x6 x8 x10 : AV) (n : Nat) : AV → AV → Hp → R1 :=
  Nat.rec (motive := fun _ => AV → AV → Hp → R1) (fun _ _ _ => .bad) (fun _ ih => qxk call q19e8 x4 x5 x6 x8 x10 ih) n
def qxn (call : Ev.Call) (q19e8 : AV → Hp → R1) (x4 x5 x6 x8 x10 : AV) : AV → AV → Hp → R1 := qke call q19e8 x4 x5 x6 x8 x10 qcn
def qxf (call : Ev.Call) (q8e4 : AV → AV → Hp → R1) (x4 x5 x6 x8 x9 x10 : AV) (H : Hp) : R1 :=
  qxn call (fun x13 H => qil call q8e4 x8 x9 x13 H) x4 x5 x6 x8 x10 (.nilsl) (.int .i64 (.ofNat 0)) H
def qik (call : Ev.Call) (g8 : AV → AV → AV → Hp → R1) (q8e4 : AV → AV → Hp → R1) (x4 x5 x6 x8 x9 x10 x11 : AV) (H : Hp) : R1 :=
  vq ((unS .not).f x11) H fun a45 H =>
  cd a45 (
  qxh call g8 x8 x9 x10 H) (
  qxf call q8e4 x4 x5 x6 x8 x9 x10 H)
def qro (call : Ev.Call) (g47 : AV → AV → Hp → R1) (x11 x12 : AV) (H : Hp) : R1 :=
  vq (intV (qaa .add).f x12 (.int .i64 (.ofNat 1))) H fun a48 H =>
  g47 x11 a48 H
def qxe (call : Ev.Call) (g47 : AV → AV → Hp → R1) (x4 x5 x6 x10 x12 : AV) (H : Hp) : R1 :=
  vq (intV (qaa .mul).f x10 x4) H fun a50 H =>
  vq (intV (qaa .add).f a50 x12) H fun a51 H =>
  vq (idxS 1 x5 a51) H fun a52 H =>
  vq (qaf H a52) H fun a53 H =>
  vq (intV (qaa .lss).f a53 (.int .i64 (.ofNat 0))) H fun a54 H =>
  vg (qac false a54) (.val x6) H fun a55 H =>
  vg (qac false a54) (.val x12) H fun a56 H =>
  vg (qac false a54) (idxS 1 a55 a56) H fun a57 H =>
  vg (qac false a54) (qaf H a57) H fun a58 H =>
  vg (qac false a54) (intV (qaa .geq).f a58 (.int .i64 (.ofNat 0))) H fun a59 H =>
  vq (qck a54 (.bool true) a59) H fun a60 H =>
  vg (qac false a60) (.val x5) H fun a61 H =>
  vg (qac false a60) (.val x12) H fun a62 H =>
  vg (qac false a60) (.val x4) H fun a63 H =>
  vg (qac false a60) (intV (qaa .mul).f a62 a63) H fun a64 H =>
  vg (qac false a60) (.val x10) H fun a65 H =>
  vg (qac false a60) (intV (qaa .add).f a64 a65) H fun a66 H =>
  vg (qac false a60) (idxS 1 a61 a66) H fun a67 H =>
  vg (qac false a60) (qaf H a67) H fun a68 H =>
  vg (qac false a60) (intV (qaa .geq).f a68 (.int .i64 (.ofNat 0))) H fun a69 H =>
  vq (qck a60 (.bool true) a69) H fun a70 H =>
  qro call g47 a70 x12 H
def qxj (call : Ev.Call) (q47e6 : AV → Hp → R1) (x4 x5 x6 x10 : AV) (g47 : AV → AV → Hp → R1) (x11 x12 : AV) (H : Hp) : R1 :=
  vq (intV (qaa .lss).f x12 x4) H fun a72 H =>
  vg (qac true a72) (.val x11) H fun a73 H =>
  vq (qck a72 a73 (.bool false)) H fun a74 H =>
  cd a74 (
  qxe call g47 x4 x5 x6 x10 x12 H) (
  q47e6 x11 H)
def qii (call : Ev.Call) (q47e6 : AV → Hp → R1) (x4 x5 x6 x10 : AV) (n : Nat) : AV → AV → Hp → R1 :=
  Nat.rec (motive := fun _ => AV → AV → Hp → R1) (fun _ _ _ => .bad) (fun _ ih => qxj call q47e6 x4 x5 x6 x10 ih) n
def qxm (call : Ev.Call) (q47e6 : AV → Hp → R1) (x4 x5 x6 x10 : AV) : AV → AV → Hp → R1 := qii call q47e6 x4 x5 x6 x10 qcn
def qxd (call : Ev.Call) (g8 : AV → AV → AV → Hp → R1) (q8e4 : AV → AV → Hp → R1) (x4 x5 x6 x8 x9 x10 : AV) (H : Hp) : R1 :=
  vq (idxS 1 x6 x10) H fun a11 H =>
  vq (qaf H a11) H fun a12 H =>
  vq (intV (qaa .lss).f a12 (.int .i64 (.ofNat 0))) H fun a13 H =>
  qxm call (fun x11 H => qik call g8 q8e4 x4 x5 x6 x8 x9 x10 x11 H) x4 x5 x6 x10 a13 (.int .i64 (.ofNat 0)) H
def q5b (call : Ev.Call) (q8e4 : AV → AV → Hp → R1) (x4 x5 x6 : AV) (g8 : AV → AV → AV → Hp → R1) (x8 x9 x10 : AV) (H : Hp) : R1 :=
  vq (intV (qaa .lss).f x10 x4) H fun a76 H =>
  cd a76 (
  qxd call g8 q8e4 x4 x5 x6 x8 x9 x10 H) (
  q8e4 x8 x9 H)
def qg4 (call : Ev.Call) (q8e4 : AV → AV → Hp → R1) (x4 x5 x6 : AV) (n : Nat) : AV → AV → AV → Hp → R1 :=
  Nat.rec (motive := fun _ => AV → AV → AV → Hp → R1) (fun _ _ _ _ => .bad) (fun _ ih => q5b call q8e4 x4 x5 x6 ih) n
def q5d (call : Ev.Call) (q8e4 : AV → AV → Hp → R1) (x4 x5 x6 : AV) : AV → AV → AV → Hp → R1 := qg4 call q8e4 x4 x5 x6 qcn
def qxc (call : Ev.Call) (g7 : AV → AV → Hp → R1) (x4 x5 x6 x8 x9 : AV) (H : Hp) : R1 :=
  q5d call (fun x8 x9 H => g7 x8 x9 H) x4 x5 x6 x8 x9 (.int .i64 (.ofNat 0)) H
def q5c (call : Ev.Call) (q7e2 : AV → Hp → R1) (x4 x5 x6 : AV) (g7 : AV → AV → Hp → R1) (x8 x9 : AV) (H : Hp) : R1 :=
  vq (intV (qaa .lss).f x9 x4) H fun a78 H =>
  cd a78 (
  qxc call g7 x4 x5 x6 x8 x9 H) (
  q7e2 x8 H)
def qct (call : Ev.Call) (q7e2 : AV → Hp → R1) (x4 x5 x6 : AV) (n : Nat) : AV → AV → Hp → R1 :=
  Nat.rec (motive := fun _ => AV → AV → Hp → R1) (fun _ _ _ => .bad) (fun _ ih => q5c call q7e2 x4 x5 x6 ih) n
def q5f (call : Ev.Call) (q7e2 : AV → Hp → R1) (x4 x5 x6 : AV) : AV → AV → Hp → R1 := qct call q7e2 x4 x5 x6 qcn
def qij (call : Ev.Call) (x4 x5 x6 : AV) (H : Hp) : R1 :=
  q5f call (fun x8 H => qcp call x6 x8 H) x4 x5 x6 (.nilsl) (.int .i64 (.ofNat 0)) H
def qxb (call : Ev.Call) (g80 : AV → Hp → R1) (x7 : AV) (H : Hp) : R1 :=
  vq (intV (qaa .add).f x7 (.int .i64 (.ofNat 1))) H fun a81 H =>
  g80 a81 H
def qxa (call : Ev.Call) (g80 : AV → Hp → R1) (x6 x7 : AV) (H : Hp) : R1 :=
  vq (idxS 1 x6 x7) H fun a83 H =>
  ve (qb4 H a83 (.int .i64 (.negSucc 0))) fun _ H =>
  qxb call g80 x7 H
def qxi (call : Ev.Call) (q80e0 : Hp → R1) (x4 x6 : AV) (g80 : AV → Hp → R1) (x7 : AV) (H : Hp) : R1 :=
  vq (intV (qaa .lss).f x7 x4) H fun a86 H =>
  cd a86 (
  qxa call g80 x6 x7 H) (
  q80e0 H)
def qkd (call : Ev.Call) (q80e0 : Hp → R1) (x4 x6 : AV) (n : Nat) : AV → Hp → R1 :=
  Nat.rec (motive := fun _ => AV → Hp → R1) (fun _ _ => .bad) (fun _ ih => qxi call q80e0 x4 x6 ih) n
def qxl (call : Ev.Call) (q80e0 : Hp → R1) (x4 x6 : AV) : AV → Hp → R1 := qkd call q80e0 x4 x6 qcn
def zdp (call : Ev.Call) (x0 : AV) (H : Hp) : R1 :=
  vq (boxA 2 H.nx x0) H fun a0 H =>
  vq (qae 0 a0) H fun a1 H =>
  vq (qaf H a1) H fun a2 H =>
  vq (qcb 2 H a0) H fun a3 H =>
  ve (call (.f ql6) [a3] H) fun a4 H =>
  vq (qhb [.int .i64 (.ofNat 0)] 8 H.nx a2 a2) H fun a5 H =>
  qxl call (fun H => qij call a2 a4 a5 H) a2 a5 (.int .i64 (.ofNat 0)) H
def rOf (call : Ev.Call) (x0 : AV) (H : Hp) : R1 := zdp call x0 H
def qim (call : Ev.Call) (x4 x5 : AV) (H : Hp) : R1 :=
  vq (qcb 2 H x5) H fun a4 H =>
  ve (qcm 2 H x4 a4) fun _ H =>
  finR (rV (qcb 2 H x4)) H
def qxo (call : Ev.Call) (g7 : AV → Hp → R1) (x6 : AV) (H : Hp) : R1 :=
  vq (intV (qaa .add).f x6 (.int .i64 (.ofNat 1))) H fun a8 H =>
  g7 a8 H
def qrp (call : Ev.Call) (g7 : AV → Hp → R1) (x1 x5 x6 : AV) (H : Hp) : R1 :=
  dz 0 H fun b10 H =>
  dq true false 0 0 (b10 + 0) H [] [] (fun H => qcb 2 H x5) (some true) fun a11 H p w =>
  dq false false 1 0 (b10 + 1) H p w (fun _ => .val x1) (some true) fun a12 H p w =>
  dq false false 2 0 (b10 + 2) H p w (fun _ => .val x6) (some true) fun a13 H p w =>
  dq false false 3 6 (b10 + 3) H p w (fun _ => idxS 3 a12 a13) (some true) fun a14 H p w =>
  dq false false 4 14 (b10 + 4) H p w (fun _ => idxA 3 1 a14 (.int .i64 (.ofNat 0))) (some true) fun a15 H p w =>
  dq true false 5 30 (b10 + 5) H p w (fun H => qaf H a15) (some true) fun a16 H p w =>
  dq false false 6 0 (b10 + 6) H p w (fun _ => .val x1) (some true) fun a17 H p w =>
  dq false false 7 0 (b10 + 7) H p w (fun _ => .val x6) (some true) fun a18 H p w =>
  dq false false 8 192 (b10 + 8) H p w (fun _ => idxS 3 a17 a18) (some true) fun a19 H p w =>
  dq false false 9 448 (b10 + 9) H p w (fun _ => idxA 3 1 a19 (.int .i64 (.ofNat 1))) (some true) fun a20 H p w =>
  dq true false 10 960 (b10 + 10) H p w (fun H => qaf H a20) (some true) fun a21 H p w =>
  dq false false 11 0 (b10 + 11) H p w (fun _ => .val x1) (some true) fun a22 H p w =>
  dq false false 12 0 (b10 + 12) H p w (fun _ => .val x6) (some true) fun a23 H p w =>
  dq false false 13 6144 (b10 + 13) H p w (fun _ => idxS 3 a22 a23) (some true) fun a24 H p w =>
  dq false false 14 14336 (b10 + 14) H p w (fun _ => idxA 3 1 a24 (.int .i64 (.ofNat 2))) (some true) fun a25 H p w =>
  dq true false 15 30720 (b10 + 15) H p w (fun H => qaf H a25) (some true) fun a26 H p w =>
  dq false false 16 63488 (b10 + 16) H p w (fun _ => intV (qaa .eql).f a26 (.int .i64 (.ofNat 1))) (some true) fun a27 H p w =>
  de 131071 H p w (call (.f qsy) [a11, a16, a21, a27] (qb7 131071 p H)) (some true) fun a28 H p w =>
  dz2 p H fun H =>
  qxo call g7 x6 H
def qxp (call : Ev.Call) (q7e0 : Hp → R1) (x1 x5 : AV) (g7 : AV → Hp → R1) (x6 : AV) (H : Hp) : R1 :=
  vq (qb5 x1) H fun a30 H =>
  vq (intV (qaa .lss).f x6 a30) H fun a31 H =>
  cd a31 (
  qrp call g7 x1 x5 x6 H) (
  q7e0 H)
def qkg (call : Ev.Call) (q7e0 : Hp → R1) (x1 x5 : AV) (n : Nat) : AV → Hp → R1 :=
  Nat.rec (motive := fun _ => AV → Hp → R1) (fun _ _ => .bad) (fun _ ih => qxp call q7e0 x1 x5 ih) n
def qxq (call : Ev.Call) (q7e0 : Hp → R1) (x1 x5 : AV) : AV → Hp → R1 := qkg call q7e0 x1 x5 qcn
def q5j (call : Ev.Call) (x0 x1 : AV) (H : Hp) : R1 :=
  vq (.new (.ptr H.nx 0) (qab 0 [.int .i64 (.ofNat 0), .nilsl])) H fun a0 H =>
  ve (call (.f qsz) [x0] H) fun a1 H =>
  vq (.new (.ptr H.nx 0) (qab 0 [.int .i64 (.ofNat 0), .nilsl])) H fun a2 H =>
  ve (qcm 2 H a2 a1) fun _ H =>
  qxq call (fun H => qim call a0 a2 H) x1 a2 (.int .i64 (.ofNat 0)) H
def rMat (call : Ev.Call) (x0 x1 : AV) (H : Hp) : R1 := q5j call x0 x1 H
def qek (call : Ev.Call) (x3 : AV) (H : Hp) : R1 :=
  .ok x3 H
def qg6 (call : Ev.Call) (g2 : AV → AV → Hp → R1) (x3 x4 : AV) (H : Hp) : R1 :=
  vq (intV (qaa .add).f x4 (.int .i64 (.ofNat 1))) H fun a3 H =>
  g2 x3 a3 H
def qmz (call : Ev.Call) (g5 : AV → AV → Hp → R1) (x3 x5 : AV) (H : Hp) : R1 :=
  vq (intV (qaa .add).f x5 (.int .i64 (.ofNat 1))) H fun a6 H =>
  g5 x3 a6 H
def qjd (call : Ev.Call) (g5 : AV → AV → Hp → R1) (x1 x3 x4 x5 : AV) (H : Hp) : R1 :=
  vq (qae 1 x1) H fun a8 H =>
  vq (qaf H a8) H fun a9 H =>
  vq (qae 0 x1) H fun a10 H =>
  vq (qaf H a10) H fun a11 H =>
  vq (intV (qaa .mul).f x4 a11) H fun a12 H =>
  vq (intV (qaa .add).f a12 x5) H fun a13 H =>
  vq (idxS 1 a9 a13) H fun a14 H =>
  vq (qaf H a14) H fun a15 H =>
  vq (intV (qaa .gtr).f a15 (.int .i64 (.ofNat 1))) H fun a16 H =>
  cd a16 (
  vq (aggN (qap [.int .i64 (.ofNat 0), .int .i64 (.ofNat 0), .int .i64 (.ofNat 0)] [(0, 1, x4), (1, 1, x5), (2, 1, (.int .i64 (.ofNat 1)))])) H fun a17 H =>
  vq (qgl 1 H.nx (qap (reps [.int .i64 (.ofNat 0), .int .i64 (.ofNat 0), .int .i64 (.ofNat 0)] 1) [(0, 3, a17)])) H fun a18 H =>
  ve (qb9 3 24 H x3 (qdb 3 H a18)) fun a19 H =>
  qmz call g5 a19 x5 H) (
  qmz call g5 x3 x5 H)
def qrr (call : Ev.Call) (g5 : AV → AV → Hp → R1) (x1 x3 x4 x5 : AV) (H : Hp) : R1 :=
  vq (qae 1 x1) H fun a21 H =>
  vq (qaf H a21) H fun a22 H =>
  vq (qae 0 x1) H fun a23 H =>
  vq (qaf H a23) H fun a24 H =>
  vq (intV (qaa .mul).f x4 a24) H fun a25 H =>
  vq (intV (qaa .add).f a25 x5) H fun a26 H =>
  vq (idxS 1 a22 a26) H fun a27 H =>
  vq (qaf H a27) H fun a28 H =>
  vq (intV (qaa .rem).f a28 (.int .i64 (.ofNat 2))) H fun a29 H =>
  vq (intV (qaa .eql).f a29 (.int .i64 (.ofNat 1))) H fun a30 H =>
  cd a30 (
  vq (aggN (qap [.int .i64 (.ofNat 0), .int .i64 (.ofNat 0), .int .i64 (.ofNat 0)] [(0, 1, x4), (1, 1, x5), (2, 1, (.int .i64 (.ofNat 0)))])) H fun a31 H =>
  vq (qgl 1 H.nx (qap (reps [.int .i64 (.ofNat 0), .int .i64 (.ofNat 0), .int .i64 (.ofNat 0)] 1) [(0, 3, a31)])) H fun a32 H =>
  ve (qb9 3 24 H x3 (qdb 3 H a32)) fun a33 H =>
  qjd call g5 x1 a33 x4 x5 H) (
  qjd call g5 x1 x3 x4 x5 H)
def qxr (call : Ev.Call) (q5e2 : AV → Hp → R1) (x1 x4 : AV) (g5 : AV → AV → Hp → R1) (x3 x5 : AV) (H : Hp) : R1 :=
  vq (qae 0 x1) H fun a35 H =>
  vq (qaf H a35) H fun a36 H =>
  vq (intV (qaa .lss).f x5 a36) H fun a37 H =>
  cd a37 (
  qrr call g5 x1 x3 x4 x5 H) (
  q5e2 x3 H)
def qg5 (call : Ev.Call) (q5e2 : AV → Hp → R1) (x1 x4 : AV) (n : Nat) : AV → AV → Hp → R1 :=
  Nat.rec (motive := fun _ => AV → AV → Hp → R1) (fun _ _ _ => .bad) (fun _ ih => qxr call q5e2 x1 x4 ih) n
def qxt (call : Ev.Call) (q5e2 : AV → Hp → R1) (x1 x4 : AV) : AV → AV → Hp → R1 := qg5 call q5e2 x1 x4 qcn
def qrq (call : Ev.Call) (g2 : AV → AV → Hp → R1) (x1 x3 x4 : AV) (H : Hp) : R1 :=
  qxt call (fun x3 H => qg6 call g2 x3 x4 H) x1 x4 x3 (.int .i64 (.ofNat 0)) H
def qxs (call : Ev.Call) (q2e0 : AV → Hp → R1) (x1 : AV) (g2 : AV → AV → Hp → R1) (x3 x4 : AV) (H : Hp) : R1 :=
  vq (qae 0 x1) H fun a39 H =>
  vq (qaf H a39) H fun a40 H =>
  vq (intV (qaa .lss).f x4 a40) H fun a41 H =>
  cd a41 (
  qrq call g2 x1 x3 x4 H) (
  q2e0 x3 H)
def qex (call : Ev.Call) (q2e0 : AV → Hp → R1) (x1 : AV) (n : Nat) : AV → AV → Hp → R1 :=
  Nat.rec (motive := fun _ => AV → AV → Hp → R1) (fun _ _ _ => .bad) (fun _ ih => qxs call q2e0 x1 ih) n
def qxu (call : Ev.Call) (q2e0 : AV → Hp → R1) (x1 : AV) : AV → AV → Hp → R1 := qex call q2e0 x1 qcn
def q5l (call : Ev.Call) (x0 : AV) (H : Hp) : R1 :=
  vq (boxA 2 H.nx x0) H fun a0 H =>
  qxu call (fun x3 H => qek call x3 H) a0 (.nilsl) (.int .i64 (.ofNat 0)) H
def rEdg (call : Ev.Call) (x0 : AV) (H : Hp) : R1 := q5l call x0 H
def q8d (call : Ev.Call) (x0 x1 x2 : AV) (H : Hp) : R1 :=
  vq (boxA 3 H.nx x0) H fun a0 H =>
  vl (qae 1 x1) fun a1 =>
  vl (qaf H a1) fun a2 =>
  vl (qae 0 a0) fun a3 =>
  vl (qaf H a3) fun a4 =>
  vl (idxS 1 a2 a4) fun a5 =>
  vl (qaf H a5) fun a6 =>
  vl (qae 1 x1) fun a7 =>
  vl (qaf H a7) fun a8 =>
  vl (qae 1 a0) fun a9 =>
  vl (qaf H a9) fun a10 =>
  vl (idxS 1 a8 a10) fun a11 =>
  vl (qaf H a11) fun a12 =>
  vl (qae 2 a0) fun a13 =>
  vl (qaf H a13) fun a14 =>
  vl (aggN (qap [.int .i64 (.ofNat 0), .int .i64 (.ofNat 0), .bool false] [(0, 1, a6), (1, 1, a12), (2, 1, a14)])) fun a15 =>
  vl (qcb 3 H x2) fun a16 =>
  vl (qj1 false ((⟨E2.f ⟨qoq (eqFields [(p1, ⟨qju⟩, 0), (p1, ⟨qju⟩, 1), (p1, ⟨qgz⟩, 2)])⟩⟩ : E2).f a15 a16)) fun a17 =>
  .ok a17 H
def cndA (call : Ev.Call) (x0 x1 x2 : AV) (H : Hp) : R1 := q8d call x0 x1 x2 H
def q4n (call : Ev.Call) (x0 x1 : AV) (H : Hp) : R1 :=
  ve (call (.f qst) [x0, x1] H) fun a0 H =>
  vq (intV (qaa .geq).f a0 (.int .i64 (.ofNat 0))) H fun a1 H =>
  .ok a1 H
def sCon (call : Ev.Call) (x0 x1 : AV) (H : Hp) : R1 := q4n call x0 x1 H
def qw4 (call : Ev.Call) (x0 : AV) (H : Hp) : R1 :=
  vq (qb5 x0) H fun a0 H =>
  vq (qb5 x0) H fun a1 H =>
  vq (qdj 3 x0 none (some a0) (some a1)) H fun a2 H =>
  .ok a2 H
def sClpE (call : Ev.Call) (x0 : AV) (H : Hp) : R1 := qw4 call x0 H
def qiv (call : Ev.Call) (H : Hp) : R1 :=
  .ok (.int .i64 (.ofNat 0)) H
def qs8 (call : Ev.Call) (g5 : AV → Hp → R1) (x16 : AV) (H : Hp) : R1 :=
  vq (intV (qaa .add).f x16 (.int .i64 (.ofNat 1))) H fun a7 H =>
  g5 a7 H
def q7b (call : Ev.Call) (q5r : AV → Hp → R1) (g5 : AV → Hp → R1) (x1 x3 x4 x16 : AV) (H : Hp) : R1 :=
  vq (qae 0 x4) H fun a13 H =>
  vq (qaf H a13) H fun a14 H =>
  vq (qae 1 x4) H fun a15 H =>
  vq (qaf H a15) H fun a16 H =>
  vq (qgo minV a14 [a16]) H fun a17 H =>
  vq (intV (qaa .lss).f a17 (.int .i64 (.ofNat 0))) H fun a18 H =>
  vg (qac false a18) (qae 0 x4) H fun a19 H =>
  vg (qac false a18) (qaf H a19) H fun a20 H =>
  vg (qac false a18) (qae 1 x4) H fun a21 H =>
  vg (qac false a18) (qaf H a21) H fun a22 H =>
  vg (qac false a18) (qgo maxV a20 [a22]) H fun a23 H =>
  vg (qac false a18) (qae 0 x1) H fun a24 H =>
  vg (qac false a18) (qaf H a24) H fun a25 H =>
  vg (qac false a18) (intV (qaa .geq).f a23 a25) H fun a26 H =>
  vq (qck a18 (.bool true) a26) H fun a27 H =>
  cd a27 (
  q5r (.int .i64 (.ofNat 4)) H) (
  dz 0 H fun b28 H =>
  dq false false 0 0 (b28 + 0) H [] [] (fun _ => .val x3) (some true) fun a29 H p w =>
  dq false false 1 1 (b28 + 1) H p w (fun _ => intV (qaa .gtr).f a29 (.int .i64 (.ofNat 0))) (some true) fun a30 H p w =>
  dq false false 2 3 (b28 + 2) H p w (fun _ => .val a30) (some true) fun a31 H p w =>
  dq false false 3 7 (b28 + 3) H p w (fun _ => qae 1 x1) (qac true a31) fun a32 H p w =>
  dq true false 4 15 (b28 + 4) H p w (fun H => qaf H a32) (qac true a31) fun a33 H p w =>
  dq false false 5 7 (b28 + 5) H p w (fun _ => .val x3) (qac true a31) fun a34 H p w =>
  dq false false 6 39 (b28 + 6) H p w (fun _ => intV (qaa .sub).f a34 (.int .i64 (.ofNat 1))) (qac true a31) fun a35 H p w =>
  dq false false 7 127 (b28 + 7) H p w (fun _ => idxS 3 a33 a35) (qac true a31) fun a36 H p w =>
  dq true false 8 255 (b28 + 8) H p w (fun H => qcb 3 H a36) (qac true a31) fun a37 H p w =>
  dq true false 9 7 (b28 + 9) H p w (fun H => qcb 3 H x4) (qac true a31) fun a38 H p w =>
  de 1023 H p w (call (.f qs1) [a37, a38] (qb7 1023 p H)) (qac true a31) fun a39 H p w =>
  dq false false 11 2047 (b28 + 11) H p w (fun _ => intV (qaa .geq).f a39 (.int .i64 (.ofNat 0))) (qac true a31) fun a40 H p w =>
  dq false false 12 4095 (b28 + 12) H p w (fun _ => qck a31 a40 (.bool false)) (some true) fun a41 H p w =>
  dq false false 13 8191 (b28 + 13) H p w (fun _ => .val a41) (some true) fun a42 H p w =>
  dz2 p H fun H =>
  cd a42 (
  q5r (.int .i64 (.ofNat 18)) H) (
  qs8 call g5 x16 H))
def qta (call : Ev.Call) (q5r : AV → Hp → R1) (g5 : AV → Hp → R1) (x1 x14 x16 : AV) (H : Hp) : R1 :=
  vq (idxS 3 x14 x16) H fun a9 H =>
  vq (qcb 3 H a9) H fun a10 H =>
  vq (.new (.ptr H.nx 0) (qab 0 [.int .i64 (.ofNat 0), .int .i64 (.ofNat 0), .bool false])) H fun a11 H =>
  ve (qcm 3 H a11 a10) fun _ H =>
  q7b call q5r g5 x1 x16 a11 x16 H
def qyl (call : Ev.Call) (q5r : AV → Hp → R1) (q5e0 : Hp → R1) (x1 x14 x15 : AV) (g5 : AV → Hp → R1) (x16 : AV) (H : Hp) : R1 :=
  vq (intV (qaa .lss).f x16 x15) H fun a6 H =>
  cd a6 (
  qta call q5r g5 x1 x14 x16 H) (
  q5e0 H)
def qiu (call : Ev.Call) (q5r : AV → Hp → R1) (q5e0 : Hp → R1) (x1 x14 x15 : AV) (n : Nat) : AV → Hp → R1 :=
  Nat.rec (motive := fun _ => AV → Hp → R1) (fun _ _ => .bad) (fun _ ih => qyl call q5r q5e0 x1 x14 x15 ih) n
def qym (call : Ev.Call) (q5r : AV → Hp → R1) (q5e0 : Hp → R1) (x1 x14 x15 : AV) : AV → Hp → R1 := qiu call q5r q5e0 x1 x14 x15 qcn
def qs9 (call : Ev.Call) (x1 : AV) (H : Hp) : R1 :=
  vq (qae 1 x1) H fun a2 H =>
  vq (qaf H a2) H fun a3 H =>
  vq (qb5 a3) H fun a4 H =>
  qym call (fun x2 H => .ok x2 H) (fun H => qiv call H) x1 a3 a4 (.int .i64 (.ofNat 0)) H
def q7d (call : Ev.Call) (x0 : AV) (H : Hp) : R1 :=
  vq (boxA 2 H.nx x0) H fun a0 H =>
  vq (qae 0 a0) H fun a45 H =>
  vq (qaf H a45) H fun a46 H =>
  vq (intV (qaa .lss).f a46 (.int .i64 (.ofNat 0))) H fun a47 H =>
  vg (qac false a47) (qae 0 a0) H fun a48 H =>
  vg (qac false a47) (qaf H a48) H fun a49 H =>
  vg (qac false a47) (intV (qaa .gtr).f a49 (.int .i64 (.ofNat 256))) H fun a50 H =>
  vq (qck a47 (.bool true) a50) H fun a51 H =>
  cd a51 (
  .ok (.int .i64 (.ofNat 3)) H) (
  qs9 call a0 H)
def gChk (call : Ev.Call) (x0 : AV) (H : Hp) : R1 := q7d call x0 H
def qe6 (call : Ev.Call) (x3 : AV) (H : Hp) : R1 :=
  vq (qae 1026 x3) H fun a2 H =>
  vq (qaf H a2) H fun a3 H =>
  .ok a3 H
def qf7 (call : Ev.Call) (g7 : AV → Hp → R1) (x30 : AV) (H : Hp) : R1 :=
  vq (intV (qaa .add).f x30 (.int .i64 (.ofNat 1))) H fun a9 H =>
  g7 a9 H
def qk1 (call : Ev.Call) (g7 : AV → Hp → R1) (x3 x30 : AV) (H : Hp) : R1 :=
  vq (qae 256 x3) H fun a11 H =>
  vq (idxA 256 1 a11 x30) H fun a12 H =>
  vq (qaf H a12) H fun a13 H =>
  vq (intV (qaa .eql).f a13 (.int .i64 (.ofNat 0))) H fun a14 H =>
  cd a14 (
  ve (call (.f ql8) [x3, x30] H) fun a15 H =>
  qf7 call g7 x30 H) (
  qf7 call g7 x30 H)
def qo0 (call : Ev.Call) (q7e2 : Hp → R1) (x3 x29 : AV) (g7 : AV → Hp → R1) (x30 : AV) (H : Hp) : R1 :=
  vq (intV (qaa .lss).f x30 x29) H fun a8 H =>
  cd a8 (
  qk1 call g7 x3 x30 H) (
  q7e2 H)
def qf6 (call : Ev.Call) (q7e2 : Hp → R1) (x3 x29 : AV) (n : Nat) : AV → Hp → R1 :=
  Nat.rec (motive := fun _ => AV → Hp → R1) (fun _ _ => .bad) (fun _ ih => qo0 call q7e2 x3 x29 ih) n
def qo1 (call : Ev.Call) (q7e2 : Hp → R1) (x3 x29 : AV) : AV → Hp → R1 := qf6 call q7e2 x3 x29 qcn
def qd7 (call : Ev.Call) (x1 x3 : AV) (H : Hp) : R1 :=
  vq (qae 0 x1) H fun a5 H =>
  vq (qaf H a5) H fun a6 H =>
  qo1 call (fun H => qe6 call x3 H) x3 a6 (.int .i64 (.ofNat 0)) H
def qk0 (call : Ev.Call) (g21 : AV → Hp → R1) (x10 : AV) (H : Hp) : R1 :=
  vq (intV (qaa .add).f x10 (.int .i64 (.ofNat 1))) H fun a23 H =>
  g21 a23 H
def qkz (call : Ev.Call) (g21 : AV → Hp → R1) (x3 x8 x10 : AV) (H : Hp) : R1 :=
  vq (idxS 3 x8 x10) H fun a25 H =>
  vq (qcb 3 H a25) H fun a26 H =>
  vq (.new (.ptr H.nx 0) (qab 0 [.int .i64 (.ofNat 0), .int .i64 (.ofNat 0), .bool false])) H fun a27 H =>
  ve (qcm 3 H a27 a26) fun _ H =>
  dz 14 H fun b29 H =>
  dq false false 0 0 (b29 + 0) H [] [] (fun _ => qae 0 a27) (some true) fun a30 H p w =>
  dq true false 1 1 (b29 + 1) H p w (fun H => qaf H a30) (some true) fun a31 H p w =>
  dq false false 2 0 (b29 + 2) H p w (fun _ => qae 0 a27) (some true) fun a32 H p w =>
  dq true false 3 4 (b29 + 3) H p w (fun H => qaf H a32) (some true) fun a33 H p w =>
  dq false false 4 0 (b29 + 4) H p w (fun _ => qae 0 x3) (some true) fun a34 H p w =>
  dq false false 5 28 (b29 + 5) H p w (fun _ => idxA 256 1 a34 a33) (some true) fun a35 H p w =>
  dq true false 6 60 (b29 + 6) H p w (fun H => qaf H a35) (some true) fun a36 H p w =>
  dq false false 7 0 (b29 + 7) H p w (fun _ => qae 1 a27) (some true) fun a37 H p w =>
  dq true false 8 128 (b29 + 8) H p w (fun H => qaf H a37) (some true) fun a38 H p w =>
  dq false true 9 384 (b29 + 9) H p w (fun _ => qgl 1 (b29 + 9) (qap (reps [.int .i64 (.ofNat 0)] 1) [(0, 1, a38)])) (some true) fun a39 H p w =>
  dq false false 11 0 (b29 + 11) H p w (fun _ => qae 0 x3) (some true) fun a40 H p w =>
  de 1020 H p w (qb9 1 8 (qb7 1020 p H) a36 (qdb 1 (qb7 1020 p H) a39)) (some true) fun a41 H p w =>
  dq false false 12 4095 (b29 + 12) H p w (fun _ => idxA 256 1 a40 a31) (some true) fun a42 H p w =>
  de 8191 H p w (qb4 (qb7 8191 p H) a42 a41) (some true) fun _ H p w =>
  dz2 p H fun H =>
  qk0 call g21 x10 H
def qk2 (call : Ev.Call) (q21e0 : Hp → R1) (x3 x8 x9 : AV) (g21 : AV → Hp → R1) (x10 : AV) (H : Hp) : R1 :=
  vq (intV (qaa .lss).f x10 x9) H fun a22 H =>
  cd a22 (
  qkz call g21 x3 x8 x10 H) (
  q21e0 H)
def qeu (call : Ev.Call) (q21e0 : Hp → R1) (x3 x8 x9 : AV) (n : Nat) : AV → Hp → R1 :=
  Nat.rec (motive := fun _ => AV → Hp → R1) (fun _ _ => .bad) (fun _ ih => qk2 call q21e0 x3 x8 x9 ih) n
def qk3 (call : Ev.Call) (q21e0 : Hp → R1) (x3 x8 x9 : AV) : AV → Hp → R1 := qeu call q21e0 x3 x8 x9 qcn
def qtv (call : Ev.Call) (x0 : AV) (H : Hp) : R1 :=
  vq (boxA 2 H.nx x0) H fun a0 H =>
  vq (.new (.ptr H.nx 0) (qab 0 (List.replicate 256 (.nilsl) ++ List.replicate 512 (.int .i64 (.ofNat 0)) ++ List.replicate 256 (.bool false) ++ [.nilsl] ++ [.int .i64 (.ofNat 0)] ++ [.nilsl]))) H fun a1 H =>
  vq (qae 1 a0) H fun a18 H =>
  vq (qaf H a18) H fun a19 H =>
  vq (qb5 a19) H fun a20 H =>
  qk3 call (fun H => qd7 call a0 a1 H) a1 a19 a20 (.int .i64 (.ofNat 0)) H
def cParts (call : Ev.Call) (x0 : AV) (H : Hp) : R1 := qtv call x0 H
def qe5 (call : Ev.Call) (x2 x3 x5 : AV) (H : Hp) : R1 :=
  .ok (.fn qhc [] [x3, x2, x5]) H
def qgt (call : Ev.Call) (g12 : AV → Hp → R1) (x17 : AV) (H : Hp) : R1 :=
  vq (intV (qaa .add).f x17 (.int .i64 (.ofNat 1))) H fun a14 H =>
  g12 a14 H
def qtq (call : Ev.Call) (g19 : AV → Hp → R1) (x24 : AV) (H : Hp) : R1 :=
  vq (intV (qaa .add).f x24 (.int .i64 (.ofNat 1))) H fun a21 H =>
  g19 a21 H
def qtp (call : Ev.Call) (g19 : AV → Hp → R1) (x5 x6 x22 x24 : AV) (H : Hp) : R1 :=
  vq (idxS 1 x22 x24) H fun a23 H =>
  vq (qaf H a23) H fun a24 H =>
  vq (qaf H x5) H fun a25 H =>
  vq (idxS 1 a25 a24) H fun a26 H =>
  ve (qb4 H a26 x6) fun _ H =>
  qtq call g19 x24 H
def qtr (call : Ev.Call) (q19e2 : Hp → R1) (x5 x6 x22 x23 : AV) (g19 : AV → Hp → R1) (x24 : AV) (H : Hp) : R1 :=
  vq (intV (qaa .lss).f x24 x23) H fun a20 H =>
  cd a20 (
  qtp call g19 x5 x6 x22 x24 H) (
  q19e2 H)
def qh3 (call : Ev.Call) (q19e2 : Hp → R1) (x5 x6 x22 x23 : AV) (n : Nat) : AV → Hp → R1 :=
  Nat.rec (motive := fun _ => AV → Hp → R1) (fun _ _ => .bad) (fun _ ih => qtr call q19e2 x5 x6 x22 x23 ih) n
def qtt (call : Ev.Call) (q19e2 : Hp → R1) (x5 x6 x22 x23 : AV) : AV → Hp → R1 := qh3 call q19e2 x5 x6 x22 x23 qcn
def qto (call : Ev.Call) (g12 : AV → Hp → R1) (x5 x15 x17 : AV) (H : Hp) : R1 :=
  vq (idxS 1 x15 x17) H fun a16 H =>
  vq (qaf H a16) H fun a17 H =>
  vq (qb5 a17) H fun a18 H =>
  qtt call (fun H => qgt call g12 x17 H) x5 x17 a17 a18 (.int .i64 (.ofNat 0)) H
def qts (call : Ev.Call) (q12e0 : Hp → R1) (x5 x15 x16 : AV) (g12 : AV → Hp → R1) (x17 : AV) (H : Hp) : R1 :=
  vq (intV (qaa .lss).f x17 x16) H fun a13 H =>
  cd a13 (
  qto call g12 x5 x15 x17 H) (
  q12e0 H)
def qec (call : Ev.Call) (q12e0 : Hp → R1) (x5 x15 x16 : AV) (n : Nat) : AV → Hp → R1 :=
  Nat.rec (motive := fun _ => AV → Hp → R1) (fun _ _ => .bad) (fun _ ih => qts call q12e0 x5 x15 x16 ih) n
def qtu (call : Ev.Call) (q12e0 : Hp → R1) (x5 x15 x16 : AV) : AV → Hp → R1 := qec call q12e0 x5 x15 x16 qcn
def q8l (call : Ev.Call) (x0 x1 : AV) (H : Hp) : R1 :=
  vq (boxA 2 H.nx x0) H fun a0 H =>
  vq (box1 H.nx x1) H fun a1 H =>
  vq (qaf H a1) H fun a2 H =>
  ve (call (.f qcw) [a2, (.fn qir [] [])] H) fun a3 H =>
  vq (qae 0 a0) H fun a4 H =>
  vq (qaf H a4) H fun a5 H =>
  vq (qhb [.int .i64 (.ofNat 0)] 8 H.nx a5 a5) H fun a6 H =>
  vq (.new (.ptr H.nx 0) (qab 0 [.nilsl])) H fun a7 H =>
  ve (qb4 H a7 a6) fun _ H =>
  vq (qaf H a1) H fun a10 H =>
  vq (qb5 a10) H fun a11 H =>
  qtu call (fun H => qe5 call a0 a1 a7 H) a7 a10 a11 (.int .i64 (.ofNat 0)) H
def cRdy (call : Ev.Call) (x0 x1 : AV) (H : Hp) : R1 := q8l call x0 x1 H
def q4r (call : Ev.Call) (x0 : AV) (H : Hp) : R1 :=
  vq (qb5 x0) H fun a0 H =>
  vq (qb5 x0) H fun a1 H =>
  vq (qdj 1 x0 none (some a0) (some a1)) H fun a2 H =>
  .ok a2 H
def sClp (call : Ev.Call) (x0 : AV) (H : Hp) : R1 := q4r call x0 H
def qw3 (call : Ev.Call) (x0 : AV) (H : Hp) : R1 :=
  vq (qb5 x0) H fun a0 H =>
  vq (qb5 x0) H fun a1 H =>
  vq (qdj 1 x0 none (some a0) (some a1)) H fun a2 H =>
  .ok a2 H
def sClpS (call : Ev.Call) (x0 : AV) (H : Hp) : R1 := qw3 call x0 H
def q39 (call : Ev.Call) (x0 x1 : AV) (H : Hp) : R1 :=
  vq (boxA 3 H.nx x0) H fun a0 H =>
  vl (qae 0 a0) fun a1 =>
  vl (qaf H a1) fun a2 =>
  vl (qaf H x1) fun a3 =>
  vl (idxS 1 a3 (.int .i64 (.ofNat 0))) fun a4 =>
  vl (qaf H a4) fun a5 =>
  vl (intV (qaa .eql).f a2 a5) fun a6 =>
  vlg (qac true a6) (qae 1 a0) fun a7 =>
  vlg (qac true a6) (qaf H a7) fun a8 =>
  vlg (qac true a6) (qaf H x1) fun a9 =>
  vlg (qac true a6) (idxS 1 a9 (.int .i64 (.ofNat 0))) fun a10 =>
  vlg (qac true a6) (qaf H a10) fun a11 =>
  vlg (qac true a6) (intV (qaa .eql).f a8 a11) fun a12 =>
  vl (qck a6 a12 (.bool false)) fun a13 =>
  .ok a13 H
def simA (call : Ev.Call) (x0 x1 : AV) (H : Hp) : R1 := q39 call x0 x1 H
def qcv (call : Ev.Call) (x3 : AV) (H : Hp) : R1 :=
  .ok x3 H
def qdg (call : Ev.Call) (g8 : AV → Hp → R1) (x6 : AV) (H : Hp) : R1 :=
  vq (intV (qaa .add).f x6 (.int .i64 (.ofNat 1))) H fun a9 H =>
  g8 a9 H
def qe1 (call : Ev.Call) (g11 : AV → Hp → R1) (x7 : AV) (H : Hp) : R1 :=
  vq (intV (qaa .add).f x7 (.int .i64 (.ofNat 1))) H fun a12 H =>
  g11 a12 H
def qe0 (call : Ev.Call) (g14 : AV → Hp → R1) (x8 : AV) (H : Hp) : R1 :=
  vq (intV (qaa .add).f x8 (.int .i64 (.ofNat 1))) H fun a15 H =>
  g14 a15 H
def qm4 (call : Ev.Call) (g14 : AV → Hp → R1) (x1 x3 x6 x7 x8 : AV) (H : Hp) : R1 :=
  vl (qae 0 x1) fun a17 =>
  vl (qaf H a17) fun a18 =>
  vl (intV (qaa .mul).f x7 a18) fun a19 =>
  vl (intV (qaa .add).f a19 x6) fun a20 =>
  vl (idxS 1 x3 a20) fun a21 =>
  vl (qaf H a21) fun a22 =>
  vl (qae 0 x1) fun a23 =>
  vl (qaf H a23) fun a24 =>
  vl (intV (qaa .mul).f x6 a24) fun a25 =>
  vl (intV (qaa .add).f a25 x8) fun a26 =>
  vl (idxS 1 x3 a26) fun a27 =>
  vl (qaf H a27) fun a28 =>
  vq (intV (qaa .geq).f a22 (.int .i64 (.ofNat 0))) H fun a29 H =>
  vg (qac true a29) (.val a28) H fun a30 H =>
  vg (qac true a29) (intV (qaa .geq).f a30 (.int .i64 (.ofNat 0))) H fun a31 H =>
  vq (qck a29 a31 (.bool false)) H fun a32 H =>
  vg (qac true a32) (.val x3) H fun a33 H =>
  vg (qac true a32) (.val x7) H fun a34 H =>
  vg (qac true a32) (qae 0 x1) H fun a35 H =>
  vg (qac true a32) (qaf H a35) H fun a36 H =>
  vg (qac true a32) (intV (qaa .mul).f a34 a36) H fun a37 H =>
  vg (qac true a32) (.val x8) H fun a38 H =>
  vg (qac true a32) (intV (qaa .add).f a37 a38) H fun a39 H =>
  vg (qac true a32) (idxS 1 a33 a39) H fun a40 H =>
  vg (qac true a32) (qaf H a40) H fun a41 H =>
  vg (qac true a32) (intV (qaa .lss).f a41 (.int .i64 (.ofNat 0))) H fun a42 H =>
  vg (qac true a32) (.val a42) H fun a43 H =>
  vg (qac false a43) (.val a22) H fun a44 H =>
  vg (qac false a43) (.val a28) H fun a45 H =>
  vg (qac false a43) (intV (qaa .add).f a44 a45) H fun a46 H =>
  vg (qac false a43) (.val x3) H fun a47 H =>
  vg (qac false a43) (.val x7) H fun a48 H =>
  vg (qac false a43) (qae 0 x1) H fun a49 H =>
  vg (qac false a43) (qaf H a49) H fun a50 H =>
  vg (qac false a43) (intV (qaa .mul).f a48 a50) H fun a51 H =>
  vg (qac false a43) (.val x8) H fun a52 H =>
  vg (qac false a43) (intV (qaa .add).f a51 a52) H fun a53 H =>
  vg (qac false a43) (idxS 1 a47 a53) H fun a54 H =>
  vg (qac false a43) (qaf H a54) H fun a55 H =>
  vg (qac false a43) (intV (qaa .lss).f a46 a55) H fun a56 H =>
  vg (qac true a32) (qck a43 (.bool true) a56) H fun a57 H =>
  vq (qck a32 a57 (.bool false)) H fun a58 H =>
  cd a58 (
  vq (qae 0 x1) H fun a59 H =>
  vq (qaf H a59) H fun a60 H =>
  vq (intV (qaa .mul).f x7 a60) H fun a61 H =>
  vq (intV (qaa .add).f a61 x8) H fun a62 H =>
  vq (intV (qaa .add).f a22 a28) H fun a63 H =>
  vq (idxS 1 x3 a62) H fun a64 H =>
  ve (qb4 H a64 a63) fun _ H =>
  qe0 call g14 x8 H) (
  qe0 call g14 x8 H)
def qm7 (call : Ev.Call) (q14e8 : Hp → R1) (x1 x3 x6 x7 : AV) (g14 : AV → Hp → R1) (x8 : AV) (H : Hp) : R1 :=
  vq (qae 0 x1) H fun a67 H =>
  vq (qaf H a67) H fun a68 H =>
  vq (intV (qaa .lss).f x8 a68) H fun a69 H =>
  cd a69 (
  qm4 call g14 x1 x3 x6 x7 x8 H) (
  q14e8 H)
def qef (call : Ev.Call) (q14e8 : Hp → R1) (x1 x3 x6 x7 : AV) (n : Nat) : AV → Hp → R1 :=
  Nat.rec (motive := fun _ => AV → Hp → R1) (fun _ _ => .bad) (fun _ ih => qm7 call q14e8 x1 x3 x6 x7 ih) n
def qnb (call : Ev.Call) (q14e8 : Hp → R1) (x1 x3 x6 x7 : AV) : AV → Hp → R1 := qef call q14e8 x1 x3 x6 x7 qcn
def qm3 (call : Ev.Call) (g11 : AV → Hp → R1) (x1 x3 x6 x7 : AV) (H : Hp) : R1 :=
  qnb call (fun H => qe1 call g11 x7 H) x1 x3 x6 x7 (.int .i64 (.ofNat 0)) H
def qm8 (call : Ev.Call) (q11e6 : Hp → R1) (x1 x3 x6 : AV) (g11 : AV → Hp → R1) (x7 : AV) (H : Hp) : R1 :=
  vq (qae 0 x1) H fun a71 H =>
  vq (qaf H a71) H fun a72 H =>
  vq (intV (qaa .lss).f x7 a72) H fun a73 H =>
  cd a73 (
  qm3 call g11 x1 x3 x6 x7 H) (
  q11e6 H)
def qdm (call : Ev.Call) (q11e6 : Hp → R1) (x1 x3 x6 : AV) (n : Nat) : AV → Hp → R1 :=
  Nat.rec (motive := fun _ => AV → Hp → R1) (fun _ _ => .bad) (fun _ ih => qm8 call q11e6 x1 x3 x6 ih) n
def qnc (call : Ev.Call) (q11e6 : Hp → R1) (x1 x3 x6 : AV) : AV → Hp → R1 := qdm call q11e6 x1 x3 x6 qcn
def qm2 (call : Ev.Call) (g8 : AV → Hp → R1) (x1 x3 x6 : AV) (H : Hp) : R1 :=
  qnc call (fun H => qdg call g8 x6 H) x1 x3 x6 (.int .i64 (.ofNat 0)) H
def qrs (call : Ev.Call) (q8e4 : Hp → R1) (x1 x3 : AV) (g8 : AV → Hp → R1) (x6 : AV) (H : Hp) : R1 :=
  vq (qae 0 x1) H fun a75 H =>
  vq (qaf H a75) H fun a76 H =>
  vq (intV (qaa .lss).f x6 a76) H fun a77 H =>
  cd a77 (
  qm2 call g8 x1 x3 x6 H) (
  q8e4 H)
def qdc (call : Ev.Call) (q8e4 : Hp → R1) (x1 x3 : AV) (n : Nat) : AV → Hp → R1 :=
  Nat.rec (motive := fun _ => AV → Hp → R1) (fun _ _ => .bad) (fun _ ih => qrs call q8e4 x1 x3 ih) n
def qrt (call : Ev.Call) (q8e4 : Hp → R1) (x1 x3 : AV) : AV → Hp → R1 := qdc call q8e4 x1 x3 qcn
def qez (call : Ev.Call) (x1 x3 : AV) (H : Hp) : R1 :=
  qrt call (fun H => qcv call x3 H) x1 x3 (.int .i64 (.ofNat 0)) H
def qm1 (call : Ev.Call) (g79 : AV → Hp → R1) (x5 : AV) (H : Hp) : R1 :=
  vq (intV (qaa .add).f x5 (.int .i64 (.ofNat 1))) H fun a80 H =>
  g79 a80 H
def qm0 (call : Ev.Call) (g79 : AV → Hp → R1) (x1 x3 x5 : AV) (H : Hp) : R1 :=
  vq (qae 0 x1) H fun a82 H =>
  vq (qaf H a82) H fun a83 H =>
  vq (intV (qaa .mul).f x5 a83) H fun a84 H =>
  vq (intV (qaa .add).f a84 x5) H fun a85 H =>
  vq (idxS 1 x3 a85) H fun a86 H =>
  ve (qb4 H a86 (.int .i64 (.ofNat 0))) fun _ H =>
  qm1 call g79 x5 H
def qm6 (call : Ev.Call) (q79e2 : Hp → R1) (x1 x3 : AV) (g79 : AV → Hp → R1) (x5 : AV) (H : Hp) : R1 :=
  vq (qae 0 x1) H fun a89 H =>
  vq (qaf H a89) H fun a90 H =>
  vq (intV (qaa .lss).f x5 a90) H fun a91 H =>
  cd a91 (
  qm0 call g79 x1 x3 x5 H) (
  q79e2 H)
def qf0 (call : Ev.Call) (q79e2 : Hp → R1) (x1 x3 : AV) (n : Nat) : AV → Hp → R1 :=
  Nat.rec (motive := fun _ => AV → Hp → R1) (fun _ _ => .bad) (fun _ ih => qm6 call q79e2 x1 x3 ih) n
def qna (call : Ev.Call) (q79e2 : Hp → R1) (x1 x3 : AV) : AV → Hp → R1 := qf0 call q79e2 x1 x3 qcn
def qey (call : Ev.Call) (x1 x3 : AV) (H : Hp) : R1 :=
  qna call (fun H => qez call x1 x3 H) x1 x3 (.int .i64 (.ofNat 0)) H
def qg7 (call : Ev.Call) (g93 : AV → Hp → R1) (x4 : AV) (H : Hp) : R1 :=
  vq (intV (qaa .add).f x4 (.int .i64 (.ofNat 1))) H fun a94 H =>
  g93 a94 H
def qkh (call : Ev.Call) (g93 : AV → Hp → R1) (x1 x3 x4 : AV) (H : Hp) : R1 :=
  vq (idxS 1 x3 x4) H fun a96 H =>
  ve (qb4 H a96 (.int .i64 (.negSucc 0))) fun _ H =>
  vq (qae 1 x1) H fun a98 H =>
  vq (qaf H a98) H fun a99 H =>
  vq (idxS 1 a99 x4) H fun a100 H =>
  vq (qaf H a100) H fun a101 H =>
  vq (intV (qaa .gtr).f a101 (.int .i64 (.ofNat 0))) H fun a102 H =>
  cd a102 (
  vq (idxS 1 x3 x4) H fun a103 H =>
  ve (qb4 H a103 (.int .i64 (.ofNat 1))) fun _ H =>
  qg7 call g93 x4 H) (
  qg7 call g93 x4 H)
def qm5 (call : Ev.Call) (q93e0 : Hp → R1) (x1 x3 : AV) (g93 : AV → Hp → R1) (x4 : AV) (H : Hp) : R1 :=
  vq (qb5 x3) H fun a106 H =>
  vq (intV (qaa .lss).f x4 a106) H fun a107 H =>
  cd a107 (
  qkh call g93 x1 x3 x4 H) (
  q93e0 H)
def qfz (call : Ev.Call) (q93e0 : Hp → R1) (x1 x3 : AV) (n : Nat) : AV → Hp → R1 :=
  Nat.rec (motive := fun _ => AV → Hp → R1) (fun _ _ => .bad) (fun _ ih => qm5 call q93e0 x1 x3 ih) n
def qm9 (call : Ev.Call) (q93e0 : Hp → R1) (x1 x3 : AV) : AV → Hp → R1 := qfz call q93e0 x1 x3 qcn
def qxv (call : Ev.Call) (x0 : AV) (H : Hp) : R1 :=
  vq (boxA 2 H.nx x0) H fun a0 H =>
  vq (qae 0 a0) H fun a1 H =>
  vq (qaf H a1) H fun a2 H =>
  vq (qae 0 a0) H fun a3 H =>
  vq (qaf H a3) H fun a4 H =>
  vq (intV (qaa .mul).f a2 a4) H fun a5 H =>
  vq (qhb [.int .i64 (.ofNat 0)] 8 H.nx a5 a5) H fun a6 H =>
  qm9 call (fun H => qey call a0 a6 H) a0 a6 (.int .i64 (.ofNat 0)) H
def rDist (call : Ev.Call) (x0 : AV) (H : Hp) : R1 := qxv call x0 H
def q5h (call : Ev.Call) (x0 : AV) (H : Hp) : R1 :=
  vq (.new (.ptr H.nx 0) (qab 0 [.int .i64 (.ofNat 0), .nilsl])) H fun a0 H =>
  vq (intV (qaa .mul).f x0 x0) H fun a1 H =>
  vq (qhb [.int .i64 (.ofNat 0)] 8 H.nx a1 a1) H fun a2 H =>
  vq (aggN (qap [.int .i64 (.ofNat 0), .nilsl] [(0, 1, x0), (1, 1, a2)])) H fun a3 H =>
  ve (qcm 2 H a0 a3) fun _ H =>
  finR (rV (qcb 2 H a0)) H
def rNew (call : Ev.Call) (x0 : AV) (H : Hp) : R1 := q5h call x0 H
def qjc (call : Ev.Call) (x1 x2 x4 x8 : AV) (H : Hp) : R1 :=
  vq (qae 1 x4) H fun a1 H =>
  vq (qaf H a1) H fun a2 H =>
  vq (qae 0 x4) H fun a3 H =>
  vq (qaf H a3) H fun a4 H =>
  vq (intV (qaa .mul).f x1 a4) H fun a5 H =>
  vq (intV (qaa .add).f a5 x2) H fun a6 H =>
  vq (idxS 1 a2 a6) H fun a7 H =>
  vq (qaf H a7) H fun a8 H =>
  vq (intV (qaa .quo).f a8 x8) H fun a9 H =>
  vq (intV (qaa .rem).f a9 (.int .i64 (.ofNat 2))) H fun a10 H =>
  vq (intV (qaa .eql).f a10 (.int .i64 (.ofNat 0))) H fun a11 H =>
  cd a11 (
  vq (qae 1 x4) H fun a12 H =>
  vq (qaf H a12) H fun a13 H =>
  vq (qae 0 x4) H fun a14 H =>
  vq (qaf H a14) H fun a15 H =>
  vq (intV (qaa .mul).f x1 a15) H fun a16 H =>
  vq (intV (qaa .add).f a16 x2) H fun a17 H =>
  vq (idxS 1 a13 a17) H fun a18 H =>
  vq (qaf H a18) H fun a19 H =>
  vq (intV (qaa .add).f a19 x8) H fun a20 H =>
  vq (idxS 1 a13 a17) H fun a21 H =>
  ve (qb4 H a21 a20) fun _ H =>
  .ok (.tup []) H) (
  .ok (.tup []) H)
def q5a (call : Ev.Call) (x0 x1 x2 x3 : AV) (H : Hp) : R1 :=
  vq (boxA 2 H.nx x0) H fun a0 H =>
  cd x3 (
  qjc call x1 x2 a0 (.int .i64 (.ofNat 2)) H) (
  qjc call x1 x2 a0 (.int .i64 (.ofNat 1)) H)
def rPut (call : Ev.Call) (x0 x1 x2 x3 : AV) (H : Hp) : R1 := q5a call x0 x1 x2 x3 H
def qig (call : Ev.Call) (H : Hp) : R1 :=
  .ok (.int .i64 (.negSucc 0)) H
def qww (call : Ev.Call) (g2 : AV → Hp → R1) (x8 : AV) (H : Hp) : R1 :=
  vq (intV (qaa .add).f x8 (.int .i64 (.ofNat 1))) H fun a4 H =>
  g2 a4 H
def qwv (call : Ev.Call) (q2r : AV → Hp → R1) (g2 : AV → Hp → R1) (x0 x1 x8 : AV) (H : Hp) : R1 :=
  vq (idxS 3 x0 x8) H fun a6 H =>
  vq (qcb 3 H a6) H fun a7 H =>
  ve (qln call x1 [a7] H) fun a8 H =>
  cd a8 (
  q2r x8 H) (
  qww call g2 x8 H)
def qwx (call : Ev.Call) (q2r : AV → Hp → R1) (q2e0 : Hp → R1) (x0 x1 x7 : AV) (g2 : AV → Hp → R1) (x8 : AV) (H : Hp) : R1 :=
  vq (intV (qaa .lss).f x8 x7) H fun a3 H =>
  cd a3 (
  qwv call q2r g2 x0 x1 x8 H) (
  q2e0 H)
def qj7 (call : Ev.Call) (q2r : AV → Hp → R1) (q2e0 : Hp → R1) (x0 x1 x7 : AV) (n : Nat) : AV → Hp → R1 :=
  Nat.rec (motive := fun _ => AV → Hp → R1) (fun _ _ => .bad) (fun _ ih => qwx call q2r q2e0 x0 x1 x7 ih) n
def qwy (call : Ev.Call) (q2r : AV → Hp → R1) (q2e0 : Hp → R1) (x0 x1 x7 : AV) : AV → Hp → R1 := qj7 call q2r q2e0 x0 x1 x7 qcn
def q4j (call : Ev.Call) (x0 x1 : AV) (H : Hp) : R1 :=
  vq (qb5 x0) H fun a1 H =>
  qwy call (fun x4 H => .ok x4 H) (fun H => qig call H) x0 x1 a1 (.int .i64 (.ofNat 0)) H
def sIxF (call : Ev.Call) (x0 x1 : AV) (H : Hp) : R1 := q4j call x0 x1 H
def q7a (call : Ev.Call) (x0 x1 : AV) (H : Hp) : R1 :=
  vq (boxA 3 H.nx x0) H fun a0 H =>
  vq (boxA 3 H.nx x1) H fun a1 H =>
  dz 18 H fun b2 H =>
  dq false false 0 0 (b2 + 0) H [] [] (fun _ => qae 0 a0) (some true) fun a3 H p w =>
  dq true false 1 1 (b2 + 1) H p w (fun H => qaf H a3) (some true) fun a4 H p w =>
  dq false false 2 0 (b2 + 2) H p w (fun _ => qae 0 a1) (some true) fun a5 H p w =>
  dq true false 3 4 (b2 + 3) H p w (fun H => qaf H a5) (some true) fun a6 H p w =>
  dq false false 5 0 (b2 + 5) H p w (fun _ => qae 1 a0) (some true) fun a7 H p w =>
  dq true false 6 32 (b2 + 6) H p w (fun H => qaf H a7) (some true) fun a8 H p w =>
  dq false false 7 0 (b2 + 7) H p w (fun _ => qae 1 a1) (some true) fun a9 H p w =>
  dq true false 8 128 (b2 + 8) H p w (fun H => qaf H a9) (some true) fun a10 H p w =>
  dq true false 10 0 (b2 + 10) H p w (fun H => qcb 3 H a0) (some true) fun a11 H p w =>
  dq true false 12 0 (b2 + 12) H p w (fun H => qcb 3 H a1) (some true) fun a12 H p w =>
  de 15 H p w (call (.f qkr) [a4, a6] (qb7 15 p H)) (some true) fun a13 H p w =>
  de 511 H p w (call (.f qkr) [a8, a10] (qb7 511 p H)) (some true) fun a14 H p w =>
  de 2047 H p w (call (.f qoc) [a11] (qb7 2047 p H)) (some true) fun a15 H p w =>
  de 8191 H p w (call (.f qoc) [a12] (qb7 8191 p H)) (some true) fun a16 H p w =>
  de 16383 H p w (call (.f qkr) [a15, a16] (qb7 16383 p H)) (some true) fun a17 H p w =>
  dq false true 15 32767 (b2 + 15) H p w (fun _ => qgl 3 (b2 + 15) (qap (reps [.int .i64 (.ofNat 0)] 3) [(0, 1, a13), (1, 1, a14), (2, 1, a17)])) (some true) fun a18 H p w =>
  de 65535 H p w (call (.f q0k) [a18] (qb7 65535 p H)) (some true) fun a19 H p w =>
  dq false false 17 131071 (b2 + 17) H p w (fun _ => .val a19) (some true) fun a20 H p w =>
  dz2 p H fun H =>
  .ok a20 H
def gCmp (call : Ev.Call) (x0 x1 : AV) (H : Hp) : R1 := q7a call x0 x1 H
def qei (call : Ev.Call) (g3 : AV → Hp → R1) (x0 x4 x5 : AV) (H : Hp) : R1 :=
  vq (nilC x5) H fun a7 H =>
  vq (qae 0 a7) H fun a8 H =>
  vq (qaf H a8) H fun a9 H =>
  ve (call (.f qf3) [x0, a9] H) fun a10 H =>
  vq (qb5 x4) H fun a11 H =>
  vq (intV (qaa .sub).f a11 (.int .i64 (.ofNat 1))) H fun a12 H =>
  vq (qdj 2 x4 none (some a12) none) H fun a13 H =>
  vq (qb5 a13) H fun a14 H =>
  vq (intV (qaa .gtr).f a14 (.int .i64 (.ofNat 0))) H fun a15 H =>
  cd a15 (
  vq (qb5 a13) H fun a16 H =>
  vq (intV (qaa .sub).f a16 (.int .i64 (.ofNat 1))) H fun a17 H =>
  vq (idxS 2 a13 a17) H fun a18 H =>
  vq (qae 0 a18) H fun a19 H =>
  vq (qaf H a19) H fun a20 H =>
  dz 0 H fun b21 H =>
  dq false false 0 0 (b21 + 0) H [] [] (fun _ => .val x0) (some true) fun a22 H p w =>
  dq false false 1 0 (b21 + 1) H p w (fun _ => .val a20) (some true) fun a23 H p w =>
  dq false false 2 0 (b21 + 2) H p w (fun _ => .val x0) (some true) fun a24 H p w =>
  dq false false 3 0 (b21 + 3) H p w (fun _ => .val a20) (some true) fun a25 H p w =>
  dq false false 4 4 (b21 + 4) H p w (fun _ => nilC a24) (some true) fun a26 H p w =>
  dq false false 5 20 (b21 + 5) H p w (fun _ => qae 512 a26) (some true) fun a27 H p w =>
  dq false false 6 60 (b21 + 6) H p w (fun _ => idxA 256 1 a27 a25) (some true) fun a28 H p w =>
  dq true false 7 124 (b21 + 7) H p w (fun H => qaf H a28) (some true) fun a29 H p w =>
  dq false false 8 0 (b21 + 8) H p w (fun _ => .val x0) (some true) fun a30 H p w =>
  dq false false 9 0 (b21 + 9) H p w (fun _ => .val a9) (some true) fun a31 H p w =>
  dq false false 10 256 (b21 + 10) H p w (fun _ => nilC a30) (some true) fun a32 H p w =>
  dq false false 11 1280 (b21 + 11) H p w (fun _ => qae 512 a32) (some true) fun a33 H p w =>
  dq false false 12 3840 (b21 + 12) H p w (fun _ => idxA 256 1 a33 a31) (some true) fun a34 H p w =>
  dq true false 13 7936 (b21 + 13) H p w (fun H => qaf H a34) (some true) fun a35 H p w =>
  dq false false 14 16380 (b21 + 14) H p w (fun _ => qgo minV a29 [a35]) (some true) fun a36 H p w =>
  dq false false 15 1 (b21 + 15) H p w (fun _ => nilC a22) (some true) fun a37 H p w =>
  dq false false 16 32769 (b21 + 16) H p w (fun _ => qae 512 a37) (some true) fun a38 H p w =>
  dq false false 17 131071 (b21 + 17) H p w (fun _ => idxA 256 1 a38 a23) (some true) fun a39 H p w =>
  de 262143 H p w (qb4 (qb7 262143 p H) a39 a36) (some true) fun _ H p w =>
  dz2 p H fun H =>
  g3 a13 H) (
  g3 a13 H)
def qow (call : Ev.Call) (g42 : AV → Hp → R1) (x0 x4 x5 x6 : AV) (H : Hp) : R1 :=
  vq (nilC x0) H fun a62 H =>
  vq (qae 768 a62) H fun a63 H =>
  vq (idxA 256 1 a63 x6) H fun a64 H =>
  vq (qaf H a64) H fun a65 H =>
  cd a65 (
  dz 0 H fun b66 H =>
  dq false false 0 0 (b66 + 0) H [] [] (fun _ => .val x0) (some true) fun a67 H p w =>
  dq false false 1 0 (b66 + 1) H p w (fun _ => .val x5) (some true) fun a68 H p w =>
  dq false false 2 2 (b66 + 2) H p w (fun _ => nilC a68) (some true) fun a69 H p w =>
  dq false false 3 6 (b66 + 3) H p w (fun _ => qae 0 a69) (some true) fun a70 H p w =>
  dq true false 4 14 (b66 + 4) H p w (fun H => qaf H a70) (some true) fun a71 H p w =>
  dq false false 5 0 (b66 + 5) H p w (fun _ => .val x0) (some true) fun a72 H p w =>
  dq false false 6 0 (b66 + 6) H p w (fun _ => .val x5) (some true) fun a73 H p w =>
  dq false false 7 64 (b66 + 7) H p w (fun _ => nilC a73) (some true) fun a74 H p w =>
  dq false false 8 192 (b66 + 8) H p w (fun _ => qae 0 a74) (some true) fun a75 H p w =>
  dq true false 9 448 (b66 + 9) H p w (fun H => qaf H a75) (some true) fun a76 H p w =>
  dq false false 10 32 (b66 + 10) H p w (fun _ => nilC a72) (some true) fun a77 H p w =>
  dq false false 11 1056 (b66 + 11) H p w (fun _ => qae 512 a77) (some true) fun a78 H p w =>
  dq false false 12 4064 (b66 + 12) H p w (fun _ => idxA 256 1 a78 a76) (some true) fun a79 H p w =>
  dq true false 13 8160 (b66 + 13) H p w (fun H => qaf H a79) (some true) fun a80 H p w =>
  dq false false 14 0 (b66 + 14) H p w (fun _ => .val x0) (some true) fun a81 H p w =>
  dq false false 15 0 (b66 + 15) H p w (fun _ => .val x6) (some true) fun a82 H p w =>
  dq false false 16 16384 (b66 + 16) H p w (fun _ => nilC a81) (some true) fun a83 H p w =>
  dq false false 17 81920 (b66 + 17) H p w (fun _ => qae 256 a83) (some true) fun a84 H p w =>
  dq false false 18 245760 (b66 + 18) H p w (fun _ => idxA 256 1 a84 a82) (some true) fun a85 H p w =>
  dq true false 19 507904 (b66 + 19) H p w (fun H => qaf H a85) (some true) fun a86 H p w =>
  dq false false 20 1048544 (b66 + 20) H p w (fun _ => qgo minV a80 [a86]) (some true) fun a87 H p w =>
  dq false false 21 1 (b66 + 21) H p w (fun _ => nilC a67) (some true) fun a88 H p w =>
  dq false false 22 2097153 (b66 + 22) H p w (fun _ => qae 512 a88) (some true) fun a89 H p w =>
  dq false false 23 8388607 (b66 + 23) H p w (fun _ => idxA 256 1 a89 a71) (some true) fun a90 H p w =>
  de 16777215 H p w (qb4 (qb7 16777215 p H) a90 a87) (some true) fun _ H p w =>
  dz2 p H fun H =>
  g42 x4 H) (
  g42 x4 H)
def qky (call : Ev.Call) (q42e1 : AV → Hp → R1) (g42 : AV → Hp → R1) (x0 x4 x5 : AV) (H : Hp) : R1 :=
  vl (nilC x5) fun a43 =>
  vl (qae 0 a43) fun a44 =>
  vl (qaf H a44) fun a45 =>
  vl (nilC x0) fun a46 =>
  vl (qae 0 a46) fun a47 =>
  vl (idxA 256 1 a47 a45) fun a48 =>
  vl (qaf H a48) fun a49 =>
  vl (nilC x5) fun a50 =>
  vl (qae 1 a50) fun a51 =>
  vl (qaf H a51) fun a52 =>
  vl (idxS 1 a49 a52) fun a53 =>
  vl (qaf H a53) fun a54 =>
  vq (nilC x5) H fun a55 H =>
  vq (qae 1 a55) H fun a56 H =>
  vq (qaf H a56) H fun a57 H =>
  vq (intV (qaa .add).f a57 (.int .i64 (.ofNat 1))) H fun a58 H =>
  vq (nilC x5) H fun a59 H =>
  vq (qae 1 a59) H fun a60 H =>
  ve (qb4 H a60 a58) fun _ H =>
  vq (nilC x0) H fun a93 H =>
  vq (qae 256 a93) H fun a94 H =>
  vq (idxA 256 1 a94 a54) H fun a95 H =>
  vq (qaf H a95) H fun a96 H =>
  vq (intV (qaa .eql).f a96 (.int .i64 (.ofNat 0))) H fun a97 H =>
  cd a97 (
  ve (call (.f qhf) [x0, a54] H) fun a98 H =>
  vq (aggN (qap [.int .i64 (.ofNat 0), .int .i64 (.ofNat 0)] [(0, 1, a54), (1, 1, (.int .i64 (.ofNat 0)))])) H fun a99 H =>
  vq (qgl 1 H.nx (qap (reps [.int .i64 (.ofNat 0), .int .i64 (.ofNat 0)] 1) [(0, 2, a99)])) H fun a100 H =>
  ve (qb9 2 16 H x4 (qdb 2 H a100)) fun a101 H =>
  q42e1 a101 H) (
  qow call g42 x0 x4 x5 a54 H)
def qox (call : Ev.Call) (q42e1 : AV → Hp → R1) (q42e2 : AV → Hp → R1) (x0 x5 : AV) (g42 : AV → Hp → R1) (x4 : AV) (H : Hp) : R1 :=
  vl (nilC x5) fun a103 =>
  vl (qae 1 a103) fun a104 =>
  vl (qaf H a104) fun a105 =>
  vl (nilC x5) fun a106 =>
  vl (qae 0 a106) fun a107 =>
  vl (qaf H a107) fun a108 =>
  vl (nilC x0) fun a109 =>
  vl (qae 0 a109) fun a110 =>
  vl (idxA 256 1 a110 a108) fun a111 =>
  vl (qaf H a111) fun a112 =>
  vl (qb5 a112) fun a113 =>
  vl (intV (qaa .lss).f a105 a113) fun a114 =>
  cd a114 (
  qky call q42e1 g42 x0 x4 x5 H) (
  q42e2 x4 H)
def qf5 (call : Ev.Call) (q42e1 : AV → Hp → R1) (q42e2 : AV → Hp → R1) (x0 x5 : AV) (n : Nat) : AV → Hp → R1 :=
  Nat.rec (motive := fun _ => AV → Hp → R1) (fun _ _ => .bad) (fun _ ih => qox call q42e1 q42e2 x0 x5 ih) n
def qoy (call : Ev.Call) (q42e1 : AV → Hp → R1) (q42e2 : AV → Hp → R1) (x0 x5 : AV) : AV → Hp → R1 := qf5 call q42e1 q42e2 x0 x5 qcn
def qkx (call : Ev.Call) (g3 : AV → Hp → R1) (x0 x4 : AV) (H : Hp) : R1 :=
  vq (qb5 x4) H fun a4 H =>
  vq (intV (qaa .sub).f a4 (.int .i64 (.ofNat 1))) H fun a5 H =>
  vq (idxS 2 x4 a5) H fun a6 H =>
  qoy call (fun x4 H => g3 x4 H) (fun x4 H => qei call g3 x0 x4 a6 H) x0 a6 x4 H
def qtl (call : Ev.Call) (q3e0 : Hp → R1) (x0 : AV) (g3 : AV → Hp → R1) (x4 : AV) (H : Hp) : R1 :=
  vq (qb5 x4) H fun a116 H =>
  vq (intV (qaa .gtr).f a116 (.int .i64 (.ofNat 0))) H fun a117 H =>
  cd a117 (
  qkx call g3 x0 x4 H) (
  q3e0 H)
def qcx (call : Ev.Call) (q3e0 : Hp → R1) (x0 : AV) (n : Nat) : AV → Hp → R1 :=
  Nat.rec (motive := fun _ => AV → Hp → R1) (fun _ _ => .bad) (fun _ ih => qtl call q3e0 x0 ih) n
def qtm (call : Ev.Call) (q3e0 : Hp → R1) (x0 : AV) : AV → Hp → R1 := qcx call q3e0 x0 qcn
def qkw (call : Ev.Call) (x0 x4 : AV) (H : Hp) : R1 :=
  qtm call (fun H => .ok (.tup []) H) x0 x4 H
def qyz (call : Ev.Call) (x0 x1 : AV) (H : Hp) : R1 :=
  ve (call (.f qhf) [x0, x1] H) fun a0 H =>
  vq (aggN (qap [.int .i64 (.ofNat 0), .int .i64 (.ofNat 0)] [(0, 1, x1), (1, 1, (.int .i64 (.ofNat 0)))])) H fun a1 H =>
  vq (qgl 1 H.nx (qap (reps [.int .i64 (.ofNat 0), .int .i64 (.ofNat 0)] 1) [(0, 2, a1)])) H fun a2 H =>
  qkw call x0 a2 H
def cWalk (call : Ev.Call) (x0 x1 : AV) (H : Hp) : R1 := qyz call x0 x1 H
def q45 (call : Ev.Call) (x0 x1 : AV) (H : Hp) : R1 :=
  vl (idxS 1 x0 (.int .i64 (.ofNat 0))) fun a0 =>
  vl (qaf H a0) fun a1 =>
  vl (idxS 1 x1 (.int .i64 (.ofNat 0))) fun a2 =>
  vl (qaf H a2) fun a3 =>
  vl (intV (qaa .sub).f a1 a3) fun a4 =>
  .ok a4 H
def rdyA (call : Ev.Call) (x0 x1 : AV) (H : Hp) : R1 := q45 call x0 x1 H
def qgh (call : Ev.Call) (g5 : AV → Hp → R1) (x17 : AV) (H : Hp) : R1 :=
  vq (intV (qaa .add).f x17 (.int .i64 (.ofNat 1))) H fun a7 H =>
  g5 a7 H
def qlu (call : Ev.Call) (g14 : AV → Hp → R1) (x55 : AV) (H : Hp) : R1 :=
  vq (intV (qaa .add).f x55 (.int .i64 (.ofNat 1))) H fun a16 H =>
  g14 a16 H
def qrh (call : Ev.Call) (q14r : Hp → R1) (q14e4 : Hp → R1) (g14 : AV → Hp → R1) (x0 x1 x5 x6 x55 : AV) (H : Hp) : R1 :=
  vq (idxS 1 x5 x55) H fun a18 H =>
  vq (qaf H a18) H fun a19 H =>
  vq ((unS .not).f a19) H fun a20 H =>
  vg (qac true a20) (.val x6) H fun a21 H =>
  vg (qac true a20) (.val x55) H fun a22 H =>
  vg (qac true a20) (idxS 1 a21 a22) H fun a23 H =>
  vg (qac true a20) (qaf H a23) H fun a24 H =>
  vg (qac true a20) ((unS .not).f a24) H fun a25 H =>
  vq (qck a20 a25 (.bool false)) H fun a26 H =>
  cd a26 (
  vq (idxS 1 x5 x55) H fun a27 H =>
  ve (qb4 H a27 (.bool true)) fun _ H =>
  vq (qaf H x1) H fun a29 H =>
  vq (idxS 1 a29 x55) H fun a30 H =>
  vq (qaf H a30) H fun a31 H =>
  ve (qln call x0 [a31] H) fun a32 H =>
  vq ((unS .not).f a32) H fun a33 H =>
  cd a33 (
  q14r H) (
  q14e4 H)) (
  qlu call g14 x55 H)
def qrj (call : Ev.Call) (q14r : Hp → R1) (q14e4 : Hp → R1) (x0 x1 x5 x6 x54 : AV) (g14 : AV → Hp → R1) (x55 : AV) (H : Hp) : R1 :=
  vq (intV (qaa .lss).f x55 x54) H fun a15 H =>
  cd a15 (
  qrh call q14r q14e4 g14 x0 x1 x5 x6 x55 H) (
  q14e4 H)
def qgg (call : Ev.Call) (q14r : Hp → R1) (q14e4 : Hp → R1) (x0 x1 x5 x6 x54 : AV) (n : Nat) : AV → Hp → R1 :=
  Nat.rec (motive := fun _ => AV → Hp → R1) (fun _ _ => .bad) (fun _ ih => qrj call q14r q14e4 x0 x1 x5 x6 x54 ih) n
def qrl (call : Ev.Call) (q14r : Hp → R1) (q14e4 : Hp → R1) (x0 x1 x5 x6 x54 : AV) : AV → Hp → R1 := qgg call q14r q14e4 x0 x1 x5 x6 x54 qcn
def qgi (call : Ev.Call) (q5r : Hp → R1) (g5 : AV → Hp → R1) (x0 x1 x5 x6 x17 : AV) (H : Hp) : R1 :=
  vq (qaf H x1) H fun a12 H =>
  vq (qb5 a12) H fun a13 H =>
  qrl call (fun H => q5r H) (fun H => qgh call g5 x17 H) x0 x1 x5 x6 a13 (.int .i64 (.ofNat 0)) H
def qjb (call : Ev.Call) (g39 : AV → Hp → R1) (x25 : AV) (H : Hp) : R1 :=
  vq (intV (qaa .add).f x25 (.int .i64 (.ofNat 1))) H fun a41 H =>
  g39 a41 H
def qrg (call : Ev.Call) (g39 : AV → Hp → R1) (x3 x5 x6 x23 x25 : AV) (H : Hp) : R1 :=
  vq (idxS 3 x23 x25) H fun a43 H =>
  vq (qcb 3 H a43) H fun a44 H =>
  vq (.new (.ptr H.nx 0) (qab 0 [.int .i64 (.ofNat 0), .int .i64 (.ofNat 0), .bool false])) H fun a45 H =>
  ve (qcm 3 H a45 a44) fun _ H =>
  vl (qaf H x3) fun a47 =>
  vl (qae 0 a45) fun a48 =>
  vl (qaf H a48) fun a49 =>
  vl (idxS 1 a47 a49) fun a50 =>
  vl (qaf H a50) fun a51 =>
  vl (qaf H x3) fun a52 =>
  vl (qae 1 a45) fun a53 =>
  vl (qaf H a53) fun a54 =>
  vl (idxS 1 a52 a54) fun a55 =>
  vl (qaf H a55) fun a56 =>
  vq (intV (qaa .neq).f a51 a56) H fun a57 H =>
  vg (qac true a57) (.val x5) H fun a58 H =>
  vg (qac true a57) (.val a56) H fun a59 H =>
  vg (qac true a57) (idxS 1 a58 a59) H fun a60 H =>
  vg (qac true a57) (qaf H a60) H fun a61 H =>
  vg (qac true a57) ((unS .not).f a61) H fun a62 H =>
  vq (qck a57 a62 (.bool false)) H fun a63 H =>
  cd a63 (
  vq (idxS 1 x6 a51) H fun a64 H =>
  ve (qb4 H a64 (.bool true)) fun _ H =>
  qjb call g39 x25 H) (
  qjb call g39 x25 H)
def qri (call : Ev.Call) (q39e2 : Hp → R1) (x3 x5 x6 x23 x24 : AV) (g39 : AV → Hp → R1) (x25 : AV) (H : Hp) : R1 :=
  vq (intV (qaa .lss).f x25 x24) H fun a40 H =>
  cd a40 (
  qrg call g39 x3 x5 x6 x23 x25 H) (
  q39e2 H)
def qgf (call : Ev.Call) (q39e2 : Hp → R1) (x3 x5 x6 x23 x24 : AV) (n : Nat) : AV → Hp → R1 :=
  Nat.rec (motive := fun _ => AV → Hp → R1) (fun _ _ => .bad) (fun _ ih => qri call q39e2 x3 x5 x6 x23 x24 ih) n
def qrk (call : Ev.Call) (q39e2 : Hp → R1) (x3 x5 x6 x23 x24 : AV) : AV → Hp → R1 := qgf call q39e2 x3 x5 x6 x23 x24 qcn
def qrf (call : Ev.Call) (q5r : Hp → R1) (g5 : AV → Hp → R1) (x0 x1 x2 x3 x5 x17 : AV) (H : Hp) : R1 :=
  vq (qaf H x1) H fun a9 H =>
  vq (qb5 a9) H fun a10 H =>
  vq (qhb [.bool false] 1 H.nx a10 a10) H fun a11 H =>
  vq (qae 1 x2) H fun a36 H =>
  vq (qaf H a36) H fun a37 H =>
  vq (qb5 a37) H fun a38 H =>
  qrk call (fun H => qgi call q5r g5 x0 x1 x5 a11 x17 H) x3 x5 a11 a37 a38 (.int .i64 (.ofNat 0)) H
def qw6 (call : Ev.Call) (q5r : Hp → R1) (q5e0 : Hp → R1) (x0 x1 x2 x3 x5 x16 : AV) (g5 : AV → Hp → R1) (x17 : AV) (H : Hp) : R1 :=
  vq (intV (qaa .lss).f x17 x16) H fun a6 H =>
  cd a6 (
  qrf call q5r g5 x0 x1 x2 x3 x5 x17 H) (
  q5e0 H)
def qdk (call : Ev.Call) (q5r : Hp → R1) (q5e0 : Hp → R1) (x0 x1 x2 x3 x5 x16 : AV) (n : Nat) : AV → Hp → R1 :=
  Nat.rec (motive := fun _ => AV → Hp → R1) (fun _ _ => .bad) (fun _ ih => qw6 call q5r q5e0 x0 x1 x2 x3 x5 x16 ih) n
def qw7 (call : Ev.Call) (q5r : Hp → R1) (q5e0 : Hp → R1) (x0 x1 x2 x3 x5 x16 : AV) : AV → Hp → R1 := qdk call q5r q5e0 x0 x1 x2 x3 x5 x16 qcn
def q43 (call : Ev.Call) (x0 x1 x2 x3 : AV) (H : Hp) : R1 :=
  vq (qaf H x1) H fun a0 H =>
  vq (qb5 a0) H fun a1 H =>
  vq (qhb [.bool false] 1 H.nx a1 a1) H fun a2 H =>
  vq (qaf H x1) H fun a3 H =>
  vq (qb5 a3) H fun a4 H =>
  qw7 call (fun H => .ok (.tup []) H) (fun H => .ok (.tup []) H) x0 x1 x2 x3 a2 a4 (.int .i64 (.ofNat 0)) H
def rdyB (call : Ev.Call) (x0 x1 x2 x3 : AV) (H : Hp) : R1 := q43 call x0 x1 x2 x3 H
def qzc (call : Ev.Call) (H : Hp) : R1 :=
  .ok (.int .i64 (.ofNat 0)) H
def qzb (call : Ev.Call) (x0 x1 : AV) (H : Hp) : R1 :=
  vq (intV (qaa .gtr).f x0 x1) H fun a3 H =>
  cd a3 (
  .ok (.int .i64 (.ofNat 1)) H) (
  qzc call H)
def qza (call : Ev.Call) (x0 x1 : AV) (H : Hp) : R1 :=
  vq (intV (qaa .lss).f x0 x1) H fun a5 H =>
  cd a5 (
  .ok (.int .i64 (.negSucc 0)) H) (
  qzb call x0 x1 H)
def qy9 (call : Ev.Call) (x0 x1 x6 : AV) (H : Hp) : R1 :=
  cd x6 (
  .ok (.int .i64 (.ofNat 1)) H) (
  qza call x0 x1 H)
def q8w (call : Ev.Call) (H : Hp) : R1 :=
  .ok (.int .i64 (.negSucc 0)) H
def q8x (call : Ev.Call) (x0 x1 : AV) (H : Hp) : R1 :=
  ve (call (.f qis) [x0] H) fun a0 H =>
  ve (call (.f qis) [x1] H) fun a1 H =>
  cd a0 (
  cd a1 (
  .ok (.int .i64 (.ofNat 0)) H) (
  q8w call H)) (
  qy9 call x0 x1 a1 H)
def cCmp (call : Ev.Call) (x0 x1 : AV) (H : Hp) : R1 := q8x call x0 x1 H
def qyk (call : Ev.Call) (H : Hp) : R1 :=
  .ok (.int .i64 (.ofNat 0)) H
def q68 (call : Ev.Call) (x0 : AV) (H : Hp) : R1 :=
  vq (boxA 3 H.nx x0) H fun a0 H =>
  vq (qae 2 a0) H fun a2 H =>
  vq (qaf H a2) H fun a3 H =>
  cd a3 (
  .ok (.int .i64 (.ofNat 1)) H) (
  qyk call H)
def gSgn (call : Ev.Call) (x0 : AV) (H : Hp) : R1 := q68 call x0 H
def qo2 (call : Ev.Call) (x3 : AV) (H : Hp) : R1 :=
  .ok x3 H
def q8n (call : Ev.Call) (g2 : AV → Hp → R1) (x8 : AV) (H : Hp) : R1 :=
  vq (intV (qaa .add).f x8 (.int .i64 (.ofNat 1))) H fun a4 H =>
  g2 a4 H
def q8m (call : Ev.Call) (q2r : AV → Hp → R1) (g2 : AV → Hp → R1) (x3 x6 x8 : AV) (H : Hp) : R1 :=
  vq (idxS 1 x6 x8) H fun a6 H =>
  vq (qaf H a6) H fun a7 H =>
  vq (intV (qaa .neq).f a7 x3) H fun a8 H =>
  cd a8 (
  q2r a7 H) (
  q8n call g2 x8 H)
def q8o (call : Ev.Call) (q2r : AV → Hp → R1) (q2e0 : Hp → R1) (x3 x6 x7 : AV) (g2 : AV → Hp → R1) (x8 : AV) (H : Hp) : R1 :=
  vq (intV (qaa .lss).f x8 x7) H fun a3 H =>
  cd a3 (
  q8m call q2r g2 x3 x6 x8 H) (
  q2e0 H)
def qqn (call : Ev.Call) (q2r : AV → Hp → R1) (q2e0 : Hp → R1) (x3 x6 x7 : AV) (n : Nat) : AV → Hp → R1 :=
  Nat.rec (motive := fun _ => AV → Hp → R1) (fun _ _ => .bad) (fun _ ih => q8o call q2r q2e0 x3 x6 x7 ih) n
def q8p (call : Ev.Call) (q2r : AV → Hp → R1) (q2e0 : Hp → R1) (x3 x6 x7 : AV) : AV → Hp → R1 := qqn call q2r q2e0 x3 x6 x7 qcn
def zfe (call : Ev.Call) (x0 : AV) (H : Hp) : R1 :=
  vq (qb5 x0) H fun a1 H =>
  q8p call (fun x2 H => .ok x2 H) (fun H => qo2 call (.int .i64 (.ofNat 0)) H) (.int .i64 (.ofNat 0)) x0 a1 (.int .i64 (.ofNat 0)) H
def cOr (call : Ev.Call) (x0 : AV) (H : Hp) : R1 := zfe call x0 H
def qtw (call : Ev.Call) (x0 x1 : AV) (H : Hp) : R1 :=
  vq (nilC x0) H fun a0 H =>
  vq (qae 1025 a0) H fun a1 H =>
  vq (qaf H a1) H fun a2 H =>
  vq (intV (qaa .add).f a2 (.int .i64 (.ofNat 1))) H fun a3 H =>
  vq (nilC x0) H fun a4 H =>
  vq (qae 1025 a4) H fun a5 H =>
  ve (qb4 H a5 a3) fun _ H =>
  dz 0 H fun b7 H =>
  dq false false 0 0 (b7 + 0) H [] [] (fun _ => .val x0) (some true) fun a8 H p w =>
  dq false false 1 0 (b7 + 1) H p w (fun _ => .val x1) (some true) fun a9 H p w =>
  dq false false 2 0 (b7 + 2) H p w (fun _ => .val x0) (some true) fun a10 H p w =>
  dq false false 3 0 (b7 + 3) H p w (fun _ => .val x1) (some true) fun a11 H p w =>
  dq false false 4 0 (b7 + 4) H p w (fun _ => .val x0) (some true) fun a12 H p w =>
  dq false false 5 0 (b7 + 5) H p w (fun _ => .val x1) (some true) fun a13 H p w =>
  dq false false 6 0 (b7 + 6) H p w (fun _ => .val x0) (some true) fun a14 H p w =>
  dq false false 7 64 (b7 + 7) H p w (fun _ => nilC a14) (some true) fun a15 H p w =>
  dq false false 8 192 (b7 + 8) H p w (fun _ => qae 1025 a15) (some true) fun a16 H p w =>
  dq true false 9 448 (b7 + 9) H p w (fun H => qaf H a16) (some true) fun a17 H p w =>
  dq false false 10 0 (b7 + 10) H p w (fun _ => .val x0) (some true) fun a18 H p w =>
  dq false false 11 1024 (b7 + 11) H p w (fun _ => nilC a18) (some true) fun a19 H p w =>
  dq false false 12 3072 (b7 + 12) H p w (fun _ => qae 1025 a19) (some true) fun a20 H p w =>
  dq true false 13 7168 (b7 + 13) H p w (fun H => qaf H a20) (some true) fun a21 H p w =>
  dq false false 14 1 (b7 + 14) H p w (fun _ => nilC a8) (some true) fun a22 H p w =>
  dq false false 15 16385 (b7 + 15) H p w (fun _ => qae 256 a22) (some true) fun a23 H p w =>
  dq false false 16 65475 (b7 + 16) H p w (fun _ => idxA 256 1 a23 a9) (some true) fun a24 H p w =>
  dq false false 18 4 (b7 + 18) H p w (fun _ => nilC a10) (some true) fun a25 H p w =>
  dq false false 19 262148 (b7 + 19) H p w (fun _ => qae 512 a25) (some true) fun a26 H p w =>
  dq false false 22 16 (b7 + 22) H p w (fun _ => nilC a12) (some true) fun a27 H p w =>
  dq false false 23 4194320 (b7 + 23) H p w (fun _ => qae 768 a27) (some true) fun a28 H p w =>
  de 131011 H p w (qb4 (qb7 131011 p H) a24 a17) (some true) fun _ H p w =>
  dq false false 20 1048527 (b7 + 20) H p w (fun _ => idxA 256 1 a26 a11) (some true) fun a30 H p w =>
  de 2097103 H p w (qb4 (qb7 2097103 p H) a30 a21) (some true) fun _ H p w =>
  dq false false 24 16777215 (b7 + 24) H p w (fun _ => idxA 256 1 a28 a13) (some true) fun a32 H p w =>
  de 33554431 H p w (qb4 (qb7 33554431 p H) a32 (.bool true)) (some true) fun _ H p w =>
  dz2 p H fun H =>
  vq (nilC x0) H fun a34 H =>
  vq (qae 1024 a34) H fun a35 H =>
  vq (qaf H a35) H fun a36 H =>
  vq (qgl 1 H.nx (qap (reps [.int .i64 (.ofNat 0)] 1) [(0, 1, x1)])) H fun a37 H =>
  ve (qb9 1 8 H a36 (qdb 1 H a37)) fun a38 H =>
  vq (nilC x0) H fun a39 H =>
  vq (qae 1024 a39) H fun a40 H =>
  ve (qb4 H a40 a38) fun _ H =>
  .ok (.tup []) H
def cEnter (call : Ev.Call) (x0 x1 : AV) (H : Hp) : R1 := qtw call x0 x1 H
def qd8 (call : Ev.Call) (x0 x4 x5 : AV) (H : Hp) : R1 :=
  vq (nilC x0) H fun a10 H =>
  vq (qae 1024 a10) H fun a11 H =>
  vq (qaf H a11) H fun a12 H =>
  vq (qdj 1 a12 none (some x4) none) H fun a13 H =>
  vq (nilC x0) H fun a14 H =>
  vq (qae 1024 a14) H fun a15 H =>
  ve (qb4 H a15 a13) fun _ H =>
  vq (nilC x0) H fun a17 H =>
  vq (qae 1026 a17) H fun a18 H =>
  vq (qaf H a18) H fun a19 H =>
  vq (qgl 1 H.nx (qap (reps [.nilsl] 1) [(0, 1, x5)])) H fun a20 H =>
  ve (qb9 1 24 H a19 (qdb 1 H a20)) fun a21 H =>
  vq (nilC x0) H fun a22 H =>
  vq (qae 1026 a22) H fun a23 H =>
  ve (qb4 H a23 a21) fun _ H =>
  .ok (.tup []) H
def qk7 (call : Ev.Call) (g27 : AV → Hp → R1) (x37 : AV) (H : Hp) : R1 :=
  vq (intV (qaa .add).f x37 (.int .i64 (.ofNat 1))) H fun a29 H =>
  g27 a29 H
def qk6 (call : Ev.Call) (g27 : AV → Hp → R1) (x0 x35 x37 : AV) (H : Hp) : R1 :=
  vq (idxS 1 x35 x37) H fun a31 H =>
  vq (qaf H a31) H fun a32 H =>
  vq (nilC x0) H fun a33 H =>
  vq (qae 768 a33) H fun a34 H =>
  vq (idxA 256 1 a34 a32) H fun a35 H =>
  ve (qb4 H a35 (.bool false)) fun _ H =>
  qk7 call g27 x37 H
def qk8 (call : Ev.Call) (q27e0 : Hp → R1) (x0 x35 x36 : AV) (g27 : AV → Hp → R1) (x37 : AV) (H : Hp) : R1 :=
  vq (intV (qaa .lss).f x37 x36) H fun a28 H =>
  cd a28 (
  qk6 call g27 x0 x35 x37 H) (
  q27e0 H)
def qev (call : Ev.Call) (q27e0 : Hp → R1) (x0 x35 x36 : AV) (n : Nat) : AV → Hp → R1 :=
  Nat.rec (motive := fun _ => AV → Hp → R1) (fun _ _ => .bad) (fun _ ih => qk8 call q27e0 x0 x35 x36 ih) n
def qk9 (call : Ev.Call) (q27e0 : Hp → R1) (x0 x35 x36 : AV) : AV → Hp → R1 := qev call q27e0 x0 x35 x36 qcn
def qk5 (call : Ev.Call) (x0 x1 : AV) (H : Hp) : R1 :=
  vq (nilC x0) H fun a0 H =>
  vq (qae 1024 a0) H fun a1 H =>
  vq (qaf H a1) H fun a2 H =>
  ve (call (.f qsu) [a2, x1] H) fun a3 H =>
  vq (nilC x0) H fun a4 H =>
  vq (qae 1024 a4) H fun a5 H =>
  vq (qaf H a5) H fun a6 H =>
  vq (qdj 1 a6 (some a3) none none) H fun a7 H =>
  ve (call (.f qyf) [a7] H) fun a8 H =>
  ve (call (.f qss) [a8] H) fun a9 H =>
  vq (qb5 a9) H fun a26 H =>
  qk9 call (fun H => qd8 call x0 a3 a9 H) x0 a9 a26 (.int .i64 (.ofNat 0)) H
def qma (call : Ev.Call) (x0 x1 : AV) (H : Hp) : R1 :=
  vl (nilC x0) fun a39 =>
  vl (qae 512 a39) fun a40 =>
  vl (idxA 256 1 a40 x1) fun a41 =>
  vl (qaf H a41) fun a42 =>
  vl (nilC x0) fun a43 =>
  vl (qae 256 a43) fun a44 =>
  vl (idxA 256 1 a44 x1) fun a45 =>
  vl (qaf H a45) fun a46 =>
  vl (intV (qaa .lss).f a42 a46) fun a47 =>
  cd a47 (
  .ok (.tup []) H) (
  qk5 call x0 x1 H)
def cLeave (call : Ev.Call) (x0 x1 : AV) (H : Hp) : R1 := qma call x0 x1 H
def q8s (call : Ev.Call) (x0 : AV) (H : Hp) : R1 :=
  vq (intV (qaa .neq).f x0 x0) H fun a0 H =>
  .ok a0 H
def cNaN (call : Ev.Call) (x0 : AV) (H : Hp) : R1 := q8s call x0 H
def qj9 (call : Ev.Call) (H : Hp) : R1 :=
  .ok (.int .i64 (.negSucc 0)) H
def qw0 (call : Ev.Call) (g2 : AV → Hp → R1) (x8 : AV) (H : Hp) : R1 :=
  vq (intV (qaa .add).f x8 (.int .i64 (.ofNat 1))) H fun a4 H =>
  g2 a4 H
def qwz (call : Ev.Call) (q2r : AV → Hp → R1) (g2 : AV → Hp → R1) (x0 x1 x8 : AV) (H : Hp) : R1 :=
  vq (idxS 1 x0 x8) H fun a6 H =>
  vq (qaf H a6) H fun a7 H =>
  vq (intV (qaa .eql).f x1 a7) H fun a8 H =>
  cd a8 (
  q2r x8 H) (
  qw0 call g2 x8 H)
def qw1 (call : Ev.Call) (q2r : AV → Hp → R1) (q2e0 : Hp → R1) (x0 x1 x7 : AV) (g2 : AV → Hp → R1) (x8 : AV) (H : Hp) : R1 :=
  vq (intV (qaa .lss).f x8 x7) H fun a3 H =>
  cd a3 (
  qwz call q2r g2 x0 x1 x8 H) (
  q2e0 H)
def qj8 (call : Ev.Call) (q2r : AV → Hp → R1) (q2e0 : Hp → R1) (x0 x1 x7 : AV) (n : Nat) : AV → Hp → R1 :=
  Nat.rec (motive := fun _ => AV → Hp → R1) (fun _ _ => .bad) (fun _ ih => qw1 call q2r q2e0 x0 x1 x7 ih) n
def qw2 (call : Ev.Call) (q2r : AV → Hp → R1) (q2e0 : Hp → R1) (x0 x1 x7 : AV) : AV → Hp → R1 := qj8 call q2r q2e0 x0 x1 x7 qcn
def q4l (call : Ev.Call) (x0 x1 : AV) (H : Hp) : R1 :=
  vq (qb5 x0) H fun a1 H =>
  qw2 call (fun x4 H => .ok x4 H) (fun H => qj9 call H) x0 x1 a1 (.int .i64 (.ofNat 0)) H
def sIdx (call : Ev.Call) (x0 x1 : AV) (H : Hp) : R1 := q4l call x0 x1 H
def q4e (call : Ev.Call) (x0 : AV) (H : Hp) : R1 :=
  vq (box1 H.nx x0) H fun a0 H =>
  .ok (.fn qdy [] [a0]) H
def sVal (call : Ev.Call) (x0 : AV) (H : Hp) : R1 := q4e call x0 H
def q4g (call : Ev.Call) (x0 : AV) (H : Hp) : R1 :=
  ve (call (.f qsv) [x0] H) fun a0 H =>
  ve (call (.f qhe) [a0] H) fun a1 H =>
  .ok a0 H
def sSrt (call : Ev.Call) (x0 : AV) (H : Hp) : R1 := q4g call x0 H
def qq8 (call : Ev.Call) (g2 : AV → Hp → R1) (x7 : AV) (H : Hp) : R1 :=
  vq (intV (qaa .add).f x7 (.int .i64 (.ofNat 1))) H fun a4 H =>
  g2 a4 H
def qmr (call : Ev.Call) (q2r : Hp → R1) (g2 : AV → Hp → R1) (x0 x5 x7 : AV) (H : Hp) : R1 :=
  vq (idxS 1 x5 x7) H fun a6 H =>
  vq (qaf H a6) H fun a7 H =>
  ve (qln call x0 [a7] H) fun a8 H =>
  vq ((unS .not).f a8) H fun a9 H =>
  cd a9 (
  q2r H) (
  qq8 call g2 x7 H)
def qq9 (call : Ev.Call) (q2r : Hp → R1) (q2e0 : Hp → R1) (x0 x5 x6 : AV) (g2 : AV → Hp → R1) (x7 : AV) (H : Hp) : R1 :=
  vq (intV (qaa .lss).f x7 x6) H fun a3 H =>
  cd a3 (
  qmr call q2r g2 x0 x5 x7 H) (
  q2e0 H)
def qhs (call : Ev.Call) (q2r : Hp → R1) (q2e0 : Hp → R1) (x0 x5 x6 : AV) (n : Nat) : AV → Hp → R1 :=
  Nat.rec (motive := fun _ => AV → Hp → R1) (fun _ _ => .bad) (fun _ ih => qq9 call q2r q2e0 x0 x5 x6 ih) n
def qra (call : Ev.Call) (q2r : Hp → R1) (q2e0 : Hp → R1) (x0 x5 x6 : AV) : AV → Hp → R1 := qhs call q2r q2e0 x0 x5 x6 qcn
def qwu (call : Ev.Call) (x0 x1 : AV) (H : Hp) : R1 :=
  vq (qaf H x1) H fun a0 H =>
  vq (qb5 a0) H fun a1 H =>
  qra call (fun H => .ok (.tup []) H) (fun H => .ok (.tup []) H) x0 a0 a1 (.int .i64 (.ofNat 0)) H
def sValA (call : Ev.Call) (x0 x1 : AV) (H : Hp) : R1 := qwu call x0 x1 H
def q4p (call : Ev.Call) (x0 : AV) (H : Hp) : R1 :=
  ve (call (.f qsx) [(.nilsl), x0] H) fun a0 H =>
  .ok a0 H
def sCol (call : Ev.Call) (x0 : AV) (H : Hp) : R1 := q4p call x0 H
end Go.Di
end
noncomputable section
namespace Go.Di
open Go.Ev
structure Lnk (c d : Ev.Call) : Prop where
  lwD : ∀ (x0 x1 : AV) (H : Hp), c (.f zcq) [x0, x1] H = Di.lwD d x0 x1 H
  hMat : ∀ (x0 : AV) (H : Hp), c (.f qs0) [x0] H = Di.hMat d x0 H
  lGr : ∀ (x0 : AV) (H : Hp), c (.f qvq) [x0] H = Di.lGr d x0 H
  cCnd : ∀ (x0 : AV) (H : Hp), c (.f qof) [x0] H = Di.cCnd d x0 H
  rCnd : ∀ (x0 : AV) (H : Hp), c (.f qob) [x0] H = Di.rCnd d x0 H
  lwG : ∀ (x0 x1 : AV) (H : Hp), c (.f qvp) [x0, x1] H = Di.lwG d x0 x1 H
  cSim : ∀ (x0 x1 : AV) (H : Hp), c (.f qoe) [x0, x1] H = Di.cSim d x0 x1 H
  rOf : ∀ (x0 : AV) (H : Hp), c (.f qvo) [x0] H = Di.rOf d x0 H
  rMat : ∀ (x0 x1 : AV) (H : Hp), c (.f qkq) [x0, x1] H = Di.rMat d x0 x1 H
  rEdg : ∀ (x0 : AV) (H : Hp), c (.f qoa) [x0] H = Di.rEdg d x0 H
  cndA : ∀ (x0 x1 x2 : AV) (H : Hp), c (.f qod) [x0, x1, x2] H = Di.cndA d x0 x1 x2 H
  sCon : ∀ (x0 x1 : AV) (H : Hp), c (.f qn9) [x0, x1] H = Di.sCon d x0 x1 H
  sClpE : ∀ (x0 : AV) (H : Hp), c (.f ql5) [x0] H = Di.sClpE d x0 H
  gChk : ∀ (x0 : AV) (H : Hp), c (.f qs2) [x0] H = Di.gChk d x0 H
  cParts : ∀ (x0 : AV) (H : Hp), c (.f qjr) [x0] H = Di.cParts d x0 H
  cRdy : ∀ (x0 x1 : AV) (H : Hp), c (.f qs3) [x0, x1] H = Di.cRdy d x0 x1 H
  sClp : ∀ (x0 : AV) (H : Hp), c (.f qsw) [x0] H = Di.sClp d x0 H
  sClpS : ∀ (x0 : AV) (H : Hp), c (.f qjq) [x0] H = Di.sClpS d x0 H
  simA : ∀ (x0 x1 : AV) (H : Hp), c (.f qn8) [x0, x1] H = Di.simA d x0 x1 H
  rDist : ∀ (x0 : AV) (H : Hp), c (.f ql6) [x0] H = Di.rDist d x0 H
  rNew : ∀ (x0 : AV) (H : Hp), c (.f qsz) [x0] H = Di.rNew d x0 H
  rPut : ∀ (x0 x1 x2 x3 : AV) (H : Hp), c (.f qsy) [x0, x1, x2, x3] H = Di.rPut d x0 x1 x2 x3 H
  sIxF : ∀ (x0 x1 : AV) (H : Hp), c (.f qst) [x0, x1] H = Di.sIxF d x0 x1 H
  gCmp : ∀ (x0 x1 : AV) (H : Hp), c (.f qs1) [x0, x1] H = Di.gCmp d x0 x1 H
  cWalk : ∀ (x0 x1 : AV) (H : Hp), c (.f ql8) [x0, x1] H = Di.cWalk d x0 x1 H
  rdyA : ∀ (x0 x1 : AV) (H : Hp), c (.f qir) [x0, x1] H = Di.rdyA d x0 x1 H
  rdyB : ∀ (x0 x1 x2 x3 : AV) (H : Hp), c (.f qhc) [x0, x1, x2, x3] H = Di.rdyB d x0 x1 x2 x3 H
  cCmp : ∀ (x0 x1 : AV) (H : Hp), c (.f qkr) [x0, x1] H = Di.cCmp d x0 x1 H
  gSgn : ∀ (x0 : AV) (H : Hp), c (.f qoc) [x0] H = Di.gSgn d x0 H
  cOr : ∀ (x0 : AV) (H : Hp), c (.f q0k) [x0] H = Di.cOr d x0 H
  cEnter : ∀ (x0 x1 : AV) (H : Hp), c (.f qhf) [x0, x1] H = Di.cEnter d x0 x1 H
  cLeave : ∀ (x0 x1 : AV) (H : Hp), c (.f qf3) [x0, x1] H = Di.cLeave d x0 x1 H
  cNaN : ∀ (x0 : AV) (H : Hp), c (.f qis) [x0] H = Di.cNaN d x0 H
  sIdx : ∀ (x0 x1 : AV) (H : Hp), c (.f qsu) [x0, x1] H = Di.sIdx d x0 x1 H
  sVal : ∀ (x0 : AV) (H : Hp), c (.f qyf) [x0] H = Di.sVal d x0 H
  sSrt : ∀ (x0 : AV) (H : Hp), c (.f qss) [x0] H = Di.sSrt d x0 H
  sValA : ∀ (x0 x1 : AV) (H : Hp), c (.f qdy) [x0, x1] H = Di.sValA d x0 x1 H
  sCol : ∀ (x0 : AV) (H : Hp), c (.f qsv) [x0] H = Di.sCol d x0 H
theorem qbn {call : Ev.Call} {x1 x14 x15 x16 x18 : AV} {H : Hp} {Q : AV → Hp → Prop} (h : Ok (qb1 call x1 x14 x15 x16 x18 H) Q) : Ok (qso call x1 x14 x15 x16 x18 H) Q := by rw [qqc]; exact h
theorem qbm {call : Ev.Call} {x1 x5 x14 x15 x16 : AV} {H : Hp} {Q : AV → Hp → Prop} (h : Ok (qb0 call x1 x5 x14 x15 x16 H) Q) : Ok (qsn call x1 x5 x14 x15 x16 H) Q := by rw [qqb]; exact h
theorem qbl {call : Ev.Call} {x1 x5 x14 x15 x16 x119 : AV} {H : Hp} {Q : AV → Hp → Prop} (h : Ok (qbz call x1 x5 x14 x15 x16 x119 H) Q) : Ok (qsm call x1 x5 x14 x15 x16 x119 H) Q := by rw [qqa]; exact h
theorem qbk {call : Ev.Call} {x1 x5 x14 x15 x16 : AV} {H : Hp} {Q : AV → Hp → Prop} (h : Ok (qby call x1 x5 x14 x15 x16 H) Q) : Ok (qsl call x1 x5 x14 x15 x16 H) Q := by rw [qp9]; exact h
theorem qbj {call : Ev.Call} {x1 x5 x14 x15 x16 x111 : AV} {H : Hp} {Q : AV → Hp → Prop} (h : Ok (qbx call x1 x5 x14 x15 x16 x111 H) Q) : Ok (qsk call x1 x5 x14 x15 x16 x111 H) Q := by rw [qp8]; exact h
theorem qbi {call : Ev.Call} {x1 x5 x8 x13 x14 x15 x16 : AV} {H : Hp} {Q : AV → Hp → Prop} (h : Ok (qbw call x1 x5 x8 x13 x14 x15 x16 H) Q) : Ok (qsj call x1 x5 x8 x13 x14 x15 x16 H) Q := by rw [qp7]; exact h
theorem qbh {call : Ev.Call} {x1 x5 x8 x13 x14 x15 : AV} {H : Hp} {Q : AV → Hp → Prop} (h : Ok (qbv call x1 x5 x8 x13 x14 x15 H) Q) : Ok (qsi call x1 x5 x8 x13 x14 x15 H) Q := by rw [qp6]; exact h
theorem qbg {call : Ev.Call} {x1 x5 x6 x8 x13 : AV} {H : Hp} {Q : AV → Hp → Prop} (h : Ok (qbu call x1 x5 x6 x8 x13 H) Q) : Ok (qsh call x1 x5 x6 x8 x13 H) Q := by rw [qp5]; exact h
theorem qbf {call : Ev.Call} {x1 x5 x6 x7 : AV} {H : Hp} {Q : AV → Hp → Prop} (h : Ok (qbt call x1 x5 x6 x7 H) Q) : Ok (qc9 call x1 x5 x6 x7 H) Q := by rw [qp4]; exact h
theorem qbe {call : Ev.Call} {g76 : AV → Hp → R1} {x10 : AV} {H : Hp} {Q : AV → Hp → Prop} (h : Ok (qbs call g76 x10 H) Q) : Ok (qsg call g76 x10 H) Q := by rw [qp3]; exact h
theorem qbd {call : Ev.Call} {q76r : AV → Hp → R1} {g76 : AV → Hp → R1} {x10 x86 : AV} {H : Hp} {Q : AV → Hp → Prop} (h : Ok (qbr call q76r g76 x10 x86 H) Q) : Ok (qsf call q76r g76 x10 x86 H) Q := by rw [qp2]; exact h
theorem qbc {call : Ev.Call} {q76r : AV → Hp → R1} {g76 : AV → Hp → R1} {x9 x10 x11 x12 : AV} {H : Hp} {Q : AV → Hp → Prop} (h : Ok (qbq call q76r g76 x9 x10 x11 x12 H) Q) : Ok (qse call q76r g76 x9 x10 x11 x12 H) Q := by rw [qp1]; exact h
theorem qbb {call : Ev.Call} {q76r : AV → Hp → R1} {g76 : AV → Hp → R1} {x7 x9 x10 : AV} {H : Hp} {Q : AV → Hp → Prop} (h : Ok (qbp call q76r g76 x7 x9 x10 H) Q) : Ok (qsd call q76r g76 x7 x9 x10 H) Q := by rw [qp0]; exact h
theorem qba {call : Ev.Call} {q76r : AV → Hp → R1} {g76 : AV → Hp → R1} {q76e0 : Hp → R1} {x7 x9 x10 x63 : AV} {H : Hp} {Q : AV → Hp → Prop} (h : Ok (qbo call q76r g76 q76e0 x7 x9 x10 x63 H) Q) : Ok (qsc call q76r g76 q76e0 x7 x9 x10 x63 H) Q := by rw [qpz]; exact h
theorem qaz {call : Ev.Call} {x1 x5 x6 x7 x9 : AV} {H : Hp} {Q : AV → Hp → Prop} (h : Ok (qa8 call x1 x5 x6 x7 x9 H) Q) : Ok (ql4 call x1 x5 x6 x7 x9 H) Q := by rw [qn3]; exact h
theorem qay {call : Ev.Call} {x1 x5 x6 x7 x9 x59 : AV} {H : Hp} {Q : AV → Hp → Prop} (h : Ok (qa7 call x1 x5 x6 x7 x9 x59 H) Q) : Ok (ql3 call x1 x5 x6 x7 x9 x59 H) Q := by rw [qn2]; exact h
theorem qax {call : Ev.Call} {x1 x5 x6 x7 x8 x9 : AV} {H : Hp} {Q : AV → Hp → Prop} (h : Ok (qa6 call x1 x5 x6 x7 x8 x9 H) Q) : Ok (ql2 call x1 x5 x6 x7 x8 x9 H) Q := by rw [qn1]; exact h
theorem qaw {call : Ev.Call} {x1 x5 x6 x7 : AV} {H : Hp} {Q : AV → Hp → Prop} (h : Ok (qa5 call x1 x5 x6 x7 H) Q) : Ok (ql1 call x1 x5 x6 x7 H) Q := by rw [qn0]; exact h
theorem qav {call : Ev.Call} {x1 x5 x6 x7 x36 : AV} {H : Hp} {Q : AV → Hp → Prop} (h : Ok (qa4 call x1 x5 x6 x7 x36 H) Q) : Ok (ql0 call x1 x5 x6 x7 x36 H) Q := by rw [qnz]; exact h
theorem qau {call : Ev.Call} {x1 x5 x6 x7 x8 : AV} {H : Hp} {Q : AV → Hp → Prop} (h : Ok (qa3 call x1 x5 x6 x7 x8 H) Q) : Ok (qlz call x1 x5 x6 x7 x8 H) Q := by rw [qny]; exact h
theorem qat {call : Ev.Call} {x1 x5 x6 : AV} {H : Hp} {Q : AV → Hp → Prop} (h : Ok (qa2 call x1 x5 x6 H) Q) : Ok (qly call x1 x5 x6 H) Q := by rw [qnx]; exact h
theorem qas {call : Ev.Call} {x1 x5 : AV} {H : Hp} {Q : AV → Hp → Prop} (h : Ok (qa1 call x1 x5 H) Q) : Ok (qlx call x1 x5 H) Q := by rw [qnw]; exact h
end Go.Di
end
noncomputable section
namespace Go.Di
open Go.Ev
set_option linter.unusedVariables false
def qfd (call : Ev.Call) (x0 x1 : AV) (H : Hp) : R1 :=
  vq (qb5 x0) H fun a0 H =>
  vq (qh6 .u64 a0) H fun a1 H =>
  ve (call (.f qjp) [a1] H) fun a2 H =>
  ve (call (.f qgn) [x0, (.int .i64 (.ofNat 0)), a0, a2, x1] H) fun a3 H =>
  .ok (.tup []) H
def s_SortFunc (call : Ev.Call) (x0 x1 : AV) (H : Hp) : R1 := qfd call x0 x1 H
def qq7 (call : Ev.Call) (x0 : AV) (H : Hp) : R1 :=
  ve (call (.f qkp) [x0] H) fun a0 H =>
  .ok a0 H
def qwt (call : Ev.Call) (x0 : AV) (H : Hp) : R1 :=
  cd (.bool false) (
  vq (qh6 .u32 x0) H fun a2 H =>
  ve (call (.f q2o) [a2] H) fun a3 H =>
  .ok a3 H) (
  qq7 call x0 H)
def s_Len (call : Ev.Call) (x0 : AV) (H : Hp) : R1 := qwt call x0 H
def qus (call : Ev.Call) (g0 : AV → AV → AV → AV → AV → Hp → R1) (x0 x1 x2 x3 x4 x12 x13 : AV) (H : Hp) : R1 :=
  ve (call (.f q6w) [x0, x1, x2, x13, x4] H) fun a5 H =>
  vq (extr 0 a5) H fun a6 H =>
  vq (extr 1 a5) H fun a7 H =>
  vq (intV (qaa .sub).f a6 x1) H fun a8 H =>
  vq (intV (qaa .sub).f x2 a6) H fun a9 H =>
  vq (intV (qaa .quo).f x12 (.int .i64 (.ofNat 8))) H fun a10 H =>
  vq (intV (qaa .lss).f a8 a9) H fun a11 H =>
  cd a11 (
  vq (intV (qaa .geq).f a8 a10) H fun a12 H =>
  ve (call (.f qgn) [x0, x1, a6, x3, x4] H) fun a13 H =>
  vq (intV (qaa .add).f a6 (.int .i64 (.ofNat 1))) H fun a14 H =>
  g0 a14 x2 x3 a12 a7 H) (
  vq (intV (qaa .geq).f a9 a10) H fun a15 H =>
  vq (intV (qaa .add).f a6 (.int .i64 (.ofNat 1))) H fun a16 H =>
  ve (call (.f qgn) [x0, a16, x2, x3, x4] H) fun a17 H =>
  g0 x1 a6 x3 a15 a7 H)
def qmm (call : Ev.Call) (g0 : AV → AV → AV → AV → AV → Hp → R1) (x0 x1 x2 x3 x4 x10 x11 x12 x13 : AV) (H : Hp) : R1 :=
  dz 0 H fun b19 H =>
  dq false false 0 0 (b19 + 0) H [] [] (fun _ => .val x1) (some true) fun a20 H p w =>
  dq false false 1 1 (b19 + 1) H p w (fun _ => intV (qaa .gtr).f a20 (.int .i64 (.ofNat 0))) (some true) fun a21 H p w =>
  dq false false 2 3 (b19 + 2) H p w (fun _ => .val a21) (some true) fun a22 H p w =>
  dq false false 3 7 (b19 + 3) H p w (fun _ => .val x4) (qac true a22) fun a23 H p w =>
  dq false false 4 7 (b19 + 4) H p w (fun _ => .val x0) (qac true a22) fun a24 H p w =>
  dq false false 5 7 (b19 + 5) H p w (fun _ => .val x1) (qac true a22) fun a25 H p w =>
  dq false false 6 39 (b19 + 6) H p w (fun _ => intV (qaa .sub).f a25 (.int .i64 (.ofNat 1))) (qac true a22) fun a26 H p w =>
  dq false false 7 119 (b19 + 7) H p w (fun _ => idxS 1 a24 a26) (qac true a22) fun a27 H p w =>
  dq true false 8 247 (b19 + 8) H p w (fun H => qaf H a27) (qac true a22) fun a28 H p w =>
  dq false false 9 7 (b19 + 9) H p w (fun _ => .val x0) (qac true a22) fun a29 H p w =>
  dq false false 10 7 (b19 + 10) H p w (fun _ => .val x13) (qac true a22) fun a30 H p w =>
  dq false false 11 1543 (b19 + 11) H p w (fun _ => idxS 1 a29 a30) (qac true a22) fun a31 H p w =>
  dq true false 12 3591 (b19 + 12) H p w (fun H => qaf H a31) (qac true a22) fun a32 H p w =>
  de 8191 H p w (qln call a23 [a28, a32] (qb7 8191 p H)) (qac true a22) fun a33 H p w =>
  dq false false 14 16383 (b19 + 14) H p w (fun _ => intV (qaa .lss).f a33 (.int .i64 (.ofNat 0))) (qac true a22) fun a34 H p w =>
  dq false false 15 32767 (b19 + 15) H p w (fun _ => (unS .not).f a34) (qac true a22) fun a35 H p w =>
  dq false false 16 65535 (b19 + 16) H p w (fun _ => qck a22 a35 (.bool false)) (some true) fun a36 H p w =>
  dz2 p H fun H =>
  cd a36 (
  ve (call (.f za0) [x0, x1, x2, x13, x4] H) fun a37 H =>
  g0 a37 x2 x3 x10 x11 H) (
  qus call g0 x0 x1 x2 x3 x4 x12 x13 H)
def qml (call : Ev.Call) (q0r : Hp → R1) (g0 : AV → AV → AV → AV → AV → Hp → R1) (x0 x1 x2 x3 x4 x10 x11 x12 x13 x14 : AV) (H : Hp) : R1 :=
  vg (qac true x10) (.val x11) H fun a39 H =>
  vq (qck x10 a39 (.bool false)) H fun a40 H =>
  vg (qac true a40) (.val x14) H fun a41 H =>
  vg (qac true a40) (intV (qaa .eql).f a41 (.int .i64 (.ofNat 1))) H fun a42 H =>
  vq (qck a40 a42 (.bool false)) H fun a43 H =>
  cd a43 (
  ve (call (.f q6v) [x0, x1, x2, x4] H) fun a44 H =>
  cd a44 (
  q0r H) (
  qmm call g0 x0 x1 x2 x3 x4 x10 x11 x12 x13 H)) (
  qmm call g0 x0 x1 x2 x3 x4 x10 x11 x12 x13 H)
def qmk (call : Ev.Call) (q0r : Hp → R1) (g0 : AV → AV → AV → AV → AV → Hp → R1) (x0 x1 x2 x3 x4 x10 x11 x12 : AV) (H : Hp) : R1 :=
  ve (call (.f zaz) [x0, x1, x2, x4] H) fun a2 H =>
  vq (extr 0 a2) H fun a3 H =>
  vq (extr 1 a2) H fun a4 H =>
  vq (intV (qaa .eql).f a4 (.int .i64 (.ofNat 2))) H fun a46 H =>
  cd a46 (
  ve (call (.f zay) [x0, x1, x2, x4] H) fun a47 H =>
  vq (intV (qaa .sub).f x2 (.int .i64 (.ofNat 1))) H fun a48 H =>
  vq (intV (qaa .sub).f a3 x1) H fun a49 H =>
  vq (intV (qaa .sub).f a48 a49) H fun a50 H =>
  qml call q0r g0 x0 x1 x2 x3 x4 x10 x11 x12 a50 (.int .i64 (.ofNat 1)) H) (
  qml call q0r g0 x0 x1 x2 x3 x4 x10 x11 x12 a3 a4 H)
def qur (call : Ev.Call) (q0r : Hp → R1) (g0 : AV → AV → AV → AV → AV → Hp → R1) (x0 x1 x2 x3 x4 x10 x11 x12 : AV) (H : Hp) : R1 :=
  vq ((unS .not).f x10) H fun a52 H =>
  cd a52 (
  ve (call (.f za1) [x0, x1, x2, x4] H) fun a53 H =>
  vq (intV (qaa .sub).f x3 (.int .i64 (.ofNat 1))) H fun a54 H =>
  qmk call q0r g0 x0 x1 x2 a54 x4 x10 x11 x12 H) (
  qmk call q0r g0 x0 x1 x2 x3 x4 x10 x11 x12 H)
def quq (call : Ev.Call) (q0r : Hp → R1) (g0 : AV → AV → AV → AV → AV → Hp → R1) (x0 x1 x2 x3 x4 x10 x11 x12 : AV) (H : Hp) : R1 :=
  vq (intV (qaa .eql).f x3 (.int .i64 (.ofNat 0))) H fun a56 H =>
  cd a56 (
  ve (call (.f q6x) [x0, x1, x2, x4] H) fun a57 H =>
  q0r H) (
  qur call q0r g0 x0 x1 x2 x3 x4 x10 x11 x12 H)
def qi5 (call : Ev.Call) (q0r : Hp → R1) (x0 x4 : AV) (g0 : AV → AV → AV → AV → AV → Hp → R1) (x1 x2 x3 x10 x11 : AV) (H : Hp) : R1 :=
  vq (intV (qaa .sub).f x2 x1) H fun a1 H =>
  vq (intV (qaa .leq).f a1 (.int .i64 (.ofNat 12))) H fun a59 H =>
  cd a59 (
  ve (call (.f qjo) [x0, x1, x2, x4] H) fun a60 H =>
  q0r H) (
  quq call q0r g0 x0 x1 x2 x3 x4 x10 x11 a1 H)
def qd9 (call : Ev.Call) (q0r : Hp → R1) (x0 x4 : AV) (n : Nat) : AV → AV → AV → AV → AV → Hp → R1 :=
  Nat.rec (motive := fun _ => AV → AV → AV → AV → AV → Hp → R1) (fun _ _ _ _ _ _ => .bad) (fun _ ih => qi5 call q0r x0 x4 ih) n
def qlq (call : Ev.Call) (q0r : Hp → R1) (x0 x4 : AV) : AV → AV → AV → AV → AV → Hp → R1 := qd9 call q0r x0 x4 qcn
def qq2 (call : Ev.Call) (x0 x1 x2 x3 x4 : AV) (H : Hp) : R1 :=
  qlq call (fun H => .ok (.tup []) H) x0 x4 x1 x2 x3 (.bool true) (.bool true) H
def s_pdq (call : Ev.Call) (x0 x1 x2 x3 x4 : AV) (H : Hp) : R1 := qq2 call x0 x1 x2 x3 x4 H
def qfv (call : Ev.Call) (x0 x2 : AV) (H : Hp) : R1 :=
  vq (qh6 .u8 x0) H fun a0 H =>
  vq (qqe (.str 256 1013866857139168856493015739252390649739422828853819106890363778118420553376247557433637691341895324351018602695588957474325319502760499485336098898398377509666851054660423406800006203933793007272033180812049178612605246075062580585469430410618860250057463399279570354286669047577758927328864388992123306212451509403152394148136105363817402562688186708175358218852349079190158732807302672745370040257219644697201681238697346923541678507645485296520536209706771857694240900605172937619415410180424934769249448772944216470541052485265558808433676546390051204254346932932316488017972311616136051587427851453983453479168) a0) H fun a1 H =>
  vq (qh6 .i64 a1) H fun a2 H =>
  vq (intV (qaa .add).f x2 a2) H fun a3 H =>
  .ok a3 H
def qfu (call : Ev.Call) (x0 x2 : AV) (H : Hp) : R1 :=
  vq (intV (qaa .geq).f x0 (.int .u64 (.ofNat 256))) H fun a5 H =>
  cd a5 (
  vq (qmg (qga .shr).f x0 (.int .u64 (.ofNat 8))) H fun a6 H =>
  vq (intV (qaa .add).f x2 (.int .i64 (.ofNat 8))) H fun a7 H =>
  qfv call a6 a7 H) (
  qfv call x0 x2 H)
def qew (call : Ev.Call) (x0 x2 : AV) (H : Hp) : R1 :=
  vq (intV (qaa .geq).f x0 (.int .u64 (.ofNat 65536))) H fun a9 H =>
  cd a9 (
  vq (qmg (qga .shr).f x0 (.int .u64 (.ofNat 16))) H fun a10 H =>
  vq (intV (qaa .add).f x2 (.int .i64 (.ofNat 16))) H fun a11 H =>
  qfu call a10 a11 H) (
  qfu call x0 x2 H)
def qmq (call : Ev.Call) (x0 : AV) (H : Hp) : R1 :=
  vq (intV (qaa .geq).f x0 (.int .u64 (.ofNat 4294967296))) H fun a13 H =>
  cd a13 (
  vq (qmg (qga .shr).f x0 (.int .u64 (.ofNat 32))) H fun a14 H =>
  qew call a14 (.int .i64 (.ofNat 32)) H) (
  qew call x0 (.int .i64 (.ofNat 0)) H)
def s_Len64 (call : Ev.Call) (x0 : AV) (H : Hp) : R1 := qmq call x0 H
def qgc (call : Ev.Call) (g1 : AV → Hp → R1) (x8 : AV) (H : Hp) : R1 :=
  vq (intV (qaa .add).f x8 (.int .i64 (.ofNat 1))) H fun a2 H =>
  g1 a2 H
def qq3 (call : Ev.Call) (g4 : AV → Hp → R1) (x9 : AV) (H : Hp) : R1 :=
  vq (intV (qaa .sub).f x9 (.int .i64 (.ofNat 1))) H fun a5 H =>
  g4 a5 H
def qmo (call : Ev.Call) (g4 : AV → Hp → R1) (x0 x9 : AV) (H : Hp) : R1 :=
  dz 0 H fun b7 H =>
  dq false false 0 0 (b7 + 0) H [] [] (fun _ => .val x0) (some true) fun a8 H p w =>
  dq false false 1 0 (b7 + 1) H p w (fun _ => .val x9) (some true) fun a9 H p w =>
  dq false false 2 0 (b7 + 2) H p w (fun _ => .val x0) (some true) fun a10 H p w =>
  dq false false 3 0 (b7 + 3) H p w (fun _ => .val x9) (some true) fun a11 H p w =>
  dq false false 4 8 (b7 + 4) H p w (fun _ => intV (qaa .sub).f a11 (.int .i64 (.ofNat 1))) (some true) fun a12 H p w =>
  dq false false 5 0 (b7 + 5) H p w (fun _ => .val x0) (some true) fun a13 H p w =>
  dq false false 6 0 (b7 + 6) H p w (fun _ => .val x9) (some true) fun a14 H p w =>
  dq false false 7 64 (b7 + 7) H p w (fun _ => intV (qaa .sub).f a14 (.int .i64 (.ofNat 1))) (some true) fun a15 H p w =>
  dq false false 8 224 (b7 + 8) H p w (fun _ => idxS 1 a13 a15) (some true) fun a16 H p w =>
  dq true false 9 480 (b7 + 9) H p w (fun H => qaf H a16) (some true) fun a17 H p w =>
  dq false false 10 0 (b7 + 10) H p w (fun _ => .val x0) (some true) fun a18 H p w =>
  dq false false 11 0 (b7 + 11) H p w (fun _ => .val x9) (some true) fun a19 H p w =>
  dq false false 12 3072 (b7 + 12) H p w (fun _ => idxS 1 a18 a19) (some true) fun a20 H p w =>
  dq true false 13 7168 (b7 + 13) H p w (fun H => qaf H a20) (some true) fun a21 H p w =>
  dq false false 14 16355 (b7 + 14) H p w (fun _ => idxS 1 a8 a9) (some true) fun a22 H p w =>
  de 32739 H p w (qb4 (qb7 32739 p H) a22 a17) (some true) fun _ H p w =>
  dq false false 16 65535 (b7 + 16) H p w (fun _ => idxS 1 a10 a12) (some true) fun a24 H p w =>
  de 131071 H p w (qb4 (qb7 131071 p H) a24 a21) (some true) fun _ H p w =>
  dz2 p H fun H =>
  qq3 call g4 x9 H
def qq5 (call : Ev.Call) (q4e2 : Hp → R1) (x0 x1 x3 : AV) (g4 : AV → Hp → R1) (x9 : AV) (H : Hp) : R1 :=
  dz 0 H fun b27 H =>
  dq false false 0 0 (b27 + 0) H [] [] (fun _ => .val x9) (some true) fun a28 H p w =>
  dq false false 1 0 (b27 + 1) H p w (fun _ => .val x1) (some true) fun a29 H p w =>
  dq false false 2 3 (b27 + 2) H p w (fun _ => intV (qaa .gtr).f a28 a29) (some true) fun a30 H p w =>
  dq false false 3 7 (b27 + 3) H p w (fun _ => .val a30) (some true) fun a31 H p w =>
  dq false false 4 15 (b27 + 4) H p w (fun _ => .val x3) (qac true a31) fun a32 H p w =>
  dq false false 5 15 (b27 + 5) H p w (fun _ => .val x0) (qac true a31) fun a33 H p w =>
  dq false false 6 15 (b27 + 6) H p w (fun _ => .val x9) (qac true a31) fun a34 H p w =>
  dq false false 7 111 (b27 + 7) H p w (fun _ => idxS 1 a33 a34) (qac true a31) fun a35 H p w =>
  dq true false 8 239 (b27 + 8) H p w (fun H => qaf H a35) (qac true a31) fun a36 H p w =>
  dq false false 9 15 (b27 + 9) H p w (fun _ => .val x0) (qac true a31) fun a37 H p w =>
  dq false false 10 15 (b27 + 10) H p w (fun _ => .val x9) (qac true a31) fun a38 H p w =>
  dq false false 11 1039 (b27 + 11) H p w (fun _ => intV (qaa .sub).f a38 (.int .i64 (.ofNat 1))) (qac true a31) fun a39 H p w =>
  dq false false 12 3599 (b27 + 12) H p w (fun _ => idxS 1 a37 a39) (qac true a31) fun a40 H p w =>
  dq true false 13 7695 (b27 + 13) H p w (fun H => qaf H a40) (qac true a31) fun a41 H p w =>
  de 16383 H p w (qln call a32 [a36, a41] (qb7 16383 p H)) (qac true a31) fun a42 H p w =>
  dq false false 15 32767 (b27 + 15) H p w (fun _ => intV (qaa .lss).f a42 (.int .i64 (.ofNat 0))) (qac true a31) fun a43 H p w =>
  dq false false 16 65535 (b27 + 16) H p w (fun _ => qck a31 a43 (.bool false)) (some true) fun a44 H p w =>
  dz2 p H fun H =>
  cd a44 (
  qmo call g4 x0 x9 H) (
  q4e2 H)
def qhr (call : Ev.Call) (q4e2 : Hp → R1) (x0 x1 x3 : AV) (n : Nat) : AV → Hp → R1 :=
  Nat.rec (motive := fun _ => AV → Hp → R1) (fun _ _ => .bad) (fun _ ih => qq5 call q4e2 x0 x1 x3 ih) n
def qq6 (call : Ev.Call) (q4e2 : Hp → R1) (x0 x1 x3 : AV) : AV → Hp → R1 := qhr call q4e2 x0 x1 x3 qcn
def qmn (call : Ev.Call) (g1 : AV → Hp → R1) (x0 x1 x3 x8 : AV) (H : Hp) : R1 :=
  qq6 call (fun H => qgc call g1 x8 H) x0 x1 x3 x8 H
def qi6 (call : Ev.Call) (q1e0 : Hp → R1) (x0 x1 x2 x3 : AV) (g1 : AV → Hp → R1) (x8 : AV) (H : Hp) : R1 :=
  vq (intV (qaa .lss).f x8 x2) H fun a46 H =>
  cd a46 (
  qmn call g1 x0 x1 x3 x8 H) (
  q1e0 H)
def qdu (call : Ev.Call) (q1e0 : Hp → R1) (x0 x1 x2 x3 : AV) (n : Nat) : AV → Hp → R1 :=
  Nat.rec (motive := fun _ => AV → Hp → R1) (fun _ _ => .bad) (fun _ ih => qi6 call q1e0 x0 x1 x2 x3 ih) n
def qlr (call : Ev.Call) (q1e0 : Hp → R1) (x0 x1 x2 x3 : AV) : AV → Hp → R1 := qdu call q1e0 x0 x1 x2 x3 qcn
def qq4 (call : Ev.Call) (x0 x1 x2 x3 : AV) (H : Hp) : R1 :=
  vq (intV (qaa .add).f x1 (.int .i64 (.ofNat 1))) H fun a0 H =>
  qlr call (fun H => .ok (.tup []) H) x0 x1 x2 x3 a0 H
def s_ins (call : Ev.Call) (x0 x1 x2 x3 : AV) (H : Hp) : R1 := qq4 call x0 x1 x2 x3 H
end Go.Di
end
noncomputable section
namespace Go.Di
open Go.Ev
structure LnkS (c d : Ev.Call) : Prop where
  s_SortFunc : ∀ (x0 x1 : AV) (H : Hp), c (.f qcw) [x0, x1] H = Di.s_SortFunc d x0 x1 H
  s_Len : ∀ (x0 : AV) (H : Hp), c (.f qjp) [x0] H = Di.s_Len d x0 H
  s_pdq : ∀ (x0 x1 x2 x3 x4 : AV) (H : Hp), c (.f qgn) [x0, x1, x2, x3, x4] H = Di.s_pdq d x0 x1 x2 x3 x4 H
  s_Len64 : ∀ (x0 : AV) (H : Hp), c (.f qkp) [x0] H = Di.s_Len64 d x0 H
  s_ins : ∀ (x0 x1 x2 x3 : AV) (H : Hp), c (.f qjo) [x0, x1, x2, x3] H = Di.s_ins d x0 x1 x2 x3 H
abbrev qde (C : Nat → Ev.Call) : Prop := ∀ k, LnkS (C (k + 1)) (C k)
end Go.Di
end
noncomputable section
namespace Go.Di
open Go.Ev
set_option linter.unusedVariables false
def qr9 (call : Ev.Call) (x0 : AV) (H : Hp) : R1 :=
  vq (qb5 x0) H fun a0 H =>
  vq (qh6 .u64 a0) H fun a1 H =>
  ve (call (.f qjp) [a1] H) fun a2 H =>
  ve (call (.f qhy) [x0, (.int .i64 (.ofNat 0)), a0, a2] H) fun a3 H =>
  .ok (.tup []) H
def o_Sort (call : Ev.Call) (x0 : AV) (H : Hp) : R1 := qr9 call x0 H
def qvg (call : Ev.Call) (g0 : AV → AV → AV → AV → AV → Hp → R1) (x0 x1 x2 x3 x10 x11 : AV) (H : Hp) : R1 :=
  ve (call (.f q60) [x0, x1, x2, x11] H) fun a5 H =>
  vq (extr 0 a5) H fun a6 H =>
  vq (extr 1 a5) H fun a7 H =>
  vq (intV (qaa .sub).f a6 x1) H fun a8 H =>
  vq (intV (qaa .sub).f x2 a6) H fun a9 H =>
  vq (intV (qaa .quo).f x10 (.int .i64 (.ofNat 8))) H fun a10 H =>
  vq (intV (qaa .lss).f a8 a9) H fun a11 H =>
  cd a11 (
  vq (intV (qaa .geq).f a8 a10) H fun a12 H =>
  ve (call (.f qhy) [x0, x1, a6, x3] H) fun a13 H =>
  vq (intV (qaa .add).f a6 (.int .i64 (.ofNat 1))) H fun a14 H =>
  g0 a14 x2 x3 a12 a7 H) (
  vq (intV (qaa .geq).f a9 a10) H fun a15 H =>
  vq (intV (qaa .add).f a6 (.int .i64 (.ofNat 1))) H fun a16 H =>
  ve (call (.f qhy) [x0, a16, x2, x3] H) fun a17 H =>
  g0 x1 a6 x3 a15 a7 H)
def qnq (call : Ev.Call) (g0 : AV → AV → AV → AV → AV → Hp → R1) (x0 x1 x2 x3 x8 x9 x10 x11 : AV) (H : Hp) : R1 :=
  dz 0 H fun b19 H =>
  dq false false 0 0 (b19 + 0) H [] [] (fun _ => .val x1) (some true) fun a20 H p w =>
  dq false false 1 1 (b19 + 1) H p w (fun _ => intV (qaa .gtr).f a20 (.int .i64 (.ofNat 0))) (some true) fun a21 H p w =>
  dq false false 2 3 (b19 + 2) H p w (fun _ => .val a21) (some true) fun a22 H p w =>
  dq false false 3 7 (b19 + 3) H p w (fun _ => .val x0) (qac true a22) fun a23 H p w =>
  dq false false 4 7 (b19 + 4) H p w (fun _ => .val x1) (qac true a22) fun a24 H p w =>
  dq false false 5 23 (b19 + 5) H p w (fun _ => intV (qaa .sub).f a24 (.int .i64 (.ofNat 1))) (qac true a22) fun a25 H p w =>
  dq false false 6 63 (b19 + 6) H p w (fun _ => idxS 1 a23 a25) (qac true a22) fun a26 H p w =>
  dq true false 7 127 (b19 + 7) H p w (fun H => qaf H a26) (qac true a22) fun a27 H p w =>
  dq false false 8 7 (b19 + 8) H p w (fun _ => .val x0) (qac true a22) fun a28 H p w =>
  dq false false 9 7 (b19 + 9) H p w (fun _ => .val x11) (qac true a22) fun a29 H p w =>
  dq false false 10 775 (b19 + 10) H p w (fun _ => idxS 1 a28 a29) (qac true a22) fun a30 H p w =>
  dq true false 11 1799 (b19 + 11) H p w (fun H => qaf H a30) (qac true a22) fun a31 H p w =>
  de 4095 H p w (call (.f qhd) [a27, a31] (qb7 4095 p H)) (qac true a22) fun a32 H p w =>
  dq false false 13 8191 (b19 + 13) H p w (fun _ => (unS .not).f a32) (qac true a22) fun a33 H p w =>
  dq false false 14 16383 (b19 + 14) H p w (fun _ => qck a22 a33 (.bool false)) (some true) fun a34 H p w =>
  dz2 p H fun H =>
  cd a34 (
  ve (call (.f za4) [x0, x1, x2, x11] H) fun a35 H =>
  g0 a35 x2 x3 x8 x9 H) (
  qvg call g0 x0 x1 x2 x3 x10 x11 H)
def qnp (call : Ev.Call) (q0r : Hp → R1) (g0 : AV → AV → AV → AV → AV → Hp → R1) (x0 x1 x2 x3 x8 x9 x10 x11 x12 : AV) (H : Hp) : R1 :=
  vg (qac true x8) (.val x9) H fun a37 H =>
  vq (qck x8 a37 (.bool false)) H fun a38 H =>
  vg (qac true a38) (.val x12) H fun a39 H =>
  vg (qac true a38) (intV (qaa .eql).f a39 (.int .i64 (.ofNat 1))) H fun a40 H =>
  vq (qck a38 a40 (.bool false)) H fun a41 H =>
  cd a41 (
  ve (call (.f q6y) [x0, x1, x2] H) fun a42 H =>
  cd a42 (
  q0r H) (
  qnq call g0 x0 x1 x2 x3 x8 x9 x10 x11 H)) (
  qnq call g0 x0 x1 x2 x3 x8 x9 x10 x11 H)
def qno (call : Ev.Call) (q0r : Hp → R1) (g0 : AV → AV → AV → AV → AV → Hp → R1) (x0 x1 x2 x3 x8 x9 x10 : AV) (H : Hp) : R1 :=
  ve (call (.f za3) [x0, x1, x2] H) fun a2 H =>
  vq (extr 0 a2) H fun a3 H =>
  vq (extr 1 a2) H fun a4 H =>
  vq (intV (qaa .eql).f a4 (.int .i64 (.ofNat 2))) H fun a44 H =>
  cd a44 (
  ve (call (.f za2) [x0, x1, x2] H) fun a45 H =>
  vq (intV (qaa .sub).f x2 (.int .i64 (.ofNat 1))) H fun a46 H =>
  vq (intV (qaa .sub).f a3 x1) H fun a47 H =>
  vq (intV (qaa .sub).f a46 a47) H fun a48 H =>
  qnp call q0r g0 x0 x1 x2 x3 x8 x9 x10 a48 (.int .i64 (.ofNat 1)) H) (
  qnp call q0r g0 x0 x1 x2 x3 x8 x9 x10 a3 a4 H)
def qvf (call : Ev.Call) (q0r : Hp → R1) (g0 : AV → AV → AV → AV → AV → Hp → R1) (x0 x1 x2 x3 x8 x9 x10 : AV) (H : Hp) : R1 :=
  vq ((unS .not).f x8) H fun a50 H =>
  cd a50 (
  ve (call (.f za5) [x0, x1, x2] H) fun a51 H =>
  vq (intV (qaa .sub).f x3 (.int .i64 (.ofNat 1))) H fun a52 H =>
  qno call q0r g0 x0 x1 x2 a52 x8 x9 x10 H) (
  qno call q0r g0 x0 x1 x2 x3 x8 x9 x10 H)
def qve (call : Ev.Call) (q0r : Hp → R1) (g0 : AV → AV → AV → AV → AV → Hp → R1) (x0 x1 x2 x3 x8 x9 x10 : AV) (H : Hp) : R1 :=
  vq (intV (qaa .eql).f x3 (.int .i64 (.ofNat 0))) H fun a54 H =>
  cd a54 (
  ve (call (.f q61) [x0, x1, x2] H) fun a55 H =>
  q0r H) (
  qvf call q0r g0 x0 x1 x2 x3 x8 x9 x10 H)
def qr1 (call : Ev.Call) (q0r : Hp → R1) (x0 : AV) (g0 : AV → AV → AV → AV → AV → Hp → R1) (x1 x2 x3 x8 x9 : AV) (H : Hp) : R1 :=
  vq (intV (qaa .sub).f x2 x1) H fun a1 H =>
  vq (intV (qaa .leq).f a1 (.int .i64 (.ofNat 12))) H fun a57 H =>
  cd a57 (
  ve (call (.f ql7) [x0, x1, x2] H) fun a58 H =>
  q0r H) (
  qve call q0r g0 x0 x1 x2 x3 x8 x9 a1 H)
def qen (call : Ev.Call) (q0r : Hp → R1) (x0 : AV) (n : Nat) : AV → AV → AV → AV → AV → Hp → R1 :=
  Nat.rec (motive := fun _ => AV → AV → AV → AV → AV → Hp → R1) (fun _ _ _ _ _ _ => .bad) (fun _ ih => qr1 call q0r x0 ih) n
def qr2 (call : Ev.Call) (q0r : Hp → R1) (x0 : AV) : AV → AV → AV → AV → AV → Hp → R1 := qen call q0r x0 qcn
def qx0 (call : Ev.Call) (x0 x1 x2 x3 : AV) (H : Hp) : R1 :=
  qr2 call (fun H => .ok (.tup []) H) x0 x1 x2 x3 (.bool true) (.bool true) H
def o_pdq (call : Ev.Call) (x0 x1 x2 x3 : AV) (H : Hp) : R1 := qx0 call x0 x1 x2 x3 H
def qgk (call : Ev.Call) (g1 : AV → Hp → R1) (x6 : AV) (H : Hp) : R1 :=
  vq (intV (qaa .add).f x6 (.int .i64 (.ofNat 1))) H fun a2 H =>
  g1 a2 H
def qr4 (call : Ev.Call) (g4 : AV → Hp → R1) (x7 : AV) (H : Hp) : R1 :=
  vq (intV (qaa .sub).f x7 (.int .i64 (.ofNat 1))) H fun a5 H =>
  g4 a5 H
def qns (call : Ev.Call) (g4 : AV → Hp → R1) (x0 x7 : AV) (H : Hp) : R1 :=
  dz 0 H fun b7 H =>
  dq false false 0 0 (b7 + 0) H [] [] (fun _ => .val x0) (some true) fun a8 H p w =>
  dq false false 1 0 (b7 + 1) H p w (fun _ => .val x7) (some true) fun a9 H p w =>
  dq false false 2 0 (b7 + 2) H p w (fun _ => .val x0) (some true) fun a10 H p w =>
  dq false false 3 0 (b7 + 3) H p w (fun _ => .val x7) (some true) fun a11 H p w =>
  dq false false 4 8 (b7 + 4) H p w (fun _ => intV (qaa .sub).f a11 (.int .i64 (.ofNat 1))) (some true) fun a12 H p w =>
  dq false false 5 0 (b7 + 5) H p w (fun _ => .val x0) (some true) fun a13 H p w =>
  dq false false 6 0 (b7 + 6) H p w (fun _ => .val x7) (some true) fun a14 H p w =>
  dq false false 7 64 (b7 + 7) H p w (fun _ => intV (qaa .sub).f a14 (.int .i64 (.ofNat 1))) (some true) fun a15 H p w =>
  dq false false 8 224 (b7 + 8) H p w (fun _ => idxS 1 a13 a15) (some true) fun a16 H p w =>
  dq true false 9 480 (b7 + 9) H p w (fun H => qaf H a16) (some true) fun a17 H p w =>
  dq false false 10 0 (b7 + 10) H p w (fun _ => .val x0) (some true) fun a18 H p w =>
  dq false false 11 0 (b7 + 11) H p w (fun _ => .val x7) (some true) fun a19 H p w =>
  dq false false 12 3072 (b7 + 12) H p w (fun _ => idxS 1 a18 a19) (some true) fun a20 H p w =>
  dq true false 13 7168 (b7 + 13) H p w (fun H => qaf H a20) (some true) fun a21 H p w =>
  dq false false 14 16355 (b7 + 14) H p w (fun _ => idxS 1 a8 a9) (some true) fun a22 H p w =>
  de 32739 H p w (qb4 (qb7 32739 p H) a22 a17) (some true) fun _ H p w =>
  dq false false 16 65535 (b7 + 16) H p w (fun _ => idxS 1 a10 a12) (some true) fun a24 H p w =>
  de 131071 H p w (qb4 (qb7 131071 p H) a24 a21) (some true) fun _ H p w =>
  dz2 p H fun H =>
  qr4 call g4 x7 H
def qr5 (call : Ev.Call) (q4e2 : Hp → R1) (x0 x1 : AV) (g4 : AV → Hp → R1) (x7 : AV) (H : Hp) : R1 :=
  dz 0 H fun b27 H =>
  dq false false 0 0 (b27 + 0) H [] [] (fun _ => .val x7) (some true) fun a28 H p w =>
  dq false false 1 0 (b27 + 1) H p w (fun _ => .val x1) (some true) fun a29 H p w =>
  dq false false 2 3 (b27 + 2) H p w (fun _ => intV (qaa .gtr).f a28 a29) (some true) fun a30 H p w =>
  dq false false 3 7 (b27 + 3) H p w (fun _ => .val a30) (some true) fun a31 H p w =>
  dq false false 4 15 (b27 + 4) H p w (fun _ => .val x0) (qac true a31) fun a32 H p w =>
  dq false false 5 15 (b27 + 5) H p w (fun _ => .val x7) (qac true a31) fun a33 H p w =>
  dq false false 6 63 (b27 + 6) H p w (fun _ => idxS 1 a32 a33) (qac true a31) fun a34 H p w =>
  dq true false 7 127 (b27 + 7) H p w (fun H => qaf H a34) (qac true a31) fun a35 H p w =>
  dq false false 8 15 (b27 + 8) H p w (fun _ => .val x0) (qac true a31) fun a36 H p w =>
  dq false false 9 15 (b27 + 9) H p w (fun _ => .val x7) (qac true a31) fun a37 H p w =>
  dq false false 10 527 (b27 + 10) H p w (fun _ => intV (qaa .sub).f a37 (.int .i64 (.ofNat 1))) (qac true a31) fun a38 H p w =>
  dq false false 11 1807 (b27 + 11) H p w (fun _ => idxS 1 a36 a38) (qac true a31) fun a39 H p w =>
  dq true false 12 3855 (b27 + 12) H p w (fun H => qaf H a39) (qac true a31) fun a40 H p w =>
  de 8191 H p w (call (.f qhd) [a35, a40] (qb7 8191 p H)) (qac true a31) fun a41 H p w =>
  dq false false 14 16383 (b27 + 14) H p w (fun _ => qck a31 a41 (.bool false)) (some true) fun a42 H p w =>
  dz2 p H fun H =>
  cd a42 (
  qns call g4 x0 x7 H) (
  q4e2 H)
def qhw (call : Ev.Call) (q4e2 : Hp → R1) (x0 x1 : AV) (n : Nat) : AV → Hp → R1 :=
  Nat.rec (motive := fun _ => AV → Hp → R1) (fun _ _ => .bad) (fun _ ih => qr5 call q4e2 x0 x1 ih) n
def qr7 (call : Ev.Call) (q4e2 : Hp → R1) (x0 x1 : AV) : AV → Hp → R1 := qhw call q4e2 x0 x1 qcn
def qnr (call : Ev.Call) (g1 : AV → Hp → R1) (x0 x1 x6 : AV) (H : Hp) : R1 :=
  qr7 call (fun H => qgk call g1 x6 H) x0 x1 x6 H
def qr6 (call : Ev.Call) (q1e0 : Hp → R1) (x0 x1 x2 : AV) (g1 : AV → Hp → R1) (x6 : AV) (H : Hp) : R1 :=
  vq (intV (qaa .lss).f x6 x2) H fun a44 H =>
  cd a44 (
  qnr call g1 x0 x1 x6 H) (
  q1e0 H)
def qeb (call : Ev.Call) (q1e0 : Hp → R1) (x0 x1 x2 : AV) (n : Nat) : AV → Hp → R1 :=
  Nat.rec (motive := fun _ => AV → Hp → R1) (fun _ _ => .bad) (fun _ ih => qr6 call q1e0 x0 x1 x2 ih) n
def qr8 (call : Ev.Call) (q1e0 : Hp → R1) (x0 x1 x2 : AV) : AV → Hp → R1 := qeb call q1e0 x0 x1 x2 qcn
def qx2 (call : Ev.Call) (x0 x1 x2 : AV) (H : Hp) : R1 :=
  vq (intV (qaa .add).f x1 (.int .i64 (.ofNat 1))) H fun a0 H =>
  qr8 call (fun H => .ok (.tup []) H) x0 x1 x2 a0 H
def o_ins (call : Ev.Call) (x0 x1 x2 : AV) (H : Hp) : R1 := qx2 call x0 x1 x2 H
def qr3 (call : Ev.Call) (x0 x1 : AV) (H : Hp) : R1 :=
  ve (call (.f qis) [x0] H) fun a0 H =>
  vg (qac true a0) (.val x1) H fun a1 H =>
  veg (qac true a0) (call (.f qis) [a1] H) H fun a2 H =>
  vg (qac true a0) ((unS .not).f a2) H fun a3 H =>
  vq (qck a0 a3 (.bool false)) H fun a4 H =>
  vg (qac false a4) (.val x0) H fun a5 H =>
  vg (qac false a4) (.val x1) H fun a6 H =>
  vg (qac false a4) (intV (qaa .lss).f a5 a6) H fun a7 H =>
  vq (qck a4 (.bool true) a7) H fun a8 H =>
  .ok a8 H
def o_less (call : Ev.Call) (x0 x1 : AV) (H : Hp) : R1 := qr3 call x0 x1 H
end Go.Di
end
noncomputable section
namespace Go.Di
open Go.Ev
structure LnkO (c d : Ev.Call) : Prop where
  o_Sort : ∀ (x0 : AV) (H : Hp), c (.f qhe) [x0] H = Di.o_Sort d x0 H
  o_pdq : ∀ (x0 x1 x2 x3 : AV) (H : Hp), c (.f qhy) [x0, x1, x2, x3] H = Di.o_pdq d x0 x1 x2 x3 H
  o_ins : ∀ (x0 x1 x2 : AV) (H : Hp), c (.f ql7) [x0, x1, x2] H = Di.o_ins d x0 x1 x2 H
  o_less : ∀ (x0 x1 : AV) (H : Hp), c (.f qhd) [x0, x1] H = Di.o_less d x0 x1 H
abbrev qd2 (C : Nat → Ev.Call) : Prop := ∀ k, LnkO (C (k + 1)) (C k)
end Go.Di
end
