/-
 For GraphsOf: functions in direct style, their contracts, and the plain mathematics, part 1 of 6. No conditions beyond those that each theorem states.
-/
import Derived.Test.YtigaopnmpflgmaaGreatEv4
set_option linter.unusedSimpArgs false
set_option linter.unusedVariables false
noncomputable section
namespace Go.Di
open Go.Ev
def zfc : FuncId := 3
def q1g : FuncId := 6
def q1f : FuncId := 7
def q1e : FuncId := 8
def q1d : FuncId := 10
def q1c : FuncId := 9
def q1b : FuncId := 11
def q8v : FuncId := 12
def qik : FuncId := 23
def qmu : FuncId := 24
def qpi : FuncId := 25
def qkb : FuncId := 26
def qtv : FuncId := 27
def qtu : FuncId := 28
def qtt : FuncId := 29
def q1a : FuncId := 30
def qph : FuncId := 31
def qmt : FuncId := 32
def qms : FuncId := 34
def qpg : FuncId := 33
def q09 : FuncId := 35
def qts : FuncId := 36
def qpf : FuncId := 37
def qmr : FuncId := 38
def q08 : FuncId := 39
def q07 : FuncId := 40
def qmq : FuncId := 41
def qpe : FuncId := 50
def q06 : FuncId := 51
def q05 : FuncId := 52
def qha : FuncId := 53
def qpd : FuncId := 54
def q04 : FuncId := 55
def q03 : FuncId := 56
def qtr : FuncId := 57
def q02 : FuncId := 58
def qtq : FuncId := 59
def qg9 : FuncId := 60
def qtp : FuncId := 61
def q8u : FuncId := 62
def qpc : FuncId := 63
def qto : FuncId := 49
def qpb : FuncId := 65
def qtn : FuncId := 66
def q00 : FuncId := 64
def qtm : FuncId := 68
def qtl : FuncId := 69
def q0y : FuncId := 70
def qpa : FuncId := 72
def qo9 : FuncId := 73
def qo8 : FuncId := 75
def qo7 : FuncId := 77
def qtk : FuncId := 71
def qka : FuncId := 79
def q0x : FuncId := 81
def q0w : FuncId := 82
def qtj : FuncId := 85
def q0v : FuncId := 92
def q0u : FuncId := 74
def q0t : FuncId := 76
def q0s : FuncId := 78
def q0r : FuncId := 80
def q0q : FuncId := 48
def qti : FuncId := 93
def qth : FuncId := 95
def q8t : FuncId := 94
def q8s : FuncId := 98
def q8q : FuncId := 116
def qo6 : FuncId := 97
def q0p : FuncId := 96
def q8p : FuncId := 117
def q8o : FuncId := 118
def qfk (call : Ev.Call) (x4 x5 x6 : AV) (H : Hp) : R1 :=
 dz 0 H fun b1 H =>
 dq false false 0 0 (b1 + 0) H [] [] (fun _ => .val x6) (some true) fun a2 H p w =>
 dq false false 1 1 (b1 + 1) H p w (fun _ => intV (qab .eql).f a2 (.int .i64 (.ofNat 0))) (some true) fun a3 H p w =>
 dq false false 2 3 (b1 + 2) H p w (fun _ => .val a3) (some true) fun a4 H p w =>
 dq false false 3 7 (b1 + 3) H p w (fun _ => qac 0 x5) (qae true a4) fun a5 H p w =>
 dq true false 4 15 (b1 + 4) H p w (fun H => qad H a5) (qae true a4) fun a6 H p w =>
 dq false false 5 7 (b1 + 5) H p w (fun _ => qac 0 x4) (qae true a4) fun a7 H p w =>
 dq true false 6 39 (b1 + 6) H p w (fun H => qad H a7) (qae true a4) fun a8 H p w =>
 dq false false 7 127 (b1 + 7) H p w (fun _ => intV (qab .eql).f a6 a8) (qae true a4) fun a9 H p w =>
 dq false false 8 255 (b1 + 8) H p w (fun _ => qbf a4 a9 (.bool false)) (some true) fun a10 H p w =>
 dq false false 9 511 (b1 + 9) H p w (fun _ => .val a10) (some true) fun a11 H p w =>
 dq false false 10 1023 (b1 + 10) H p w (fun _ => qac 1 x5) (qae true a11) fun a12 H p w =>
 dq true false 11 2047 (b1 + 11) H p w (fun H => qad H a12) (qae true a11) fun a13 H p w =>
 dq true false 12 1023 (b1 + 12) H p w (fun H => qas 2 H x4) (qae true a11) fun a14 H p w =>
 de 5119 H p w (call (.f q1d) [a14] (qax 5119 p H)) (qae true a11) fun a15 H p w =>
 de 16383 H p w (call (.f q1c) [a13, a15] (qax 16383 p H)) (qae true a11) fun a16 H p w =>
 dq false false 15 32767 (b1 + 15) H p w (fun _ => qbf a11 a16 (.bool false)) (some true) fun a17 H p w =>
 dq false false 16 65535 (b1 + 16) H p w (fun _ => .val a17) (some true) fun a18 H p w =>
 dq true false 17 131071 (b1 + 17) H p w (fun H => qas 2 H x5) (qae true a18) fun a19 H p w =>
 de 262143 H p w (call (.f q1b) [a19] (qax 262143 p H)) (qae true a18) fun a20 H p w =>
 dq false false 19 524287 (b1 + 19) H p w (fun _ => intV (qab .eql).f a20 (.int .i64 (.ofNat 0))) (qae true a18) fun a21 H p w =>
 dq false false 20 1048575 (b1 + 20) H p w (fun _ => qbf a18 a21 (.bool false)) (some true) fun a22 H p w =>
 dq false false 21 2097151 (b1 + 21) H p w (fun _ => .val a22) (some true) fun a23 H p w =>
 de 4194303 H p w (call (.f q8v) [] (qax 4194303 p H)) (qae true a23) fun a24 H p w =>
 dq false false 23 8388607 (b1 + 23) H p w (fun _ => qbf a23 a24 (.bool false)) (some true) fun a25 H p w =>
 dq false false 24 16777215 (b1 + 24) H p w (fun _ => .val a25) (some true) fun a26 H p w =>
 dz2 p H fun H =>
 .ok a26 H
def qxv : Ev.Call → AV → AV → AV → Hp → R1 := Classical.choose (⟨qfk, rfl⟩ : ∃ f, f = qfk)
theorem qoj : qxv = qfk := Classical.choose_spec (⟨qfk, rfl⟩ : ∃ f, f = qfk)
def qfj (call : Ev.Call) (x3 x4 : AV) (H : Hp) : R1 :=
 vq (qas 1 H x3) H fun a28 H =>
 ve (call (.f q1e) [a28] H) fun a29 H =>
 vq (extr 0 a29) H fun a30 H =>
 vq (extr 1 a29) H fun a31 H =>
 vq (.new (.ptr H.nx 0) (qaa 0 [.int .i64 (.ofNat 0), .nilsl])) H fun a32 H =>
 ve (qay 2 H a32 a30) fun _ H =>
 qxv call x4 a32 a31 H
def qxu : Ev.Call → AV → AV → Hp → R1 := Classical.choose (⟨qfj, rfl⟩ : ∃ f, f = qfj)
theorem qoi : qxu = qfj := Classical.choose_spec (⟨qfj, rfl⟩ : ∃ f, f = qfj)
def qfi (call : Ev.Call) (x3 : AV) (H : Hp) : R1 :=
 vq (qas 1 H x3) H fun a35 H =>
 ve (call (.f q1f) [a35] H) fun a36 H =>
 vq (.new (.ptr H.nx 0) (qaa 0 [.int .i64 (.ofNat 0), .nilsl])) H fun a37 H =>
 ve (qay 2 H a37 a36) fun _ H =>
 qxu call x3 a37 H
def qxt : Ev.Call → AV → Hp → R1 := Classical.choose (⟨qfi, rfl⟩ : ∃ f, f = qfi)
theorem qoh : qxt = qfi := Classical.choose_spec (⟨qfi, rfl⟩ : ∃ f, f = qfi)
def zhf (call : Ev.Call) (x0 : AV) (H : Hp) : R1 :=
 vq (boxA 1 H.nx x0) H fun a0 H =>
 vq (qas 1 H a0) H fun a40 H =>
 ve (call (.f q1g) [a40] H) fun a41 H =>
 vq (.new (.ptr H.nx 0) (qaa 0 [.nilsl])) H fun a42 H =>
 ve (qay 1 H a42 a41) fun _ H =>
 qxt call a42 H
def zAa (call : Ev.Call) (x0 : AV) (H : Hp) : R1 := zhf call x0 H
def qhq (call : Ev.Call) (x2 x3 : AV) (H : Hp) : R1 :=
 vq (qas 1 H x3) H fun a2 H =>
 ve (qay 1 H x2 a2) fun _ H =>
 finR (rV (qas 1 H x2)) H
def qa9 : Ev.Call → AV → AV → Hp → R1 := Classical.choose (⟨qhq, rfl⟩ : ∃ f, f = qhq)
theorem qr7 : qa9 = qhq := Classical.choose_spec (⟨qhq, rfl⟩ : ∃ f, f = qhq)
def qfh (call : Ev.Call) (g5 : AV → Hp → R1) (x8 : AV) (H : Hp) : R1 :=
 vq (intV (qab .add).f x8 (.int .i64 (.ofNat 1))) H fun a6 H =>
 g5 a6 H
def qbe : Ev.Call → (AV → Hp → R1) → AV → Hp → R1 := Classical.choose (⟨qfh, rfl⟩ : ∃ f, f = qfh)
theorem qog : qbe = qfh := Classical.choose_spec (⟨qfh, rfl⟩ : ∃ f, f = qfh)
def qd1 (call : Ev.Call) (g8 : AV → Hp → R1) (x10 : AV) (H : Hp) : R1 :=
 vq (intV (qab .add).f x10 (.int .i64 (.ofNat 1))) H fun a9 H =>
 g8 a9 H
def qqo : Ev.Call → (AV → Hp → R1) → AV → Hp → R1 := Classical.choose (⟨qd1, rfl⟩ : ∃ f, f = qd1)
theorem qjc : qqo = qd1 := Classical.choose_spec (⟨qd1, rfl⟩ : ∃ f, f = qd1)
def qfg (call : Ev.Call) (g8 : AV → Hp → R1) (x9 x10 x11 : AV) (H : Hp) : R1 :=
 vq ((unS .not).f x11) H fun a11 H =>
 cd a11 (
 vq (idxS 6 x9 x10) H fun a12 H =>
 vq (qac 1 a12) H fun a13 H =>
 ve (qbb H a13 (.nilsl)) fun _ H =>
 qqo call g8 x10 H) (
 qqo call g8 x10 H)
def qct : Ev.Call → (AV → Hp → R1) → AV → AV → AV → Hp → R1 := Classical.choose (⟨qfg, rfl⟩ : ∃ f, f = qfg)
theorem qof : qct = qfg := Classical.choose_spec (⟨qfg, rfl⟩ : ∃ f, f = qfg)
def qd0 (call : Ev.Call) (g16 : AV → AV → Hp → R1) (x11 x12 : AV) (H : Hp) : R1 :=
 vq (intV (qab .add).f x12 (.int .i64 (.ofNat 1))) H fun a17 H =>
 g16 x11 a17 H
def qxk : Ev.Call → (AV → AV → Hp → R1) → AV → AV → Hp → R1 := Classical.choose (⟨qd0, rfl⟩ : ∃ f, f = qd0)
theorem qjb : qxk = qd0 := Classical.choose_spec (⟨qd0, rfl⟩ : ∃ f, f = qd0)
def qff (call : Ev.Call) (g16 : AV → AV → Hp → R1) (x9 x10 x11 x12 : AV) (H : Hp) : R1 :=
 dz 0 H fun b19 H =>
 dq false false 0 0 (b19 + 0) H [] [] (fun _ => .val x11) (some true) fun a20 H p w =>
 dq false false 1 1 (b19 + 1) H p w (fun _ => .val a20) (some true) fun a21 H p w =>
 dq false false 2 3 (b19 + 2) H p w (fun _ => .val x9) (qae false a21) fun a22 H p w =>
 dq false false 3 3 (b19 + 3) H p w (fun _ => .val x12) (qae false a21) fun a23 H p w =>
 dq false false 4 15 (b19 + 4) H p w (fun _ => idxS 6 a22 a23) (qae false a21) fun a24 H p w =>
 dq false false 5 31 (b19 + 5) H p w (fun _ => qac 2 a24) (qae false a21) fun a25 H p w =>
 dq true false 6 63 (b19 + 6) H p w (fun H => qas 4 H a25) (qae false a21) fun a26 H p w =>
 dq false false 7 3 (b19 + 7) H p w (fun _ => .val x9) (qae false a21) fun a27 H p w =>
 dq false false 8 3 (b19 + 8) H p w (fun _ => .val x10) (qae false a21) fun a28 H p w =>
 dq false false 9 387 (b19 + 9) H p w (fun _ => idxS 6 a27 a28) (qae false a21) fun a29 H p w =>
 dq false false 10 899 (b19 + 10) H p w (fun _ => qac 0 a29) (qae false a21) fun a30 H p w =>
 dq true false 11 1923 (b19 + 11) H p w (fun H => qad H a30) (qae false a21) fun a31 H p w =>
 de 4095 H p w (call (.f qtu) [a26, (.int .u8 (.ofNat 3)), a31] (qax 4095 p H)) (qae false a21) fun a32 H p w =>
 dq false false 13 8191 (b19 + 13) H p w (fun _ => qbf a21 (.bool true) a32) (some true) fun a33 H p w =>
 dq false false 14 16383 (b19 + 14) H p w (fun _ => .val a33) (some true) fun a34 H p w =>
 dz2 p H fun H =>
 qxk call g16 a34 x12 H
def qxj : Ev.Call → (AV → AV → Hp → R1) → AV → AV → AV → AV → Hp → R1 := Classical.choose (⟨qff, rfl⟩ : ∃ f, f = qff)
theorem qoe : qxj = qff := Classical.choose_spec (⟨qff, rfl⟩ : ∃ f, f = qff)
def qe9 (call : Ev.Call) (g16 : AV → AV → Hp → R1) (q16e6 : AV → Hp → R1) (x9 x10 x11 x12 x90 : AV) (H : Hp) : R1 :=
 cd x90 (
 qxj call g16 x9 x10 x11 x12 H) (
 q16e6 x11 H)
def qxf : Ev.Call → (AV → AV → Hp → R1) → (AV → Hp → R1) → AV → AV → AV → AV → AV → Hp → R1 := Classical.choose (⟨qe9, rfl⟩ : ∃ f, f = qe9)
theorem qn8 : qxf = qe9 := Classical.choose_spec (⟨qe9, rfl⟩ : ∃ f, f = qe9)
def qxm (call : Ev.Call) (q16e6 : AV → Hp → R1) (x9 x10 : AV) (g16 : AV → AV → Hp → R1) (x11 x12 : AV) (H : Hp) : R1 :=
 vq (lenSl x9) H fun a37 H =>
 vq (intV (qab .lss).f x12 a37) H fun a38 H =>
 qxf call g16 q16e6 x9 x10 x11 x12 a38 H
def qeb (call : Ev.Call) (q16e6 : AV → Hp → R1) (x9 x10 : AV) (n : Nat) : AV → AV → Hp → R1 :=
 Nat.rec (motive := fun _ => AV → AV → Hp → R1) (fun _ _ _ => .bad) (fun _ ih => qxm call q16e6 x9 x10 ih) n
def qxq (call : Ev.Call) (q16e6 : AV → Hp → R1) (x9 x10 : AV) : AV → AV → Hp → R1 := qeb call q16e6 x9 x10 qbg
def qe8 (call : Ev.Call) (g8 : AV → Hp → R1) (x9 x10 x11 : AV) (H : Hp) : R1 :=
 qxq call (fun x11 H => qct call g8 x9 x10 x11 H) x9 x10 x11 (.int .i64 (.ofNat 0)) H
def qxe : Ev.Call → (AV → Hp → R1) → AV → AV → AV → Hp → R1 := Classical.choose (⟨qe8, rfl⟩ : ∃ f, f = qe8)
theorem qn7 : qxe = qe8 := Classical.choose_spec (⟨qe8, rfl⟩ : ∃ f, f = qe8)
def qfe (call : Ev.Call) (g8 : AV → Hp → R1) (x9 x10 : AV) (H : Hp) : R1 :=
 vq (idxS 6 x9 x10) H fun a40 H =>
 vq (qac 2 a40) H fun a41 H =>
 vq (qas 4 H a41) H fun a42 H =>
 ve (call (.f qtu) [a42, (.int .u8 (.ofNat 1)), (.str 0 0)] H) fun a43 H =>
 qxe call g8 x9 x10 a43 H
def qxi : Ev.Call → (AV → Hp → R1) → AV → AV → Hp → R1 := Classical.choose (⟨qfe, rfl⟩ : ∃ f, f = qfe)
theorem qod : qxi = qfe := Classical.choose_spec (⟨qfe, rfl⟩ : ∃ f, f = qfe)
def qe7 (call : Ev.Call) (g8 : AV → Hp → R1) (q8e4 : Hp → R1) (x9 x10 x78 : AV) (H : Hp) : R1 :=
 cd x78 (
 qxi call g8 x9 x10 H) (
 q8e4 H)
def qxd : Ev.Call → (AV → Hp → R1) → (Hp → R1) → AV → AV → AV → Hp → R1 := Classical.choose (⟨qe7, rfl⟩ : ∃ f, f = qe7)
theorem qn6 : qxd = qe7 := Classical.choose_spec (⟨qe7, rfl⟩ : ∃ f, f = qe7)
def qxn (call : Ev.Call) (q8e4 : Hp → R1) (x9 : AV) (g8 : AV → Hp → R1) (x10 : AV) (H : Hp) : R1 :=
 vq (lenSl x9) H fun a46 H =>
 vq (intV (qab .lss).f x10 a46) H fun a47 H =>
 qxd call g8 q8e4 x9 x10 a47 H
def qbi (call : Ev.Call) (q8e4 : Hp → R1) (x9 : AV) (n : Nat) : AV → Hp → R1 :=
 Nat.rec (motive := fun _ => AV → Hp → R1) (fun _ _ => .bad) (fun _ ih => qxn call q8e4 x9 ih) n
def qxr (call : Ev.Call) (q8e4 : Hp → R1) (x9 : AV) : AV → Hp → R1 := qbi call q8e4 x9 qbg
def qe6 (call : Ev.Call) (g5 : AV → Hp → R1) (x8 x9 : AV) (H : Hp) : R1 :=
 qxr call (fun H => qbe call g5 x8 H) x9 (.int .i64 (.ofNat 0)) H
def qxc : Ev.Call → (AV → Hp → R1) → AV → AV → Hp → R1 := Classical.choose (⟨qe6, rfl⟩ : ∃ f, f = qe6)
theorem qn5 : qxc = qe6 := Classical.choose_spec (⟨qe6, rfl⟩ : ∃ f, f = qe6)
def qfd (call : Ev.Call) (g5 : AV → Hp → R1) (x3 x8 : AV) (H : Hp) : R1 :=
 vq (qac 0 x3) H fun a49 H =>
 vq (qad H a49) H fun a50 H =>
 vq (idxS 2 a50 x8) H fun a51 H =>
 vq (qac 1 a51) H fun a52 H =>
 vq (qad H a52) H fun a53 H =>
 qxc call g5 x8 a53 H
def qxh : Ev.Call → (AV → Hp → R1) → AV → AV → Hp → R1 := Classical.choose (⟨qfd, rfl⟩ : ∃ f, f = qfd)
theorem qoc : qxh = qfd := Classical.choose_spec (⟨qfd, rfl⟩ : ∃ f, f = qfd)
def qe5 (call : Ev.Call) (g5 : AV → Hp → R1) (q5e2 : Hp → R1) (x3 x8 x66 : AV) (H : Hp) : R1 :=
 cd x66 (
 qxh call g5 x3 x8 H) (
 q5e2 H)
def qxb : Ev.Call → (AV → Hp → R1) → (Hp → R1) → AV → AV → AV → Hp → R1 := Classical.choose (⟨qe5, rfl⟩ : ∃ f, f = qe5)
theorem qn4 : qxb = qe5 := Classical.choose_spec (⟨qe5, rfl⟩ : ∃ f, f = qe5)
def qxo (call : Ev.Call) (q5e2 : Hp → R1) (x3 : AV) (g5 : AV → Hp → R1) (x8 : AV) (H : Hp) : R1 :=
 vq (qac 0 x3) H fun a56 H =>
 vq (qad H a56) H fun a57 H =>
 vq (lenSl a57) H fun a58 H =>
 vq (intV (qab .lss).f x8 a58) H fun a59 H =>
 qxb call g5 q5e2 x3 x8 a59 H
def qa0 (call : Ev.Call) (q5e2 : Hp → R1) (x3 : AV) (n : Nat) : AV → Hp → R1 :=
 Nat.rec (motive := fun _ => AV → Hp → R1) (fun _ _ => .bad) (fun _ ih => qxo call q5e2 x3 ih) n
def qxs (call : Ev.Call) (q5e2 : Hp → R1) (x3 : AV) : AV → Hp → R1 := qa0 call q5e2 x3 qbg
def qfc (call : Ev.Call) (x2 x3 : AV) (H : Hp) : R1 :=
 qxs call (fun H => qa9 call x2 x3 H) x3 (.int .i64 (.ofNat 1)) H
def qbv : Ev.Call → AV → AV → Hp → R1 := Classical.choose (⟨qfc, rfl⟩ : ∃ f, f = qfc)
theorem qob : qbv = qfc := Classical.choose_spec (⟨qfc, rfl⟩ : ∃ f, f = qfc)
def qfb (call : Ev.Call) (g61 : AV → Hp → R1) (x4 : AV) (H : Hp) : R1 :=
 vq (intV (qab .add).f x4 (.int .i64 (.ofNat 1))) H fun a62 H =>
 g61 a62 H
def qxg : Ev.Call → (AV → Hp → R1) → AV → Hp → R1 := Classical.choose (⟨qfb, rfl⟩ : ∃ f, f = qfb)
theorem qoa : qxg = qfb := Classical.choose_spec (⟨qfb, rfl⟩ : ∃ f, f = qfb)
def qe4 (call : Ev.Call) (g61 : AV → Hp → R1) (x1 x4 x5 x7 : AV) (H : Hp) : R1 :=
 dz 17 H fun b64 H =>
 dq false false 0 0 (b64 + 0) H [] [] (fun _ => .val x7) (some true) fun a65 H p w =>
 dq false false 1 0 (b64 + 1) H p w (fun _ => .val x7) (some true) fun a66 H p w =>
 dq false false 2 2 (b64 + 2) H p w (fun _ => nilC a66) (some true) fun a67 H p w =>
 dq false false 3 6 (b64 + 3) H p w (fun _ => qac 1 a67) (some true) fun a68 H p w =>
 dq true false 4 14 (b64 + 4) H p w (fun H => qad H a68) (some true) fun a69 H p w =>
 dq false false 5 0 (b64 + 5) H p w (fun _ => .val x4) (some true) fun a70 H p w =>
 dq true false 7 0 (b64 + 7) H p w (fun H => qas 1 H x1) (some true) fun a71 H p w =>
 dq false false 8 0 (b64 + 8) H p w (fun _ => .val x4) (some true) fun a72 H p w =>
 dq true false 10 0 (b64 + 10) H p w (fun H => qas 4 H x5) (some true) fun a73 H p w =>
 de 32 H p w (call (.f qkb) [a70] (qax 32 p H)) (some true) fun a74 H p w =>
 de 480 H p w (call (.f qtv) [a71, a72] (qax 480 p H)) (some true) fun a75 H p w =>
 dq false false 11 2016 (b64 + 11) H p w (fun _ => aggN (qaj [.str 0 0, .nilsl, .int .u8 (.ofNat 0), .str 0 0, .str 0 0, .nilsl] [(0, 1, a74), (1, 1, a75), (2, 4, a73)])) (some true) fun a76 H p w =>
 dq false true 12 4064 (b64 + 12) H p w (fun _ => qco 1 (b64 + 12) (qaj (reps [.str 0 0, .nilsl, .int .u8 (.ofNat 0), .str 0 0, .str 0 0, .nilsl] 1) [(0, 6, a76)])) (some true) fun a77 H p w =>
 de 8190 H p w (qa2 6 104 (qax 8190 p H) a69 (qbp 6 (qax 8190 p H) a77)) (some true) fun a78 H p w =>
 dq false false 14 16383 (b64 + 14) H p w (fun _ => nilC a65) (some true) fun a79 H p w =>
 dq false false 15 32767 (b64 + 15) H p w (fun _ => qac 1 a79) (some true) fun a80 H p w =>
 de 65535 H p w (qbb (qax 65535 p H) a80 a78) (some true) fun _ H p w =>
 dz2 p H fun H =>
 qxg call g61 x4 H
def qxa : Ev.Call → (AV → Hp → R1) → AV → AV → AV → AV → Hp → R1 := Classical.choose (⟨qe4, rfl⟩ : ∃ f, f = qe4)
theorem qn3 : qxa = qe4 := Classical.choose_spec (⟨qe4, rfl⟩ : ∃ f, f = qe4)
def qe3 (call : Ev.Call) (g61 : AV → Hp → R1) (x1 x3 x4 x5 : AV) (H : Hp) : R1 :=
 vq (qac 0 x3) H fun a83 H =>
 vq (qad H a83) H fun a84 H =>
 vq (intV (qab .quo).f x4 (.int .i64 (.ofNat 4))) H fun a85 H =>
 vq (intV (qab .add).f (.int .i64 (.ofNat 1)) a85) H fun a86 H =>
 vq (idxS 2 a84 a86) H fun a87 H =>
 qxa call g61 x1 x4 x5 a87 H
def qw9 : Ev.Call → (AV → Hp → R1) → AV → AV → AV → AV → Hp → R1 := Classical.choose (⟨qe3, rfl⟩ : ∃ f, f = qe3)
theorem qn2 : qw9 = qe3 := Classical.choose_spec (⟨qe3, rfl⟩ : ∃ f, f = qe3)
def qfa (call : Ev.Call) (g61 : AV → Hp → R1) (x1 x3 x4 : AV) (H : Hp) : R1 :=
 vq (qas 1 H x1) H fun a89 H =>
 ve (call (.f qpi) [a89, x4, (.int .i64 (.ofNat 2)), (.int .i64 (.ofNat 1)), (.bool false)] H) fun a90 H =>
 vq (extr 0 a90) H fun a91 H =>
 vq (extr 1 a90) H fun a92 H =>
 vq (.new (.ptr H.nx 0) (qaa 0 [.int .u8 (.ofNat 0), .str 0 0, .str 0 0, .nilsl])) H fun a93 H =>
 ve (qay 4 H a93 a91) fun _ H =>
 qw9 call g61 x1 x3 x4 a93 H
def qhr : Ev.Call → (AV → Hp → R1) → AV → AV → AV → Hp → R1 := Classical.choose (⟨qfa, rfl⟩ : ∃ f, f = qfa)
theorem qn9 : qhr = qfa := Classical.choose_spec (⟨qfa, rfl⟩ : ∃ f, f = qfa)
def qc7 (call : Ev.Call) (g61 : AV → Hp → R1) (x1 x3 x4 : AV) (H : Hp) : R1 :=
 vq (intV (qab .rem).f x4 (.int .i64 (.ofNat 4))) H fun a96 H =>
 vq (intV (qab .eql).f a96 (.int .i64 (.ofNat 0))) H fun a97 H =>
 cd a97 (
 dz 10 H fun b98 H =>
 dq false false 0 0 (b98 + 0) H [] [] (fun _ => qac 0 x3) (some true) fun a99 H p w =>
 dq true false 1 1 (b98 + 1) H p w (fun H => qad H a99) (some true) fun a100 H p w =>
 dq false false 2 0 (b98 + 2) H p w (fun _ => .val x4) (some true) fun a101 H p w =>
 dq false false 3 4 (b98 + 3) H p w (fun _ => intV (qab .quo).f a101 (.int .i64 (.ofNat 4))) (some true) fun a102 H p w =>
 de 12 H p w (call (.f qmu) [a102] (qax 12 p H)) (some true) fun a103 H p w =>
 dq false false 5 28 (b98 + 5) H p w (fun _ => aggN (qaj [.str 0 0, .nilsl] [(0, 1, a103)])) (some true) fun a104 H p w =>
 dq false true 6 60 (b98 + 6) H p w (fun _ => qco 1 (b98 + 6) (qaj (reps [.str 0 0, .nilsl] 1) [(0, 2, a104)])) (some true) fun a105 H p w =>
 de 127 H p w (qa2 2 40 (qax 127 p H) a100 (qbp 2 (qax 127 p H) a105)) (some true) fun a106 H p w =>
 dq false false 8 255 (b98 + 8) H p w (fun _ => qac 0 x3) (some true) fun a107 H p w =>
 de 511 H p w (qbb (qax 511 p H) a107 a106) (some true) fun _ H p w =>
 dz2 p H fun H =>
 qhr call g61 x1 x3 x4 H) (
 qhr call g61 x1 x3 x4 H)
def qkh : Ev.Call → (AV → Hp → R1) → AV → AV → AV → Hp → R1 := Classical.choose (⟨qc7, rfl⟩ : ∃ f, f = qc7)
theorem qhs : qkh = qc7 := Classical.choose_spec (⟨qc7, rfl⟩ : ∃ f, f = qc7)
def qdq (call : Ev.Call) (g61 : AV → Hp → R1) (q61e0 : Hp → R1) (x1 x3 x4 x19 : AV) (H : Hp) : R1 :=
 cd x19 (
 qkh call g61 x1 x3 x4 H) (
 q61e0 H)
def qqn : Ev.Call → (AV → Hp → R1) → (Hp → R1) → AV → AV → AV → AV → Hp → R1 := Classical.choose (⟨qdq, rfl⟩ : ∃ f, f = qdq)
theorem qlr : qqn = qdq := Classical.choose_spec (⟨qdq, rfl⟩ : ∃ f, f = qdq)
def qxl (call : Ev.Call) (q61e0 : Hp → R1) (x1 x3 : AV) (g61 : AV → Hp → R1) (x4 : AV) (H : Hp) : R1 :=
 vq (qas 1 H x1) H fun a111 H =>
 ve (call (.f qik) [a111] H) fun a112 H =>
 vq (intV (qab .lss).f x4 a112) H fun a113 H =>
 qqn call g61 q61e0 x1 x3 x4 a113 H
def qb4 (call : Ev.Call) (q61e0 : Hp → R1) (x1 x3 : AV) (n : Nat) : AV → Hp → R1 :=
 Nat.rec (motive := fun _ => AV → Hp → R1) (fun _ _ => .bad) (fun _ ih => qxl call q61e0 x1 x3 ih) n
def qxp (call : Ev.Call) (q61e0 : Hp → R1) (x1 x3 : AV) : AV → Hp → R1 := qb4 call q61e0 x1 x3 qbg
def qdp (call : Ev.Call) (x1 x2 x3 : AV) (H : Hp) : R1 :=
 qxp call (fun H => qbv call x2 x3 H) x1 x3 (.int .i64 (.ofNat 0)) H
def qqm : Ev.Call → AV → AV → AV → Hp → R1 := Classical.choose (⟨qdp, rfl⟩ : ∃ f, f = qdp)
theorem qlq : qqm = qdp := Classical.choose_spec (⟨qdp, rfl⟩ : ∃ f, f = qdp)
def zhe (call : Ev.Call) (x0 : AV) (H : Hp) : R1 :=
 vq (boxA 1 H.nx x0) H fun a0 H =>
 vq (.new (.ptr H.nx 0) (qaa 0 [.nilsl])) H fun a1 H =>
 vq (aggN (qaj [.str 0 0, .nilsl] [(0, 1, (.str 4 1919251317))])) H fun a115 H =>
 vq (qco 1 H.nx (qaj (reps [.str 0 0, .nilsl] 1) [(0, 2, a115)])) H fun a116 H =>
 vq (aggN (qaj [.nilsl] [(0, 1, a116)])) H fun a117 H =>
 vq (.new (.ptr H.nx 0) (qaa 0 [.nilsl])) H fun a118 H =>
 ve (qay 1 H a118 a117) fun _ H =>
 qqm call a0 a1 a118 H
def zAb (call : Ev.Call) (x0 : AV) (H : Hp) : R1 := zhe call x0 H
def qbu (call : Ev.Call) (x2 x4 : AV) (H : Hp) : R1 :=
 vq (qas 2 H x4) H fun a8 H =>
 ve (qay 2 H x2 a8) fun _ H =>
 finR (rV (qas 2 H x2)) H
def qcl (call : Ev.Call) (g11 : AV → Hp → R1) (x5 : AV) (H : Hp) : R1 :=
 vq (intV (qab .add).f x5 (.int .i64 (.ofNat 1))) H fun a12 H =>
 g11 a12 H
def qck (call : Ev.Call) (g36 : AV → Hp → R1) (x9 : AV) (H : Hp) : R1 :=
 vq (intV (qab .add).f x9 (.int .i64 (.ofNat 1))) H fun a37 H =>
 g36 a37 H
def qlp (call : Ev.Call) (g43 : AV → Hp → R1) (x10 : AV) (H : Hp) : R1 :=
 vq (intV (qab .add).f x10 (.int .i64 (.ofNat 1))) H fun a44 H =>
 g43 a44 H
def qw2 (call : Ev.Call) (g43 : AV → Hp → R1) (x1 x4 x5 x6 x8 x9 x10 : AV) (H : Hp) : R1 :=
 vq (qac 1 x6) H fun a46 H =>
 vq (qad H a46) H fun a47 H =>
 vq (idxS 2 a47 x10) H fun a48 H =>
 vq (qac 1 a48) H fun a49 H =>
 vq (qad H a49) H fun a50 H =>
 vq (strV (qcb .neq).f a50 (.str 0 0)) H fun a51 H =>
 cd a51 (
 dz 0 H fun b52 H =>
 dq true false 0 0 (b52 + 0) H [] [] (fun H => qas 2 H x4) (some true) fun a53 H p w =>
 dq false false 1 0 (b52 + 1) H p w (fun _ => .val x5) (some true) fun a54 H p w =>
 dq true false 2 0 (b52 + 2) H p w (fun H => qas 1 H x1) (some true) fun a55 H p w =>
 dq false false 3 0 (b52 + 3) H p w (fun _ => qac 1 x6) (some true) fun a56 H p w =>
 dq true false 4 8 (b52 + 4) H p w (fun H => qad H a56) (some true) fun a57 H p w =>
 dq false false 5 0 (b52 + 5) H p w (fun _ => .val x10) (some true) fun a58 H p w =>
 dq false false 6 56 (b52 + 6) H p w (fun _ => idxS 2 a57 a58) (some true) fun a59 H p w =>
 dq false false 7 120 (b52 + 7) H p w (fun _ => qac 0 a59) (some true) fun a60 H p w =>
 dq true false 8 248 (b52 + 8) H p w (fun H => qad H a60) (some true) fun a61 H p w =>
 dq false false 9 0 (b52 + 9) H p w (fun _ => qac 1 x6) (some true) fun a62 H p w =>
 dq true false 10 512 (b52 + 10) H p w (fun H => qad H a62) (some true) fun a63 H p w =>
 dq false false 11 0 (b52 + 11) H p w (fun _ => .val x10) (some true) fun a64 H p w =>
 dq false false 12 3584 (b52 + 12) H p w (fun _ => idxS 2 a63 a64) (some true) fun a65 H p w =>
 dq false false 13 7680 (b52 + 13) H p w (fun _ => qac 1 a65) (some true) fun a66 H p w =>
 dq true false 14 15872 (b52 + 14) H p w (fun H => qad H a66) (some true) fun a67 H p w =>
 dq false false 16 0 (b52 + 16) H p w (fun _ => .val x8) (some true) fun a68 H p w =>
 dq false false 17 0 (b52 + 17) H p w (fun _ => .val x9) (some true) fun a69 H p w =>
 dq false false 18 196608 (b52 + 18) H p w (fun _ => idxS 5 a68 a69) (some true) fun a70 H p w =>
 dq false false 19 458752 (b52 + 19) H p w (fun _ => qac 4 a70) (some true) fun a71 H p w =>
 dq true false 20 983040 (b52 + 20) H p w (fun H => qad H a71) (some true) fun a72 H p w =>
 de 32764 H p w (call (.f qms) [a55, a61, a67] (qax 32764 p H)) (some true) fun a73 H p w =>
 de 2097151 H p w (call (.f qpg) [a53, a54, a73, a72] (qax 2097151 p H)) (some true) fun a74 H p w =>
 dz2 p H fun H =>
 qlp call g43 x10 H) (
 qlp call g43 x10 H)
def qw3 (call : Ev.Call) (q43e5 : Hp → R1) (x1 x4 x5 x6 x8 x9 : AV) (g43 : AV → Hp → R1) (x10 : AV) (H : Hp) : R1 :=
 vq (qac 1 x6) H fun a76 H =>
 vq (qad H a76) H fun a77 H =>
 vq (lenSl a77) H fun a78 H =>
 vq (intV (qab .lss).f x10 a78) H fun a79 H =>
 cd a79 (
 qw2 call g43 x1 x4 x5 x6 x8 x9 x10 H) (
 q43e5 H)
def qja (call : Ev.Call) (q43e5 : Hp → R1) (x1 x4 x5 x6 x8 x9 : AV) (n : Nat) : AV → Hp → R1 :=
 Nat.rec (motive := fun _ => AV → Hp → R1) (fun _ _ => .bad) (fun _ ih => qw3 call q43e5 x1 x4 x5 x6 x8 x9 ih) n
def qw6 (call : Ev.Call) (q43e5 : Hp → R1) (x1 x4 x5 x6 x8 x9 : AV) : AV → Hp → R1 := qja call q43e5 x1 x4 x5 x6 x8 x9 qbg
def qqj (call : Ev.Call) (g122 : AV → Hp → R1) (x12 : AV) (H : Hp) : R1 :=
 vq (intV (qab .add).f x12 (.int .i64 (.ofNat 1))) H fun a123 H =>
 g122 a123 H
def qqi (call : Ev.Call) (g122 : AV → Hp → R1) (x1 x4 x5 x8 x9 x11 x12 : AV) (H : Hp) : R1 :=
 dz 0 H fun b125 H =>
 dq true false 0 0 (b125 + 0) H [] [] (fun H => qas 2 H x4) (some true) fun a126 H p w =>
 dq false false 1 0 (b125 + 1) H p w (fun _ => .val x5) (some true) fun a127 H p w =>
 dq true false 2 0 (b125 + 2) H p w (fun H => qas 1 H x1) (some true) fun a128 H p w =>
 dq false false 3 0 (b125 + 3) H p w (fun _ => .val x11) (some true) fun a129 H p w =>
 dq false false 4 0 (b125 + 4) H p w (fun _ => .val x12) (some true) fun a130 H p w =>
 dq false false 5 24 (b125 + 5) H p w (fun _ => idxS 1 a129 a130) (some true) fun a131 H p w =>
 dq true false 6 56 (b125 + 6) H p w (fun H => qad H a131) (some true) fun a132 H p w =>
 dq false false 7 0 (b125 + 7) H p w (fun _ => .val x8) (some true) fun a133 H p w =>
 dq false false 8 0 (b125 + 8) H p w (fun _ => .val x9) (some true) fun a134 H p w =>
 dq false false 9 384 (b125 + 9) H p w (fun _ => idxS 5 a133 a134) (some true) fun a135 H p w =>
 dq false false 10 896 (b125 + 10) H p w (fun _ => qac 2 a135) (some true) fun a136 H p w =>
 dq true false 11 1920 (b125 + 11) H p w (fun H => qad H a136) (some true) fun a137 H p w =>
 dq false false 13 0 (b125 + 13) H p w (fun _ => .val x8) (some true) fun a138 H p w =>
 dq false false 14 0 (b125 + 14) H p w (fun _ => .val x9) (some true) fun a139 H p w =>
 dq false false 15 24576 (b125 + 15) H p w (fun _ => idxS 5 a138 a139) (some true) fun a140 H p w =>
 dq false false 16 57344 (b125 + 16) H p w (fun _ => qac 4 a140) (some true) fun a141 H p w =>
 dq true false 17 122880 (b125 + 17) H p w (fun H => qad H a141) (some true) fun a142 H p w =>
 de 4092 H p w (call (.f qms) [a128, a132, a137] (qax 4092 p H)) (some true) fun a143 H p w =>
 de 262143 H p w (call (.f qpg) [a126, a127, a143, a142] (qax 262143 p H)) (some true) fun a144 H p w =>
 dz2 p H fun H =>
 qqj call g122 x12 H
def qqk (call : Ev.Call) (q122e7 : Hp → R1) (x1 x4 x5 x8 x9 x11 : AV) (g122 : AV → Hp → R1) (x12 : AV) (H : Hp) : R1 :=
 vq (lenSl x11) H fun a146 H =>
 vq (intV (qab .lss).f x12 a146) H fun a147 H =>
 cd a147 (
 qqi call g122 x1 x4 x5 x8 x9 x11 x12 H) (
 q122e7 H)
def qgp (call : Ev.Call) (q122e7 : Hp → R1) (x1 x4 x5 x8 x9 x11 : AV) (n : Nat) : AV → Hp → R1 :=
 Nat.rec (motive := fun _ => AV → Hp → R1) (fun _ _ => .bad) (fun _ ih => qqk call q122e7 x1 x4 x5 x8 x9 x11 ih) n
def qql (call : Ev.Call) (q122e7 : Hp → R1) (x1 x4 x5 x8 x9 x11 : AV) : AV → Hp → R1 := qgp call q122e7 x1 x4 x5 x8 x9 x11 qbg
def qqh (call : Ev.Call) (g36 : AV → Hp → R1) (x1 x3 x4 x5 x6 x8 x9 : AV) (H : Hp) : R1 :=
 vq (idxS 5 x8 x9) H fun a39 H =>
 vq (qac 0 a39) H fun a40 H =>
 vq (qad H a40) H fun a41 H =>
 vq (intV (qab .eql).f a41 (.int .u8 (.ofNat 1))) H fun a42 H =>
 cd a42 (
 qw6 call (fun H => qck call g36 x9 H) x1 x4 x5 x6 x8 x9 (.int .i64 (.ofNat 0)) H) (
 vq (intV (qab .eql).f a41 (.int .u8 (.ofNat 2))) H fun a80 H =>
 cd a80 (
 dz 0 H fun b81 H =>
 dq true false 0 0 (b81 + 0) H [] [] (fun H => qas 2 H x4) (some true) fun a82 H p w =>
 dq false false 1 0 (b81 + 1) H p w (fun _ => .val x5) (some true) fun a83 H p w =>
 dq true false 2 0 (b81 + 2) H p w (fun H => qas 1 H x1) (some true) fun a84 H p w =>
 dq false false 3 0 (b81 + 3) H p w (fun _ => .val x3) (some true) fun a85 H p w =>
 dq false false 4 0 (b81 + 4) H p w (fun _ => .val x5) (some true) fun a86 H p w =>
 dq false false 5 24 (b81 + 5) H p w (fun _ => idxS 2 a85 a86) (some true) fun a87 H p w =>
 dq false false 6 56 (b81 + 6) H p w (fun _ => qac 0 a87) (some true) fun a88 H p w =>
 dq true false 7 120 (b81 + 7) H p w (fun H => qad H a88) (some true) fun a89 H p w =>
 dq false false 8 0 (b81 + 8) H p w (fun _ => .val x8) (some true) fun a90 H p w =>
 dq false false 9 0 (b81 + 9) H p w (fun _ => .val x9) (some true) fun a91 H p w =>
 dq false false 10 768 (b81 + 10) H p w (fun _ => idxS 5 a90 a91) (some true) fun a92 H p w =>
 dq false false 11 1792 (b81 + 11) H p w (fun _ => qac 1 a92) (some true) fun a93 H p w =>
 dq true false 12 3840 (b81 + 12) H p w (fun H => qad H a93) (some true) fun a94 H p w =>
 dq false false 14 0 (b81 + 14) H p w (fun _ => .val x8) (some true) fun a95 H p w =>
 dq false false 15 0 (b81 + 15) H p w (fun _ => .val x9) (some true) fun a96 H p w =>
 dq false false 16 49152 (b81 + 16) H p w (fun _ => idxS 5 a95 a96) (some true) fun a97 H p w =>
 dq false false 17 114688 (b81 + 17) H p w (fun _ => qac 4 a97) (some true) fun a98 H p w =>
 dq true false 18 245760 (b81 + 18) H p w (fun H => qad H a98) (some true) fun a99 H p w =>
 de 8188 H p w (call (.f qms) [a84, a89, a94] (qax 8188 p H)) (some true) fun a100 H p w =>
 de 524287 H p w (call (.f qpg) [a82, a83, a100, a99] (qax 524287 p H)) (some true) fun a101 H p w =>
 dz2 p H fun H =>
 qck call g36 x9 H) (
 vq (intV (qab .eql).f a41 (.int .u8 (.ofNat 3))) H fun a102 H =>
 cd a102 (
 dz 0 H fun b103 H =>
 dq true false 0 0 (b103 + 0) H [] [] (fun H => qas 1 H x1) (some true) fun a104 H p w =>
 dq false false 1 0 (b103 + 1) H p w (fun _ => .val x3) (some true) fun a105 H p w =>
 dq false false 2 0 (b103 + 2) H p w (fun _ => .val x5) (some true) fun a106 H p w =>
 dq false false 3 6 (b103 + 3) H p w (fun _ => idxS 2 a105 a106) (some true) fun a107 H p w =>
 dq false false 4 14 (b103 + 4) H p w (fun _ => qac 0 a107) (some true) fun a108 H p w =>
 dq true false 5 30 (b103 + 5) H p w (fun H => qad H a108) (some true) fun a109 H p w =>
 dq false false 6 0 (b103 + 6) H p w (fun _ => .val x8) (some true) fun a110 H p w =>
 dq false false 7 0 (b103 + 7) H p w (fun _ => .val x9) (some true) fun a111 H p w =>
 dq false false 8 192 (b103 + 8) H p w (fun _ => idxS 5 a110 a111) (some true) fun a112 H p w =>
 dq false false 9 448 (b103 + 9) H p w (fun _ => qac 1 a112) (some true) fun a113 H p w =>
 dq true false 10 960 (b103 + 10) H p w (fun H => qad H a113) (some true) fun a114 H p w =>
 dq false false 11 0 (b103 + 11) H p w (fun _ => .val x8) (some true) fun a115 H p w =>
 dq false false 12 0 (b103 + 12) H p w (fun _ => .val x9) (some true) fun a116 H p w =>
 dq false false 13 6144 (b103 + 13) H p w (fun _ => idxS 5 a115 a116) (some true) fun a117 H p w =>
 dq false false 14 14336 (b103 + 14) H p w (fun _ => qac 2 a117) (some true) fun a118 H p w =>
 dq true false 15 30720 (b103 + 15) H p w (fun H => qad H a118) (some true) fun a119 H p w =>
 de 65535 H p w (call (.f q09) [a104, a109, a114, a119] (qax 65535 p H)) (some true) fun a120 H p w =>
 dq false false 17 131071 (b103 + 17) H p w (fun _ => .val a120) (some true) fun a121 H p w =>
 dz2 p H fun H =>
 qql call (fun H => qck call g36 x9 H) x1 x4 x5 x8 x9 a121 (.int .i64 (.ofNat 0)) H) (
 qck call g36 x9 H)))
def qw4 (call : Ev.Call) (q36e2 : Hp → R1) (x1 x3 x4 x5 x6 x8 : AV) (g36 : AV → Hp → R1) (x9 : AV) (H : Hp) : R1 :=
 vq (lenSl x8) H fun a149 H =>
 vq (intV (qab .lss).f x9 a149) H fun a150 H =>
 cd a150 (
 qqh call g36 x1 x3 x4 x5 x6 x8 x9 H) (
 q36e2 H)
def qcj (call : Ev.Call) (q36e2 : Hp → R1) (x1 x3 x4 x5 x6 x8 : AV) (n : Nat) : AV → Hp → R1 :=
 Nat.rec (motive := fun _ => AV → Hp → R1) (fun _ _ => .bad) (fun _ ih => qw4 call q36e2 x1 x3 x4 x5 x6 x8 ih) n
def qw7 (call : Ev.Call) (q36e2 : Hp → R1) (x1 x3 x4 x5 x6 x8 : AV) : AV → Hp → R1 := qcj call q36e2 x1 x3 x4 x5 x6 x8 qbg
def qqg (call : Ev.Call) (g11 : AV → Hp → R1) (x1 x3 x4 x5 : AV) (H : Hp) : R1 :=
 dz 18 H fun b14 H =>
 dq true false 0 0 (b14 + 0) H [] [] (fun H => qas 1 H x1) (some true) fun a15 H p w =>
 dq false false 1 0 (b14 + 1) H p w (fun _ => .val x3) (some true) fun a16 H p w =>
 dq false false 2 0 (b14 + 2) H p w (fun _ => .val x5) (some true) fun a17 H p w =>
 dq false false 3 6 (b14 + 3) H p w (fun _ => idxS 2 a16 a17) (some true) fun a18 H p w =>
 dq false false 4 14 (b14 + 4) H p w (fun _ => qac 0 a18) (some true) fun a19 H p w =>
 dq true false 5 30 (b14 + 5) H p w (fun H => qad H a19) (some true) fun a20 H p w =>
 dq false false 6 0 (b14 + 6) H p w (fun _ => .val x3) (some true) fun a21 H p w =>
 dq false false 7 0 (b14 + 7) H p w (fun _ => .val x5) (some true) fun a22 H p w =>
 dq false false 8 192 (b14 + 8) H p w (fun _ => idxS 2 a21 a22) (some true) fun a23 H p w =>
 dq false false 9 448 (b14 + 9) H p w (fun _ => qac 1 a23) (some true) fun a24 H p w =>
 dq true false 10 960 (b14 + 10) H p w (fun H => qad H a24) (some true) fun a25 H p w =>
 dq false true 15 0 (b14 + 15) H p w (fun _ => .new (.ptr (b14 + 15) 0) (qaa 0 [.str 0 0, .nilsl, .int .u8 (.ofNat 0), .str 0 0, .str 0 0, .nilsl])) (some true) fun a26 H p w =>
 de 2047 H p w (call (.f qph) [a15, a20, a25] (qax 2047 p H)) (some true) fun a27 H p w =>
 dq false false 12 4095 (b14 + 12) H p w (fun _ => .val a27) (some true) fun a28 H p w =>
 dq false false 13 8191 (b14 + 13) H p w (fun _ => extr 0 a28) (some true) fun a29 H p w =>
 dq false false 14 8191 (b14 + 14) H p w (fun _ => extr 1 a28) (some true) fun a30 H p w =>
 de 49151 H p w (qay 6 (qax 49151 p H) a26 a29) (some true) fun _ H p w =>
 dq false false 17 131071 (b14 + 17) H p w (fun _ => .val a30) (some true) fun a32 H p w =>
 dz2 p H fun H =>
 vq (qac 2 a26) H fun a33 H =>
 vq (qas 4 H a33) H fun a34 H =>
 ve (call (.f qmt) [(.nilsl), a34, (.bool false)] H) fun a35 H =>
 qw7 call (fun H => qcl call g11 x5 H) x1 x3 x4 x5 a26 a35 (.int .i64 (.ofNat 0)) H
def qw5 (call : Ev.Call) (q11e0 : Hp → R1) (x1 x3 x4 : AV) (g11 : AV → Hp → R1) (x5 : AV) (H : Hp) : R1 :=
 vq (lenSl x3) H fun a152 H =>
 vq (intV (qab .lss).f x5 a152) H fun a153 H =>
 cd a153 (
 qqg call g11 x1 x3 x4 x5 H) (
 q11e0 H)
def qb1 (call : Ev.Call) (q11e0 : Hp → R1) (x1 x3 x4 : AV) (n : Nat) : AV → Hp → R1 :=
 Nat.rec (motive := fun _ => AV → Hp → R1) (fun _ _ => .bad) (fun _ ih => qw5 call q11e0 x1 x3 x4 ih) n
def qw8 (call : Ev.Call) (q11e0 : Hp → R1) (x1 x3 x4 : AV) : AV → Hp → R1 := qb1 call q11e0 x1 x3 x4 qbg
def zhd (call : Ev.Call) (x0 : AV) (H : Hp) : R1 :=
 vq (boxA 1 H.nx x0) H fun a0 H =>
 vq (.new (.ptr H.nx 0) (qaa 0 [.int .i64 (.ofNat 0), .nilsl])) H fun a1 H =>
 vq (qas 1 H a0) H fun a2 H =>
 ve (call (.f qtt) [a2] H) fun a3 H =>
 vq (lenSl a3) H fun a4 H =>
 ve (call (.f q1a) [a4] H) fun a5 H =>
 vq (.new (.ptr H.nx 0) (qaa 0 [.int .i64 (.ofNat 0), .nilsl])) H fun a6 H =>
 ve (qay 2 H a6 a5) fun _ H =>
 qw8 call (fun H => qbu call a1 a6 H) a0 a3 a6 (.int .i64 (.ofNat 0)) H
def zAc (call : Ev.Call) (x0 : AV) (H : Hp) : R1 := zhd call x0 H
def qbk (call : Ev.Call) (x2 x10 : AV) (H : Hp) : R1 :=
 vq (qac 1 x10) H fun a10 H =>
 vq (qad H a10) H fun a11 H =>
 ve (call (.f q07) [a11] H) fun a12 H =>
 vq (qac 1 x10) H fun a13 H =>
 ve (qbb H a13 a12) fun _ H =>
 vq (qas 2 H x10) H fun a15 H =>
 ve (qay 2 H x2 a15) fun _ H =>
 finR (tupO (qb3 (rV (qas 2 H x2)) (qb3 (some (.int .i64 (.ofNat 0))) (some [])))) H
def qbt (call : Ev.Call) (g21 : AV → Hp → R1) (x63 : AV) (H : Hp) : R1 :=
 vq (intV (qab .add).f x63 (.int .i64 (.ofNat 1))) H fun a23 H =>
 g21 a23 H
def qci (call : Ev.Call) (g32 : AV → Hp → R1) (x70 : AV) (H : Hp) : R1 :=
 vq (intV (qab .add).f x70 (.int .i64 (.ofNat 1))) H fun a34 H =>
 g32 a34 H
def qch (call : Ev.Call) (g46 : AV → Hp → R1) (x82 : AV) (H : Hp) : R1 :=
 vq (intV (qab .add).f x82 (.int .i64 (.ofNat 1))) H fun a48 H =>
 g46 a48 H
def qlo (call : Ev.Call) (g60 : AV → Hp → R1) (x94 : AV) (H : Hp) : R1 :=
 vq (intV (qab .add).f x94 (.int .i64 (.ofNat 1))) H fun a62 H =>
 g60 a62 H
def qwr (call : Ev.Call) (g60 : AV → Hp → R1) (x19 x92 x94 : AV) (H : Hp) : R1 :=
 vq (idxS 2 x92 x94) H fun a64 H =>
 vq (qas 2 H a64) H fun a65 H =>
 vq (.new (.ptr H.nx 0) (qaa 0 [.str 0 0, .str 0 0])) H fun a66 H =>
 ve (qay 2 H a66 a65) fun _ H =>
 vq (qac 1 a66) H fun a68 H =>
 vq (qad H a68) H fun a69 H =>
 vq (strV (qcb .neq).f a69 (.str 0 0)) H fun a70 H =>
 cd a70 (
 vq (qac 0 a66) H fun a71 H =>
 vq (qad H a71) H fun a72 H =>
 vq (qac 1 a66) H fun a73 H =>
 vq (qad H a73) H fun a74 H =>
 ve (qjt call x19 [a72, a74] H) fun a75 H =>
 qlo call g60 x94 H) (
 qlo call g60 x94 H)
def qwt (call : Ev.Call) (q60e11 : Hp → R1) (x19 x92 x93 : AV) (g60 : AV → Hp → R1) (x94 : AV) (H : Hp) : R1 :=
 vq (intV (qab .lss).f x94 x93) H fun a61 H =>
 cd a61 (
 qwr call g60 x19 x92 x94 H) (
 q60e11 H)
def qi9 (call : Ev.Call) (q60e11 : Hp → R1) (x19 x92 x93 : AV) (n : Nat) : AV → Hp → R1 :=
 Nat.rec (motive := fun _ => AV → Hp → R1) (fun _ _ => .bad) (fun _ ih => qwt call q60e11 x19 x92 x93 ih) n
def qwy (call : Ev.Call) (q60e11 : Hp → R1) (x19 x92 x93 : AV) : AV → Hp → R1 := qi9 call q60e11 x19 x92 x93 qbg
def qwq (call : Ev.Call) (g95 : AV → Hp → R1) (x131 : AV) (H : Hp) : R1 :=
 vq (intV (qab .add).f x131 (.int .i64 (.ofNat 1))) H fun a97 H =>
 g95 a97 H
def qqb (call : Ev.Call) (g95 : AV → Hp → R1) (x18 x19 x129 x131 : AV) (H : Hp) : R1 :=
 vq (idxS 1 x129 x131) H fun a99 H =>
 vq (qad H a99) H fun a100 H =>
 vq (qac 2 x18) H fun a101 H =>
 vq (qad H a101) H fun a102 H =>
 ve (qjt call x19 [a100, a102] H) fun a103 H =>
 qwq call g95 x131 H
def qws (call : Ev.Call) (q95e13 : Hp → R1) (x18 x19 x129 x130 : AV) (g95 : AV → Hp → R1) (x131 : AV) (H : Hp) : R1 :=
 vq (intV (qab .lss).f x131 x130) H fun a96 H =>
 cd a96 (
 qqb call g95 x18 x19 x129 x131 H) (
 q95e13 H)
def qi8 (call : Ev.Call) (q95e13 : Hp → R1) (x18 x19 x129 x130 : AV) (n : Nat) : AV → Hp → R1 :=
 Nat.rec (motive := fun _ => AV → Hp → R1) (fun _ _ => .bad) (fun _ ih => qws call q95e13 x18 x19 x129 x130 ih) n
def qwx (call : Ev.Call) (q95e13 : Hp → R1) (x18 x19 x129 x130 : AV) : AV → Hp → R1 := qi8 call q95e13 x18 x19 x129 x130 qbg
def qqa (call : Ev.Call) (g46 : AV → Hp → R1) (x1 x5 x10 x12 x14 x80 x82 : AV) (H : Hp) : R1 :=
 vq (idxS 5 x80 x82) H fun a50 H =>
 vq (qas 5 H a50) H fun a51 H =>
 vq (.new (.ptr H.nx 0) (qaa 0 [.int .u8 (.ofNat 0), .str 0 0, .str 0 0, .nilsl, .bool false])) H fun a52 H =>
 ve (qay 5 H a52 a51) fun _ H =>
 vq (qac 0 a52) H fun a54 H =>
 vq (qad H a54) H fun a55 H =>
 vq (intV (qab .eql).f a55 (.int .u8 (.ofNat 1))) H fun a56 H =>
 cd a56 (
 vq (qac 1 x14) H fun a57 H =>
 vq (qad H a57) H fun a58 H =>
 vq (lenSl a58) H fun a59 H =>
 qwy call (fun H => qch call g46 x82 H) (.fn qmr [] [x10, x5, x12, x14, a52]) a58 a59 (.int .i64 (.ofNat 0)) H) (
 vq (intV (qab .eql).f a55 (.int .u8 (.ofNat 2))) H fun a77 H =>
 cd a77 (
 vq (qac 0 x12) H fun a78 H =>
 vq (qad H a78) H fun a79 H =>
 vq (qac 1 a52) H fun a80 H =>
 vq (qad H a80) H fun a81 H =>
 ve (qjt call (.fn qmr [] [x10, x5, x12, x14, a52]) [a79, a81] H) fun a82 H =>
 qch call g46 x82 H) (
 vq (intV (qab .eql).f a55 (.int .u8 (.ofNat 3))) H fun a83 H =>
 cd a83 (
 vq (qas 1 H x1) H fun a84 H =>
 vq (qac 0 x12) H fun a85 H =>
 vq (qad H a85) H fun a86 H =>
 vq (qac 1 a52) H fun a87 H =>
 vq (qad H a87) H fun a88 H =>
 vq (qac 2 a52) H fun a89 H =>
 vq (qad H a89) H fun a90 H =>
 ve (call (.f q08) [a84, a86, a88, a90] H) fun a91 H =>
 vq (extr 0 a91) H fun a92 H =>
 vq (extr 1 a91) H fun a93 H =>
 vq (lenSl a92) H fun a94 H =>
 qwx call (fun H => qch call g46 x82 H) a52 (.fn qmr [] [x10, x5, x12, x14, a52]) a92 a94 (.int .i64 (.ofNat 0)) H) (
 qch call g46 x82 H)))
def qwu (call : Ev.Call) (q46e8 : Hp → R1) (x1 x5 x10 x12 x14 x80 x81 : AV) (g46 : AV → Hp → R1) (x82 : AV) (H : Hp) : R1 :=
 vq (intV (qab .lss).f x82 x81) H fun a47 H =>
 cd a47 (
 qqa call g46 x1 x5 x10 x12 x14 x80 x82 H) (
 q46e8 H)
def qcg (call : Ev.Call) (q46e8 : Hp → R1) (x1 x5 x10 x12 x14 x80 x81 : AV) (n : Nat) : AV → Hp → R1 :=
 Nat.rec (motive := fun _ => AV → Hp → R1) (fun _ _ => .bad) (fun _ ih => qwu call q46e8 x1 x5 x10 x12 x14 x80 x81 ih) n
def qwz (call : Ev.Call) (q46e8 : Hp → R1) (x1 x5 x10 x12 x14 x80 x81 : AV) : AV → Hp → R1 := qcg call q46e8 x1 x5 x10 x12 x14 x80 x81 qbg
def qp9 (call : Ev.Call) (g32 : AV → Hp → R1) (x1 x5 x10 x12 x68 x70 : AV) (H : Hp) : R1 :=
 vq (idxS 6 x68 x70) H fun a36 H =>
 vq (qas 6 H a36) H fun a37 H =>
 vq (.new (.ptr H.nx 0) (qaa 0 [.str 0 0, .nilsl, .int .u8 (.ofNat 0), .str 0 0, .str 0 0, .nilsl])) H fun a38 H =>
 ve (qay 6 H a38 a37) fun _ H =>
 vq (qac 2 a38) H fun a40 H =>
 vq (qas 4 H a40) H fun a41 H =>
 ve (call (.f qpf) [a41] H) fun a42 H =>
 vq (extr 0 a42) H fun a43 H =>
 vq (extr 1 a42) H fun a44 H =>
 vq (lenSl a43) H fun a45 H =>
 qwz call (fun H => qci call g32 x70 H) x1 x5 x10 x12 a38 a43 a45 (.int .i64 (.ofNat 0)) H
def qwv (call : Ev.Call) (q32e6 : Hp → R1) (x1 x5 x10 x12 x68 x69 : AV) (g32 : AV → Hp → R1) (x70 : AV) (H : Hp) : R1 :=
 vq (intV (qab .lss).f x70 x69) H fun a33 H =>
 cd a33 (
 qp9 call g32 x1 x5 x10 x12 x68 x70 H) (
 q32e6 H)
def qb0 (call : Ev.Call) (q32e6 : Hp → R1) (x1 x5 x10 x12 x68 x69 : AV) (n : Nat) : AV → Hp → R1 :=
 Nat.rec (motive := fun _ => AV → Hp → R1) (fun _ _ => .bad) (fun _ ih => qwv call q32e6 x1 x5 x10 x12 x68 x69 ih) n
def qw0 (call : Ev.Call) (q32e6 : Hp → R1) (x1 x5 x10 x12 x68 x69 : AV) : AV → Hp → R1 := qb0 call q32e6 x1 x5 x10 x12 x68 x69 qbg
def qp8 (call : Ev.Call) (g21 : AV → Hp → R1) (x1 x5 x10 x61 x63 : AV) (H : Hp) : R1 :=
 vq (idxS 2 x61 x63) H fun a25 H =>
 vq (qas 2 H a25) H fun a26 H =>
 vq (.new (.ptr H.nx 0) (qaa 0 [.str 0 0, .nilsl])) H fun a27 H =>
 ve (qay 2 H a27 a26) fun _ H =>
 vq (qac 1 a27) H fun a29 H =>
 vq (qad H a29) H fun a30 H =>
 vq (lenSl a30) H fun a31 H =>
 qw0 call (fun H => qbt call g21 x63 H) x1 x5 x10 a27 a30 a31 (.int .i64 (.ofNat 0)) H
def qww (call : Ev.Call) (q21e4 : Hp → R1) (x1 x5 x10 x61 x62 : AV) (g21 : AV → Hp → R1) (x63 : AV) (H : Hp) : R1 :=
 vq (intV (qab .lss).f x63 x62) H fun a22 H =>
 cd a22 (
 qp8 call g21 x1 x5 x10 x61 x63 H) (
 q21e4 H)
def qbo (call : Ev.Call) (q21e4 : Hp → R1) (x1 x5 x10 x61 x62 : AV) (n : Nat) : AV → Hp → R1 :=
 Nat.rec (motive := fun _ => AV → Hp → R1) (fun _ _ => .bad) (fun _ ih => qww call q21e4 x1 x5 x10 x61 x62 ih) n
def qw1 (call : Ev.Call) (q21e4 : Hp → R1) (x1 x5 x10 x61 x62 : AV) : AV → Hp → R1 := qbo call q21e4 x1 x5 x10 x61 x62 qbg
def qcr (call : Ev.Call) (x1 x2 x5 : AV) (H : Hp) : R1 :=
 vq (qad H x5) H fun a5 H =>
 vq (lenM H a5) H fun a6 H =>
 vq (aggN (qaj [.int .i64 (.ofNat 0), .nilsl] [(0, 1, a6)])) H fun a7 H =>
 vq (.new (.ptr H.nx 0) (qaa 0 [.int .i64 (.ofNat 0), .nilsl])) H fun a8 H =>
 ve (qay 2 H a8 a7) fun _ H =>
 vq (qac 0 x1) H fun a18 H =>
 vq (qad H a18) H fun a19 H =>
 vq (lenSl a19) H fun a20 H =>
 qw1 call (fun H => qbk call x2 a8 H) x1 x5 a8 a19 a20 (.int .i64 (.ofNat 0)) H
def qe2 (call : Ev.Call) (g112 : AV → Hp → R1) (x36 : AV) (H : Hp) : R1 :=
 vq (intV (qab .add).f x36 (.int .i64 (.ofNat 1))) H fun a114 H =>
 g112 a114 H
def qp7 (call : Ev.Call) (g123 : AV → Hp → R1) (x43 : AV) (H : Hp) : R1 :=
 vq (intV (qab .add).f x43 (.int .i64 (.ofNat 1))) H fun a125 H =>
 g123 a125 H
def qp6 (call : Ev.Call) (g123 : AV → Hp → R1) (x5 x7 x41 x43 : AV) (H : Hp) : R1 :=
 vq (idxS 6 x41 x43) H fun a127 H =>
 vq (qas 6 H a127) H fun a128 H =>
 vq (.new (.ptr H.nx 0) (qaa 0 [.str 0 0, .nilsl, .int .u8 (.ofNat 0), .str 0 0, .str 0 0, .nilsl])) H fun a129 H =>
 ve (qay 6 H a129 a128) fun _ H =>
 vq (qad H x5) H fun a131 H =>
 vq (qac 0 x7) H fun a132 H =>
 vq (qad H a132) H fun a133 H =>
 vq (qac 0 a129) H fun a134 H =>
 vq (qad H a134) H fun a135 H =>
 vq (aggN (qaj [.str 0 0, .str 0 0] [(0, 1, a133), (1, 1, a135)])) H fun a136 H =>
 vq (qad H x5) H fun a137 H =>
 vq (lenM H a137) H fun a138 H =>
 ve (updV ⟨(⟨qcd fun xs ys => qcn p1 ⟨qbj⟩ 1 xs ys 2 0⟩ : E2).f, some 2⟩ H a131 a136 a138) fun _ H =>
 qp7 call g123 x43 H
def qqc (call : Ev.Call) (q123e2 : Hp → R1) (x5 x7 x41 x42 : AV) (g123 : AV → Hp → R1) (x43 : AV) (H : Hp) : R1 :=
 vq (intV (qab .lss).f x43 x42) H fun a124 H =>
 cd a124 (
 qp6 call g123 x5 x7 x41 x43 H) (
 q123e2 H)
def qgo (call : Ev.Call) (q123e2 : Hp → R1) (x5 x7 x41 x42 : AV) (n : Nat) : AV → Hp → R1 :=
 Nat.rec (motive := fun _ => AV → Hp → R1) (fun _ _ => .bad) (fun _ ih => qqc call q123e2 x5 x7 x41 x42 ih) n
def qqe (call : Ev.Call) (q123e2 : Hp → R1) (x5 x7 x41 x42 : AV) : AV → Hp → R1 := qgo call q123e2 x5 x7 x41 x42 qbg
def qp5 (call : Ev.Call) (g112 : AV → Hp → R1) (x5 x34 x36 : AV) (H : Hp) : R1 :=
 vq (idxS 2 x34 x36) H fun a116 H =>
 vq (qas 2 H a116) H fun a117 H =>
 vq (.new (.ptr H.nx 0) (qaa 0 [.str 0 0, .nilsl])) H fun a118 H =>
 ve (qay 2 H a118 a117) fun _ H =>
 vq (qac 1 a118) H fun a120 H =>
 vq (qad H a120) H fun a121 H =>
 vq (lenSl a121) H fun a122 H =>
 qqe call (fun H => qe2 call g112 x36 H) x5 a118 a121 a122 (.int .i64 (.ofNat 0)) H
def qqd (call : Ev.Call) (q112e0 : Hp → R1) (x5 x34 x35 : AV) (g112 : AV → Hp → R1) (x36 : AV) (H : Hp) : R1 :=
 vq (intV (qab .lss).f x36 x35) H fun a113 H =>
 cd a113 (
 qp5 call g112 x5 x34 x36 H) (
 q112e0 H)
def qcy (call : Ev.Call) (q112e0 : Hp → R1) (x5 x34 x35 : AV) (n : Nat) : AV → Hp → R1 :=
 Nat.rec (motive := fun _ => AV → Hp → R1) (fun _ _ => .bad) (fun _ ih => qqd call q112e0 x5 x34 x35 ih) n
def qqf (call : Ev.Call) (q112e0 : Hp → R1) (x5 x34 x35 : AV) : AV → Hp → R1 := qcy call q112e0 x5 x34 x35 qbg
def qp4 (call : Ev.Call) (x1 x2 : AV) (H : Hp) : R1 :=
 vq (.new (.map H.nx) (.map [] 0)) H fun a2 H =>
 vq (.new (.ptr H.nx 0) (qaa 0 [.nilmap])) H fun a3 H =>
 ve (qbb H a3 a2) fun _ H =>
 vq (qac 0 x1) H fun a109 H =>
 vq (qad H a109) H fun a110 H =>
 vq (lenSl a110) H fun a111 H =>
 qqf call (fun H => qcr call x1 x2 a3 H) a3 a110 a111 (.int .i64 (.ofNat 0)) H
def zhc (call : Ev.Call) (x0 : AV) (H : Hp) : R1 :=
 vq (boxA 1 H.nx x0) H fun a0 H =>
 vq (.new (.ptr H.nx 0) (qaa 0 [.int .i64 (.ofNat 0), .nilsl])) H fun a1 H =>
 vq (qas 1 H a0) H fun a143 H =>
 ve (call (.f qts) [a143] H) fun a144 H =>
 vq (intV (qab .neq).f a144 (.int .i64 (.ofNat 0))) H fun a145 H =>
 cd a145 (
 vq (aggN (qaj [.int .i64 (.ofNat 0), .nilsl] [])) H fun a146 H =>
 ve (qay 2 H a1 a146) fun _ H =>
 finR (tupO (qb3 (rV (qas 2 H a1)) (qb3 (some a144) (some [])))) H) (
 qp4 call a0 a1 H)
def zAd (call : Ev.Call) (x0 : AV) (H : Hp) : R1 := zhc call x0 H
def qfy (call : Ev.Call) (x3 : AV) (H : Hp) : R1 :=
 .ok x3 H
def qj4 (call : Ev.Call) (g2 : AV → AV → Hp → R1) (x3 x4 : AV) (H : Hp) : R1 :=
 vq (intV (qab .add).f x4 (.int .i64 (.ofNat 1))) H fun a3 H =>
 g2 x3 a3 H
def qr6 (call : Ev.Call) (g5 : AV → AV → Hp → R1) (x3 x5 : AV) (H : Hp) : R1 :=
 vq (intV (qab .add).f x5 (.int .i64 (.ofNat 1))) H fun a6 H =>
 g5 x3 a6 H
def qln (call : Ev.Call) (g5 : AV → AV → Hp → R1) (x1 x3 x4 x5 : AV) (H : Hp) : R1 :=
 vq (qac 1 x1) H fun a8 H =>
 vq (qad H a8) H fun a9 H =>
 vq (qac 0 x1) H fun a10 H =>
 vq (qad H a10) H fun a11 H =>
 vq (intV (qab .mul).f x4 a11) H fun a12 H =>
 vq (intV (qab .add).f a12 x5) H fun a13 H =>
 vq (idxS 1 a9 a13) H fun a14 H =>
 vq (qad H a14) H fun a15 H =>
 vq (intV (qab .gtr).f a15 (.int .i64 (.ofNat 1))) H fun a16 H =>
 cd a16 (
 vq (aggN (qaj [.int .i64 (.ofNat 0), .int .i64 (.ofNat 0), .int .i64 (.ofNat 0)] [(0, 1, x4), (1, 1, x5), (2, 1, (.int .i64 (.ofNat 1)))])) H fun a17 H =>
 vq (qco 1 H.nx (qaj (reps [.int .i64 (.ofNat 0), .int .i64 (.ofNat 0), .int .i64 (.ofNat 0)] 1) [(0, 3, a17)])) H fun a18 H =>
 ve (qa2 3 24 H x3 (qbp 3 H a18)) fun a19 H =>
 qr6 call g5 a19 x5 H) (
 qr6 call g5 x3 x5 H)
def qwp (call : Ev.Call) (g5 : AV → AV → Hp → R1) (x1 x3 x4 x5 : AV) (H : Hp) : R1 :=
 vq (qac 1 x1) H fun a21 H =>
 vq (qad H a21) H fun a22 H =>
 vq (qac 0 x1) H fun a23 H =>
 vq (qad H a23) H fun a24 H =>
 vq (intV (qab .mul).f x4 a24) H fun a25 H =>
 vq (intV (qab .add).f a25 x5) H fun a26 H =>
 vq (idxS 1 a22 a26) H fun a27 H =>
 vq (qad H a27) H fun a28 H =>
 vq (intV (qab .rem).f a28 (.int .i64 (.ofNat 2))) H fun a29 H =>
 vq (intV (qab .eql).f a29 (.int .i64 (.ofNat 1))) H fun a30 H =>
 cd a30 (
 vq (aggN (qaj [.int .i64 (.ofNat 0), .int .i64 (.ofNat 0), .int .i64 (.ofNat 0)] [(0, 1, x4), (1, 1, x5), (2, 1, (.int .i64 (.ofNat 0)))])) H fun a31 H =>
 vq (qco 1 H.nx (qaj (reps [.int .i64 (.ofNat 0), .int .i64 (.ofNat 0), .int .i64 (.ofNat 0)] 1) [(0, 3, a31)])) H fun a32 H =>
 ve (qa2 3 24 H x3 (qbp 3 H a32)) fun a33 H =>
 qln call g5 x1 a33 x4 x5 H) (
 qln call g5 x1 x3 x4 x5 H)
def q6b (call : Ev.Call) (q5e2 : AV → Hp → R1) (x1 x4 : AV) (g5 : AV → AV → Hp → R1) (x3 x5 : AV) (H : Hp) : R1 :=
 vq (qac 0 x1) H fun a35 H =>
 vq (qad H a35) H fun a36 H =>
 vq (intV (qab .lss).f x5 a36) H fun a37 H =>
 cd a37 (
 qwp call g5 x1 x3 x4 x5 H) (
 q5e2 x3 H)
def qj3 (call : Ev.Call) (q5e2 : AV → Hp → R1) (x1 x4 : AV) (n : Nat) : AV → AV → Hp → R1 :=
 Nat.rec (motive := fun _ => AV → AV → Hp → R1) (fun _ _ _ => .bad) (fun _ ih => q6b call q5e2 x1 x4 ih) n
def q6d (call : Ev.Call) (q5e2 : AV → Hp → R1) (x1 x4 : AV) : AV → AV → Hp → R1 := qj3 call q5e2 x1 x4 qbg
def qwo (call : Ev.Call) (g2 : AV → AV → Hp → R1) (x1 x3 x4 : AV) (H : Hp) : R1 :=
 q6d call (fun x3 H => qj4 call g2 x3 x4 H) x1 x4 x3 (.int .i64 (.ofNat 0)) H
def q6c (call : Ev.Call) (q2e0 : AV → Hp → R1) (x1 : AV) (g2 : AV → AV → Hp → R1) (x3 x4 : AV) (H : Hp) : R1 :=
 vq (qac 0 x1) H fun a39 H =>
 vq (qad H a39) H fun a40 H =>
 vq (intV (qab .lss).f x4 a40) H fun a41 H =>
 cd a41 (
 qwo call g2 x1 x3 x4 H) (
 q2e0 x3 H)
def qf8 (call : Ev.Call) (q2e0 : AV → Hp → R1) (x1 : AV) (n : Nat) : AV → AV → Hp → R1 :=
 Nat.rec (motive := fun _ => AV → AV → Hp → R1) (fun _ _ _ => .bad) (fun _ ih => q6c call q2e0 x1 ih) n
def q6e (call : Ev.Call) (q2e0 : AV → Hp → R1) (x1 : AV) : AV → AV → Hp → R1 := qf8 call q2e0 x1 qbg
def zhb (call : Ev.Call) (x0 : AV) (H : Hp) : R1 :=
 vq (boxA 2 H.nx x0) H fun a0 H =>
 q6e call (fun x3 H => qfy call x3 H) a0 (.nilsl) (.int .i64 (.ofNat 0)) H
def zAe (call : Ev.Call) (x0 : AV) (H : Hp) : R1 := zhb call x0 H
def qj2 (call : Ev.Call) (H : Hp) : R1 :=
 .ok (.bool true) H
def q58 (call : Ev.Call) (g1 : AV → Hp → R1) (x5 : AV) (H : Hp) : R1 :=
 vq (intV (qab .add).f x5 (.int .i64 (.ofNat 1))) H fun a2 H =>
 g1 a2 H
def qwn (call : Ev.Call) (q1r : AV → Hp → R1) (g1 : AV → Hp → R1) (x0 x1 x5 : AV) (H : Hp) : R1 :=
 vl (idxS 3 x0 x5) fun a4 =>
 vl (qac 0 a4) fun a5 =>
 vl (qad H a5) fun a6 =>
 vl (idxS 3 x1 x5) fun a7 =>
 vl (idxA 3 1 a7 (.int .i64 (.ofNat 0))) fun a8 =>
 vl (qad H a8) fun a9 =>
 vl (intV (qab .neq).f a6 a9) fun a10 =>
 vlg (qae false a10) (.val x0) fun a11 =>
 vlg (qae false a10) (.val x5) fun a12 =>
 vlg (qae false a10) (idxS 3 a11 a12) fun a13 =>
 vlg (qae false a10) (qac 1 a13) fun a14 =>
 vlg (qae false a10) (qad H a14) fun a15 =>
 vlg (qae false a10) (.val x1) fun a16 =>
 vlg (qae false a10) (.val x5) fun a17 =>
 vlg (qae false a10) (idxS 3 a16 a17) fun a18 =>
 vlg (qae false a10) (idxA 3 1 a18 (.int .i64 (.ofNat 1))) fun a19 =>
 vlg (qae false a10) (qad H a19) fun a20 =>
 vlg (qae false a10) (intV (qab .neq).f a15 a20) fun a21 =>
 vl (qbf a10 (.bool true) a21) fun a22 =>
 vlg (qae false a22) (.val x0) fun a23 =>
 vlg (qae false a22) (.val x5) fun a24 =>
 vlg (qae false a22) (idxS 3 a23 a24) fun a25 =>
 vlg (qae false a22) (qac 2 a25) fun a26 =>
 vlg (qae false a22) (qad H a26) fun a27 =>
 vlg (qae false a22) (.val x1) fun a28 =>
 vlg (qae false a22) (.val x5) fun a29 =>
 vlg (qae false a22) (idxS 3 a28 a29) fun a30 =>
 vlg (qae false a22) (idxA 3 1 a30 (.int .i64 (.ofNat 2))) fun a31 =>
 vlg (qae false a22) (qad H a31) fun a32 =>
 vlg (qae false a22) (intV (qab .eql).f a32 (.int .i64 (.ofNat 1))) fun a33 =>
 vlg (qae false a22) (qdy true ((⟨E2.f ⟨qet⟩⟩ : E2).f a27 a33)) fun a34 =>
 vl (qbf a22 (.bool true) a34) fun a35 =>
 cd a35 (
 q1r (.bool false) H) (
 q58 call g1 x5 H)
def q59 (call : Ev.Call) (q1r : AV → Hp → R1) (q1e0 : Hp → R1) (x0 x1 : AV) (g1 : AV → Hp → R1) (x5 : AV) (H : Hp) : R1 :=
 vq (lenSl x1) H fun a37 H =>
 vq (intV (qab .lss).f x5 a37) H fun a38 H =>
 cd a38 (
 qwn call q1r g1 x0 x1 x5 H) (
 q1e0 H)
def qn1 (call : Ev.Call) (q1r : AV → Hp → R1) (q1e0 : Hp → R1) (x0 x1 : AV) (n : Nat) : AV → Hp → R1 :=
 Nat.rec (motive := fun _ => AV → Hp → R1) (fun _ _ => .bad) (fun _ ih => q59 call q1r q1e0 x0 x1 ih) n
def q6a (call : Ev.Call) (q1r : AV → Hp → R1) (q1e0 : Hp → R1) (x0 x1 : AV) : AV → Hp → R1 := qn1 call q1r q1e0 x0 x1 qbg
def qwm (call : Ev.Call) (x0 x1 : AV) (H : Hp) : R1 :=
 q6a call (fun x4 H => .ok x4 H) (fun H => qj2 call H) x0 x1 (.int .i64 (.ofNat 0)) H
def zha (call : Ev.Call) (x0 x1 : AV) (H : Hp) : R1 :=
 vq (lenSl x0) H fun a40 H =>
 vq (lenSl x1) H fun a41 H =>
 vq (intV (qab .neq).f a40 a41) H fun a42 H =>
 vg (qae false a42) (.val x0) H fun a43 H =>
 vg (qae false a42) (capV a43) H fun a44 H =>
 vg (qae false a42) (.val x0) H fun a45 H =>
 vg (qae false a42) (lenSl a45) H fun a46 H =>
 vg (qae false a42) (intV (qab .neq).f a44 a46) H fun a47 H =>
 vq (qbf a42 (.bool true) a47) H fun a48 H =>
 cd a48 (
 .ok (.bool false) H) (
 qwm call x0 x1 H)
def zAf (call : Ev.Call) (x0 x1 : AV) (H : Hp) : R1 := zha call x0 x1 H
def qlm (call : Ev.Call) (H : Hp) : R1 :=
 .ok (.int .i64 (.ofNat 0)) H
def qy9 (call : Ev.Call) (g5 : AV → Hp → R1) (x16 : AV) (H : Hp) : R1 :=
 vq (intV (qab .add).f x16 (.int .i64 (.ofNat 1))) H fun a7 H =>
 g5 a7 H
def zg8 (call : Ev.Call) (q5r : AV → Hp → R1) (g5 : AV → Hp → R1) (x1 x3 x4 x16 : AV) (H : Hp) : R1 :=
 vq (qac 0 x4) H fun a13 H =>
 vq (qad H a13) H fun a14 H =>
 vq (qac 1 x4) H fun a15 H =>
 vq (qad H a15) H fun a16 H =>
 vq (qer minV a14 [a16]) H fun a17 H =>
 vq (intV (qab .lss).f a17 (.int .i64 (.ofNat 0))) H fun a18 H =>
 vg (qae false a18) (qac 0 x4) H fun a19 H =>
 vg (qae false a18) (qad H a19) H fun a20 H =>
 vg (qae false a18) (qac 1 x4) H fun a21 H =>
 vg (qae false a18) (qad H a21) H fun a22 H =>
 vg (qae false a18) (qer maxV a20 [a22]) H fun a23 H =>
 vg (qae false a18) (qac 0 x1) H fun a24 H =>
 vg (qae false a18) (qad H a24) H fun a25 H =>
 vg (qae false a18) (intV (qab .geq).f a23 a25) H fun a26 H =>
 vq (qbf a18 (.bool true) a26) H fun a27 H =>
 cd a27 (
 q5r (.int .i64 (.ofNat 4)) H) (
 dz 0 H fun b28 H =>
 dq false false 0 0 (b28 + 0) H [] [] (fun _ => .val x3) (some true) fun a29 H p w =>
 dq false false 1 1 (b28 + 1) H p w (fun _ => intV (qab .gtr).f a29 (.int .i64 (.ofNat 0))) (some true) fun a30 H p w =>
 dq false false 2 3 (b28 + 2) H p w (fun _ => .val a30) (some true) fun a31 H p w =>
 dq false false 3 7 (b28 + 3) H p w (fun _ => qac 1 x1) (qae true a31) fun a32 H p w =>
 dq true false 4 15 (b28 + 4) H p w (fun H => qad H a32) (qae true a31) fun a33 H p w =>
 dq false false 5 7 (b28 + 5) H p w (fun _ => .val x3) (qae true a31) fun a34 H p w =>
 dq false false 6 39 (b28 + 6) H p w (fun _ => intV (qab .sub).f a34 (.int .i64 (.ofNat 1))) (qae true a31) fun a35 H p w =>
 dq false false 7 127 (b28 + 7) H p w (fun _ => idxS 3 a33 a35) (qae true a31) fun a36 H p w =>
 dq true false 8 255 (b28 + 8) H p w (fun H => qas 3 H a36) (qae true a31) fun a37 H p w =>
 dq true false 9 7 (b28 + 9) H p w (fun H => qas 3 H x4) (qae true a31) fun a38 H p w =>
 de 1023 H p w (call (.f qmq) [a37, a38] (qax 1023 p H)) (qae true a31) fun a39 H p w =>
 dq false false 11 2047 (b28 + 11) H p w (fun _ => intV (qab .geq).f a39 (.int .i64 (.ofNat 0))) (qae true a31) fun a40 H p w =>
 dq false false 12 4095 (b28 + 12) H p w (fun _ => qbf a31 a40 (.bool false)) (some true) fun a41 H p w =>
 dq false false 13 8191 (b28 + 13) H p w (fun _ => .val a41) (some true) fun a42 H p w =>
 dz2 p H fun H =>
 cd a42 (
 q5r (.int .i64 (.ofNat 18)) H) (
 qy9 call g5 x16 H))
def qwl (call : Ev.Call) (q5r : AV → Hp → R1) (g5 : AV → Hp → R1) (x1 x14 x16 : AV) (H : Hp) : R1 :=
 vq (idxS 3 x14 x16) H fun a9 H =>
 vq (qas 3 H a9) H fun a10 H =>
 vq (.new (.ptr H.nx 0) (qaa 0 [.int .i64 (.ofNat 0), .int .i64 (.ofNat 0), .bool false])) H fun a11 H =>
 ve (qay 3 H a11 a10) fun _ H =>
 zg8 call q5r g5 x1 x16 a11 x16 H
def q56 (call : Ev.Call) (q5r : AV → Hp → R1) (q5e0 : Hp → R1) (x1 x14 x15 : AV) (g5 : AV → Hp → R1) (x16 : AV) (H : Hp) : R1 :=
 vq (intV (qab .lss).f x16 x15) H fun a6 H =>
 cd a6 (
 qwl call q5r g5 x1 x14 x16 H) (
 q5e0 H)
def qll (call : Ev.Call) (q5r : AV → Hp → R1) (q5e0 : Hp → R1) (x1 x14 x15 : AV) (n : Nat) : AV → Hp → R1 :=
 Nat.rec (motive := fun _ => AV → Hp → R1) (fun _ _ => .bad) (fun _ ih => q56 call q5r q5e0 x1 x14 x15 ih) n
def q57 (call : Ev.Call) (q5r : AV → Hp → R1) (q5e0 : Hp → R1) (x1 x14 x15 : AV) : AV → Hp → R1 := qll call q5r q5e0 x1 x14 x15 qbg
def qwk (call : Ev.Call) (x1 : AV) (H : Hp) : R1 :=
 vq (qac 1 x1) H fun a2 H =>
 vq (qad H a2) H fun a3 H =>
 vq (lenSl a3) H fun a4 H =>
 q57 call (fun x2 H => .ok x2 H) (fun H => qlm call H) x1 a3 a4 (.int .i64 (.ofNat 0)) H
def zg9 (call : Ev.Call) (x0 : AV) (H : Hp) : R1 :=
 vq (boxA 2 H.nx x0) H fun a0 H =>
 vq (qac 0 a0) H fun a45 H =>
 vq (qad H a45) H fun a46 H =>
 vq (intV (qab .lss).f a46 (.int .i64 (.ofNat 0))) H fun a47 H =>
 vg (qae false a47) (qac 0 a0) H fun a48 H =>
 vg (qae false a47) (qad H a48) H fun a49 H =>
 vg (qae false a47) (intV (qab .gtr).f a49 (.int .i64 (.ofNat 256))) H fun a50 H =>
 vq (qbf a47 (.bool true) a50) H fun a51 H =>
 cd a51 (
 .ok (.int .i64 (.ofNat 3)) H) (
 qwk call a0 H)
def zAg (call : Ev.Call) (x0 : AV) (H : Hp) : R1 := zg9 call x0 H
def zg7 (call : Ev.Call) (x0 : AV) (H : Hp) : R1 :=
 vq (boxA 1 H.nx x0) H fun a0 H =>
 vq (qac 0 a0) H fun a1 H =>
 vq (qad H a1) H fun a2 H =>
 vq (lenSl a2) H fun a3 H =>
 vq (qer minV a3 [(.int .i64 (.ofNat 12))]) H fun a4 H =>
 .ok a4 H
def zAi (call : Ev.Call) (x0 : AV) (H : Hp) : R1 := zg7 call x0 H
def zg6 (call : Ev.Call) (x0 : AV) (H : Hp) : R1 :=
 vq (qco 3 H.nx (qaj (reps [.str 0 0] 3) [(0, 1, (.str 1 97)), (1, 1, (.str 1 98)), (2, 1, (.str 1 99))])) H fun a0 H =>
 vq (intV (qab .rem).f x0 (.int .i64 (.ofNat 3))) H fun a1 H =>
 vq (idxS 1 a0 a1) H fun a2 H =>
 vq (qad H a2) H fun a3 H =>
 .ok a3 H
def zAj (call : Ev.Call) (x0 : AV) (H : Hp) : R1 := zg6 call x0 H
def qhp (call : Ev.Call) (x1 x2 x3 x4 x5 x10 x13 : AV) (H : Hp) : R1 :=
 vq (qas 1 H x5) H fun a9 H =>
 vq (intV (qab .add).f x3 (.int .i64 (.ofNat 1))) H fun a10 H =>
 ve (call (.f qpi) [a9, x1, x2, a10, x4] H) fun a11 H =>
 vq (extr 0 a11) H fun a12 H =>
 vq (extr 1 a11) H fun a13 H =>
 vq (.new (.ptr H.nx 0) (qaa 0 [.int .u8 (.ofNat 0), .str 0 0, .str 0 0, .nilsl])) H fun a14 H =>
 ve (qay 4 H a14 a12) fun _ H =>
 vq (qas 1 H x5) H fun a16 H =>
 vq (intV (qab .add).f x3 (.int .i64 (.ofNat 1))) H fun a17 H =>
 vg (qae false x4) (.val x13) H fun a18 H =>
 vg (qae false x4) (intV (qab .eql).f a18 (.int .u8 (.ofNat 6))) H fun a19 H =>
 vq (qbf x4 (.bool true) a19) H fun a20 H =>
 ve (call (.f qpi) [a16, x1, a13, a17, a20] H) fun a21 H =>
 vq (extr 0 a21) H fun a22 H =>
 vq (extr 1 a21) H fun a23 H =>
 vq (.new (.ptr H.nx 0) (qaa 0 [.int .u8 (.ofNat 0), .str 0 0, .str 0 0, .nilsl])) H fun a24 H =>
 ve (qay 4 H a24 a22) fun _ H =>
 vq (qas 4 H a14) H fun a26 H =>
 vq (qas 4 H a24) H fun a27 H =>
 vq (qco 2 H.nx (qaj (reps [.int .u8 (.ofNat 0), .str 0 0, .str 0 0, .nilsl] 2) [(0, 4, a26), (4, 4, a27)])) H fun a28 H =>
 vq (aggN (qaj [.int .u8 (.ofNat 0), .str 0 0, .str 0 0, .nilsl] [(0, 1, x13), (3, 1, a28)])) H fun a29 H =>
 ve (qay 4 H x10 a29) fun _ H =>
 finR (tupO (qb3 (rV (qas 4 H x10)) (qb3 (some a23) (some [])))) H
def qea (call : Ev.Call) (x1 x2 x3 x4 x5 x10 x12 x13 x46 x53 : AV) (H : Hp) : R1 :=
 cd x53 (
 vq (qas 1 H x5) H fun a35 H =>
 vq (intV (qab .quo).f x12 (.int .u8 (.ofNat 8))) H fun a36 H =>
 ve (call (.f q06) [a35, x1, a36, x4] H) fun a37 H =>
 ve (qay 4 H x10 a37) fun _ H =>
 finR (tupO (qb3 (rV (qas 4 H x10)) (qb3 (some x2) (some [])))) H) (
 vq (intV (qab .eql).f x46 (.int .u8 (.ofNat 4))) H fun a39 H =>
 cd a39 (
 vq (qas 1 H x5) H fun a40 H =>
 vq (intV (qab .quo).f x12 (.int .u8 (.ofNat 8))) H fun a41 H =>
 ve (call (.f q05) [a40, x1, a41, x4] H) fun a42 H =>
 ve (qay 4 H x10 a42) fun _ H =>
 finR (tupO (qb3 (rV (qas 4 H x10)) (qb3 (some x2) (some [])))) H) (
 vq (intV (qab .eql).f x46 (.int .u8 (.ofNat 6))) H fun a44 H =>
 cd a44 (
 qhp call x1 x2 x3 x4 x5 x10 (.int .u8 (.ofNat 5)) H) (
 vq (intV (qab .eql).f x46 (.int .u8 (.ofNat 7))) H fun a45 H =>
 cd a45 (
 ve (call (.f qha) [x1] H) fun a46 H =>
 vq (intV (qab .gtr).f a46 (.int .i64 (.ofNat 0))) H fun a47 H =>
 cd a47 (
 qhp call x1 x2 x3 x4 x5 x10 (.int .u8 (.ofNat 6)) H) (
 qhp call x1 x2 x3 x4 x5 x10 x13 H)) (
 qhp call x1 x2 x3 x4 x5 x10 x13 H))))
def qdd (call : Ev.Call) (x1 x2 x3 x4 x5 x10 x12 x13 x46 x47 : AV) (H : Hp) : R1 :=
 cd x47 (
 ve (call (.f qpe) [x4] H) fun a33 H =>
 ve (qay 4 H x10 a33) fun _ H =>
 finR (tupO (qb3 (rV (qas 4 H x10)) (qb3 (some x2) (some [])))) H) (
 vq (intV (qab .eql).f x46 (.int .u8 (.ofNat 2))) H fun a49 H =>
 cd a49 (
 qea call x1 x2 x3 x4 x5 x10 x12 x13 x46 a49 H) (
 vq (intV (qab .eql).f x46 (.int .u8 (.ofNat 3))) H fun a50 H =>
 qea call x1 x2 x3 x4 x5 x10 x12 x13 x46 a50 H))
def qwj (call : Ev.Call) (x1 x2 x3 x4 x5 x10 : AV) (H : Hp) : R1 :=
 vq (qac 0 x5) H fun a2 H =>
 vq (qad H a2) H fun a3 H =>
 vq (idxS 1 a3 x1) H fun a4 H =>
 vq (qad H a4) H fun a5 H =>
 vq (idxS 1 a5 x2) H fun a6 H =>
 vq (qad H a6) H fun a7 H =>
 vq (intV (qab .add).f x2 (.int .i64 (.ofNat 1))) H fun a8 H =>
 vq (intV (qab .rem).f a7 (.int .u8 (.ofNat 8))) H fun a32 H =>
 vq (intV (qab .eql).f a32 (.int .u8 (.ofNat 0))) H fun a52 H =>
 cd a52 (
 qdd call x1 a8 x3 x4 x5 x10 a7 (.int .u8 (.ofNat 4)) a32 a52 H) (
 vq (intV (qab .eql).f a32 (.int .u8 (.ofNat 1))) H fun a53 H =>
 qdd call x1 a8 x3 x4 x5 x10 a7 (.int .u8 (.ofNat 4)) a32 a53 H)
def zb9 (call : Ev.Call) (x0 x1 x2 x3 x4 : AV) (H : Hp) : R1 :=
 vq (boxA 1 H.nx x0) H fun a0 H =>
 vq (.new (.ptr H.nx 0) (qaa 0 [.int .u8 (.ofNat 0), .str 0 0, .str 0 0, .nilsl])) H fun a1 H =>
 vq (qac 0 a0) H fun a55 H =>
 vq (qad H a55) H fun a56 H =>
 vq (idxS 1 a56 x1) H fun a57 H =>
 vq (qad H a57) H fun a58 H =>
 vq (lenSl a58) H fun a59 H =>
 vq (intV (qab .geq).f x2 a59) H fun a60 H =>
 vg (qae false a60) (.val x2) H fun a61 H =>
 vg (qae false a60) (intV (qab .geq).f a61 (.int .i64 (.ofNat 12))) H fun a62 H =>
 vq (qbf a60 (.bool true) a62) H fun a63 H =>
 vg (qae false a63) (.val x3) H fun a64 H =>
 vg (qae false a63) (intV (qab .gtr).f a64 (.int .i64 (.ofNat 6))) H fun a65 H =>
 vq (qbf a63 (.bool true) a65) H fun a66 H =>
 cd a66 (
 ve (call (.f qpe) [x4] H) fun a67 H =>
 ve (qay 4 H a1 a67) fun _ H =>
 finR (tupO (qb3 (rV (qas 4 H a1)) (qb3 (some x2) (some [])))) H) (
 qwj call x1 x2 x3 x4 a0 a1 H)
def zAk (call : Ev.Call) (x0 x1 x2 x3 x4 : AV) (H : Hp) : R1 := zb9 call x0 x1 x2 x3 x4 H
def zg5 (call : Ev.Call) (x0 : AV) (H : Hp) : R1 :=
 vq (qco 4 H.nx (qaj (reps [.str 0 0] 4) [(0, 1, (.str 2 12402)), (1, 1, (.str 2 12658)), (2, 1, (.str 2 12914)), (3, 1, (.str 2 13170))])) H fun a0 H =>
 vq (intV (qab .rem).f x0 (.int .i64 (.ofNat 4))) H fun a1 H =>
 vq (idxS 1 a0 a1) H fun a2 H =>
 vq (qad H a2) H fun a3 H =>
 .ok a3 H
def zAl (call : Ev.Call) (x0 : AV) (H : Hp) : R1 := zg5 call x0 H
def q55 (call : Ev.Call) (x5 : AV) (H : Hp) : R1 :=
 .ok x5 H
def qho (call : Ev.Call) (x1 x2 x5 x7 : AV) (H : Hp) : R1 :=
 vq (qas 1 H x2) H fun a8 H =>
 ve (call (.f qpd) [a8, x1, (.int .i64 (.ofNat 1))] H) fun a9 H =>
 vq (intV (qab .quo).f a9 (.int .u8 (.ofNat 2))) H fun a10 H =>
 vq (qyt .i64 a10) H fun a11 H =>
 vq (lenSl x7) H fun a12 H =>
 vq (intV (qab .rem).f a11 a12) H fun a13 H =>
 vq (idxS 2 x7 a13) H fun a14 H =>
 vq (qas 2 H a14) H fun a15 H =>
 vq (qco 1 H.nx (qaj (reps [.str 0 0, .str 0 0] 1) [(0, 2, a15)])) H fun a16 H =>
 ve (qa2 2 32 H x5 (qbp 2 H a16)) fun a17 H =>
 q55 call a17 H
def qlk (call : Ev.Call) (g19 : AV → AV → Hp → R1) (x7 x8 : AV) (H : Hp) : R1 :=
 vq (intV (qab .add).f x8 (.int .i64 (.ofNat 1))) H fun a20 H =>
 g19 x7 a20 H
def qwe (call : Ev.Call) (g19 : AV → AV → Hp → R1) (x1 x7 x8 : AV) (H : Hp) : R1 :=
 ve (call (.f qha) [x8] H) fun a22 H =>
 ve (call (.f qha) [x1] H) fun a23 H =>
 vq (intV (qab .leq).f a22 a23) H fun a24 H =>
 cd a24 (
 vq (intV (qab .quo).f x8 (.int .i64 (.ofNat 4))) H fun a25 H =>
 ve (call (.f qmu) [a25] H) fun a26 H =>
 ve (call (.f qkb) [x8] H) fun a27 H =>
 vq (aggN (qaj [.str 0 0, .str 0 0] [(0, 1, a26), (1, 1, a27)])) H fun a28 H =>
 vq (qco 1 H.nx (qaj (reps [.str 0 0, .str 0 0] 1) [(0, 2, a28)])) H fun a29 H =>
 ve (qa2 2 32 H x7 (qbp 2 H a29)) fun a30 H =>
 qlk call g19 a30 x8 H) (
 qlk call g19 x7 x8 H)
def qwg (call : Ev.Call) (q19e2 : AV → Hp → R1) (x1 x2 : AV) (g19 : AV → AV → Hp → R1) (x7 x8 : AV) (H : Hp) : R1 :=
 vq (qas 1 H x2) H fun a32 H =>
 ve (call (.f qik) [a32] H) fun a33 H =>
 vq (intV (qab .lss).f x8 a33) H fun a34 H =>
 cd a34 (
 qwe call g19 x1 x7 x8 H) (
 q19e2 x7 H)
def qi7 (call : Ev.Call) (q19e2 : AV → Hp → R1) (x1 x2 : AV) (n : Nat) : AV → AV → Hp → R1 :=
 Nat.rec (motive := fun _ => AV → AV → Hp → R1) (fun _ _ _ => .bad) (fun _ ih => qwg call q19e2 x1 x2 ih) n
def qwi (call : Ev.Call) (q19e2 : AV → Hp → R1) (x1 x2 : AV) : AV → AV → Hp → R1 := qi7 call q19e2 x1 x2 qbg
def qf7 (call : Ev.Call) (x1 x2 x5 : AV) (H : Hp) : R1 :=
 vq (qas 1 H x2) H fun a4 H =>
 ve (call (.f qpd) [a4, x1, (.int .i64 (.ofNat 1))] H) fun a5 H =>
 vq (intV (qab .rem).f a5 (.int .u8 (.ofNat 2))) H fun a6 H =>
 vq (intV (qab .eql).f a6 (.int .u8 (.ofNat 1))) H fun a7 H =>
 cd a7 (
 qwi call (fun x7 H => qho call x1 x2 x5 x7 H) x1 x2 (.nilsl) (.int .i64 (.ofNat 0)) H) (
 q55 call x5 H)
def qlj (call : Ev.Call) (g36 : AV → AV → Hp → R1) (x5 x6 : AV) (H : Hp) : R1 :=
 vq (intV (qab .add).f x6 (.int .i64 (.ofNat 1))) H fun a37 H =>
 g36 x5 a37 H
def qwd (call : Ev.Call) (g36 : AV → AV → Hp → R1) (x1 x2 x5 x6 : AV) (H : Hp) : R1 :=
 vq (qas 1 H x2) H fun a39 H =>
 ve (call (.f qpd) [a39, x1, (.int .i64 (.ofNat 0))] H) fun a40 H =>
 vq (qsi (qh9 .shr).f a40 x6) H fun a41 H =>
 vq (intV (qab .rem).f a41 (.int .u8 (.ofNat 2))) H fun a42 H =>
 vq (intV (qab .eql).f a42 (.int .u8 (.ofNat 1))) H fun a43 H =>
 cd a43 (
 ve (call (.f qmu) [x6] H) fun a44 H =>
 vq (aggN (qaj [.str 0 0, .str 0 0] [(0, 1, a44)])) H fun a45 H =>
 vq (qco 1 H.nx (qaj (reps [.str 0 0, .str 0 0] 1) [(0, 2, a45)])) H fun a46 H =>
 ve (qa2 2 32 H x5 (qbp 2 H a46)) fun a47 H =>
 qlj call g36 a47 x6 H) (
 qlj call g36 x5 x6 H)
def qwf (call : Ev.Call) (q36e0 : AV → Hp → R1) (x1 x2 : AV) (g36 : AV → AV → Hp → R1) (x5 x6 : AV) (H : Hp) : R1 :=
 vq (intV (qab .mul).f (.int .i64 (.ofNat 4)) x6) H fun a49 H =>
 vq (qas 1 H x2) H fun a50 H =>
 ve (call (.f qik) [a50] H) fun a51 H =>
 vq (intV (qab .lss).f a49 a51) H fun a52 H =>
 vg (qae true a52) (.val x6) H fun a53 H =>
 vg (qae true a52) (intV (qab .lss).f a53 (.int .i64 (.ofNat 3))) H fun a54 H =>
 vq (qbf a52 a54 (.bool false)) H fun a55 H =>
 cd a55 (
 qwd call g36 x1 x2 x5 x6 H) (
 q36e0 x5 H)
def qi6 (call : Ev.Call) (q36e0 : AV → Hp → R1) (x1 x2 : AV) (n : Nat) : AV → AV → Hp → R1 :=
 Nat.rec (motive := fun _ => AV → AV → Hp → R1) (fun _ _ _ => .bad) (fun _ ih => qwf call q36e0 x1 x2 ih) n
def qwh (call : Ev.Call) (q36e0 : AV → Hp → R1) (x1 x2 : AV) : AV → AV → Hp → R1 := qi6 call q36e0 x1 x2 qbg
def zg4 (call : Ev.Call) (x0 x1 : AV) (H : Hp) : R1 :=
 vq (boxA 1 H.nx x0) H fun a0 H =>
 vq (aggN (qaj [.str 0 0, .str 0 0] [(0, 1, (.str 4 1919251317))])) H fun a1 H =>
 vq (qco 1 H.nx (qaj (reps [.str 0 0, .str 0 0] 1) [(0, 2, a1)])) H fun a2 H =>
 qwh call (fun x5 H => qf7 call x1 a0 x5 H) x1 a0 a2 (.int .i64 (.ofNat 0)) H
def zAm (call : Ev.Call) (x0 x1 : AV) (H : Hp) : R1 := zg4 call x0 x1 H
def qli (call : Ev.Call) (H : Hp) : R1 :=
 .ok (.bool false) H
def qy8 (call : Ev.Call) (g4 : AV → Hp → R1) (x8 : AV) (H : Hp) : R1 :=
 vq (intV (qab .add).f x8 (.int .i64 (.ofNat 1))) H fun a5 H =>
 g4 a5 H
def qwc (call : Ev.Call) (q4r : AV → Hp → R1) (g4 : AV → Hp → R1) (x1 x2 x7 x8 : AV) (H : Hp) : R1 :=
 vq (idxS 5 x7 x8) H fun a7 H =>
 vq (qac 0 a7) H fun a8 H =>
 vq (qad H a8) H fun a9 H =>
 vq (intV (qab .eql).f a9 x1) H fun a10 H =>
 vg (qae true a10) (.val x7) H fun a11 H =>
 vg (qae true a10) (.val x8) H fun a12 H =>
 vg (qae true a10) (idxS 5 a11 a12) H fun a13 H =>
 vg (qae true a10) (qac 1 a13) H fun a14 H =>
 vg (qae true a10) (qad H a14) H fun a15 H =>
 vg (qae true a10) (.val x2) H fun a16 H =>
 vg (qae true a10) (strV (qcb .eql).f a15 a16) H fun a17 H =>
 vq (qbf a10 a17 (.bool false)) H fun a18 H =>
 cd a18 (
 q4r (.bool true) H) (
 qy8 call g4 x8 H)
def q53 (call : Ev.Call) (q4r : AV → Hp → R1) (q4e0 : Hp → R1) (x1 x2 x7 : AV) (g4 : AV → Hp → R1) (x8 : AV) (H : Hp) : R1 :=
 vq (lenSl x7) H fun a20 H =>
 vq (intV (qab .lss).f x8 a20) H fun a21 H =>
 cd a21 (
 qwc call q4r g4 x1 x2 x7 x8 H) (
 q4e0 H)
def qn0 (call : Ev.Call) (q4r : AV → Hp → R1) (q4e0 : Hp → R1) (x1 x2 x7 : AV) (n : Nat) : AV → Hp → R1 :=
 Nat.rec (motive := fun _ => AV → Hp → R1) (fun _ _ => .bad) (fun _ ih => q53 call q4r q4e0 x1 x2 x7 ih) n
def q54 (call : Ev.Call) (q4r : AV → Hp → R1) (q4e0 : Hp → R1) (x1 x2 x7 : AV) : AV → Hp → R1 := qn0 call q4r q4e0 x1 x2 x7 qbg
def zg3 (call : Ev.Call) (x0 x1 x2 : AV) (H : Hp) : R1 :=
 vq (boxA 4 H.nx x0) H fun a0 H =>
 vq (qas 4 H a0) H fun a1 H =>
 ve (call (.f qmt) [(.nilsl), a1, (.bool false)] H) fun a2 H =>
 q54 call (fun x6 H => .ok x6 H) (fun H => qli call H) x1 x2 a2 (.int .i64 (.ofNat 0)) H
def zAn (call : Ev.Call) (x0 x1 x2 : AV) (H : Hp) : R1 := zg3 call x0 x1 x2 H
def qf6 (call : Ev.Call) (x3 : AV) (H : Hp) : R1 :=
 .ok x3 H
def qlh (call : Ev.Call) (g2 : AV → AV → Hp → R1) (x3 x4 : AV) (H : Hp) : R1 :=
 vq (intV (qab .add).f x4 (.int .i64 (.ofNat 1))) H fun a3 H =>
 g2 x3 a3 H
def q5x (call : Ev.Call) (g5 : AV → AV → Hp → R1) (x3 x5 : AV) (H : Hp) : R1 :=
 vq (intV (qab .add).f x5 (.int .i64 (.ofNat 1))) H fun a6 H =>
 g5 x3 a6 H
def qwb (call : Ev.Call) (g5 : AV → AV → Hp → R1) (x1 x3 x4 x5 : AV) (H : Hp) : R1 :=
 dz 21 H fun b8 H =>
 dq false false 0 0 (b8 + 0) H [] [] (fun _ => .val x3) (some true) fun a9 H p w =>
 dq false false 1 0 (b8 + 1) H p w (fun _ => qac 0 x1) (some true) fun a10 H p w =>
 dq true false 2 2 (b8 + 2) H p w (fun H => qad H a10) (some true) fun a11 H p w =>
 dq false false 3 0 (b8 + 3) H p w (fun _ => .val x4) (some true) fun a12 H p w =>
 dq false false 4 14 (b8 + 4) H p w (fun _ => idxS 2 a11 a12) (some true) fun a13 H p w =>
 dq false false 5 30 (b8 + 5) H p w (fun _ => qac 0 a13) (some true) fun a14 H p w =>
 dq true false 6 62 (b8 + 6) H p w (fun H => qad H a14) (some true) fun a15 H p w =>
 dq false false 7 0 (b8 + 7) H p w (fun _ => qac 0 x1) (some true) fun a16 H p w =>
 dq true false 8 128 (b8 + 8) H p w (fun H => qad H a16) (some true) fun a17 H p w =>
 dq false false 9 0 (b8 + 9) H p w (fun _ => .val x4) (some true) fun a18 H p w =>
 dq false false 10 896 (b8 + 10) H p w (fun _ => idxS 2 a17 a18) (some true) fun a19 H p w =>
 dq false false 11 1920 (b8 + 11) H p w (fun _ => qac 1 a19) (some true) fun a20 H p w =>
 dq true false 12 3968 (b8 + 12) H p w (fun H => qad H a20) (some true) fun a21 H p w =>
 dq false false 13 0 (b8 + 13) H p w (fun _ => .val x5) (some true) fun a22 H p w =>
 dq false false 14 16256 (b8 + 14) H p w (fun _ => idxS 6 a21 a22) (some true) fun a23 H p w =>
 dq false false 15 32640 (b8 + 15) H p w (fun _ => qac 0 a23) (some true) fun a24 H p w =>
 dq true false 16 65408 (b8 + 16) H p w (fun H => qad H a24) (some true) fun a25 H p w =>
 dq false false 17 131070 (b8 + 17) H p w (fun _ => aggN (qaj [.str 0 0, .str 0 0] [(0, 1, a15), (1, 1, a25)])) (some true) fun a26 H p w =>
 dq false true 18 262142 (b8 + 18) H p w (fun _ => qco 1 (b8 + 18) (qaj (reps [.str 0 0, .str 0 0] 1) [(0, 2, a26)])) (some true) fun a27 H p w =>
 de 524287 H p w (qa2 2 32 (qax 524287 p H) a9 (qbp 2 (qax 524287 p H) a27)) (some true) fun a28 H p w =>
 dq false false 20 1048575 (b8 + 20) H p w (fun _ => .val a28) (some true) fun a29 H p w =>
 dz2 p H fun H =>
 q5x call g5 a29 x5 H
def q5y (call : Ev.Call) (q5e2 : AV → Hp → R1) (x1 x4 : AV) (g5 : AV → AV → Hp → R1) (x3 x5 : AV) (H : Hp) : R1 :=
 vq (qac 0 x1) H fun a31 H =>
 vq (qad H a31) H fun a32 H =>
 vq (idxS 2 a32 x4) H fun a33 H =>
 vq (qac 1 a33) H fun a34 H =>
 vq (qad H a34) H fun a35 H =>
 vq (lenSl a35) H fun a36 H =>
 vq (intV (qab .lss).f x5 a36) H fun a37 H =>
 cd a37 (
 qwb call g5 x1 x3 x4 x5 H) (
 q5e2 x3 H)
def qnz (call : Ev.Call) (q5e2 : AV → Hp → R1) (x1 x4 : AV) (n : Nat) : AV → AV → Hp → R1 :=
 Nat.rec (motive := fun _ => AV → AV → Hp → R1) (fun _ _ _ => .bad) (fun _ ih => q5y call q5e2 x1 x4 ih) n
def q51 (call : Ev.Call) (q5e2 : AV → Hp → R1) (x1 x4 : AV) : AV → AV → Hp → R1 := qnz call q5e2 x1 x4 qbg
def qwa (call : Ev.Call) (g2 : AV → AV → Hp → R1) (x1 x3 x4 : AV) (H : Hp) : R1 :=
 q51 call (fun x3 H => qlh call g2 x3 x4 H) x1 x4 x3 (.int .i64 (.ofNat 0)) H
def q50 (call : Ev.Call) (q2e0 : AV → Hp → R1) (x1 : AV) (g2 : AV → AV → Hp → R1) (x3 x4 : AV) (H : Hp) : R1 :=
 vq (qac 0 x1) H fun a39 H =>
 vq (qad H a39) H fun a40 H =>
 vq (lenSl a40) H fun a41 H =>
 vq (intV (qab .lss).f x4 a41) H fun a42 H =>
 cd a42 (
 qwa call g2 x1 x3 x4 H) (
 q2e0 x3 H)
def qg5 (call : Ev.Call) (q2e0 : AV → Hp → R1) (x1 : AV) (n : Nat) : AV → AV → Hp → R1 :=
 Nat.rec (motive := fun _ => AV → AV → Hp → R1) (fun _ _ _ => .bad) (fun _ ih => q50 call q2e0 x1 ih) n
def q52 (call : Ev.Call) (q2e0 : AV → Hp → R1) (x1 : AV) : AV → AV → Hp → R1 := qg5 call q2e0 x1 qbg
def zg2 (call : Ev.Call) (x0 : AV) (H : Hp) : R1 :=
 vq (boxA 1 H.nx x0) H fun a0 H =>
 q52 call (fun x3 H => qf6 call x3 H) a0 (.nilsl) (.int .i64 (.ofNat 0)) H
def zAo (call : Ev.Call) (x0 : AV) (H : Hp) : R1 := zg2 call x0 H
def zg1 (call : Ev.Call) (x0 : AV) (H : Hp) : R1 :=
 vq (.new (.ptr H.nx 0) (qaa 0 [.int .i64 (.ofNat 0), .nilsl])) H fun a0 H =>
 vq (intV (qab .mul).f x0 x0) H fun a1 H =>
 vq (qtd [.int .i64 (.ofNat 0)] 8 H.nx a1 a1) H fun a2 H =>
 vq (aggN (qaj [.int .i64 (.ofNat 0), .nilsl] [(0, 1, x0), (1, 1, a2)])) H fun a3 H =>
 ve (qay 2 H a0 a3) fun _ H =>
 finR (rV (qas 2 H a0)) H
def zAp (call : Ev.Call) (x0 : AV) (H : Hp) : R1 := zg1 call x0 H
def qj1 (call : Ev.Call) (x6 : AV) (H : Hp) : R1 :=
 vq (aggN (qaj [.str 0 0, .nilsl, .int .u8 (.ofNat 0), .str 0 0, .str 0 0, .nilsl] [])) H fun a4 H =>
 ve (qay 6 H x6 a4) fun _ H =>
 finR (tupO (qb3 (rV (qas 6 H x6)) (qb3 (some (.bool false)) (some [])))) H
def q5v (call : Ev.Call) (g7 : AV → Hp → R1) (x9 : AV) (H : Hp) : R1 :=
 vq (intV (qab .add).f x9 (.int .i64 (.ofNat 1))) H fun a8 H =>
 g7 a8 H
def qv9 (call : Ev.Call) (q7r : AV → Hp → R1) (g7 : AV → Hp → R1) (x2 x3 x6 x8 x9 : AV) (H : Hp) : R1 :=
 vq (qac 0 x3) H fun a10 H =>
 vq (qad H a10) H fun a11 H =>
 vq (idxS 2 a11 x8) H fun a12 H =>
 vq (qac 1 a12) H fun a13 H =>
 vq (qad H a13) H fun a14 H =>
 vq (idxS 6 a14 x9) H fun a15 H =>
 vq (qac 0 a15) H fun a16 H =>
 vq (qad H a16) H fun a17 H =>
 vq (strV (qcb .eql).f a17 x2) H fun a18 H =>
 cd a18 (
 vq (qac 0 x3) H fun a19 H =>
 vq (qad H a19) H fun a20 H =>
 vq (idxS 2 a20 x8) H fun a21 H =>
 vq (qac 1 a21) H fun a22 H =>
 vq (qad H a22) H fun a23 H =>
 vq (idxS 6 a23 x9) H fun a24 H =>
 vq (qas 6 H a24) H fun a25 H =>
 ve (qay 6 H x6 a25) fun _ H =>
 q7r (.bool true) H) (
 q5v call g7 x9 H)
def qr5 (call : Ev.Call) (q7r : AV → Hp → R1) (q7e0 : Hp → R1) (x2 x3 x6 x8 : AV) (g7 : AV → Hp → R1) (x9 : AV) (H : Hp) : R1 :=
 vq (intV (qab .geq).f x8 (.int .i64 (.ofNat 0))) H fun a28 H =>
 vg (qae true a28) (.val x9) H fun a29 H =>
 vg (qae true a28) (qac 0 x3) H fun a30 H =>
 vg (qae true a28) (qad H a30) H fun a31 H =>
 vg (qae true a28) (.val x8) H fun a32 H =>
 vg (qae true a28) (idxS 2 a31 a32) H fun a33 H =>
 vg (qae true a28) (qac 1 a33) H fun a34 H =>
 vg (qae true a28) (qad H a34) H fun a35 H =>
 vg (qae true a28) (lenSl a35) H fun a36 H =>
 vg (qae true a28) (intV (qab .lss).f a29 a36) H fun a37 H =>
 vq (qbf a28 a37 (.bool false)) H fun a38 H =>
 cd a38 (
 qv9 call q7r g7 x2 x3 x6 x8 x9 H) (
 q7e0 H)
def qlg (call : Ev.Call) (q7r : AV → Hp → R1) (q7e0 : Hp → R1) (x2 x3 x6 x8 : AV) (n : Nat) : AV → Hp → R1 :=
 Nat.rec (motive := fun _ => AV → Hp → R1) (fun _ _ => .bad) (fun _ ih => qr5 call q7r q7e0 x2 x3 x6 x8 ih) n
def q5w (call : Ev.Call) (q7r : AV → Hp → R1) (q7e0 : Hp → R1) (x2 x3 x6 x8 : AV) : AV → Hp → R1 := qlg call q7r q7e0 x2 x3 x6 x8 qbg
def zg0 (call : Ev.Call) (x0 x1 x2 : AV) (H : Hp) : R1 :=
 vq (boxA 1 H.nx x0) H fun a0 H =>
 vq (.new (.ptr H.nx 0) (qaa 0 [.str 0 0, .nilsl, .int .u8 (.ofNat 0), .str 0 0, .str 0 0, .nilsl])) H fun a1 H =>
 vq (qas 1 H a0) H fun a2 H =>
 ve (call (.f q04) [a2, x1] H) fun a3 H =>
 q5w call (fun x7 H => finR (tupO (qb3 (rV (qas 6 H a1)) (qb3 (some x7) (some [])))) H) (fun H => qj1 call a1 H) x2 a0 a1 a3 (.int .i64 (.ofNat 0)) H
def zAq (call : Ev.Call) (x0 x1 x2 : AV) (H : Hp) : R1 := zg0 call x0 x1 x2 H
def qf5 (call : Ev.Call) (x0 x7 x8 : AV) (H : Hp) : R1 :=
 vq (idxS 5 x0 x7) H fun a11 H =>
 vq (qac 3 a11) H fun a12 H =>
 ve (qbb H a12 x8) fun _ H =>
 .ok x0 H
def qlf (call : Ev.Call) (g15 : AV → AV → AV → Hp → R1) (x0 x8 x9 : AV) (H : Hp) : R1 :=
 vq (intV (qab .add).f x9 (.int .i64 (.ofNat 1))) H fun a16 H =>
 g15 x0 x8 a16 H
def qp2 (call : Ev.Call) (g15 : AV → AV → AV → Hp → R1) (x0 x2 x4 x8 x9 : AV) (H : Hp) : R1 :=
 vq (lenSl x0) H fun a18 H =>
 vq (qco 1 H.nx (qaj (reps [.int .i64 (.ofNat 0)] 1) [(0, 1, a18)])) H fun a19 H =>
 ve (qa2 1 8 H x8 (qbp 1 H a19)) fun a20 H =>
 dz 0 H fun b21 H =>
 dq false false 0 0 (b21 + 0) H [] [] (fun _ => .val x0) (some true) fun a22 H p w =>
 dq false false 1 0 (b21 + 1) H p w (fun _ => qac 3 x4) (some true) fun a23 H p w =>
 dq true false 2 2 (b21 + 2) H p w (fun H => qad H a23) (some true) fun a24 H p w =>
 dq false false 3 0 (b21 + 3) H p w (fun _ => .val x9) (some true) fun a25 H p w =>
 dq false false 4 14 (b21 + 4) H p w (fun _ => idxS 4 a24 a25) (some true) fun a26 H p w =>
 dq true false 5 30 (b21 + 5) H p w (fun H => qas 4 H a26) (some true) fun a27 H p w =>
 dq false false 6 0 (b21 + 6) H p w (fun _ => .val x2) (some true) fun a28 H p w =>
 dq false false 7 64 (b21 + 7) H p w (fun _ => .val a28) (some true) fun a29 H p w =>
 dq false false 8 192 (b21 + 8) H p w (fun _ => qac 0 x4) (qae false a29) fun a30 H p w =>
 dq true false 9 448 (b21 + 9) H p w (fun H => qad H a30) (qae false a29) fun a31 H p w =>
 dq false false 10 960 (b21 + 10) H p w (fun _ => intV (qab .eql).f a31 (.int .u8 (.ofNat 6))) (qae false a29) fun a32 H p w =>
 dq false false 11 1984 (b21 + 11) H p w (fun _ => .val a32) (qae false a29) fun a33 H p w =>
 dq false false 12 4032 (b21 + 12) H p w (fun _ => .val x9) (qae true a33) fun a34 H p w =>
 dq false false 13 8128 (b21 + 13) H p w (fun _ => intV (qab .eql).f a34 (.int .i64 (.ofNat 1))) (qae true a33) fun a35 H p w =>
 dq false false 14 16320 (b21 + 14) H p w (fun _ => qbf a33 a35 (.bool false)) (qae false a29) fun a36 H p w =>
 dq false false 15 32704 (b21 + 15) H p w (fun _ => qbf a29 (.bool true) a36) (some true) fun a37 H p w =>
 de 65535 H p w (call (.f qmt) [a22, a27, a37] (qax 65535 p H)) (some true) fun a38 H p w =>
 dq false false 17 131071 (b21 + 17) H p w (fun _ => .val a38) (some true) fun a39 H p w =>
 dz2 p H fun H =>
 qlf call g15 a39 a20 x9 H
def qi5 (call : Ev.Call) (q15e0 : AV → AV → Hp → R1) (x2 x4 : AV) (g15 : AV → AV → AV → Hp → R1) (x0 x8 x9 : AV) (H : Hp) : R1 :=
 vq (qac 3 x4) H fun a41 H =>
 vq (qad H a41) H fun a42 H =>
 vq (lenSl a42) H fun a43 H =>
 vq (intV (qab .lss).f x9 a43) H fun a44 H =>
 cd a44 (
 qp2 call g15 x0 x2 x4 x8 x9 H) (
 q15e0 x0 x8 H)
def qi4 (call : Ev.Call) (q15e0 : AV → AV → Hp → R1) (x2 x4 : AV) (n : Nat) : AV → AV → AV → Hp → R1 :=
 Nat.rec (motive := fun _ => AV → AV → AV → Hp → R1) (fun _ _ _ _ => .bad) (fun _ ih => qi5 call q15e0 x2 x4 ih) n
def qp3 (call : Ev.Call) (q15e0 : AV → AV → Hp → R1) (x2 x4 : AV) : AV → AV → AV → Hp → R1 := qi4 call q15e0 x2 x4 qbg
def zb1 (call : Ev.Call) (x0 x1 x2 : AV) (H : Hp) : R1 :=
 vq (boxA 4 H.nx x1) H fun a0 H =>
 vq (lenSl x0) H fun a1 H =>
 vq (qac 0 a0) H fun a2 H =>
 vq (qad H a2) H fun a3 H =>
 vq (qac 1 a0) H fun a4 H =>
 vq (qad H a4) H fun a5 H =>
 vq (qac 2 a0) H fun a6 H =>
 vq (qad H a6) H fun a7 H =>
 vq (aggN (qaj [.int .u8 (.ofNat 0), .str 0 0, .str 0 0, .nilsl, .bool false] [(0, 1, a3), (1, 1, a5), (2, 1, a7), (4, 1, x2)])) H fun a8 H =>
 vq (qco 1 H.nx (qaj (reps [.int .u8 (.ofNat 0), .str 0 0, .str 0 0, .nilsl, .bool false] 1) [(0, 5, a8)])) H fun a9 H =>
 ve (qa2 5 72 H x0 (qbp 5 H a9)) fun a10 H =>
 qp3 call (fun x0 x8 H => qf5 call x0 a1 x8 H) x2 a0 a10 (.nilsl) (.int .i64 (.ofNat 0)) H
def zAr (call : Ev.Call) (x0 x1 x2 : AV) (H : Hp) : R1 := zb1 call x0 x1 x2 H
def qle (call : Ev.Call) (H : Hp) : R1 :=
 .ok (.int .i64 (.negSucc 0)) H
def qy7 (call : Ev.Call) (g4 : AV → Hp → R1) (x8 : AV) (H : Hp) : R1 :=
 vq (intV (qab .add).f x8 (.int .i64 (.ofNat 1))) H fun a5 H =>
 g4 a5 H
def qv8 (call : Ev.Call) (q4r : AV → Hp → R1) (g4 : AV → Hp → R1) (x1 x2 x7 x8 : AV) (H : Hp) : R1 :=
 vq (idxS 2 x7 x8) H fun a7 H =>
 vq (qac 0 a7) H fun a8 H =>
 vq (qad H a8) H fun a9 H =>
 vq (strV (qcb .eql).f a9 x1) H fun a10 H =>
 vg (qae true a10) (.val x7) H fun a11 H =>
 vg (qae true a10) (.val x8) H fun a12 H =>
 vg (qae true a10) (idxS 2 a11 a12) H fun a13 H =>
 vg (qae true a10) (qac 1 a13) H fun a14 H =>
 vg (qae true a10) (qad H a14) H fun a15 H =>
 vg (qae true a10) (.val x2) H fun a16 H =>
 vg (qae true a10) (strV (qcb .eql).f a15 a16) H fun a17 H =>
 vq (qbf a10 a17 (.bool false)) H fun a18 H =>
 cd a18 (
 q4r x8 H) (
 qy7 call g4 x8 H)
def q5t (call : Ev.Call) (q4r : AV → Hp → R1) (q4e0 : Hp → R1) (x1 x2 x7 : AV) (g4 : AV → Hp → R1) (x8 : AV) (H : Hp) : R1 :=
 vq (lenSl x7) H fun a20 H =>
 vq (intV (qab .lss).f x8 a20) H fun a21 H =>
 cd a21 (
 qv8 call q4r g4 x1 x2 x7 x8 H) (
 q4e0 H)
def qld (call : Ev.Call) (q4r : AV → Hp → R1) (q4e0 : Hp → R1) (x1 x2 x7 : AV) (n : Nat) : AV → Hp → R1 :=
 Nat.rec (motive := fun _ => AV → Hp → R1) (fun _ _ => .bad) (fun _ ih => q5t call q4r q4e0 x1 x2 x7 ih) n
def q5u (call : Ev.Call) (q4r : AV → Hp → R1) (q4e0 : Hp → R1) (x1 x2 x7 : AV) : AV → Hp → R1 := qld call q4r q4e0 x1 x2 x7 qbg
def zgz (call : Ev.Call) (x0 x1 x2 : AV) (H : Hp) : R1 :=
 vq (boxA 1 H.nx x0) H fun a0 H =>
 vq (qas 1 H a0) H fun a1 H =>
 ve (call (.f qtt) [a1] H) fun a2 H =>
 q5u call (fun x6 H => .ok x6 H) (fun H => qle call H) x1 x2 a2 (.int .i64 (.ofNat 0)) H
def zAs (call : Ev.Call) (x0 x1 x2 : AV) (H : Hp) : R1 := zgz call x0 x1 x2 H
def qlc (call : Ev.Call) (x1 x2 x4 x8 : AV) (H : Hp) : R1 :=
 vq (qac 1 x4) H fun a1 H =>
 vq (qad H a1) H fun a2 H =>
 vq (qac 0 x4) H fun a3 H =>
 vq (qad H a3) H fun a4 H =>
 vq (intV (qab .mul).f x1 a4) H fun a5 H =>
 vq (intV (qab .add).f a5 x2) H fun a6 H =>
 vq (idxS 1 a2 a6) H fun a7 H =>
 vq (qad H a7) H fun a8 H =>
 vq (intV (qab .quo).f a8 x8) H fun a9 H =>
 vq (intV (qab .rem).f a9 (.int .i64 (.ofNat 2))) H fun a10 H =>
 vq (intV (qab .eql).f a10 (.int .i64 (.ofNat 0))) H fun a11 H =>
 cd a11 (
 vq (qac 1 x4) H fun a12 H =>
 vq (qad H a12) H fun a13 H =>
 vq (qac 0 x4) H fun a14 H =>
 vq (qad H a14) H fun a15 H =>
 vq (intV (qab .mul).f x1 a15) H fun a16 H =>
 vq (intV (qab .add).f a16 x2) H fun a17 H =>
 vq (idxS 1 a13 a17) H fun a18 H =>
 vq (qad H a18) H fun a19 H =>
 vq (intV (qab .add).f a19 x8) H fun a20 H =>
 vq (idxS 1 a13 a17) H fun a21 H =>
 ve (qbb H a21 a20) fun _ H =>
 .ok (.tup []) H) (
 .ok (.tup []) H)
def zgy (call : Ev.Call) (x0 x1 x2 x3 : AV) (H : Hp) : R1 :=
 vq (boxA 2 H.nx x0) H fun a0 H =>
 cd x3 (
 qlc call x1 x2 a0 (.int .i64 (.ofNat 2)) H) (
 qlc call x1 x2 a0 (.int .i64 (.ofNat 1)) H)
def zAt (call : Ev.Call) (x0 x1 x2 x3 : AV) (H : Hp) : R1 := zgy call x0 x1 x2 x3 H
def qh2 (call : Ev.Call) (x9 : AV) (H : Hp) : R1 :=
 .ok x9 H
def qhn (call : Ev.Call) (g8 : AV → AV → Hp → R1) (x9 x12 : AV) (H : Hp) : R1 :=
 vq (intV (qab .add).f x12 (.int .i64 (.ofNat 1))) H fun a9 H =>
 g8 x9 a9 H
def qe1 (call : Ev.Call) (g8 : AV → AV → Hp → R1) (x3 x4 x9 x10 x12 : AV) (H : Hp) : R1 :=
 dz 15 H fun b11 H =>
 dq true false 0 0 (b11 + 0) H [] [] (fun H => qas 1 H x4) (some true) fun a12 H p w =>
 dq false false 1 0 (b11 + 1) H p w (fun _ => qac 1 x10) (some true) fun a13 H p w =>
 dq true false 2 2 (b11 + 2) H p w (fun H => qad H a13) (some true) fun a14 H p w =>
 dq false false 3 0 (b11 + 3) H p w (fun _ => .val x12) (some true) fun a15 H p w =>
 dq false false 4 14 (b11 + 4) H p w (fun _ => idxS 2 a14 a15) (some true) fun a16 H p w =>
 dq false false 5 30 (b11 + 5) H p w (fun _ => qac 0 a16) (some true) fun a17 H p w =>
 dq true false 6 62 (b11 + 6) H p w (fun H => qad H a17) (some true) fun a18 H p w =>
 dq false false 7 0 (b11 + 7) H p w (fun _ => .val x3) (some true) fun a19 H p w =>
 dq false true 12 0 (b11 + 12) H p w (fun _ => .new (.ptr (b11 + 12) 0) (qaa 0 [.str 0 0, .nilsl, .int .u8 (.ofNat 0), .str 0 0, .str 0 0, .nilsl])) (some true) fun a20 H p w =>
 de 255 H p w (call (.f qph) [a12, a18, a19] (qax 255 p H)) (some true) fun a21 H p w =>
 dq false false 9 511 (b11 + 9) H p w (fun _ => .val a21) (some true) fun a22 H p w =>
 dq false false 10 1023 (b11 + 10) H p w (fun _ => extr 0 a22) (some true) fun a23 H p w =>
 dq false false 11 1023 (b11 + 11) H p w (fun _ => extr 1 a22) (some true) fun a24 H p w =>
 de 6143 H p w (qay 6 (qax 6143 p H) a20 a23) (some true) fun _ H p w =>
 dq false false 14 16383 (b11 + 14) H p w (fun _ => .val a24) (some true) fun a26 H p w =>
 dz2 p H fun H =>
 vq (qac 1 x10) H fun a27 H =>
 vq (qad H a27) H fun a28 H =>
 vq (idxS 2 a28 x12) H fun a29 H =>
 vq (qac 1 a29) H fun a30 H =>
 vq (qad H a30) H fun a31 H =>
 vq (strV (qcb .eql).f a31 (.str 0 0)) H fun a32 H =>
 vg (qae true a32) (.val a26) H fun a33 H =>
 vq (qbf a32 a33 (.bool false)) H fun a34 H =>
 cd a34 (
 vq (qac 1 x10) H fun a35 H =>
 vq (qad H a35) H fun a36 H =>
 vq (idxS 2 a36 x12) H fun a37 H =>
 vq (qac 0 a37) H fun a38 H =>
 vq (qad H a38) H fun a39 H =>
 vq (qco 1 H.nx (qaj (reps [.str 0 0] 1) [(0, 1, a39)])) H fun a40 H =>
 ve (qa2 1 16 H x9 (qbp 1 H a40)) fun a41 H =>
 qhn call g8 a41 x12 H) (
 qhn call g8 x9 x12 H)
def qv7 : Ev.Call → (AV → AV → Hp → R1) → AV → AV → AV → AV → AV → Hp → R1 := Classical.choose (⟨qe1, rfl⟩ : ∃ f, f = qe1)
theorem qny : qv7 = qe1 := Classical.choose_spec (⟨qe1, rfl⟩ : ∃ f, f = qe1)
def q5s (call : Ev.Call) (q8e0 : AV → Hp → R1) (x3 x4 x10 : AV) (g8 : AV → AV → Hp → R1) (x9 x12 : AV) (H : Hp) : R1 :=
 vq (qac 1 x10) H fun a43 H =>
 vq (qad H a43) H fun a44 H =>
 vq (lenSl a44) H fun a45 H =>
 vq (intV (qab .lss).f x12 a45) H fun a46 H =>
 cd a46 (
 qv7 call g8 x3 x4 x9 x10 x12 H) (
 q8e0 x9 H)
def qh1 (call : Ev.Call) (q8e0 : AV → Hp → R1) (x3 x4 x10 : AV) (n : Nat) : AV → AV → Hp → R1 :=
 Nat.rec (motive := fun _ => AV → AV → Hp → R1) (fun _ _ _ => .bad) (fun _ ih => q5s call q8e0 x3 x4 x10 ih) n
def qy6 (call : Ev.Call) (q8e0 : AV → Hp → R1) (x3 x4 x10 : AV) : AV → AV → Hp → R1 := qh1 call q8e0 x3 x4 x10 qbg
def zgx (call : Ev.Call) (x0 x1 x2 x3 : AV) (H : Hp) : R1 :=
 vq (boxA 1 H.nx x0) H fun a0 H =>
 vq (qas 1 H a0) H fun a1 H =>
 ve (call (.f qph) [a1, x1, x2] H) fun a2 H =>
 vq (extr 0 a2) H fun a3 H =>
 vq (extr 1 a2) H fun a4 H =>
 vq (.new (.ptr H.nx 0) (qaa 0 [.str 0 0, .nilsl, .int .u8 (.ofNat 0), .str 0 0, .str 0 0, .nilsl])) H fun a5 H =>
 ve (qay 6 H a5 a3) fun _ H =>
 qy6 call (fun x9 H => qh2 call x9 H) x3 a0 a5 (.nilsl) (.int .i64 (.ofNat 0)) H
def zAu (call : Ev.Call) (x0 x1 x2 x3 : AV) (H : Hp) : R1 := zgx call x0 x1 x2 x3 H
def qek (call : Ev.Call) (H : Hp) : R1 :=
 .ok (.int .i64 (.ofNat 0)) H
def qf4 (call : Ev.Call) (g7 : AV → AV → Hp → R1) (x5 x28 : AV) (H : Hp) : R1 :=
 vq (intV (qab .add).f x28 (.int .i64 (.ofNat 1))) H fun a9 H =>
 g7 x5 a9 H
def qv4 (call : Ev.Call) (g18 : AV → AV → Hp → R1) (x5 x35 : AV) (H : Hp) : R1 :=
 vq (intV (qab .add).f x35 (.int .i64 (.ofNat 1))) H fun a20 H =>
 g18 x5 a20 H
def qv3 (call : Ev.Call) (g18 : AV → AV → Hp → R1) (x5 x35 : AV) (H : Hp) : R1 :=
 vq (intV (qab .add).f x5 (.int .i64 (.ofNat 1))) H fun a22 H =>
 qv4 call g18 a22 x35 H
def qv2 (call : Ev.Call) (q18r : AV → Hp → R1) (g18 : AV → AV → Hp → R1) (x4 x5 x7 x35 : AV) (H : Hp) : R1 :=
 vq (qas 2 H x7) H fun a24 H =>
 ve (call (.f q02) [x4, a24, x5] H) fun a25 H =>
 vq (intV (qab .neq).f a25 (.int .i64 (.ofNat 0))) H fun a26 H =>
 cd a26 (
 q18r a25 H) (
 qv3 call g18 x5 x35 H)
def qv5 (call : Ev.Call) (q18r : AV → Hp → R1) (q18e2 : AV → Hp → R1) (x4 x7 x34 : AV) (g18 : AV → AV → Hp → R1) (x5 x35 : AV) (H : Hp) : R1 :=
 vq (intV (qab .lss).f x35 x34) H fun a19 H =>
 cd a19 (
 qv2 call q18r g18 x4 x5 x7 x35 H) (
 q18e2 x5 H)
def qhm (call : Ev.Call) (q18r : AV → Hp → R1) (q18e2 : AV → Hp → R1) (x4 x7 x34 : AV) (n : Nat) : AV → AV → Hp → R1 :=
 Nat.rec (motive := fun _ => AV → AV → Hp → R1) (fun _ _ _ => .bad) (fun _ ih => qv5 call q18r q18e2 x4 x7 x34 ih) n
def qv6 (call : Ev.Call) (q18r : AV → Hp → R1) (q18e2 : AV → Hp → R1) (x4 x7 x34 : AV) : AV → AV → Hp → R1 := qhm call q18r q18e2 x4 x7 x34 qbg
def qv1 (call : Ev.Call) (q7r : AV → Hp → R1) (g7 : AV → AV → Hp → R1) (x4 x5 x26 x28 : AV) (H : Hp) : R1 :=
 vq (idxS 2 x26 x28) H fun a11 H =>
 vq (qas 2 H a11) H fun a12 H =>
 vq (.new (.ptr H.nx 0) (qaa 0 [.str 0 0, .nilsl])) H fun a13 H =>
 ve (qay 2 H a13 a12) fun _ H =>
 vq (qac 1 a13) H fun a15 H =>
 vq (qad H a15) H fun a16 H =>
 vq (lenSl a16) H fun a17 H =>
 qv6 call (fun x2 H => q7r x2 H) (fun x5 H => qf4 call g7 x5 x28 H) x4 a13 a17 x5 (.int .i64 (.ofNat 0)) H
def q5p (call : Ev.Call) (q7r : AV → Hp → R1) (q7e0 : Hp → R1) (x4 x26 x27 : AV) (g7 : AV → AV → Hp → R1) (x5 x28 : AV) (H : Hp) : R1 :=
 vq (intV (qab .lss).f x28 x27) H fun a8 H =>
 cd a8 (
 qv1 call q7r g7 x4 x5 x26 x28 H) (
 q7e0 H)
def qf3 (call : Ev.Call) (q7r : AV → Hp → R1) (q7e0 : Hp → R1) (x4 x26 x27 : AV) (n : Nat) : AV → AV → Hp → R1 :=
 Nat.rec (motive := fun _ => AV → AV → Hp → R1) (fun _ _ _ => .bad) (fun _ ih => q5p call q7r q7e0 x4 x26 x27 ih) n
def q5q (call : Ev.Call) (q7r : AV → Hp → R1) (q7e0 : Hp → R1) (x4 x26 x27 : AV) : AV → AV → Hp → R1 := qf3 call q7r q7e0 x4 x26 x27 qbg
def qv0 (call : Ev.Call) (x1 x4 : AV) (H : Hp) : R1 :=
 vq (qac 0 x1) H fun a4 H =>
 vq (qad H a4) H fun a5 H =>
 vq (lenSl a5) H fun a6 H =>
 q5q call (fun x2 H => .ok x2 H) (fun H => qek call H) x4 a5 a6 (.int .i64 (.ofNat 0)) (.int .i64 (.ofNat 0)) H
def qvz (call : Ev.Call) (x1 : AV) (H : Hp) : R1 :=
 vq (qas 1 H x1) H fun a1 H =>
 ve (call (.f qtr) [a1] H) fun a2 H =>
 vl (nilC a2) fun a30 =>
 vl (qac 1 a30) fun a31 =>
 vl (qad H a31) fun a32 =>
 vl (lenM H a32) fun a33 =>
 vl (qac 0 x1) fun a34 =>
 vl (qad H a34) fun a35 =>
 vl (lenSl a35) fun a36 =>
 vl (intV (qab .lss).f a33 a36) fun a37 =>
 cd a37 (
 .ok (.int .i64 (.ofNat 7)) H) (
 qv0 call x1 a2 H)
def zgw (call : Ev.Call) (x0 : AV) (H : Hp) : R1 :=
 vq (boxA 1 H.nx x0) H fun a0 H =>
 vq (qas 1 H a0) H fun a39 H =>
 ve (call (.f q03) [a39] H) fun a40 H =>
 vq (intV (qab .neq).f a40 (.int .i64 (.ofNat 0))) H fun a41 H =>
 cd a41 (
 .ok a40 H) (
 qvz call a0 H)
def zAv (call : Ev.Call) (x0 : AV) (H : Hp) : R1 := zgw call x0 H
def zgv (call : Ev.Call) (x0 : AV) (H : Hp) : R1 :=
 vq (boxA 4 H.nx x0) H fun a0 H =>
 ve (call (.f qtq) [a0] H) fun a1 H =>
 vq (extr 0 a1) H fun a2 H =>
 vq (extr 1 a1) H fun a3 H =>
 vq (extr 2 a1) H fun a4 H =>
 .ok (.tup [a2, a4]) H
def zAw (call : Ev.Call) (x0 : AV) (H : Hp) : R1 := zgv call x0 H
def zgu (call : Ev.Call) (x0 x1 x2 x3 x4 x5 x6 : AV) (H : Hp) : R1 :=
 dz 21 H fun b0 H =>
 dq false false 0 0 (b0 + 0) H [] [] (fun _ => qac 1 x2) (some true) fun a1 H p w =>
 dq true false 1 1 (b0 + 1) H p w (fun H => qad H a1) (some true) fun a2 H p w =>
 dq true false 2 0 (b0 + 2) H p w (fun H => qad H x3) (some true) fun a3 H p w =>
 dq false false 3 0 (b0 + 3) H p w (fun _ => qac 0 x4) (some true) fun a4 H p w =>
 dq true false 4 8 (b0 + 4) H p w (fun H => qad H a4) (some true) fun a5 H p w =>
 dq false false 5 0 (b0 + 5) H p w (fun _ => qac 0 x5) (some true) fun a6 H p w =>
 dq true false 6 32 (b0 + 6) H p w (fun H => qad H a6) (some true) fun a7 H p w =>
 dq false false 7 120 (b0 + 7) H p w (fun _ => aggN (qaj [.str 0 0, .str 0 0] [(0, 1, a5), (1, 1, a7)])) (some true) fun a8 H p w =>
 dq true false 8 252 (b0 + 8) H p w (fun H => qeh ⟨(⟨qcd fun xs ys => qcn p1 ⟨qbj⟩ 1 xs ys 2 0⟩ : E2).f, some 2⟩ (.int .i64 (.ofNat 0)) false H a3 a8) (some true) fun a9 H p w =>
 dq true false 9 0 (b0 + 9) H p w (fun H => qad H x3) (some true) fun a10 H p w =>
 dq false false 10 0 (b0 + 10) H p w (fun _ => .val x0) (some true) fun a11 H p w =>
 dq false false 11 0 (b0 + 11) H p w (fun _ => .val x1) (some true) fun a12 H p w =>
 dq false false 12 3072 (b0 + 12) H p w (fun _ => aggN (qaj [.str 0 0, .str 0 0] [(0, 1, a11), (1, 1, a12)])) (some true) fun a13 H p w =>
 dq true false 13 7680 (b0 + 13) H p w (fun H => qeh ⟨(⟨qcd fun xs ys => qcn p1 ⟨qbj⟩ 1 xs ys 2 0⟩ : E2).f, some 2⟩ (.int .i64 (.ofNat 0)) false H a10 a13) (some true) fun a14 H p w =>
 dq false false 14 0 (b0 + 14) H p w (fun _ => qac 4 x6) (some true) fun a15 H p w =>
 dq true false 15 16384 (b0 + 15) H p w (fun H => qad H a15) (some true) fun a16 H p w =>
 dq false false 16 65532 (b0 + 16) H p w (fun _ => aggN (qaj [.int .i64 (.ofNat 0), .int .i64 (.ofNat 0), .bool false] [(0, 1, a9), (1, 1, a14), (2, 1, a16)])) (some true) fun a17 H p w =>
 dq false true 17 131068 (b0 + 17) H p w (fun _ => qco 1 (b0 + 17) (qaj (reps [.int .i64 (.ofNat 0), .int .i64 (.ofNat 0), .bool false] 1) [(0, 3, a17)])) (some true) fun a18 H p w =>
 de 262143 H p w (qa2 3 24 (qax 262143 p H) a2 (qbp 3 (qax 262143 p H) a18)) (some true) fun a19 H p w =>
 dq false false 19 524287 (b0 + 19) H p w (fun _ => qac 1 x2) (some true) fun a20 H p w =>
 de 1048575 H p w (qbb (qax 1048575 p H) a20 a19) (some true) fun _ H p w =>
 dz2 p H fun H =>
 .ok (.tup []) H
def zAx (call : Ev.Call) (x0 x1 x2 x3 x4 x5 x6 : AV) (H : Hp) : R1 := zgu call x0 x1 x2 x3 x4 x5 x6 H
def q5o (call : Ev.Call) (x12 : AV) (H : Hp) : R1 :=
 .ok (.tup [x12, (.int .i64 (.ofNat 0))]) H
def q5n (call : Ev.Call) (x1 x2 x3 x11 : AV) (H : Hp) : R1 :=
 ve (call (.f qtp) [x11, x1, x2, x3] H) fun a3 H =>
 vq (lenSl a3) H fun a5 H =>
 vq (intV (qab .eql).f a5 (.int .i64 (.ofNat 0))) H fun a6 H =>
 cd a6 (
 .ok (.tup [(.nilsl), (.int .i64 (.ofNat 11))]) H) (
 q5o call a3 H)
def qvy (call : Ev.Call) (x1 x2 x3 x4 : AV) (H : Hp) : R1 :=
 vq (qas 1 H x4) H fun a1 H =>
 ve (call (.f qtr) [a1] H) fun a2 H =>
 ve (call (.f qg9) [a2, x1, x2] H) fun a8 H =>
 vq (qdy false ((⟨E2.f ⟨qmz⟩⟩ : E2).f a8 (.nilptr))) H fun a9 H =>
 cd a9 (
 .ok (.tup [(.nilsl), (.int .i64 (.ofNat 6))]) H) (
 q5n call x1 x2 x3 a2 H)
def zgt (call : Ev.Call) (x0 x1 x2 x3 : AV) (H : Hp) : R1 :=
 vq (boxA 1 H.nx x0) H fun a0 H =>
 vq (qas 1 H a0) H fun a11 H =>
 ve (call (.f qts) [a11] H) fun a12 H =>
 vq (intV (qab .neq).f a12 (.int .i64 (.ofNat 0))) H fun a13 H =>
 cd a13 (
 .ok (.tup [(.nilsl), a12]) H) (
 qvy call x1 x2 x3 a0 H)
def zAy (call : Ev.Call) (x0 x1 x2 x3 : AV) (H : Hp) : R1 := zgt call x0 x1 x2 x3 H
def zgs (call : Ev.Call) (x0 : AV) (H : Hp) : R1 :=
 ve (call (.f q8u) [x0, (.fn qmq [] [])] H) fun a0 H =>
 ve (call (.f qpc) [x0] H) fun a1 H =>
 ve (call (.f qto) [a1] H) fun a2 H =>
 .ok a2 H
def zAz (call : Ev.Call) (x0 : AV) (H : Hp) : R1 := zgs call x0 H
def zgr (call : Ev.Call) (x0 x1 : AV) (H : Hp) : R1 :=
 vq (boxA 3 H.nx x0) H fun a0 H =>
 vq (boxA 3 H.nx x1) H fun a1 H =>
 dz 18 H fun b2 H =>
 dq false false 0 0 (b2 + 0) H [] [] (fun _ => qac 0 a0) (some true) fun a3 H p w =>
 dq true false 1 1 (b2 + 1) H p w (fun H => qad H a3) (some true) fun a4 H p w =>
 dq false false 2 0 (b2 + 2) H p w (fun _ => qac 0 a1) (some true) fun a5 H p w =>
 dq true false 3 4 (b2 + 3) H p w (fun H => qad H a5) (some true) fun a6 H p w =>
 dq false false 5 0 (b2 + 5) H p w (fun _ => qac 1 a0) (some true) fun a7 H p w =>
 dq true false 6 32 (b2 + 6) H p w (fun H => qad H a7) (some true) fun a8 H p w =>
 dq false false 7 0 (b2 + 7) H p w (fun _ => qac 1 a1) (some true) fun a9 H p w =>
 dq true false 8 128 (b2 + 8) H p w (fun H => qad H a9) (some true) fun a10 H p w =>
 dq true false 10 0 (b2 + 10) H p w (fun H => qas 3 H a0) (some true) fun a11 H p w =>
 dq true false 12 0 (b2 + 12) H p w (fun H => qas 3 H a1) (some true) fun a12 H p w =>
 de 15 H p w (call (.f qpb) [a4, a6] (qax 15 p H)) (some true) fun a13 H p w =>
 de 511 H p w (call (.f qpb) [a8, a10] (qax 511 p H)) (some true) fun a14 H p w =>
 de 2047 H p w (call (.f qtn) [a11] (qax 2047 p H)) (some true) fun a15 H p w =>
 de 8191 H p w (call (.f qtn) [a12] (qax 8191 p H)) (some true) fun a16 H p w =>
 de 16383 H p w (call (.f qpb) [a15, a16] (qax 16383 p H)) (some true) fun a17 H p w =>
 dq false true 15 32767 (b2 + 15) H p w (fun _ => qco 3 (b2 + 15) (qaj (reps [.int .i64 (.ofNat 0)] 3) [(0, 1, a13), (1, 1, a14), (2, 1, a17)])) (some true) fun a18 H p w =>
 de 65535 H p w (call (.f q00) [a18] (qax 65535 p H)) (some true) fun a19 H p w =>
 dq false false 17 131071 (b2 + 17) H p w (fun _ => .val a19) (some true) fun a20 H p w =>
 dz2 p H fun H =>
 .ok a20 H
def zBa (call : Ev.Call) (x0 x1 : AV) (H : Hp) : R1 := zgr call x0 x1 H
def q5m (call : Ev.Call) (x2 : AV) (H : Hp) : R1 :=
 vq (aggN (qaj [.int .u8 (.ofNat 0), .str 0 0, .str 0 0, .nilsl] [(0, 1, (.int .u8 (.ofNat 1)))])) H fun a1 H =>
 ve (qay 4 H x2 a1) fun _ H =>
 finR (rV (qas 4 H x2)) H
def zgq (call : Ev.Call) (x0 : AV) (H : Hp) : R1 :=
 vq (.new (.ptr H.nx 0) (qaa 0 [.int .u8 (.ofNat 0), .str 0 0, .str 0 0, .nilsl])) H fun a0 H =>
 cd x0 (
 vq (aggN (qaj [.int .u8 (.ofNat 0), .str 0 0, .str 0 0, .nilsl] [(0, 1, (.int .u8 (.ofNat 2))), (1, 1, (.str 2 12402))])) H fun a4 H =>
 ve (qay 4 H a0 a4) fun _ H =>
 finR (rV (qas 4 H a0)) H) (
 q5m call a0 H)
def zBb (call : Ev.Call) (x0 : AV) (H : Hp) : R1 := zgq call x0 H
def qla (call : Ev.Call) (x2 x8 x9 : AV) (H : Hp) : R1 :=
 vq (qyt .i64 x2) H fun a2 H =>
 vq (lenSl x9) H fun a3 H =>
 vq (intV (qab .rem).f a2 a3) H fun a4 H =>
 vq (idxS 1 x9 a4) H fun a5 H =>
 vq (qad H a5) H fun a6 H =>
 vq (aggN (qaj [.int .u8 (.ofNat 0), .str 0 0, .str 0 0, .nilsl] [(0, 1, (.int .u8 (.ofNat 2))), (1, 1, a6)])) H fun a7 H =>
 ve (qay 4 H x8 a7) fun _ H =>
 finR (rV (qas 4 H x8)) H
def qlb (call : Ev.Call) (g12 : AV → AV → Hp → R1) (x9 x10 : AV) (H : Hp) : R1 :=
 vq (intV (qab .add).f x10 (.int .i64 (.ofNat 1))) H fun a13 H =>
 g12 x9 a13 H
def qvv (call : Ev.Call) (g12 : AV → AV → Hp → R1) (x1 x3 x9 x10 : AV) (H : Hp) : R1 :=
 ve (call (.f qtm) [x1, x10, x3] H) fun a15 H =>
 cd a15 (
 ve (call (.f qkb) [x10] H) fun a16 H =>
 vq (qco 1 H.nx (qaj (reps [.str 0 0] 1) [(0, 1, a16)])) H fun a17 H =>
 ve (qa2 1 16 H x9 (qbp 1 H a17)) fun a18 H =>
 qlb call g12 a18 x10 H) (
 qlb call g12 x9 x10 H)
def qvw (call : Ev.Call) (q12e0 : AV → Hp → R1) (x1 x3 x4 : AV) (g12 : AV → AV → Hp → R1) (x9 x10 : AV) (H : Hp) : R1 :=
 vq (qas 1 H x4) H fun a20 H =>
 ve (call (.f qik) [a20] H) fun a21 H =>
 vq (intV (qab .lss).f x10 a21) H fun a22 H =>
 vg (qae true a22) (.val x10) H fun a23 H =>
 vg (qae true a22) (.val x1) H fun a24 H =>
 vg (qae true a22) (intV (qab .quo).f a24 (.int .i64 (.ofNat 4))) H fun a25 H =>
 vg (qae true a22) (intV (qab .mul).f a25 (.int .i64 (.ofNat 4))) H fun a26 H =>
 vg (qae true a22) (intV (qab .add).f a26 (.int .i64 (.ofNat 4))) H fun a27 H =>
 vg (qae true a22) (intV (qab .lss).f a23 a27) H fun a28 H =>
 vq (qbf a22 a28 (.bool false)) H fun a29 H =>
 cd a29 (
 qvv call g12 x1 x3 x9 x10 H) (
 q12e0 x9 H)
def qi3 (call : Ev.Call) (q12e0 : AV → Hp → R1) (x1 x3 x4 : AV) (n : Nat) : AV → AV → Hp → R1 :=
 Nat.rec (motive := fun _ => AV → AV → Hp → R1) (fun _ _ _ => .bad) (fun _ ih => qvw call q12e0 x1 x3 x4 ih) n
def qvx (call : Ev.Call) (q12e0 : AV → Hp → R1) (x1 x3 x4 : AV) : AV → AV → Hp → R1 := qi3 call q12e0 x1 x3 x4 qbg
def zgp (call : Ev.Call) (x0 x1 x2 x3 : AV) (H : Hp) : R1 :=
 vq (boxA 1 H.nx x0) H fun a0 H =>
 vq (.new (.ptr H.nx 0) (qaa 0 [.int .u8 (.ofNat 0), .str 0 0, .str 0 0, .nilsl])) H fun a1 H =>
 vq (intV (qab .quo).f x1 (.int .i64 (.ofNat 4))) H fun a10 H =>
 vq (intV (qab .mul).f a10 (.int .i64 (.ofNat 4))) H fun a11 H =>
 qvx call (fun x9 H => qla call x2 a1 x9 H) x1 x3 a0 (.nilsl) a11 H
def zBc (call : Ev.Call) (x0 x1 x2 x3 : AV) (H : Hp) : R1 := zgp call x0 x1 x2 x3 H
def q5l (call : Ev.Call) (x2 x8 x9 : AV) (H : Hp) : R1 :=
 vq (qyt .i64 x2) H fun a2 H =>
 vq (lenSl x9) H fun a3 H =>
 vq (intV (qab .rem).f a2 a3) H fun a4 H =>
 vq (idxS 4 x9 a4) H fun a5 H =>
 vq (qas 4 H a5) H fun a6 H =>
 ve (qay 4 H x8 a6) fun _ H =>
 finR (rV (qas 4 H x8)) H
def qcf (call : Ev.Call) (x2 x3 x8 x9 : AV) (H : Hp) : R1 :=
 vq (lenSl x9) H fun a9 H =>
 vq (intV (qab .eql).f a9 (.int .i64 (.ofNat 0))) H fun a10 H =>
 cd a10 (
 ve (call (.f qpe) [x3] H) fun a11 H =>
 ve (qay 4 H x8 a11) fun _ H =>
 finR (rV (qas 4 H x8)) H) (
 q5l call x2 x8 x9 H)
def qdo (call : Ev.Call) (g16 : AV → AV → Hp → R1) (x9 x10 : AV) (H : Hp) : R1 :=
 vq (intV (qab .add).f x10 (.int .i64 (.ofNat 1))) H fun a17 H =>
 g16 x9 a17 H
def qhl (call : Ev.Call) (g21 : AV → AV → Hp → R1) (x9 x12 : AV) (H : Hp) : R1 :=
 vq (intV (qab .add).f x12 (.int .i64 (.ofNat 1))) H fun a22 H =>
 g21 x9 a22 H
def qhk (call : Ev.Call) (g24 : AV → AV → Hp → R1) (x9 x13 : AV) (H : Hp) : R1 :=
 vq (intV (qab .add).f x13 (.int .i64 (.ofNat 1))) H fun a25 H =>
 g24 x9 a25 H
def qvo (call : Ev.Call) (g24 : AV → AV → Hp → R1) (x1 x3 x9 x10 x11 x12 x13 : AV) (H : Hp) : R1 :=
 dz 0 H fun b27 H =>
 dq false false 0 0 (b27 + 0) H [] [] (fun _ => .val x11) (some true) fun a28 H p w =>
 dq false false 1 0 (b27 + 1) H p w (fun _ => .val x12) (some true) fun a29 H p w =>
 dq false false 2 3 (b27 + 2) H p w (fun _ => idxS 2 a28 a29) (some true) fun a30 H p w =>
 dq false false 3 7 (b27 + 3) H p w (fun _ => qac 1 a30) (some true) fun a31 H p w =>
 dq true false 4 15 (b27 + 4) H p w (fun H => qad H a31) (some true) fun a32 H p w =>
 dq false false 5 31 (b27 + 5) H p w (fun _ => strV (qcb .eql).f a32 (.str 0 0)) (some true) fun a33 H p w =>
 dq false false 6 63 (b27 + 6) H p w (fun _ => .val a33) (some true) fun a34 H p w =>
 dq false false 7 127 (b27 + 7) H p w (fun _ => .val x11) (qae true a34) fun a35 H p w =>
 dq false false 8 127 (b27 + 8) H p w (fun _ => .val x12) (qae true a34) fun a36 H p w =>
 dq false false 9 511 (b27 + 9) H p w (fun _ => idxS 2 a35 a36) (qae true a34) fun a37 H p w =>
 dq false false 10 1023 (b27 + 10) H p w (fun _ => qac 0 a37) (qae true a34) fun a38 H p w =>
 dq true false 11 2047 (b27 + 11) H p w (fun H => qad H a38) (qae true a34) fun a39 H p w =>
 dq false false 12 127 (b27 + 12) H p w (fun _ => .val x13) (qae true a34) fun a40 H p w =>
 dq false false 13 4223 (b27 + 13) H p w (fun _ => intV (qab .quo).f a40 (.int .i64 (.ofNat 4))) (qae true a34) fun a41 H p w =>
 de 12415 H p w (call (.f qmu) [a41] (qax 12415 p H)) (qae true a34) fun a42 H p w =>
 dq false false 15 32767 (b27 + 15) H p w (fun _ => strV (qcb .eql).f a39 a42) (qae true a34) fun a43 H p w =>
 dq false false 16 65535 (b27 + 16) H p w (fun _ => qbf a34 a43 (.bool false)) (some true) fun a44 H p w =>
 dq false false 17 131071 (b27 + 17) H p w (fun _ => .val a44) (some true) fun a45 H p w =>
 dq false false 18 262143 (b27 + 18) H p w (fun _ => .val x1) (qae true a45) fun a46 H p w =>
 dq false false 19 262143 (b27 + 19) H p w (fun _ => .val x13) (qae true a45) fun a47 H p w =>
 dq false false 20 262143 (b27 + 20) H p w (fun _ => .val x3) (qae true a45) fun a48 H p w =>
 de 2097151 H p w (call (.f qtm) [a46, a47, a48] (qax 2097151 p H)) (qae true a45) fun a49 H p w =>
 dq false false 22 4194303 (b27 + 22) H p w (fun _ => qbf a45 a49 (.bool false)) (some true) fun a50 H p w =>
 dz2 p H fun H =>
 cd a50 (
 ve (call (.f qkb) [x10] H) fun a51 H =>
 ve (call (.f qkb) [x13] H) fun a52 H =>
 vq (aggN (qaj [.int .u8 (.ofNat 0), .str 0 0, .str 0 0, .nilsl] [(0, 1, (.int .u8 (.ofNat 3))), (1, 1, a51), (2, 1, a52)])) H fun a53 H =>
 vq (qco 1 H.nx (qaj (reps [.int .u8 (.ofNat 0), .str 0 0, .str 0 0, .nilsl] 1) [(0, 4, a53)])) H fun a54 H =>
 ve (qa2 4 64 H x9 (qbp 4 H a54)) fun a55 H =>
 qhk call g24 a55 x13 H) (
 qhk call g24 x9 x13 H)
def qvp (call : Ev.Call) (q24e4 : AV → Hp → R1) (x1 x3 x4 x10 x11 x12 : AV) (g24 : AV → AV → Hp → R1) (x9 x13 : AV) (H : Hp) : R1 :=
 vq (qas 1 H x4) H fun a57 H =>
 ve (call (.f qik) [a57] H) fun a58 H =>
 vq (intV (qab .lss).f x13 a58) H fun a59 H =>
 cd a59 (
 qvo call g24 x1 x3 x9 x10 x11 x12 x13 H) (
 q24e4 x9 H)
def qi2 (call : Ev.Call) (q24e4 : AV → Hp → R1) (x1 x3 x4 x10 x11 x12 : AV) (n : Nat) : AV → AV → Hp → R1 :=
 Nat.rec (motive := fun _ => AV → AV → Hp → R1) (fun _ _ _ => .bad) (fun _ ih => qvp call q24e4 x1 x3 x4 x10 x11 x12 ih) n
def qvs (call : Ev.Call) (q24e4 : AV → Hp → R1) (x1 x3 x4 x10 x11 x12 : AV) : AV → AV → Hp → R1 := qi2 call q24e4 x1 x3 x4 x10 x11 x12 qbg
def qvn (call : Ev.Call) (g21 : AV → AV → Hp → R1) (x1 x3 x4 x9 x10 x11 x12 : AV) (H : Hp) : R1 :=
 qvs call (fun x9 H => qhl call g21 x9 x12 H) x1 x3 x4 x10 x11 x12 x9 (.int .i64 (.ofNat 0)) H
def qvq (call : Ev.Call) (q21e2 : AV → Hp → R1) (x1 x3 x4 x10 x11 : AV) (g21 : AV → AV → Hp → R1) (x9 x12 : AV) (H : Hp) : R1 :=
 vq (lenSl x11) H fun a61 H =>
 vq (intV (qab .lss).f x12 a61) H fun a62 H =>
 cd a62 (
 qvn call g21 x1 x3 x4 x9 x10 x11 x12 H) (
 q21e2 x9 H)
def qd9 (call : Ev.Call) (q21e2 : AV → Hp → R1) (x1 x3 x4 x10 x11 : AV) (n : Nat) : AV → AV → Hp → R1 :=
 Nat.rec (motive := fun _ => AV → AV → Hp → R1) (fun _ _ _ => .bad) (fun _ ih => qvq call q21e2 x1 x3 x4 x10 x11 ih) n
def qvt (call : Ev.Call) (q21e2 : AV → Hp → R1) (x1 x3 x4 x10 x11 : AV) : AV → AV → Hp → R1 := qd9 call q21e2 x1 x3 x4 x10 x11 qbg
def qvm (call : Ev.Call) (g16 : AV → AV → Hp → R1) (x1 x3 x4 x9 x10 : AV) (H : Hp) : R1 :=
 vq (qas 1 H x4) H fun a19 H =>
 ve (call (.f qtv) [a19, x10] H) fun a20 H =>
 qvt call (fun x9 H => qdo call g16 x9 x10 H) x1 x3 x4 x10 a20 x9 (.int .i64 (.ofNat 0)) H
def qvr (call : Ev.Call) (q16e0 : AV → Hp → R1) (x1 x3 x4 : AV) (g16 : AV → AV → Hp → R1) (x9 x10 : AV) (H : Hp) : R1 :=
 vq (qas 1 H x4) H fun a64 H =>
 ve (call (.f qik) [a64] H) fun a65 H =>
 vq (intV (qab .lss).f x10 a65) H fun a66 H =>
 vg (qae true a66) (.val x10) H fun a67 H =>
 vg (qae true a66) (.val x1) H fun a68 H =>
 vg (qae true a66) (intV (qab .quo).f a68 (.int .i64 (.ofNat 4))) H fun a69 H =>
 vg (qae true a66) (intV (qab .mul).f a69 (.int .i64 (.ofNat 4))) H fun a70 H =>
 vg (qae true a66) (intV (qab .add).f a70 (.int .i64 (.ofNat 4))) H fun a71 H =>
 vg (qae true a66) (intV (qab .lss).f a67 a71) H fun a72 H =>
 vq (qbf a66 a72 (.bool false)) H fun a73 H =>
 cd a73 (
 qvm call g16 x1 x3 x4 x9 x10 H) (
 q16e0 x9 H)
def qcq (call : Ev.Call) (q16e0 : AV → Hp → R1) (x1 x3 x4 : AV) (n : Nat) : AV → AV → Hp → R1 :=
 Nat.rec (motive := fun _ => AV → AV → Hp → R1) (fun _ _ _ => .bad) (fun _ ih => qvr call q16e0 x1 x3 x4 ih) n
def qvu (call : Ev.Call) (q16e0 : AV → Hp → R1) (x1 x3 x4 : AV) : AV → AV → Hp → R1 := qcq call q16e0 x1 x3 x4 qbg
def zgo (call : Ev.Call) (x0 x1 x2 x3 : AV) (H : Hp) : R1 :=
 vq (boxA 1 H.nx x0) H fun a0 H =>
 vq (.new (.ptr H.nx 0) (qaa 0 [.int .u8 (.ofNat 0), .str 0 0, .str 0 0, .nilsl])) H fun a1 H =>
 vq (intV (qab .quo).f x1 (.int .i64 (.ofNat 4))) H fun a14 H =>
 vq (intV (qab .mul).f a14 (.int .i64 (.ofNat 4))) H fun a15 H =>
 qvu call (fun x9 H => qcf call x2 x3 a1 x9 H) x1 x3 a0 (.nilsl) a15 H
def zBd (call : Ev.Call) (x0 x1 x2 x3 : AV) (H : Hp) : R1 := zgo call x0 x1 x2 x3 H
def zgn (call : Ev.Call) (x0 : AV) (H : Hp) : R1 :=
 vq (qco 4 H.nx (qaj (reps [.int .i64 (.ofNat 0)] 4) [(0, 1, (.int .i64 (.ofNat 0))), (1, 1, (.int .i64 (.ofNat 1))), (2, 1, (.int .i64 (.ofNat 1))), (3, 1, (.int .i64 (.ofNat 2)))])) H fun a0 H =>
 vq (intV (qab .rem).f x0 (.int .i64 (.ofNat 4))) H fun a1 H =>
 vq (idxS 1 a0 a1) H fun a2 H =>
 vq (qad H a2) H fun a3 H =>
 .ok a3 H
def zBe (call : Ev.Call) (x0 : AV) (H : Hp) : R1 := zgn call x0 H
def q5k (call : Ev.Call) (H : Hp) : R1 :=
 .ok (.int .u8 (.ofNat 0)) H
def zgm (call : Ev.Call) (x0 x1 x2 : AV) (H : Hp) : R1 :=
 vq (boxA 1 H.nx x0) H fun a0 H =>
 vq (qac 0 a0) H fun a2 H =>
 vq (qad H a2) H fun a3 H =>
 vq (idxS 1 a3 x1) H fun a4 H =>
 vq (qad H a4) H fun a5 H =>
 vq (lenSl a5) H fun a6 H =>
 vq (intV (qab .lss).f x2 a6) H fun a7 H =>
 cd a7 (
 vq (qac 0 a0) H fun a8 H =>
 vq (qad H a8) H fun a9 H =>
 vq (idxS 1 a9 x1) H fun a10 H =>
 vq (qad H a10) H fun a11 H =>
 vq (idxS 1 a11 x2) H fun a12 H =>
 vq (qad H a12) H fun a13 H =>
 .ok a13 H) (
 q5k call H)
def zBf (call : Ev.Call) (x0 x1 x2 : AV) (H : Hp) : R1 := zgm call x0 x1 x2 H
def qk9 (call : Ev.Call) (H : Hp) : R1 :=
 .ok (.int .i64 (.negSucc 0)) H
def q5h (call : Ev.Call) (g2 : AV → Hp → R1) (x5 : AV) (H : Hp) : R1 :=
 vq (intV (qab .add).f x5 (.int .i64 (.ofNat 1))) H fun a3 H =>
 g2 a3 H
def qvl (call : Ev.Call) (q2r : AV → Hp → R1) (g2 : AV → Hp → R1) (x1 x2 x5 : AV) (H : Hp) : R1 :=
 vq (qac 0 x2) H fun a5 H =>
 vq (qad H a5) H fun a6 H =>
 vq (idxS 2 a6 x5) H fun a7 H =>
 vq (qac 0 a7) H fun a8 H =>
 vq (qad H a8) H fun a9 H =>
 vq (strV (qcb .eql).f a9 x1) H fun a10 H =>
 cd a10 (
 q2r x5 H) (
 q5h call g2 x5 H)
def q5i (call : Ev.Call) (q2r : AV → Hp → R1) (q2e0 : Hp → R1) (x1 x2 : AV) (g2 : AV → Hp → R1) (x5 : AV) (H : Hp) : R1 :=
 vq (qac 0 x2) H fun a12 H =>
 vq (qad H a12) H fun a13 H =>
 vq (lenSl a13) H fun a14 H =>
 vq (intV (qab .lss).f x5 a14) H fun a15 H =>
 cd a15 (
 qvl call q2r g2 x1 x2 x5 H) (
 q2e0 H)
def qnx (call : Ev.Call) (q2r : AV → Hp → R1) (q2e0 : Hp → R1) (x1 x2 : AV) (n : Nat) : AV → Hp → R1 :=
 Nat.rec (motive := fun _ => AV → Hp → R1) (fun _ _ => .bad) (fun _ ih => q5i call q2r q2e0 x1 x2 ih) n
def q5j (call : Ev.Call) (q2r : AV → Hp → R1) (q2e0 : Hp → R1) (x1 x2 : AV) : AV → Hp → R1 := qnx call q2r q2e0 x1 x2 qbg
def zgl (call : Ev.Call) (x0 x1 : AV) (H : Hp) : R1 :=
 vq (boxA 1 H.nx x0) H fun a0 H =>
 q5j call (fun x4 H => .ok x4 H) (fun H => qk9 call H) x1 a0 (.int .i64 (.ofNat 0)) H
def zBg (call : Ev.Call) (x0 x1 : AV) (H : Hp) : R1 := zgl call x0 x1 H
def qfx (call : Ev.Call) (H : Hp) : R1 :=
 .ok (.int .i64 (.ofNat 0)) H
def qk8 (call : Ev.Call) (g5 : AV → Hp → R1) (x15 : AV) (H : Hp) : R1 :=
 vq (intV (qab .add).f x15 (.int .i64 (.ofNat 1))) H fun a7 H =>
 g5 a7 H
def qvi (call : Ev.Call) (g16 : AV → Hp → R1) (x32 : AV) (H : Hp) : R1 :=
 vq (intV (qab .add).f x32 (.int .i64 (.ofNat 1))) H fun a18 H =>
 g16 a18 H
def qvh (call : Ev.Call) (q16r : AV → Hp → R1) (g16 : AV → Hp → R1) (x30 x32 : AV) (H : Hp) : R1 :=
 vq (idxS 6 x30 x32) H fun a20 H =>
 vq (qas 6 H a20) H fun a21 H =>
 vq (.new (.ptr H.nx 0) (qaa 0 [.str 0 0, .nilsl, .int .u8 (.ofNat 0), .str 0 0, .str 0 0, .nilsl])) H fun a22 H =>
 ve (qay 6 H a22 a21) fun _ H =>
 vq (qas 6 H a22) H fun a24 H =>
 ve (call (.f q0y) [a24] H) fun a25 H =>
 vq (intV (qab .neq).f a25 (.int .i64 (.ofNat 0))) H fun a26 H =>
 cd a26 (
 q16r a25 H) (
 qvi call g16 x32 H)
def qvj (call : Ev.Call) (q16r : AV → Hp → R1) (q16e3 : Hp → R1) (x30 x31 : AV) (g16 : AV → Hp → R1) (x32 : AV) (H : Hp) : R1 :=
 vq (intV (qab .lss).f x32 x31) H fun a17 H =>
 cd a17 (
 qvh call q16r g16 x30 x32 H) (
 q16e3 H)
def qi1 (call : Ev.Call) (q16r : AV → Hp → R1) (q16e3 : Hp → R1) (x30 x31 : AV) (n : Nat) : AV → Hp → R1 :=
 Nat.rec (motive := fun _ => AV → Hp → R1) (fun _ _ => .bad) (fun _ ih => qvj call q16r q16e3 x30 x31 ih) n
def qvk (call : Ev.Call) (q16r : AV → Hp → R1) (q16e3 : Hp → R1) (x30 x31 : AV) : AV → Hp → R1 := qi1 call q16r q16e3 x30 x31 qbg
def qvg (call : Ev.Call) (q5r : AV → Hp → R1) (g5 : AV → Hp → R1) (x4 x15 : AV) (H : Hp) : R1 :=
 vq (qac 1 x4) H fun a13 H =>
 vq (qad H a13) H fun a14 H =>
 vq (lenSl a14) H fun a15 H =>
 qvk call (fun x2 H => q5r x2 H) (fun H => qk8 call g5 x15 H) a14 a15 (.int .i64 (.ofNat 0)) H
def qvf (call : Ev.Call) (q5r : AV → Hp → R1) (g5 : AV → Hp → R1) (x13 x15 : AV) (H : Hp) : R1 :=
 vq (idxS 2 x13 x15) H fun a9 H =>
 vq (qas 2 H a9) H fun a10 H =>
 vq (.new (.ptr H.nx 0) (qaa 0 [.str 0 0, .nilsl])) H fun a11 H =>
 ve (qay 2 H a11 a10) fun _ H =>
 vq (qac 0 a11) H fun a29 H =>
 vq (qad H a29) H fun a30 H =>
 ve (call (.f qtl) [a30] H) fun a31 H =>
 vq ((unS .not).f a31) H fun a32 H =>
 cd a32 (
 q5r (.int .i64 (.ofNat 6)) H) (
 vq (qac 1 a11) H fun a33 H =>
 vq (qad H a33) H fun a34 H =>
 vq (lenSl a34) H fun a35 H =>
 vq (intV (qab .gtr).f a35 (.int .i64 (.ofNat 16))) H fun a36 H =>
 cd a36 (
 q5r (.int .i64 (.ofNat 3)) H) (
 qvg call q5r g5 a11 x15 H))
def q5f (call : Ev.Call) (q5r : AV → Hp → R1) (q5e0 : Hp → R1) (x13 x14 : AV) (g5 : AV → Hp → R1) (x15 : AV) (H : Hp) : R1 :=
 vq (intV (qab .lss).f x15 x14) H fun a6 H =>
 cd a6 (
 qvf call q5r g5 x13 x15 H) (
 q5e0 H)
def qf2 (call : Ev.Call) (q5r : AV → Hp → R1) (q5e0 : Hp → R1) (x13 x14 : AV) (n : Nat) : AV → Hp → R1 :=
 Nat.rec (motive := fun _ => AV → Hp → R1) (fun _ _ => .bad) (fun _ ih => q5f call q5r q5e0 x13 x14 ih) n
def q5g (call : Ev.Call) (q5r : AV → Hp → R1) (q5e0 : Hp → R1) (x13 x14 : AV) : AV → Hp → R1 := qf2 call q5r q5e0 x13 x14 qbg
def qve (call : Ev.Call) (x1 : AV) (H : Hp) : R1 :=
 vq (qac 0 x1) H fun a2 H =>
 vq (qad H a2) H fun a3 H =>
 vq (lenSl a3) H fun a4 H =>
 q5g call (fun x2 H => .ok x2 H) (fun H => qfx call H) a3 a4 (.int .i64 (.ofNat 0)) H
def zgk (call : Ev.Call) (x0 : AV) (H : Hp) : R1 :=
 vq (boxA 1 H.nx x0) H fun a0 H =>
 vq (qac 0 a0) H fun a39 H =>
 vq (qad H a39) H fun a40 H =>
 vq (lenSl a40) H fun a41 H =>
 vq (intV (qab .gtr).f a41 (.int .i64 (.ofNat 16))) H fun a42 H =>
 cd a42 (
 .ok (.int .i64 (.ofNat 3)) H) (
 qve call a0 H)
def zBh (call : Ev.Call) (x0 : AV) (H : Hp) : R1 := zgk call x0 H
def qfw (call : Ev.Call) (x3 : AV) (H : Hp) : R1 :=
 .ok x3 H
def qf1 (call : Ev.Call) (g10 : AV → Hp → R1) (x18 : AV) (H : Hp) : R1 :=
 vq (intV (qab .add).f x18 (.int .i64 (.ofNat 1))) H fun a12 H =>
 g10 a12 H
def qu9 (call : Ev.Call) (g31 : AV → Hp → R1) (x33 : AV) (H : Hp) : R1 :=
 vq (intV (qab .add).f x33 (.int .i64 (.ofNat 1))) H fun a33 H =>
 g31 a33 H
def qp1 (call : Ev.Call) (g31 : AV → Hp → R1) (x3 x5 x7 x33 : AV) (H : Hp) : R1 :=
 dz 23 H fun b38 H =>
 dq false false 0 0 (b38 + 0) H [] [] (fun _ => .val x3) (some true) fun a39 H p w =>
 dq false false 1 0 (b38 + 1) H p w (fun _ => .val x3) (some true) fun a40 H p w =>
 dq false false 2 0 (b38 + 2) H p w (fun _ => .val x3) (some true) fun a41 H p w =>
 dq false false 3 4 (b38 + 3) H p w (fun _ => nilC a41) (some true) fun a42 H p w =>
 dq false false 4 12 (b38 + 4) H p w (fun _ => qac 3 a42) (some true) fun a43 H p w =>
 dq true false 5 28 (b38 + 5) H p w (fun H => qad H a43) (some true) fun a44 H p w =>
 dq false false 6 0 (b38 + 6) H p w (fun _ => .val x7) (some true) fun a45 H p w =>
 dq false true 7 64 (b38 + 7) H p w (fun _ => qco 1 (b38 + 7) (qaj (reps [.nilptr] 1) [(0, 1, a45)])) (some true) fun a46 H p w =>
 dq false false 9 0 (b38 + 9) H p w (fun _ => .val x3) (some true) fun a47 H p w =>
 dq false false 10 512 (b38 + 10) H p w (fun _ => nilC a47) (some true) fun a48 H p w =>
 dq false false 11 1536 (b38 + 11) H p w (fun _ => qac 4 a48) (some true) fun a49 H p w =>
 dq true false 12 3584 (b38 + 12) H p w (fun H => qad H a49) (some true) fun a50 H p w =>
 dq false false 13 0 (b38 + 13) H p w (fun _ => qac 0 x5) (some true) fun a51 H p w =>
 dq true false 14 8192 (b38 + 14) H p w (fun H => qad H a51) (some true) fun a52 H p w =>
 dq false true 15 24576 (b38 + 15) H p w (fun _ => qco 1 (b38 + 15) (qaj (reps [.str 0 0] 1) [(0, 1, a52)])) (some true) fun a53 H p w =>
 de 252 H p w (qa2 1 8 (qax 252 p H) a44 (qbp 1 (qax 252 p H) a46)) (some true) fun a54 H p w =>
 de 65532 H p w (qa2 1 16 (qax 65532 p H) a50 (qbp 1 (qax 65532 p H) a53)) (some true) fun a55 H p w =>
 dq false false 17 131069 (b38 + 17) H p w (fun _ => nilC a39) (some true) fun a56 H p w =>
 dq false false 18 262141 (b38 + 18) H p w (fun _ => qac 3 a56) (some true) fun a57 H p w =>
 de 524285 H p w (qbb (qax 524285 p H) a57 a54) (some true) fun _ H p w =>
 dq false false 20 1048575 (b38 + 20) H p w (fun _ => nilC a40) (some true) fun a59 H p w =>
 dq false false 21 2097151 (b38 + 21) H p w (fun _ => qac 4 a59) (some true) fun a60 H p w =>
 de 4194303 H p w (qbb (qax 4194303 p H) a60 a55) (some true) fun _ H p w =>
 dz2 p H fun H =>
 qu9 call g31 x33 H
def qp0 (call : Ev.Call) (g31 : AV → Hp → R1) (x3 x5 x33 : AV) (H : Hp) : R1 :=
 vq (qac 1 x5) H fun a35 H =>
 vq (qad H a35) H fun a36 H =>
 vq (idxS 6 a36 x33) H fun a37 H =>
 vl (nilC x3) fun a63 =>
 vl (qac 2 a63) fun a64 =>
 vl (qad H a64) fun a65 =>
 vl (qac 0 x5) fun a66 =>
 vl (qad H a66) fun a67 =>
 vl (nilC a37) fun a68 =>
 vl (qac 0 a68) fun a69 =>
 vl (qad H a69) fun a70 =>
 vl (aggN (qaj [.str 0 0, .str 0 0] [(0, 1, a67), (1, 1, a70)])) fun a71 =>
 vl (qeh ⟨(⟨qcd (eqFields [(p1, ⟨qbj⟩, 0), (p1, ⟨qbj⟩, 1)])⟩ : E2).f, some 2⟩ (.int .i64 (.ofNat 0)) true H a65 a71) fun a72 =>
 vl (extr 0 a72) fun a73 =>
 vl (extr 1 a72) fun a74 =>
 vq ((unS .not).f a74) H fun a75 H =>
 cd a75 (
 dz 0 H fun b76 H =>
 dq false false 0 0 (b76 + 0) H [] [] (fun _ => .val x3) (some true) fun a77 H p w =>
 dq false false 1 1 (b76 + 1) H p w (fun _ => nilC a77) (some true) fun a78 H p w =>
 dq false false 2 3 (b76 + 2) H p w (fun _ => qac 2 a78) (some true) fun a79 H p w =>
 dq true false 3 7 (b76 + 3) H p w (fun H => qad H a79) (some true) fun a80 H p w =>
 dq false false 4 0 (b76 + 4) H p w (fun _ => qac 0 x5) (some true) fun a81 H p w =>
 dq true false 5 16 (b76 + 5) H p w (fun H => qad H a81) (some true) fun a82 H p w =>
 dq false false 6 0 (b76 + 6) H p w (fun _ => .val a37) (some true) fun a83 H p w =>
 dq false false 7 64 (b76 + 7) H p w (fun _ => nilC a83) (some true) fun a84 H p w =>
 dq false false 8 192 (b76 + 8) H p w (fun _ => qac 0 a84) (some true) fun a85 H p w =>
 dq true false 9 448 (b76 + 9) H p w (fun H => qad H a85) (some true) fun a86 H p w =>
 dq false false 10 1008 (b76 + 10) H p w (fun _ => aggN (qaj [.str 0 0, .str 0 0] [(0, 1, a82), (1, 1, a86)])) (some true) fun a87 H p w =>
 dq false false 11 0 (b76 + 11) H p w (fun _ => .val x3) (some true) fun a88 H p w =>
 dq false false 12 2048 (b76 + 12) H p w (fun _ => nilC a88) (some true) fun a89 H p w =>
 dq false false 13 6144 (b76 + 13) H p w (fun _ => qac 3 a89) (some true) fun a90 H p w =>
 dq true false 14 14336 (b76 + 14) H p w (fun H => qad H a90) (some true) fun a91 H p w =>
 dq false false 15 30720 (b76 + 15) H p w (fun _ => lenSl a91) (some true) fun a92 H p w =>
 de 65535 H p w (updV ⟨(⟨qcd (eqFields [(p1, ⟨qbj⟩, 0), (p1, ⟨qbj⟩, 1)])⟩ : E2).f, some 2⟩ (qax 65535 p H) a80 a87 a92) (some true) fun _ H p w =>
 dz2 p H fun H =>
 qp1 call g31 x3 x5 a37 x33 H) (
 qp1 call g31 x3 x5 a37 x33 H)
def qva (call : Ev.Call) (q31e2 : Hp → R1) (x3 x5 x32 : AV) (g31 : AV → Hp → R1) (x33 : AV) (H : Hp) : R1 :=
 vq (intV (qab .lss).f x33 x32) H fun a32 H =>
 cd a32 (
 qp0 call g31 x3 x5 x33 H) (
 q31e2 H)
def qhj (call : Ev.Call) (q31e2 : Hp → R1) (x3 x5 x32 : AV) (n : Nat) : AV → Hp → R1 :=
 Nat.rec (motive := fun _ => AV → Hp → R1) (fun _ _ => .bad) (fun _ ih => qva call q31e2 x3 x5 x32 ih) n
def qvc (call : Ev.Call) (q31e2 : Hp → R1) (x3 x5 x32 : AV) : AV → Hp → R1 := qhj call q31e2 x3 x5 x32 qbg
def qu8 (call : Ev.Call) (g10 : AV → Hp → R1) (x3 x16 x18 : AV) (H : Hp) : R1 :=
 vq (idxS 2 x16 x18) H fun a14 H =>
 vq (qas 2 H a14) H fun a15 H =>
 vq (.new (.ptr H.nx 0) (qaa 0 [.str 0 0, .nilsl])) H fun a16 H =>
 ve (qay 2 H a16 a15) fun _ H =>
 dz 0 H fun b18 H =>
 dq false false 0 0 (b18 + 0) H [] [] (fun _ => .val x3) (some true) fun a19 H p w =>
 dq false false 1 1 (b18 + 1) H p w (fun _ => nilC a19) (some true) fun a20 H p w =>
 dq false false 2 3 (b18 + 2) H p w (fun _ => qac 1 a20) (some true) fun a21 H p w =>
 dq true false 3 7 (b18 + 3) H p w (fun H => qad H a21) (some true) fun a22 H p w =>
 dq false false 4 0 (b18 + 4) H p w (fun _ => qac 0 a16) (some true) fun a23 H p w =>
 dq true false 5 16 (b18 + 5) H p w (fun H => qad H a23) (some true) fun a24 H p w =>
 dq true false 6 63 (b18 + 6) H p w (fun H => qeh ⟨(⟨qbj⟩ : E2).f, none⟩ (.int .i64 (.ofNat 0)) false H a22 a24) (some true) fun a25 H p w =>
 dq false false 7 127 (b18 + 7) H p w (fun _ => intV (qab .add).f a25 (.int .i64 (.ofNat 1))) (some true) fun a26 H p w =>
 de 255 H p w (updV ⟨(⟨qbj⟩ : E2).f, none⟩ (qax 255 p H) a22 a24 a26) (some true) fun _ H p w =>
 dz2 p H fun H =>
 vq (qac 1 a16) H fun a28 H =>
 vq (qad H a28) H fun a29 H =>
 vq (lenSl a29) H fun a30 H =>
 qvc call (fun H => qf1 call g10 x18 H) x3 a16 a30 (.int .i64 (.ofNat 0)) H
def qvb (call : Ev.Call) (q10e0 : Hp → R1) (x3 x16 x17 : AV) (g10 : AV → Hp → R1) (x18 : AV) (H : Hp) : R1 :=
 vq (intV (qab .lss).f x18 x17) H fun a11 H =>
 cd a11 (
 qu8 call g10 x3 x16 x18 H) (
 q10e0 H)
def qdn (call : Ev.Call) (q10e0 : Hp → R1) (x3 x16 x17 : AV) (n : Nat) : AV → Hp → R1 :=
 Nat.rec (motive := fun _ => AV → Hp → R1) (fun _ _ => .bad) (fun _ ih => qvb call q10e0 x3 x16 x17 ih) n
def qvd (call : Ev.Call) (q10e0 : Hp → R1) (x3 x16 x17 : AV) : AV → Hp → R1 := qdn call q10e0 x3 x16 x17 qbg
def zgj (call : Ev.Call) (x0 : AV) (H : Hp) : R1 :=
 vq (boxA 1 H.nx x0) H fun a0 H =>
 vq (qas 1 H a0) H fun a1 H =>
 vq (.new (.map H.nx) (.map [] 0)) H fun a2 H =>
 vq (.new (.map H.nx) (.map [] 0)) H fun a3 H =>
 vq (aggN (qaj [.nilsl, .nilmap, .nilmap, .nilsl, .nilsl] [(0, 1, a1), (1, 1, a2), (2, 1, a3)])) H fun a4 H =>
 vq (boxA 5 H.nx a4) H fun a5 H =>
 vq (qac 0 a0) H fun a7 H =>
 vq (qad H a7) H fun a8 H =>
 vq (lenSl a8) H fun a9 H =>
 qvd call (fun H => qfw call a5 H) a5 a8 a9 (.int .i64 (.ofNat 0)) H
def zBi (call : Ev.Call) (x0 : AV) (H : Hp) : R1 := zgj call x0 H
def zgi (call : Ev.Call) (x0 x1 x2 : AV) (H : Hp) : R1 :=
 vq (box1 H.nx x0) H fun a0 H =>
 vq (boxA 2 H.nx x1) H fun a1 H =>
 vq (box1 H.nx x2) H fun a2 H =>
 dz 9 H fun b3 H =>
 dq true false 0 0 (b3 + 0) H [] [] (fun H => qad H a0) (some true) fun a4 H p w =>
 dq false false 1 1 (b3 + 1) H p w (fun _ => nilC a4) (some true) fun a5 H p w =>
 dq false false 2 3 (b3 + 2) H p w (fun _ => qac 3 a5) (some true) fun a6 H p w =>
 dq true false 3 7 (b3 + 3) H p w (fun H => qad H a6) (some true) fun a7 H p w =>
 dq true false 4 0 (b3 + 4) H p w (fun H => qad H a2) (some true) fun a8 H p w =>
 dq false false 5 31 (b3 + 5) H p w (fun _ => idxS 1 a7 a8) (some true) fun a9 H p w =>
 dq true false 6 63 (b3 + 6) H p w (fun H => qad H a9) (some true) fun a10 H p w =>
 dq false true 7 0 (b3 + 7) H p w (fun _ => .new (.ptr (b3 + 7) 0) (qaa 0 [.nilptr])) (some true) fun a11 H p w =>
 de 255 H p w (qbb (qax 255 p H) a11 a10) (some true) fun _ H p w =>
 dz2 p H fun H =>
 vq (qad H a11) H fun a13 H =>
 vq (nilC a13) H fun a14 H =>
 vq (qac 2 a14) H fun a15 H =>
 vq (qas 4 H a15) H fun a16 H =>
 ve (call (.f qpf) [a16] H) fun a17 H =>
 vq (extr 0 a17) H fun a18 H =>
 vq (extr 1 a17) H fun a19 H =>
 vq (.new (.ptr H.nx 0) (qaa 0 [.nilsl])) H fun a20 H =>
 ve (qbb H a20 a18) fun _ H =>
 vq (.new (.ptr H.nx 0) (qaa 0 [.bool false])) H fun a22 H =>
 ve (qbb H a22 (.bool false)) fun _ H =>
 vq (qco 4 H.nx (qaj (reps [.nilfn] 4) [(0, 1, (.fn qpa [] [a0, a1, a11, a2])), (1, 1, (.fn qo9 [] [a0, a11])), (2, 1, (.fn qo8 [] [a0, a1, a20, a22])), (3, 1, (.fn qo7 [] [a22, a11, a1]))])) H fun a24 H =>
 ve (call (.f qtk) [a24] H) fun a25 H =>
 .ok a25 H
def zBj (call : Ev.Call) (x0 x1 x2 : AV) (H : Hp) : R1 := zgi call x0 x1 x2 H
def qu7 (call : Ev.Call) (x2 x3 : AV) (H : Hp) : R1 :=
 dz 0 H fun b6 H =>
 dq true false 0 0 (b6 + 0) H [] [] (fun H => qad H x2) (some true) fun a7 H p w =>
 dq true false 2 0 (b6 + 2) H p w (fun H => qad H x3) (some true) fun a8 H p w =>
 de 1 H p w (call (.f q0x) [a7] (qax 1 p H)) (some true) fun a9 H p w =>
 de 3 H p w (qbb (qax 3 p H) x2 a9) (some true) fun _ H p w =>
 de 15 H p w (qbb (qax 15 p H) x3 a8) (some true) fun _ H p w =>
 dq false false 5 31 (b6 + 5) H p w (fun _ => .val (.int .i64 (.ofNat 0))) (some true) fun a12 H p w =>
 dz2 p H fun H =>
 finR (tupO (qb3 (rV (qad H x2)) (qb3 (rV (qad H x3)) (qb3 (some a12) (some []))))) H
def qu6 (call : Ev.Call) (x2 x3 x5 : AV) (H : Hp) : R1 :=
 vq (qad H x5) H fun a14 H =>
 vq (intV (qab .neq).f a14 (.int .i64 (.ofNat 0))) H fun a15 H =>
 cd a15 (
 dz 0 H fun b16 H =>
 dq true false 0 0 (b16 + 0) H [] [] (fun H => qad H x5) (some true) fun a17 H p w =>
 de 0 H p w (qbb (qax 0 p H) x2 (.nilsl)) (some true) fun _ H p w =>
 de 2 H p w (qbb (qax 2 p H) x3 (.int .i64 (.ofNat 0))) (some true) fun _ H p w =>
 dq false false 3 7 (b16 + 3) H p w (fun _ => .val a17) (some true) fun a20 H p w =>
 dz2 p H fun H =>
 finR (tupO (qb3 (rV (qad H x2)) (qb3 (rV (qad H x3)) (qb3 (some a20) (some []))))) H) (
 qu7 call x2 x3 H)
def zgh (call : Ev.Call) (x0 : AV) (H : Hp) : R1 :=
 vq (.new (.ptr H.nx 0) (qaa 0 [.nilsl])) H fun a0 H =>
 vq (.new (.ptr H.nx 0) (qaa 0 [.int .i64 (.ofNat 0)])) H fun a1 H =>
 vq (.new (.ptr H.nx 0) (qaa 0 [.int .i64 (.ofNat 0)])) H fun a2 H =>
 ve (qbb H a2 (.int .i64 (.ofNat 0))) fun _ H =>
 vq (.new (.ptr H.nx 0) (qaa 0 [.nilfn])) H fun a4 H =>
 ve (qbb H a4 (.fn qka [] [a0, a1, a2, a4])) fun _ H =>
 vq (qad H a4) H fun a22 H =>
 ve (qjt call a22 [x0, (.int .i64 (.ofNat 1)), (.bool false)] H) fun a23 H =>
 vq ((unS .not).f a23) H fun a24 H =>
 cd a24 (
 ve (qbb H a0 (.nilsl)) fun _ H =>
 ve (qbb H a1 (.int .i64 (.ofNat 0))) fun _ H =>
 finR (tupO (qb3 (rV (qad H a0)) (qb3 (rV (qad H a1)) (qb3 (some (.int .i64 (.ofNat 3))) (some []))))) H) (
 qu6 call a0 a1 a2 H)
def zBk (call : Ev.Call) (x0 : AV) (H : Hp) : R1 := zgh call x0 H
def qu5 (call : Ev.Call) (x0 x7 : AV) (H : Hp) : R1 :=
 vq (nilC x0) H fun a7 H =>
 vq (qac 3 a7) H fun a8 H =>
 vq (qad H a8) H fun a9 H =>
 vq (idxS 1 a9 x7) H fun a10 H =>
 vq (qad H a10) H fun a11 H =>
 .ok a11 H
def zbg (call : Ev.Call) (x0 x1 x2 : AV) (H : Hp) : R1 :=
 vq (nilC x0) H fun a0 H =>
 vq (qac 2 a0) H fun a1 H =>
 vq (qad H a1) H fun a2 H =>
 vq (aggN (qaj [.str 0 0, .str 0 0] [(0, 1, x1), (1, 1, x2)])) H fun a3 H =>
 vq (qeh ⟨(⟨qcd (eqFields [(p1, ⟨qbj⟩, 0), (p1, ⟨qbj⟩, 1)])⟩ : E2).f, some 2⟩ (.int .i64 (.ofNat 0)) true H a2 a3) H fun a4 H =>
 vq (extr 0 a4) H fun a5 H =>
 vq (extr 1 a4) H fun a6 H =>
 vq ((unS .not).f a6) H fun a13 H =>
 cd a13 (
 .ok (.nilptr) H) (
 qu5 call x0 a5 H)
def zBl (call : Ev.Call) (x0 x1 x2 : AV) (H : Hp) : R1 := zbg call x0 x1 x2 H
def qj0 (call : Ev.Call) (x9 : AV) (H : Hp) : R1 :=
 ve (call (.f q0w) [x9] H) fun a0 H =>
 .ok a0 H
def qi0 (call : Ev.Call) (g8 : AV → AV → Hp → R1) (x9 x24 : AV) (H : Hp) : R1 :=
 vq (intV (qab .add).f x24 (.int .i64 (.ofNat 1))) H fun a10 H =>
 g8 x9 a10 H
def qu4 (call : Ev.Call) (g8 : AV → AV → Hp → R1) (x0 x3 x9 x22 x24 : AV) (H : Hp) : R1 :=
 vq (idxS 2 x22 x24) H fun a12 H =>
 vq (qas 2 H a12) H fun a13 H =>
 vq (.new (.ptr H.nx 0) (qaa 0 [.str 0 0, .str 0 0])) H fun a14 H =>
 ve (qay 2 H a14 a13) fun _ H =>
 vq (qac 1 a14) H fun a16 H =>
 vq (qad H a16) H fun a17 H =>
 vq (strV (qcb .eql).f a17 (.str 0 0)) H fun a18 H =>
 vg (qae true a18) (.val x0) H fun a19 H =>
 vg (qae true a18) (qac 0 a14) H fun a20 H =>
 vg (qae true a18) (qad H a20) H fun a21 H =>
 vg (qae true a18) (.val x3) H fun a22 H =>
 veg (qae true a18) (call (.f qg9) [a19, a21, a22] H) H fun a23 H =>
 vg (qae true a18) (qdy true ((⟨E2.f ⟨qmz⟩⟩ : E2).f a23 (.nilptr))) H fun a24 H =>
 vq (qbf a18 a24 (.bool false)) H fun a25 H =>
 cd a25 (
 vq (qac 0 a14) H fun a26 H =>
 vq (qad H a26) H fun a27 H =>
 vq (qco 1 H.nx (qaj (reps [.str 0 0] 1) [(0, 1, a27)])) H fun a28 H =>
 ve (qa2 1 16 H x9 (qbp 1 H a28)) fun a29 H =>
 qi0 call g8 a29 x24 H) (
 qi0 call g8 x9 x24 H)
def q5d (call : Ev.Call) (q8e0 : AV → Hp → R1) (x0 x3 x22 x23 : AV) (g8 : AV → AV → Hp → R1) (x9 x24 : AV) (H : Hp) : R1 :=
 vq (intV (qab .lss).f x24 x23) H fun a9 H =>
 cd a9 (
 qu4 call g8 x0 x3 x9 x22 x24 H) (
 q8e0 x9 H)
def qk7 (call : Ev.Call) (q8e0 : AV → Hp → R1) (x0 x3 x22 x23 : AV) (n : Nat) : AV → AV → Hp → R1 :=
 Nat.rec (motive := fun _ => AV → AV → Hp → R1) (fun _ _ _ => .bad) (fun _ ih => q5d call q8e0 x0 x3 x22 x23 ih) n
def q5e (call : Ev.Call) (q8e0 : AV → Hp → R1) (x0 x3 x22 x23 : AV) : AV → AV → Hp → R1 := qk7 call q8e0 x0 x3 x22 x23 qbg
def zgg (call : Ev.Call) (x0 x1 x2 x3 : AV) (H : Hp) : R1 :=
 ve (call (.f qg9) [x0, x1, x2] H) fun a2 H =>
 vq (qdy true ((⟨E2.f ⟨qmz⟩⟩ : E2).f a2 (.nilptr))) H fun a3 H =>
 cd a3 (
 vq (nilC a2) H fun a4 H =>
 vq (qac 1 a4) H fun a5 H =>
 vq (qad H a5) H fun a6 H =>
 vq (lenSl a6) H fun a7 H =>
 q5e call (fun x9 H => qj0 call x9 H) x0 x3 a6 a7 (.nilsl) (.int .i64 (.ofNat 0)) H) (
 qj0 call (.nilsl) H)
def zBm (call : Ev.Call) (x0 x1 x2 x3 : AV) (H : Hp) : R1 := zgg call x0 x1 x2 x3 H
def qk6 (call : Ev.Call) (x0 : AV) (H : Hp) : R1 :=
 .ok x0 H
def q49 (call : Ev.Call) (g1 : AV → Hp → R1) (x3 : AV) (H : Hp) : R1 :=
 vq (intV (qab .add).f x3 (.int .i64 (.ofNat 1))) H fun a2 H =>
 g1 a2 H
def qf0 (call : Ev.Call) (q1r : AV → Hp → R1) (x0 x3 : AV) (H : Hp) : R1 :=
 vq (qbq 3 x0 (some x3) none none) H fun a11 H =>
 ve (qm7 [.int .i64 (.ofNat 0), .int .i64 (.ofNat 0), .bool false] H a11) fun _ H =>
 vq (qbq 3 x0 none (some x3) none) H fun a13 H =>
 q1r a13 H
def qk5 (call : Ev.Call) (g15 : AV → AV → Hp → R1) (x3 x5 : AV) (H : Hp) : R1 :=
 vq (intV (qab .add).f x5 (.int .i64 (.ofNat 1))) H fun a16 H =>
 g15 x3 a16 H
def qu1 (call : Ev.Call) (g15 : AV → AV → Hp → R1) (x0 x3 x4 x5 : AV) (H : Hp) : R1 :=
 vl (idxS 3 x4 x5) fun a18 =>
 vl (qas 3 H a18) fun a19 =>
 vl (intV (qab .sub).f x5 (.int .i64 (.ofNat 1))) fun a20 =>
 vl (idxS 3 x4 a20) fun a21 =>
 vl (qas 3 H a21) fun a22 =>
 vl (qdy true ((⟨E2.f ⟨qcd (eqFields [(p1, ⟨qkf⟩, 0), (p1, ⟨qkf⟩, 1), (p1, ⟨qet⟩, 2)])⟩⟩ : E2).f a19 a22)) fun a23 =>
 cd a23 (
 vq (idxS 3 x4 x5) H fun a24 H =>
 vq (qas 3 H a24) H fun a25 H =>
 vq (idxS 3 x0 x3) H fun a26 H =>
 ve (qay 3 H a26 a25) fun _ H =>
 vq (intV (qab .add).f x3 (.int .i64 (.ofNat 1))) H fun a28 H =>
 qk5 call g15 a28 x5 H) (
 qk5 call g15 x3 x5 H)
def qu2 (call : Ev.Call) (q15e2 : AV → Hp → R1) (x0 x4 : AV) (g15 : AV → AV → Hp → R1) (x3 x5 : AV) (H : Hp) : R1 :=
 vq (lenSl x4) H fun a30 H =>
 vq (intV (qab .lss).f x5 a30) H fun a31 H =>
 cd a31 (
 qu1 call g15 x0 x3 x4 x5 H) (
 q15e2 x3 H)
def qhi (call : Ev.Call) (q15e2 : AV → Hp → R1) (x0 x4 : AV) (n : Nat) : AV → AV → Hp → R1 :=
 Nat.rec (motive := fun _ => AV → AV → Hp → R1) (fun _ _ _ => .bad) (fun _ ih => qu2 call q15e2 x0 x4 ih) n
def qu3 (call : Ev.Call) (q15e2 : AV → Hp → R1) (x0 x4 : AV) : AV → AV → Hp → R1 := qhi call q15e2 x0 x4 qbg
def qu0 (call : Ev.Call) (q1r : AV → Hp → R1) (g1 : AV → Hp → R1) (x0 x3 : AV) (H : Hp) : R1 :=
 vl (idxS 3 x0 x3) fun a4 =>
 vl (qas 3 H a4) fun a5 =>
 vl (intV (qab .sub).f x3 (.int .i64 (.ofNat 1))) fun a6 =>
 vl (idxS 3 x0 a6) fun a7 =>
 vl (qas 3 H a7) fun a8 =>
 vl (qdy false ((⟨E2.f ⟨qcd (eqFields [(p1, ⟨qkf⟩, 0), (p1, ⟨qkf⟩, 1), (p1, ⟨qet⟩, 2)])⟩⟩ : E2).f a5 a8)) fun a9 =>
 cd a9 (
 vq (qbq 3 x0 (some x3) none none) H fun a10 H =>
 qu3 call (fun x3 H => qf0 call q1r x0 x3 H) x0 a10 x3 (.int .i64 (.ofNat 1)) H) (
 q49 call g1 x3 H)
def q5b (call : Ev.Call) (q1r : AV → Hp → R1) (q1e0 : Hp → R1) (x0 : AV) (g1 : AV → Hp → R1) (x3 : AV) (H : Hp) : R1 :=
 vq (lenSl x0) H fun a33 H =>
 vq (intV (qab .lss).f x3 a33) H fun a34 H =>
 cd a34 (
 qu0 call q1r g1 x0 x3 H) (
 q1e0 H)
def qnw (call : Ev.Call) (q1r : AV → Hp → R1) (q1e0 : Hp → R1) (x0 : AV) (n : Nat) : AV → Hp → R1 :=
 Nat.rec (motive := fun _ => AV → Hp → R1) (fun _ _ => .bad) (fun _ ih => q5b call q1r q1e0 x0 ih) n
def q5c (call : Ev.Call) (q1r : AV → Hp → R1) (q1e0 : Hp → R1) (x0 : AV) : AV → Hp → R1 := qnw call q1r q1e0 x0 qbg
def quz (call : Ev.Call) (x0 : AV) (H : Hp) : R1 :=
 q5c call (fun x2 H => .ok x2 H) (fun H => qk6 call x0 H) x0 (.int .i64 (.ofNat 1)) H
def q5a (call : Ev.Call) (x0 : AV) (H : Hp) : R1 :=
 vq (lenSl x0) H fun a36 H =>
 vq (intV (qab .lss).f a36 (.int .i64 (.ofNat 2))) H fun a37 H =>
 cd a37 (
 .ok x0 H) (
 quz call x0 H)
def zBo (call : Ev.Call) (x0 : AV) (H : Hp) : R1 := q5a call x0 H
def zbc (call : Ev.Call) (x0 : AV) (H : Hp) : R1 :=
 vq (lenSl x0) H fun a0 H =>
 vq (lenSl x0) H fun a1 H =>
 vq (qbq 3 x0 none (some a0) (some a1)) H fun a2 H =>
 .ok a2 H
def zBp (call : Ev.Call) (x0 : AV) (H : Hp) : R1 := zbc call x0 H
def q48 (call : Ev.Call) (H : Hp) : R1 :=
 .ok (.int .i64 (.ofNat 0)) H
def q47 (call : Ev.Call) (x0 x1 : AV) (H : Hp) : R1 :=
 vq (intV (qab .gtr).f x0 x1) H fun a3 H =>
 cd a3 (
 .ok (.int .i64 (.ofNat 1)) H) (
 q48 call H)
def q46 (call : Ev.Call) (x0 x1 : AV) (H : Hp) : R1 :=
 vq (intV (qab .lss).f x0 x1) H fun a5 H =>
 cd a5 (
 .ok (.int .i64 (.negSucc 0)) H) (
 q47 call x0 x1 H)
def q45 (call : Ev.Call) (x0 x1 x6 : AV) (H : Hp) : R1 :=
 cd x6 (
 .ok (.int .i64 (.ofNat 1)) H) (
 q46 call x0 x1 H)
def ze3 (call : Ev.Call) (H : Hp) : R1 :=
 .ok (.int .i64 (.negSucc 0)) H
def zgf (call : Ev.Call) (x0 x1 : AV) (H : Hp) : R1 :=
 ve (call (.f qtj) [x0] H) fun a0 H =>
 ve (call (.f qtj) [x1] H) fun a1 H =>
 cd a0 (
 cd a1 (
 .ok (.int .i64 (.ofNat 0)) H) (
 ze3 call H)) (
 q45 call x0 x1 a1 H)
def zBq (call : Ev.Call) (x0 x1 : AV) (H : Hp) : R1 := zgf call x0 x1 H
def q44 (call : Ev.Call) (H : Hp) : R1 :=
 .ok (.int .i64 (.ofNat 0)) H
def zge (call : Ev.Call) (x0 : AV) (H : Hp) : R1 :=
 vq (boxA 3 H.nx x0) H fun a0 H =>
 vq (qac 2 a0) H fun a2 H =>
 vq (qad H a2) H fun a3 H =>
 cd a3 (
 .ok (.int .i64 (.ofNat 1)) H) (
 q44 call H)
def zBr (call : Ev.Call) (x0 : AV) (H : Hp) : R1 := zge call x0 H
def qk4 (call : Ev.Call) (x3 : AV) (H : Hp) : R1 :=
 .ok x3 H
def q41 (call : Ev.Call) (g2 : AV → Hp → R1) (x8 : AV) (H : Hp) : R1 :=
 vq (intV (qab .add).f x8 (.int .i64 (.ofNat 1))) H fun a4 H =>
 g2 a4 H
def q40 (call : Ev.Call) (q2r : AV → Hp → R1) (g2 : AV → Hp → R1) (x3 x6 x8 : AV) (H : Hp) : R1 :=
 vq (idxS 1 x6 x8) H fun a6 H =>
 vq (qad H a6) H fun a7 H =>
 vq (intV (qab .neq).f a7 x3) H fun a8 H =>
 cd a8 (
 q2r a7 H) (
 q41 call g2 x8 H)
def q42 (call : Ev.Call) (q2r : AV → Hp → R1) (q2e0 : Hp → R1) (x3 x6 x7 : AV) (g2 : AV → Hp → R1) (x8 : AV) (H : Hp) : R1 :=
 vq (intV (qab .lss).f x8 x7) H fun a3 H =>
 cd a3 (
 q40 call q2r g2 x3 x6 x8 H) (
 q2e0 H)
def qnv (call : Ev.Call) (q2r : AV → Hp → R1) (q2e0 : Hp → R1) (x3 x6 x7 : AV) (n : Nat) : AV → Hp → R1 :=
 Nat.rec (motive := fun _ => AV → Hp → R1) (fun _ _ => .bad) (fun _ ih => q42 call q2r q2e0 x3 x6 x7 ih) n
def q43 (call : Ev.Call) (q2r : AV → Hp → R1) (q2e0 : Hp → R1) (x3 x6 x7 : AV) : AV → Hp → R1 := qnv call q2r q2e0 x3 x6 x7 qbg
def zgd (call : Ev.Call) (x0 : AV) (H : Hp) : R1 :=
 vq (lenSl x0) H fun a1 H =>
 q43 call (fun x2 H => .ok x2 H) (fun H => qk4 call (.int .i64 (.ofNat 0)) H) (.int .i64 (.ofNat 0)) x0 a1 (.int .i64 (.ofNat 0)) H
def zBs (call : Ev.Call) (x0 : AV) (H : Hp) : R1 := zgd call x0 H
def zgc (call : Ev.Call) (x0 x1 x2 : AV) (H : Hp) : R1 :=
 ve (call (.f qha) [x1] H) fun a0 H =>
 ve (call (.f qha) [x0] H) fun a1 H =>
 vq (intV (qab .lss).f a0 a1) H fun a2 H =>
 vg (qae false a2) (.val x2) H fun a3 H =>
 vg (qae false a2) ((unS .not).f a3) H fun a4 H =>
 vg (qae false a2) (.val a4) H fun a5 H =>
 vg (qae true a5) (.val x1) H fun a6 H =>
 veg (qae true a5) (call (.f qha) [a6] H) H fun a7 H =>
 vg (qae true a5) (.val x0) H fun a8 H =>
 veg (qae true a5) (call (.f qha) [a8] H) H fun a9 H =>
 vg (qae true a5) (intV (qab .eql).f a7 a9) H fun a10 H =>
 vg (qae false a2) (qbf a5 a10 (.bool false)) H fun a11 H =>
 vq (qbf a2 (.bool true) a11) H fun a12 H =>
 .ok a12 H
def zBt (call : Ev.Call) (x0 x1 x2 : AV) (H : Hp) : R1 := zgc call x0 x1 x2 H
def qk3 (call : Ev.Call) (x1 : AV) (H : Hp) : R1 :=
 vq (qac 2 x1) H fun a1 H =>
 vq (qas 4 H a1) H fun a2 H =>
 ve (call (.f q0v) [a2] H) fun a3 H =>
 .ok a3 H
def qpz (call : Ev.Call) (g8 : AV → Hp → R1) (x18 : AV) (H : Hp) : R1 :=
 vq (intV (qab .add).f x18 (.int .i64 (.ofNat 1))) H fun a10 H =>
 g8 a10 H
def quy (call : Ev.Call) (q8r : AV → Hp → R1) (g8 : AV → Hp → R1) (x16 x18 : AV) (H : Hp) : R1 :=
 vq (idxS 2 x16 x18) H fun a12 H =>
 vq (qas 2 H a12) H fun a13 H =>
 vq (.new (.ptr H.nx 0) (qaa 0 [.str 0 0, .str 0 0])) H fun a14 H =>
 ve (qay 2 H a14 a13) fun _ H =>
 vq (qac 0 a14) H fun a16 H =>
 vq (qad H a16) H fun a17 H =>
 ve (call (.f qtl) [a17] H) fun a18 H =>
 vq ((unS .not).f a18) H fun a19 H =>
 vg (qae false a19) (qac 1 a14) H fun a20 H =>
 vg (qae false a19) (qad H a20) H fun a21 H =>
 vg (qae false a19) (strV (qcb .neq).f a21 (.str 0 0)) H fun a22 H =>
 vg (qae false a19) (.val a22) H fun a23 H =>
 vg (qae true a23) (qac 1 a14) H fun a24 H =>
 vg (qae true a23) (qad H a24) H fun a25 H =>
 veg (qae true a23) (call (.f qtl) [a25] H) H fun a26 H =>
 vg (qae true a23) ((unS .not).f a26) H fun a27 H =>
 vg (qae false a19) (qbf a23 a27 (.bool false)) H fun a28 H =>
 vq (qbf a19 (.bool true) a28) H fun a29 H =>
 cd a29 (
 q8r (.int .i64 (.ofNat 6)) H) (
 qpz call g8 x18 H)
def q4x (call : Ev.Call) (q8r : AV → Hp → R1) (q8e1 : Hp → R1) (x16 x17 : AV) (g8 : AV → Hp → R1) (x18 : AV) (H : Hp) : R1 :=
 vq (intV (qab .lss).f x18 x17) H fun a9 H =>
 cd a9 (
 quy call q8r g8 x16 x18 H) (
 q8e1 H)
def qnu (call : Ev.Call) (q8r : AV → Hp → R1) (q8e1 : Hp → R1) (x16 x17 : AV) (n : Nat) : AV → Hp → R1 :=
 Nat.rec (motive := fun _ => AV → Hp → R1) (fun _ _ => .bad) (fun _ ih => q4x call q8r q8e1 x16 x17 ih) n
def q4y (call : Ev.Call) (q8r : AV → Hp → R1) (q8e1 : Hp → R1) (x16 x17 : AV) : AV → Hp → R1 := qnu call q8r q8e1 x16 x17 qbg
def qux (call : Ev.Call) (x1 : AV) (H : Hp) : R1 :=
 vq (qac 1 x1) H fun a5 H =>
 vq (qad H a5) H fun a6 H =>
 vq (lenSl a6) H fun a7 H =>
 q4y call (fun x2 H => .ok x2 H) (fun H => qk3 call x1 H) a6 a7 (.int .i64 (.ofNat 0)) H
def zgb (call : Ev.Call) (x0 : AV) (H : Hp) : R1 :=
 vq (boxA 6 H.nx x0) H fun a0 H =>
 vq (qac 0 a0) H fun a32 H =>
 vq (qad H a32) H fun a33 H =>
 ve (call (.f qtl) [a33] H) fun a34 H =>
 vq ((unS .not).f a34) H fun a35 H =>
 cd a35 (
 .ok (.int .i64 (.ofNat 6)) H) (
 vq (qac 1 a0) H fun a36 H =>
 vq (qad H a36) H fun a37 H =>
 vq (lenSl a37) H fun a38 H =>
 vq (intV (qab .gtr).f a38 (.int .i64 (.ofNat 8))) H fun a39 H =>
 cd a39 (
 .ok (.int .i64 (.ofNat 3)) H) (
 qux call a0 H))
def zBv (call : Ev.Call) (x0 : AV) (H : Hp) : R1 := zgb call x0 H
def q4w (call : Ev.Call) (H : Hp) : R1 :=
 .ok (.int .i64 (.ofNat 0)) H
def zga (call : Ev.Call) (x0 x1 x2 x3 : AV) (H : Hp) : R1 :=
 vl (qad H x0) fun a1 =>
 vl (nilC a1) fun a2 =>
 vl (qac 2 a2) fun a3 =>
 vl (qad H a3) fun a4 =>
 vl (qac 0 x1) fun a5 =>
 vl (qad H a5) fun a6 =>
 vl (qad H x2) fun a7 =>
 vl (nilC a7) fun a8 =>
 vl (qac 0 a8) fun a9 =>
 vl (qad H a9) fun a10 =>
 vl (aggN (qaj [.str 0 0, .str 0 0] [(0, 1, a6), (1, 1, a10)])) fun a11 =>
 vl (qeh ⟨(⟨qcd (eqFields [(p1, ⟨qbj⟩, 0), (p1, ⟨qbj⟩, 1)])⟩ : E2).f, some 2⟩ (.int .i64 (.ofNat 0)) false H a4 a11) fun a12 =>
 vl (qad H x3) fun a13 =>
 vl (intV (qab .neq).f a12 a13) fun a14 =>
 cd a14 (
 .ok (.int .i64 (.ofNat 7)) H) (
 q4w call H)
def zBw (call : Ev.Call) (x0 x1 x2 x3 : AV) (H : Hp) : R1 := zga call x0 x1 x2 x3 H
def zf9 (call : Ev.Call) (x0 x1 : AV) (H : Hp) : R1 :=
 vq (qad H x0) H fun a0 H =>
 vq (qad H x1) H fun a1 H =>
 ve (call (.f q0u) [a0, a1] H) fun a2 H =>
 .ok a2 H
def zBx (call : Ev.Call) (x0 x1 : AV) (H : Hp) : R1 := zf9 call x0 x1 H
def zf8 (call : Ev.Call) (x0 x1 x2 x3 : AV) (H : Hp) : R1 :=
 vq (qad H x0) H fun a0 H =>
 vq (qac 0 x1) H fun a1 H =>
 vq (qad H a1) H fun a2 H =>
 vq (qad H x2) H fun a3 H =>
 ve (call (.f q0t) [a0, a2, a3] H) fun a4 H =>
 vq (extr 0 a4) H fun a5 H =>
 vq (extr 1 a4) H fun a6 H =>
 ve (qbb H x3 a5) fun _ H =>
 .ok a6 H
def zBy (call : Ev.Call) (x0 x1 x2 x3 : AV) (H : Hp) : R1 := zf8 call x0 x1 x2 x3 H
def qr4 (call : Ev.Call) (H : Hp) : R1 :=
 .ok (.int .i64 (.ofNat 0)) H
def zf7 (call : Ev.Call) (x0 x1 x2 : AV) (H : Hp) : R1 :=
 dz 0 H fun b1 H =>
 dq true false 0 0 (b1 + 0) H [] [] (fun H => qad H x0) (some true) fun a2 H p w =>
 dq false false 1 1 (b1 + 1) H p w (fun _ => .val a2) (some true) fun a3 H p w =>
 dq true false 2 3 (b1 + 2) H p w (fun H => qad H x1) (qae true a3) fun a4 H p w =>
 dq false false 3 7 (b1 + 3) H p w (fun _ => nilC a4) (qae true a3) fun a5 H p w =>
 dq false false 4 15 (b1 + 4) H p w (fun _ => qac 1 a5) (qae true a3) fun a6 H p w =>
 dq true false 5 31 (b1 + 5) H p w (fun H => qad H a6) (qae true a3) fun a7 H p w =>
 dq false false 6 63 (b1 + 6) H p w (fun _ => lenSl a7) (qae true a3) fun a8 H p w =>
 dq false false 7 127 (b1 + 7) H p w (fun _ => intV (qab .eql).f a8 (.int .i64 (.ofNat 0))) (qae true a3) fun a9 H p w =>
 dq false false 8 255 (b1 + 8) H p w (fun _ => qbf a3 a9 (.bool false)) (some true) fun a10 H p w =>
 dq false false 9 511 (b1 + 9) H p w (fun _ => .val a10) (some true) fun a11 H p w =>
 dq true false 10 1023 (b1 + 10) H p w (fun H => qad H x0) (qae false a11) fun a12 H p w =>
 dq false false 11 2047 (b1 + 11) H p w (fun _ => (unS .not).f a12) (qae false a11) fun a13 H p w =>
 dq false false 12 4095 (b1 + 12) H p w (fun _ => .val a13) (qae false a11) fun a14 H p w =>
 dq true false 13 8191 (b1 + 13) H p w (fun H => qad H x1) (qae true a14) fun a15 H p w =>
 dq false false 14 16383 (b1 + 14) H p w (fun _ => nilC a15) (qae true a14) fun a16 H p w =>
 dq false false 15 32767 (b1 + 15) H p w (fun _ => qac 1 a16) (qae true a14) fun a17 H p w =>
 dq true false 16 65535 (b1 + 16) H p w (fun H => qad H a17) (qae true a14) fun a18 H p w =>
 dq false false 17 131071 (b1 + 17) H p w (fun _ => lenSl a18) (qae true a14) fun a19 H p w =>
 dq false false 18 262143 (b1 + 18) H p w (fun _ => intV (qab .gtr).f a19 (.int .i64 (.ofNat 0))) (qae true a14) fun a20 H p w =>
 dq false false 19 524287 (b1 + 19) H p w (fun _ => qbf a14 a20 (.bool false)) (qae false a11) fun a21 H p w =>
 dq false false 20 1048575 (b1 + 20) H p w (fun _ => .val a21) (qae false a11) fun a22 H p w =>
 dq true false 21 2097151 (b1 + 21) H p w (fun H => qas 2 H x2) (qae true a22) fun a23 H p w =>
 dq true false 22 2097151 (b1 + 22) H p w (fun H => qad H x1) (qae true a22) fun a24 H p w =>
 dq false false 23 6291455 (b1 + 23) H p w (fun _ => nilC a24) (qae true a22) fun a25 H p w =>
 dq false false 24 14680063 (b1 + 24) H p w (fun _ => qac 0 a25) (qae true a22) fun a26 H p w =>
 dq true false 25 31457279 (b1 + 25) H p w (fun H => qad H a26) (qae true a22) fun a27 H p w =>
 de 67108863 H p w (call (.f q0s) [a23, a27] (qax 67108863 p H)) (qae true a22) fun a28 H p w =>
 dq false false 27 134217727 (b1 + 27) H p w (fun _ => (unS .not).f a28) (qae true a22) fun a29 H p w =>
 dq false false 28 268435455 (b1 + 28) H p w (fun _ => qbf a22 a29 (.bool false)) (qae false a11) fun a30 H p w =>
 dq false false 29 536870911 (b1 + 29) H p w (fun _ => qbf a11 (.bool true) a30) (some true) fun a31 H p w =>
 dz2 p H fun H =>
 cd a31 (
 .ok (.int .i64 (.ofNat 11)) H) (
 qr4 call H)
def zBz (call : Ev.Call) (x0 x1 x2 : AV) (H : Hp) : R1 := zf7 call x0 x1 x2 H
def qk1 (call : Ev.Call) (H : Hp) : R1 :=
 .ok (.int .i64 (.ofNat 0)) H
def qnt (call : Ev.Call) (g2 : AV → Hp → R1) (x8 : AV) (H : Hp) : R1 :=
 vq (intV (qab .add).f x8 (.int .i64 (.ofNat 1))) H fun a4 H =>
 g2 a4 H
def qiz (call : Ev.Call) (q2r : AV → Hp → R1) (g2 : AV → Hp → R1) (x6 x8 : AV) (H : Hp) : R1 :=
 vq (idxS 1 x6 x8) H fun a6 H =>
 vq (qad H a6) H fun a7 H =>
 ve (qjt call a7 [] H) fun a8 H =>
 vq (intV (qab .neq).f a8 (.int .i64 (.ofNat 0))) H fun a9 H =>
 cd a9 (
 q2r a8 H) (
 qnt call g2 x8 H)
def qk2 (call : Ev.Call) (q2r : AV → Hp → R1) (q2e0 : Hp → R1) (x6 x7 : AV) (g2 : AV → Hp → R1) (x8 : AV) (H : Hp) : R1 :=
 vq (intV (qab .lss).f x8 x7) H fun a3 H =>
 cd a3 (
 qiz call q2r g2 x6 x8 H) (
 q2e0 H)
def qns (call : Ev.Call) (q2r : AV → Hp → R1) (q2e0 : Hp → R1) (x6 x7 : AV) (n : Nat) : AV → Hp → R1 :=
 Nat.rec (motive := fun _ => AV → Hp → R1) (fun _ _ => .bad) (fun _ ih => qk2 call q2r q2e0 x6 x7 ih) n
def q4v (call : Ev.Call) (q2r : AV → Hp → R1) (q2e0 : Hp → R1) (x6 x7 : AV) : AV → Hp → R1 := qns call q2r q2e0 x6 x7 qbg
def zf6 (call : Ev.Call) (x0 : AV) (H : Hp) : R1 :=
 vq (lenSl x0) H fun a1 H =>
 q4v call (fun x2 H => .ok x2 H) (fun H => qk1 call H) x0 a1 (.int .i64 (.ofNat 0)) H
def zCa (call : Ev.Call) (x0 : AV) (H : Hp) : R1 := zf6 call x0 H
def qe0 (call : Ev.Call) (x3 x11 x12 : AV) (H : Hp) : R1 :=
 dz 0 H fun b24 H =>
 dq true false 0 0 (b24 + 0) H [] [] (fun H => qad H x3) (some true) fun a25 H p w =>
 dq false false 1 0 (b24 + 1) H p w (fun _ => .val x11) (some true) fun a26 H p w =>
 dq false false 2 0 (b24 + 2) H p w (fun _ => .val x12) (some true) fun a27 H p w =>
 de 4 H p w (call (.f q0q) [a27] (qax 4 p H)) (some true) fun a28 H p w =>
 dq false false 4 15 (b24 + 4) H p w (fun _ => idxS 5 a25 a26) (some true) fun a29 H p w =>
 dq false false 5 31 (b24 + 5) H p w (fun _ => qac 3 a29) (some true) fun a30 H p w =>
 de 63 H p w (qbb (qax 63 p H) a30 a28) (some true) fun _ H p w =>
 dz2 p H fun H =>
 .ok (.bool true) H
def qkz (call : Ev.Call) (g37 : AV → AV → Hp → R1) (x12 x52 : AV) (H : Hp) : R1 :=
 vq (intV (qab .add).f x52 (.int .i64 (.ofNat 1))) H fun a39 H =>
 g37 x12 a39 H
def qpy (call : Ev.Call) (q37r : AV → Hp → R1) (g37 : AV → AV → Hp → R1) (x0 x1 x2 x3 x6 x12 x52 : AV) (H : Hp) : R1 :=
 vq (qad H x3) H fun a41 H =>
 vq (lenSl a41) H fun a42 H =>
 vq (qco 1 H.nx (qaj (reps [.int .i64 (.ofNat 0)] 1) [(0, 1, a42)])) H fun a43 H =>
 ve (qa2 1 8 H x12 (qbp 1 H a43)) fun a44 H =>
 dz 0 H fun b45 H =>
 dq true false 0 0 (b45 + 0) H [] [] (fun H => qad H x6) (some true) fun a46 H p w =>
 dq false false 1 0 (b45 + 1) H p w (fun _ => .val x0) (some true) fun a47 H p w =>
 dq false false 2 2 (b45 + 2) H p w (fun _ => nilC a47) (some true) fun a48 H p w =>
 dq false false 3 6 (b45 + 3) H p w (fun _ => qac 3 a48) (some true) fun a49 H p w =>
 dq true false 4 14 (b45 + 4) H p w (fun H => qad H a49) (some true) fun a50 H p w =>
 dq false false 5 0 (b45 + 5) H p w (fun _ => .val x52) (some true) fun a51 H p w =>
 dq false false 6 62 (b45 + 6) H p w (fun _ => idxS 4 a50 a51) (some true) fun a52 H p w =>
 dq false false 7 0 (b45 + 7) H p w (fun _ => .val x1) (some true) fun a53 H p w =>
 dq false false 8 128 (b45 + 8) H p w (fun _ => intV (qab .add).f a53 (.int .i64 (.ofNat 1))) (some true) fun a54 H p w =>
 dq false false 9 0 (b45 + 9) H p w (fun _ => .val x2) (some true) fun a55 H p w =>
 dq false false 10 512 (b45 + 10) H p w (fun _ => .val a55) (some true) fun a56 H p w =>
 dq false false 11 1536 (b45 + 11) H p w (fun _ => .val x0) (qae false a56) fun a57 H p w =>
 dq false false 12 3584 (b45 + 12) H p w (fun _ => nilC a57) (qae false a56) fun a58 H p w =>
 dq false false 13 7680 (b45 + 13) H p w (fun _ => qac 0 a58) (qae false a56) fun a59 H p w =>
 dq true false 14 15872 (b45 + 14) H p w (fun H => qad H a59) (qae false a56) fun a60 H p w =>
 dq false false 15 32256 (b45 + 15) H p w (fun _ => intV (qab .eql).f a60 (.int .u8 (.ofNat 6))) (qae false a56) fun a61 H p w =>
 dq false false 16 65024 (b45 + 16) H p w (fun _ => .val a61) (qae false a56) fun a62 H p w =>
 dq false false 17 130560 (b45 + 17) H p w (fun _ => .val x52) (qae true a62) fun a63 H p w =>
 dq false false 18 261632 (b45 + 18) H p w (fun _ => intV (qab .eql).f a63 (.int .i64 (.ofNat 1))) (qae true a62) fun a64 H p w =>
 dq false false 19 523776 (b45 + 19) H p w (fun _ => qbf a62 a64 (.bool false)) (qae false a56) fun a65 H p w =>
 dq false false 20 1048064 (b45 + 20) H p w (fun _ => qbf a56 (.bool true) a65) (some true) fun a66 H p w =>
 de 2097151 H p w (qjt call a46 [a52, a54, a66] (qax 2097151 p H)) (some true) fun a67 H p w =>
 dq false false 22 4194303 (b45 + 22) H p w (fun _ => (unS .not).f a67) (some true) fun a68 H p w =>
 dz2 p H fun H =>
 cd a68 (
 q37r (.bool false) H) (
 qkz call g37 a44 x52 H)
def qiy (call : Ev.Call) (q37r : AV → Hp → R1) (q37e0 : AV → Hp → R1) (x0 x1 x2 x3 x6 x51 : AV) (g37 : AV → AV → Hp → R1) (x12 x52 : AV) (H : Hp) : R1 :=
 vq (intV (qab .lss).f x52 x51) H fun a38 H =>
 cd a38 (
 qpy call q37r g37 x0 x1 x2 x3 x6 x12 x52 H) (
 q37e0 x12 H)
def qix (call : Ev.Call) (q37r : AV → Hp → R1) (q37e0 : AV → Hp → R1) (x0 x1 x2 x3 x6 x51 : AV) (n : Nat) : AV → AV → Hp → R1 :=
 Nat.rec (motive := fun _ => AV → AV → Hp → R1) (fun _ _ _ => .bad) (fun _ ih => qiy call q37r q37e0 x0 x1 x2 x3 x6 x51 ih) n
def qk0 (call : Ev.Call) (q37r : AV → Hp → R1) (q37e0 : AV → Hp → R1) (x0 x1 x2 x3 x6 x51 : AV) : AV → AV → Hp → R1 := qix call q37r q37e0 x0 x1 x2 x3 x6 x51 qbg
def qpx (call : Ev.Call) (x0 x1 x2 x3 x6 : AV) (H : Hp) : R1 :=
 vq (qad H x3) H fun a3 H =>
 vq (lenSl a3) H fun a4 H =>
 dz 18 H fun b5 H =>
 dq true false 0 0 (b5 + 0) H [] [] (fun H => qad H x3) (some true) fun a6 H p w =>
 dq false false 1 0 (b5 + 1) H p w (fun _ => .val x0) (some true) fun a7 H p w =>
 dq false false 2 2 (b5 + 2) H p w (fun _ => nilC a7) (some true) fun a8 H p w =>
 dq false false 3 6 (b5 + 3) H p w (fun _ => qac 0 a8) (some true) fun a9 H p w =>
 dq true false 4 14 (b5 + 4) H p w (fun H => qad H a9) (some true) fun a10 H p w =>
 dq false false 5 0 (b5 + 5) H p w (fun _ => .val x0) (some true) fun a11 H p w =>
 dq false false 6 32 (b5 + 6) H p w (fun _ => nilC a11) (some true) fun a12 H p w =>
 dq false false 7 96 (b5 + 7) H p w (fun _ => qac 1 a12) (some true) fun a13 H p w =>
 dq true false 8 224 (b5 + 8) H p w (fun H => qad H a13) (some true) fun a14 H p w =>
 dq false false 9 0 (b5 + 9) H p w (fun _ => .val x0) (some true) fun a15 H p w =>
 dq false false 10 512 (b5 + 10) H p w (fun _ => nilC a15) (some true) fun a16 H p w =>
 dq false false 11 1536 (b5 + 11) H p w (fun _ => qac 2 a16) (some true) fun a17 H p w =>
 dq true false 12 3584 (b5 + 12) H p w (fun H => qad H a17) (some true) fun a18 H p w =>
 dq false false 13 0 (b5 + 13) H p w (fun _ => .val x2) (some true) fun a19 H p w =>
 dq false false 14 16382 (b5 + 14) H p w (fun _ => aggN (qaj [.int .u8 (.ofNat 0), .str 0 0, .str 0 0, .nilsl, .bool false] [(0, 1, a10), (1, 1, a14), (2, 1, a18), (4, 1, a19)])) (some true) fun a20 H p w =>
 dq false true 15 32766 (b5 + 15) H p w (fun _ => qco 1 (b5 + 15) (qaj (reps [.int .u8 (.ofNat 0), .str 0 0, .str 0 0, .nilsl, .bool false] 1) [(0, 5, a20)])) (some true) fun a21 H p w =>
 de 65535 H p w (qa2 5 72 (qax 65535 p H) a6 (qbp 5 (qax 65535 p H) a21)) (some true) fun a22 H p w =>
 de 131071 H p w (qbb (qax 131071 p H) x3 a22) (some true) fun _ H p w =>
 dz2 p H fun H =>
 vq (nilC x0) H fun a33 H =>
 vq (qac 3 a33) H fun a34 H =>
 vq (qad H a34) H fun a35 H =>
 vq (lenSl a35) H fun a36 H =>
 qk0 call (fun x10 H => .ok x10 H) (fun x12 H => qe0 call x3 a4 x12 H) x0 x1 x2 x3 x6 a36 (.nilsl) (.int .i64 (.ofNat 0)) H
def quw (call : Ev.Call) (x0 x1 x2 x3 x4 x5 x6 : AV) (H : Hp) : R1 :=
 vq (qad H x4) H fun a0 H =>
 vq (qer maxV a0 [x1]) H fun a1 H =>
 ve (qbb H x4 a1) fun _ H =>
 vq (qad H x5) H fun a71 H =>
 vq (intV (qab .eql).f a71 (.int .i64 (.ofNat 0))) H fun a72 H =>
 cd a72 (
 ve (call (.f q0r) [x0] H) fun a73 H =>
 ve (qbb H x5 a73) fun _ H =>
 qpx call x0 x1 x2 x3 x6 H) (
 qpx call x0 x1 x2 x3 x6 H)
def za0 (call : Ev.Call) (x0 x1 x2 x3 x4 x5 x6 : AV) (H : Hp) : R1 :=
 vq (qad H x3) H fun a76 H =>
 vq (lenSl a76) H fun a77 H =>
 vq (intV (qab .eql).f a77 (.int .i64 (.ofNat 32))) H fun a78 H =>
 vg (qae false a78) (.val x1) H fun a79 H =>
 vg (qae false a78) (intV (qab .gtr).f a79 (.int .i64 (.ofNat 8))) H fun a80 H =>
 vq (qbf a78 (.bool true) a80) H fun a81 H =>
 cd a81 (
 .ok (.bool false) H) (
 quw call x0 x1 x2 x3 x4 x5 x6 H)
def zCb (call : Ev.Call) (x0 x1 x2 x3 x4 x5 x6 : AV) (H : Hp) : R1 := za0 call x0 x1 x2 x3 x4 x5 x6 H
def zf5 (call : Ev.Call) (x0 : AV) (H : Hp) : R1 :=
 vq (lenSl x0) H fun a0 H =>
 vq (lenSl x0) H fun a1 H =>
 vq (qbq 5 x0 none (some a0) (some a1)) H fun a2 H =>
 .ok a2 H
def zCc (call : Ev.Call) (x0 : AV) (H : Hp) : R1 := zf5 call x0 H
def zf4 (call : Ev.Call) (x0 : AV) (H : Hp) : R1 :=
 vq (lenSl x0) H fun a0 H =>
 vq (lenSl x0) H fun a1 H =>
 vq (qbq 1 x0 none (some a0) (some a1)) H fun a2 H =>
 .ok a2 H
def zCd (call : Ev.Call) (x0 : AV) (H : Hp) : R1 := zf4 call x0 H
def zf3 (call : Ev.Call) (x0 : AV) (H : Hp) : R1 :=
 vq (intV (qab .neq).f x0 x0) H fun a0 H =>
 .ok a0 H
def zCe (call : Ev.Call) (x0 : AV) (H : Hp) : R1 := zf3 call x0 H
def zf2 (call : Ev.Call) (x0 : AV) (H : Hp) : R1 :=
 vq (boxA 4 H.nx x0) H fun a0 H =>
 ve (call (.f qtq) [a0] H) fun a1 H =>
 vq (extr 0 a1) H fun a2 H =>
 vq (extr 1 a1) H fun a3 H =>
 vq (extr 2 a1) H fun a4 H =>
 .ok a4 H
def zCf (call : Ev.Call) (x0 : AV) (H : Hp) : R1 := zf2 call x0 H
def qhh (call : Ev.Call) (H : Hp) : R1 :=
 .ok (.int .i64 (.ofNat 0)) H
def qdm : Ev.Call → Hp → R1 := Classical.choose (⟨qhh, rfl⟩ : ∃ f, f = qhh)
theorem qr3 : qdm = qhh := Classical.choose_spec (⟨qhh, rfl⟩ : ∃ f, f = qhh)
def qhg (call : Ev.Call) (g1 : AV → Hp → R1) (x12 : AV) (H : Hp) : R1 :=
 vq (intV (qab .add).f x12 (.int .i64 (.ofNat 1))) H fun a3 H =>
 g1 a3 H
def qy5 : Ev.Call → (AV → Hp → R1) → AV → Hp → R1 := Classical.choose (⟨qhg, rfl⟩ : ∃ f, f = qhg)
theorem qr2 : qy5 = qhg := Classical.choose_spec (⟨qhg, rfl⟩ : ∃ f, f = qhg)
def qhf (call : Ev.Call) (q1r : AV → Hp → R1) (g1 : AV → Hp → R1) (x12 x40 : AV) (H : Hp) : R1 :=
 cd x40 (
 q1r (.int .i64 (.ofNat 7)) H) (
 qy5 call g1 x12 H)
def q4s : Ev.Call → (AV → Hp → R1) → (AV → Hp → R1) → AV → AV → Hp → R1 := Classical.choose (⟨qhf, rfl⟩ : ∃ f, f = qhf)
theorem qr1 : q4s = qhf := Classical.choose_spec (⟨qhf, rfl⟩ : ∃ f, f = qhf)
def qey (call : Ev.Call) (q1r : AV → Hp → R1) (g1 : AV → Hp → R1) (x1 x5 x6 x12 x17 : AV) (H : Hp) : R1 :=
 cd x17 (
 q1r (.int .i64 (.ofNat 6)) H) (
 dz 0 H fun b6 H =>
 dq false false 0 0 (b6 + 0) H [] [] (fun _ => .val x1) (some true) fun a7 H p w =>
 dq false false 1 1 (b6 + 1) H p w (fun _ => nilC a7) (some true) fun a8 H p w =>
 dq false false 2 3 (b6 + 2) H p w (fun _ => qac 1 a8) (some true) fun a9 H p w =>
 dq true false 3 7 (b6 + 3) H p w (fun H => qad H a9) (some true) fun a10 H p w =>
 dq false false 4 0 (b6 + 4) H p w (fun _ => .val x5) (some true) fun a11 H p w =>
 dq false false 5 31 (b6 + 5) H p w (fun _ => qbq 2 a10 none (some a11) none) (some true) fun a12 H p w =>
 dq true false 6 0 (b6 + 6) H p w (fun H => qas 2 H x6) (some true) fun a13 H p w =>
 de 127 H p w (call (.f qti) [a12, a13] (qax 127 p H)) (some true) fun a14 H p w =>
 dq false false 8 255 (b6 + 8) H p w (fun _ => .val a14) (some true) fun a15 H p w =>
 dz2 p H fun H =>
 q4s call q1r g1 x12 a15 H)
def quu : Ev.Call → (AV → Hp → R1) → (AV → Hp → R1) → AV → AV → AV → AV → AV → Hp → R1 := Classical.choose (⟨qey, rfl⟩ : ∃ f, f = qey)
theorem qnq : quu = qey := Classical.choose_spec (⟨qey, rfl⟩ : ∃ f, f = qey)
def qex (call : Ev.Call) (q1r : AV → Hp → R1) (g1 : AV → Hp → R1) (x0 x1 x5 x6 x12 : AV) (H : Hp) : R1 :=
 dz 0 H fun b17 H =>
 dq false false 0 0 (b17 + 0) H [] [] (fun _ => .val x0) (some true) fun a18 H p w =>
 dq false false 1 1 (b17 + 1) H p w (fun _ => nilC a18) (some true) fun a19 H p w =>
 dq false false 2 3 (b17 + 2) H p w (fun _ => qac 1 a19) (some true) fun a20 H p w =>
 dq true false 3 7 (b17 + 3) H p w (fun H => qad H a20) (some true) fun a21 H p w =>
 dq false false 4 0 (b17 + 4) H p w (fun _ => qac 0 x6) (some true) fun a22 H p w =>
 dq true false 5 16 (b17 + 5) H p w (fun H => qad H a22) (some true) fun a23 H p w =>
 dq true false 6 63 (b17 + 6) H p w (fun H => qeh ⟨(⟨qbj⟩ : E2).f, none⟩ (.int .i64 (.ofNat 0)) false H a21 a23) (some true) fun a24 H p w =>
 dq false false 7 127 (b17 + 7) H p w (fun _ => intV (qab .eql).f a24 (.int .i64 (.ofNat 0))) (some true) fun a25 H p w =>
 dq false false 8 255 (b17 + 8) H p w (fun _ => .val a25) (some true) fun a26 H p w =>
 dq false false 9 511 (b17 + 9) H p w (fun _ => qac 1 x6) (qae false a26) fun a27 H p w =>
 dq true false 10 1023 (b17 + 10) H p w (fun H => qad H a27) (qae false a26) fun a28 H p w =>
 dq false false 11 2047 (b17 + 11) H p w (fun _ => strV (qcb .neq).f a28 (.str 0 0)) (qae false a26) fun a29 H p w =>
 dq false false 12 4095 (b17 + 12) H p w (fun _ => .val a29) (qae false a26) fun a30 H p w =>
 dq false false 13 8191 (b17 + 13) H p w (fun _ => .val x0) (qae true a30) fun a31 H p w =>
 dq false false 14 8191 (b17 + 14) H p w (fun _ => qac 0 x6) (qae true a30) fun a32 H p w =>
 dq true false 15 24575 (b17 + 15) H p w (fun H => qad H a32) (qae true a30) fun a33 H p w =>
 dq false false 16 8191 (b17 + 16) H p w (fun _ => qac 1 x6) (qae true a30) fun a34 H p w =>
 dq true false 17 73727 (b17 + 17) H p w (fun H => qad H a34) (qae true a30) fun a35 H p w =>
 de 262143 H p w (call (.f qg9) [a31, a33, a35] (qax 262143 p H)) (qae true a30) fun a36 H p w =>
 dq false false 19 524287 (b17 + 19) H p w (fun _ => qdy false ((⟨E2.f ⟨qmz⟩⟩ : E2).f a36 (.nilptr))) (qae true a30) fun a37 H p w =>
 dq false false 20 1048575 (b17 + 20) H p w (fun _ => qbf a30 a37 (.bool false)) (qae false a26) fun a38 H p w =>
 dq false false 21 2097151 (b17 + 21) H p w (fun _ => qbf a26 (.bool true) a38) (some true) fun a39 H p w =>
 dq false false 22 4194303 (b17 + 22) H p w (fun _ => .val a39) (some true) fun a40 H p w =>
 dz2 p H fun H =>
 quu call q1r g1 x1 x5 x6 x12 a40 H
def qut : Ev.Call → (AV → Hp → R1) → (AV → Hp → R1) → AV → AV → AV → AV → AV → Hp → R1 := Classical.choose (⟨qex, rfl⟩ : ∃ f, f = qex)
theorem qnp : qut = qex := Classical.choose_spec (⟨qex, rfl⟩ : ∃ f, f = qex)
def qez (call : Ev.Call) (q1r : AV → Hp → R1) (g1 : AV → Hp → R1) (x0 x1 x10 x12 : AV) (H : Hp) : R1 :=
 vq (idxS 2 x10 x12) H fun a42 H =>
 vq (qas 2 H a42) H fun a43 H =>
 vq (.new (.ptr H.nx 0) (qaa 0 [.str 0 0, .str 0 0])) H fun a44 H =>
 ve (qay 2 H a44 a43) fun _ H =>
 qut call q1r g1 x0 x1 x12 a44 x12 H
def quv : Ev.Call → (AV → Hp → R1) → (AV → Hp → R1) → AV → AV → AV → AV → Hp → R1 := Classical.choose (⟨qez, rfl⟩ : ∃ f, f = qez)
theorem qnr : quv = qez := Classical.choose_spec (⟨qez, rfl⟩ : ∃ f, f = qez)
def q4t (call : Ev.Call) (q1r : AV → Hp → R1) (q1e0 : Hp → R1) (x0 x1 x10 x11 : AV) (g1 : AV → Hp → R1) (x12 : AV) (H : Hp) : R1 :=
 vq (intV (qab .lss).f x12 x11) H fun a2 H =>
 cd a2 (
 quv call q1r g1 x0 x1 x10 x12 H) (
 q1e0 H)
def qdl (call : Ev.Call) (q1r : AV → Hp → R1) (q1e0 : Hp → R1) (x0 x1 x10 x11 : AV) (n : Nat) : AV → Hp → R1 :=
 Nat.rec (motive := fun _ => AV → Hp → R1) (fun _ _ => .bad) (fun _ ih => q4t call q1r q1e0 x0 x1 x10 x11 ih) n
def q4u (call : Ev.Call) (q1r : AV → Hp → R1) (q1e0 : Hp → R1) (x0 x1 x10 x11 : AV) : AV → Hp → R1 := qdl call q1r q1e0 x0 x1 x10 x11 qbg
def qew (call : Ev.Call) (x0 x1 x10 x11 x12 : AV) (H : Hp) : R1 :=
 q4u call (fun x4 H => .ok x4 H) (fun H => qdm call H) x0 x1 x10 x11 x12 H
def qus : Ev.Call → AV → AV → AV → AV → AV → Hp → R1 := Classical.choose (⟨qew, rfl⟩ : ∃ f, f = qew)
theorem qno : qus = qew := Classical.choose_spec (⟨qew, rfl⟩ : ∃ f, f = qew)
def zf1 (call : Ev.Call) (x0 x1 : AV) (H : Hp) : R1 :=
 vq (nilC x1) H fun a48 H =>
 vq (qac 1 a48) H fun a49 H =>
 vq (qad H a49) H fun a50 H =>
 vq (lenSl a50) H fun a51 H =>
 qus call x0 x1 a50 a51 (.int .i64 (.ofNat 0)) H
def zCg (call : Ev.Call) (x0 x1 : AV) (H : Hp) : R1 := zf1 call x0 x1 H
def qjz (call : Ev.Call) (x6 : AV) (H : Hp) : R1 :=
 .ok (.tup [x6, (.int .i64 (.ofNat 0))]) H
def qy4 (call : Ev.Call) (g2 : AV → AV → Hp → R1) (x6 x13 : AV) (H : Hp) : R1 :=
 vq (intV (qab .add).f x13 (.int .i64 (.ofNat 1))) H fun a4 H =>
 g2 x6 a4 H
def qpw (call : Ev.Call) (g2 : AV → AV → Hp → R1) (x6 x9 x13 : AV) (H : Hp) : R1 :=
 vg (qae false x6) (qac 0 x9) H fun a17 H =>
 vg (qae false x6) (qad H a17) H fun a18 H =>
 vg (qae false x6) (intV (qab .eql).f a18 (.int .u8 (.ofNat 1))) H fun a19 H =>
 vq (qbf x6 (.bool true) a19) H fun a20 H =>
 qy4 call g2 a20 x13 H
def qur (call : Ev.Call) (q2r : AV → AV → Hp → R1) (g2 : AV → AV → Hp → R1) (x0 x1 x6 x11 x13 : AV) (H : Hp) : R1 :=
 vq (idxS 5 x11 x13) H fun a6 H =>
 vq (qas 5 H a6) H fun a7 H =>
 vq (.new (.ptr H.nx 0) (qaa 0 [.int .u8 (.ofNat 0), .str 0 0, .str 0 0, .nilsl, .bool false])) H fun a8 H =>
 ve (qay 5 H a8 a7) fun _ H =>
 vq (qac 0 a8) H fun a10 H =>
 vq (qad H a10) H fun a11 H =>
 vq (intV (qab .eql).f a11 (.int .u8 (.ofNat 2))) H fun a12 H =>
 vg (qae false a12) (qac 0 a8) H fun a13 H =>
 vg (qae false a12) (qad H a13) H fun a14 H =>
 vg (qae false a12) (intV (qab .eql).f a14 (.int .u8 (.ofNat 3))) H fun a15 H =>
 vq (qbf a12 (.bool true) a15) H fun a16 H =>
 vg (qae true a16) (.val x0) H fun a22 H =>
 vg (qae true a16) (.val x1) H fun a23 H =>
 vg (qae true a16) (qac 1 a8) H fun a24 H =>
 vg (qae true a16) (qad H a24) H fun a25 H =>
 veg (qae true a16) (call (.f qg9) [a22, a23, a25] H) H fun a26 H =>
 vg (qae true a16) (qdy false ((⟨E2.f ⟨qmz⟩⟩ : E2).f a26 (.nilptr))) H fun a27 H =>
 vq (qbf a16 a27 (.bool false)) H fun a28 H =>
 cd a28 (
 q2r x6 (.int .i64 (.ofNat 6)) H) (
 vq (qac 0 a8) H fun a29 H =>
 vq (qad H a29) H fun a30 H =>
 vq (intV (qab .eql).f a30 (.int .u8 (.ofNat 3))) H fun a31 H =>
 vg (qae true a31) (.val x0) H fun a32 H =>
 vg (qae true a31) (.val x1) H fun a33 H =>
 vg (qae true a31) (qac 1 a8) H fun a34 H =>
 vg (qae true a31) (qad H a34) H fun a35 H =>
 vg (qae true a31) (qac 2 a8) H fun a36 H =>
 vg (qae true a31) (qad H a36) H fun a37 H =>
 veg (qae true a31) (call (.f qtp) [a32, a33, a35, a37] H) H fun a38 H =>
 vg (qae true a31) (lenSl a38) H fun a39 H =>
 vg (qae true a31) (intV (qab .eql).f a39 (.int .i64 (.ofNat 0))) H fun a40 H =>
 vq (qbf a31 a40 (.bool false)) H fun a41 H =>
 cd a41 (
 q2r x6 (.int .i64 (.ofNat 11)) H) (
 qpw call g2 x6 a8 x13 H))
def q4p (call : Ev.Call) (q2r : AV → AV → Hp → R1) (q2e0 : AV → Hp → R1) (x0 x1 x11 x12 : AV) (g2 : AV → AV → Hp → R1) (x6 x13 : AV) (H : Hp) : R1 :=
 vq (intV (qab .lss).f x13 x12) H fun a3 H =>
 cd a3 (
 qur call q2r g2 x0 x1 x6 x11 x13 H) (
 q2e0 x6 H)
def qjy (call : Ev.Call) (q2r : AV → AV → Hp → R1) (q2e0 : AV → Hp → R1) (x0 x1 x11 x12 : AV) (n : Nat) : AV → AV → Hp → R1 :=
 Nat.rec (motive := fun _ => AV → AV → Hp → R1) (fun _ _ _ => .bad) (fun _ ih => q4p call q2r q2e0 x0 x1 x11 x12 ih) n
def q4q (call : Ev.Call) (q2r : AV → AV → Hp → R1) (q2e0 : AV → Hp → R1) (x0 x1 x11 x12 : AV) : AV → AV → Hp → R1 := qjy call q2r q2e0 x0 x1 x11 x12 qbg
def zf0 (call : Ev.Call) (x0 x1 x2 : AV) (H : Hp) : R1 :=
 vq (lenSl x2) H fun a1 H =>
 q4q call (fun x6 x7 H => .ok (.tup [x6, x7]) H) (fun x6 H => qjz call x6 H) x0 x1 x2 a1 (.bool false) (.int .i64 (.ofNat 0)) H
def zCh (call : Ev.Call) (x0 x1 x2 : AV) (H : Hp) : R1 := zf0 call x0 x1 x2 H
def zfz (call : Ev.Call) (x0 x1 : AV) (H : Hp) : R1 :=
 vq (boxA 2 H.nx x0) H fun a0 H =>
 vq (box1 H.nx x1) H fun a1 H =>
 vq (qac 1 a0) H fun a2 H =>
 vq (qad H a2) H fun a3 H =>
 ve (call (.f q8t) [a3, (.fn qth [] [a1])] H) fun a4 H =>
 .ok a4 H
def zCi (call : Ev.Call) (x0 x1 : AV) (H : Hp) : R1 := zfz call x0 x1 H
def qiw (call : Ev.Call) (H : Hp) : R1 :=
 .ok (.int .i64 (.ofNat 0)) H
def qhe (call : Ev.Call) (x57 : AV) (H : Hp) : R1 :=
 cd x57 (
 .ok (.int .i64 (.ofNat 6)) H) (
 qiw call H)
def qd8 (call : Ev.Call) (x0 x3 x4 x6 : AV) (H : Hp) : R1 :=
 vq ((unS .not).f x6) H fun a23 H =>
 vg (qae false a23) (qas 2 H x3) H fun a24 H =>
 vg (qae false a23) (qas 2 H x4) H fun a25 H =>
 vg (qae false a23) (qdy true ((⟨E2.f ⟨qcd fun xs ys => qcn p1 ⟨qet⟩ 1 xs ys 2 0⟩⟩ : E2).f a24 a25)) H fun a26 H =>
 vq (qbf a23 (.bool true) a26) H fun a27 H =>
 cd a27 (
 .ok (.int .i64 (.ofNat 5)) H) (
 vq (nilC x0) H fun a29 H =>
 vq (qac 0 a29) H fun a30 H =>
 vq (qad H a30) H fun a31 H =>
 vq (intV (qab .eql).f a31 (.int .u8 (.ofNat 3))) H fun a32 H =>
 vg (qae true a32) (.val x0) H fun a33 H =>
 vg (qae true a32) (nilC a33) H fun a34 H =>
 vg (qae true a32) (qac 2 a34) H fun a35 H =>
 vg (qae true a32) (qad H a35) H fun a36 H =>
 veg (qae true a32) (call (.f q8s) [a36] H) H fun a37 H =>
 vg (qae true a32) ((unS .not).f a37) H fun a38 H =>
 vq (qbf a32 a38 (.bool false)) H fun a39 H =>
 cd a39 (
 qhe call a39 H) (
 vq (nilC x0) H fun a40 H =>
 vq (qac 0 a40) H fun a41 H =>
 vq (qad H a41) H fun a42 H =>
 vq (intV (qab .eql).f a42 (.int .u8 (.ofNat 2))) H fun a43 H =>
 vg (qae false a43) (.val x0) H fun a44 H =>
 vg (qae false a43) (nilC a44) H fun a45 H =>
 vg (qae false a43) (qac 0 a45) H fun a46 H =>
 vg (qae false a43) (qad H a46) H fun a47 H =>
 vg (qae false a43) (intV (qab .eql).f a47 (.int .u8 (.ofNat 3))) H fun a48 H =>
 vq (qbf a43 (.bool true) a48) H fun a49 H =>
 vg (qae true a49) (.val x0) H fun a50 H =>
 vg (qae true a49) (nilC a50) H fun a51 H =>
 vg (qae true a49) (qac 1 a51) H fun a52 H =>
 vg (qae true a49) (qad H a52) H fun a53 H =>
 veg (qae true a49) (call (.f q8s) [a53] H) H fun a54 H =>
 vg (qae true a49) ((unS .not).f a54) H fun a55 H =>
 vq (qbf a49 a55 (.bool false)) H fun a56 H =>
 qhe call a56 H))
def qpv (call : Ev.Call) (x0 x3 x4 x5 x29 x40 : AV) (H : Hp) : R1 :=
 cd x40 (
 vq (intV (qab .geq).f x5 (.int .i64 (.ofNat 2))) H fun a70 H =>
 qd8 call x0 x3 x4 a70 H) (
 vq (intV (qab .eql).f x29 (.int .u8 (.ofNat 6))) H fun a71 H =>
 cd a71 (
 vq (intV (qab .eql).f x5 (.int .i64 (.ofNat 2))) H fun a72 H =>
 qd8 call x0 x3 x4 a72 H) (
 .ok (.int .i64 (.ofNat 10)) H))
def zfy (call : Ev.Call) (x0 : AV) (H : Hp) : R1 :=
 dz 13 H fun b0 H =>
 dq false false 0 0 (b0 + 0) H [] [] (fun _ => .val x0) (some true) fun a1 H p w =>
 dq false false 1 1 (b0 + 1) H p w (fun _ => nilC a1) (some true) fun a2 H p w =>
 dq false false 2 3 (b0 + 2) H p w (fun _ => qac 1 a2) (some true) fun a3 H p w =>
 dq true false 3 7 (b0 + 3) H p w (fun H => qad H a3) (some true) fun a4 H p w =>
 dq false false 4 15 (b0 + 4) H p w (fun _ => strV (qcb .neq).f a4 (.str 0 0)) (some true) fun a5 H p w =>
 dq false false 5 0 (b0 + 5) H p w (fun _ => .val x0) (some true) fun a6 H p w =>
 dq false false 6 32 (b0 + 6) H p w (fun _ => nilC a6) (some true) fun a7 H p w =>
 dq false false 7 96 (b0 + 7) H p w (fun _ => qac 2 a7) (some true) fun a8 H p w =>
 dq true false 8 224 (b0 + 8) H p w (fun H => qad H a8) (some true) fun a9 H p w =>
 dq false false 9 480 (b0 + 9) H p w (fun _ => strV (qcb .neq).f a9 (.str 0 0)) (some true) fun a10 H p w =>
 dq false false 10 1023 (b0 + 10) H p w (fun _ => aggN (qaj [.bool false, .bool false] [(0, 1, a5), (1, 1, a10)])) (some true) fun a11 H p w =>
 dq false true 11 0 (b0 + 11) H p w (fun _ => .new (.ptr (b0 + 11) 0) (qaa 0 [.bool false, .bool false])) (some true) fun a12 H p w =>
 de 4095 H p w (qay 2 (qax 4095 p H) a12 a11) (some true) fun _ H p w =>
 dz2 p H fun H =>
 vq (aggN (qaj [.bool false, .bool false] [])) H fun a14 H =>
 vq (.new (.ptr H.nx 0) (qaa 0 [.bool false, .bool false])) H fun a15 H =>
 ve (qay 2 H a15 a14) fun _ H =>
 vq (nilC x0) H fun a17 H =>
 vq (qac 3 a17) H fun a18 H =>
 vq (qad H a18) H fun a19 H =>
 vq (lenSl a19) H fun a20 H =>
 vq (intV (qab .eql).f a20 (.int .i64 (.ofNat 0))) H fun a21 H =>
 vq (nilC x0) H fun a58 H =>
 vq (qac 0 a58) H fun a59 H =>
 vq (qad H a59) H fun a60 H =>
 vq (intV (qab .eql).f a60 (.int .u8 (.ofNat 1))) H fun a61 H =>
 cd a61 (
 qd8 call x0 a12 a15 a21 H) (
 vq (intV (qab .eql).f a60 (.int .u8 (.ofNat 2))) H fun a62 H =>
 cd a62 (
 vq (idxA 2 1 a12 (.int .i64 (.ofNat 0))) H fun a63 H =>
 vq (qad H a63) H fun a64 H =>
 vq (aggN (qaj [.bool false, .bool false] [(0, 1, a64), (1, 1, (.bool false))])) H fun a65 H =>
 ve (qay 2 H a15 a65) fun _ H =>
 qd8 call x0 a12 a15 a21 H) (
 vq (intV (qab .eql).f a60 (.int .u8 (.ofNat 3))) H fun a67 H =>
 cd a67 (
 vq (qas 2 H a12) H fun a68 H =>
 ve (qay 2 H a15 a68) fun _ H =>
 qd8 call x0 a12 a15 a21 H) (
 vq (intV (qab .eql).f a60 (.int .u8 (.ofNat 4))) H fun a74 H =>
 cd a74 (
 qpv call x0 a12 a15 a20 a60 a74 H) (
 vq (intV (qab .eql).f a60 (.int .u8 (.ofNat 5))) H fun a75 H =>
 qpv call x0 a12 a15 a20 a60 a75 H))))
def zCj (call : Ev.Call) (x0 : AV) (H : Hp) : R1 := zfy call x0 H
def zfx (call : Ev.Call) (x0 : AV) (H : Hp) : R1 :=
 vq (lenSl x0) H fun a0 H =>
 vq (lenSl x0) H fun a1 H =>
 vq (qbq 1 x0 none (some a0) (some a1)) H fun a2 H =>
 .ok a2 H
def zCk (call : Ev.Call) (x0 : AV) (H : Hp) : R1 := zfx call x0 H
def zfw (call : Ev.Call) (x0 x1 : AV) (H : Hp) : R1 :=
 vq (boxA 2 H.nx x1) H fun a0 H =>
 vq (qas 2 H a0) H fun a1 H =>
 ve (call (.f q8q) [x0, a1] H) fun a2 H =>
 vq (intV (qab .geq).f a2 (.int .i64 (.ofNat 0))) H fun a3 H =>
 .ok a3 H
def zCl (call : Ev.Call) (x0 x1 : AV) (H : Hp) : R1 := zfw call x0 x1 H
def zfv (call : Ev.Call) (x0 x1 : AV) (H : Hp) : R1 :=
 vq (boxA 6 H.nx x0) H fun a0 H =>
 vq (qac 2 a0) H fun a1 H =>
 vq (qas 4 H a1) H fun a2 H =>
 ve (call (.f qpf) [a2] H) fun a3 H =>
 vq (extr 0 a3) H fun a4 H =>
 vq (extr 1 a3) H fun a5 H =>
 ve (call (.f q0p) [a4, (.fn qo6 [] [x1])] H) fun a6 H =>
 .ok a6 H
def zCm (call : Ev.Call) (x0 x1 : AV) (H : Hp) : R1 := zfv call x0 x1 H
def zfu (call : Ev.Call) (x0 x1 : AV) (H : Hp) : R1 :=
 ve (call (.f q8p) [x0, x1] H) fun a0 H =>
 vq (intV (qab .geq).f a0 (.int .i64 (.ofNat 0))) H fun a1 H =>
 .ok a1 H
def zCn (call : Ev.Call) (x0 x1 : AV) (H : Hp) : R1 := zfu call x0 x1 H
def qky (call : Ev.Call) (H : Hp) : R1 :=
 .ok (.int .i64 (.negSucc 0)) H
def q4m (call : Ev.Call) (g3 : AV → Hp → R1) (x8 : AV) (H : Hp) : R1 :=
 vq (intV (qab .add).f x8 (.int .i64 (.ofNat 1))) H fun a5 H =>
 g3 a5 H
def quq (call : Ev.Call) (q3r : AV → Hp → R1) (g3 : AV → Hp → R1) (x0 x3 x8 : AV) (H : Hp) : R1 :=
 vl (qas 2 H x3) fun a7 =>
 vl (idxS 2 x0 x8) fun a8 =>
 vl (qas 2 H a8) fun a9 =>
 vl (qdy false ((⟨E2.f ⟨qcd (eqFields [(p1, ⟨qbj⟩, 0), (p1, ⟨qbj⟩, 1)])⟩⟩ : E2).f a7 a9)) fun a10 =>
 cd a10 (
 q3r x8 H) (
 q4m call g3 x8 H)
def q4n (call : Ev.Call) (q3r : AV → Hp → R1) (q3e0 : Hp → R1) (x0 x3 x7 : AV) (g3 : AV → Hp → R1) (x8 : AV) (H : Hp) : R1 :=
 vq (intV (qab .lss).f x8 x7) H fun a4 H =>
 cd a4 (
 quq call q3r g3 x0 x3 x8 H) (
 q3e0 H)
def qnn (call : Ev.Call) (q3r : AV → Hp → R1) (q3e0 : Hp → R1) (x0 x3 x7 : AV) (n : Nat) : AV → Hp → R1 :=
 Nat.rec (motive := fun _ => AV → Hp → R1) (fun _ _ => .bad) (fun _ ih => q4n call q3r q3e0 x0 x3 x7 ih) n
def q4o (call : Ev.Call) (q3r : AV → Hp → R1) (q3e0 : Hp → R1) (x0 x3 x7 : AV) : AV → Hp → R1 := qnn call q3r q3e0 x0 x3 x7 qbg
def zft (call : Ev.Call) (x0 x1 : AV) (H : Hp) : R1 :=
 vq (boxA 2 H.nx x1) H fun a0 H =>
 vq (lenSl x0) H fun a2 H =>
 q4o call (fun x4 H => .ok x4 H) (fun H => qky call H) x0 a0 a2 (.int .i64 (.ofNat 0)) H
def zCp (call : Ev.Call) (x0 x1 : AV) (H : Hp) : R1 := zft call x0 x1 H
def zfs (call : Ev.Call) (x0 x1 : AV) (H : Hp) : R1 :=
 vq (boxA 5 H.nx x0) H fun a0 H =>
 vq (qac 0 a0) H fun a1 H =>
 vq (qad H a1) H fun a2 H =>
 vq (intV (qab .eql).f a2 (.int .u8 (.ofNat 3))) H fun a3 H =>
 vg (qae true a3) (qac 1 a0) H fun a4 H =>
 vg (qae true a3) (qad H a4) H fun a5 H =>
 vg (qae true a3) (qad H x1) H fun a6 H =>
 vg (qae true a3) (strV (qcb .eql).f a5 a6) H fun a7 H =>
 vq (qbf a3 a7 (.bool false)) H fun a8 H =>
 .ok a8 H
def zCq (call : Ev.Call) (x0 x1 : AV) (H : Hp) : R1 := zfs call x0 x1 H
def zfr (call : Ev.Call) (x0 x1 : AV) (H : Hp) : R1 :=
 ve (call (.f q8o) [x0, x1] H) fun a0 H =>
 vq (intV (qab .geq).f a0 (.int .i64 (.ofNat 0))) H fun a1 H =>
 .ok a1 H
def zCr (call : Ev.Call) (x0 x1 : AV) (H : Hp) : R1 := zfr call x0 x1 H
def qkx (call : Ev.Call) (H : Hp) : R1 :=
 .ok (.int .i64 (.negSucc 0)) H
def q4j (call : Ev.Call) (g2 : AV → Hp → R1) (x8 : AV) (H : Hp) : R1 :=
 vq (intV (qab .add).f x8 (.int .i64 (.ofNat 1))) H fun a4 H =>
 g2 a4 H
def q4i (call : Ev.Call) (q2r : AV → Hp → R1) (g2 : AV → Hp → R1) (x0 x1 x8 : AV) (H : Hp) : R1 :=
 vq (idxS 6 x0 x8) H fun a6 H =>
 vq (qas 6 H a6) H fun a7 H =>
 ve (qjt call x1 [a7] H) fun a8 H =>
 cd a8 (
 q2r x8 H) (
 q4j call g2 x8 H)
def q4k (call : Ev.Call) (q2r : AV → Hp → R1) (q2e0 : Hp → R1) (x0 x1 x7 : AV) (g2 : AV → Hp → R1) (x8 : AV) (H : Hp) : R1 :=
 vq (intV (qab .lss).f x8 x7) H fun a3 H =>
 cd a3 (
 q4i call q2r g2 x0 x1 x8 H) (
 q2e0 H)
def qnm (call : Ev.Call) (q2r : AV → Hp → R1) (q2e0 : Hp → R1) (x0 x1 x7 : AV) (n : Nat) : AV → Hp → R1 :=
 Nat.rec (motive := fun _ => AV → Hp → R1) (fun _ _ => .bad) (fun _ ih => q4k call q2r q2e0 x0 x1 x7 ih) n
def q4l (call : Ev.Call) (q2r : AV → Hp → R1) (q2e0 : Hp → R1) (x0 x1 x7 : AV) : AV → Hp → R1 := qnm call q2r q2e0 x0 x1 x7 qbg
def zfq (call : Ev.Call) (x0 x1 : AV) (H : Hp) : R1 :=
 vq (lenSl x0) H fun a1 H =>
 q4l call (fun x4 H => .ok x4 H) (fun H => qkx call H) x0 x1 a1 (.int .i64 (.ofNat 0)) H
def zCs (call : Ev.Call) (x0 x1 : AV) (H : Hp) : R1 := zfq call x0 x1 H
def qkw (call : Ev.Call) (H : Hp) : R1 :=
 .ok (.int .i64 (.negSucc 0)) H
def qy3 (call : Ev.Call) (g2 : AV → Hp → R1) (x8 : AV) (H : Hp) : R1 :=
 vq (intV (qab .add).f x8 (.int .i64 (.ofNat 1))) H fun a4 H =>
 g2 a4 H
def q4f (call : Ev.Call) (q2r : AV → Hp → R1) (g2 : AV → Hp → R1) (x0 x1 x8 : AV) (H : Hp) : R1 :=
 vq (idxS 5 x0 x8) H fun a6 H =>
 vq (qas 5 H a6) H fun a7 H =>
 ve (qjt call x1 [a7] H) fun a8 H =>
 cd a8 (
 q2r x8 H) (
 qy3 call g2 x8 H)
def q4g (call : Ev.Call) (q2r : AV → Hp → R1) (q2e0 : Hp → R1) (x0 x1 x7 : AV) (g2 : AV → Hp → R1) (x8 : AV) (H : Hp) : R1 :=
 vq (intV (qab .lss).f x8 x7) H fun a3 H =>
 cd a3 (
 q4f call q2r g2 x0 x1 x8 H) (
 q2e0 H)
def qkv (call : Ev.Call) (q2r : AV → Hp → R1) (q2e0 : Hp → R1) (x0 x1 x7 : AV) (n : Nat) : AV → Hp → R1 :=
 Nat.rec (motive := fun _ => AV → Hp → R1) (fun _ _ => .bad) (fun _ ih => q4g call q2r q2e0 x0 x1 x7 ih) n
def q4h (call : Ev.Call) (q2r : AV → Hp → R1) (q2e0 : Hp → R1) (x0 x1 x7 : AV) : AV → Hp → R1 := qkv call q2r q2e0 x0 x1 x7 qbg
def zfp (call : Ev.Call) (x0 x1 : AV) (H : Hp) : R1 :=
 vq (lenSl x0) H fun a1 H =>
 q4h call (fun x4 H => .ok x4 H) (fun H => qkw call H) x0 x1 a1 (.int .i64 (.ofNat 0)) H
def zCt (call : Ev.Call) (x0 x1 : AV) (H : Hp) : R1 := zfp call x0 x1 H
end Go.Di
end
