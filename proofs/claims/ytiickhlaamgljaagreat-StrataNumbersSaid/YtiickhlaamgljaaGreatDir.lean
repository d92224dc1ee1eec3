/-
 For countersignlaw18.StrataNumbers: the functions of the law in direct style (printed by a program). No conditions beyond those that each theorem states.
-/
import Derived.Test.YtiickhlaamgljaaGreatEv4
import Derived.Test.YtiickhlaamgljaaGreatGraB
set_option linter.unusedSimpArgs false
set_option linter.unusedVariables false
noncomputable section
namespace Go.Di
open Go.Ev
def zc8 : FuncId := 3
def qst : FuncId := 8
def q0s : FuncId := 9
def qsr : FuncId := 10
def qlt : FuncId := 11
def qlr : FuncId := 12
def qg6 : FuncId := 13
def qc9 : FuncId := 14
def qso : FuncId := 15
def qnu : FuncId := 30
def qnv : FuncId := 31
def qp5 : FuncId := 32
def qsy : FuncId := 33
def qls : FuncId := 34
def qjl : FuncId := 35
def qjk : FuncId := 37
def qsk : FuncId := 36
def qnx : FuncId := 38
def qg4 : FuncId := 39
def qjn : FuncId := 40
def qsq : FuncId := 41
def qss : FuncId := 50
def qsp : FuncId := 53
def qnz : FuncId := 28
def qjo : FuncId := 66
def qsw : FuncId := 65
def qjm : FuncId := 67
def qny : FuncId := 71
def qsx : FuncId := 70
def qsu : FuncId := 72
def qsj : FuncId := 73
def qsv : FuncId := 63
def qlu : FuncId := 102
def qis : FuncId := 100
def qg5 : FuncId := 101
def qkf : FuncId := 92
def qnw : FuncId := 93
def q0t : FuncId := 91
def qg7 : FuncId := 131
def qfj : FuncId := 132
def qn0 : FuncId := 124
def qsl : FuncId := 169
def qya : FuncId := 171
def qsi : FuncId := 170
def qcm : FuncId := 188
def qsm : FuncId := 187
def qsn : FuncId := 196
def qbq : FuncId := 99
def qeb : FuncId := 68
def qes : FuncId := 69
def qg1 (call : Ev.Call) (H : Hp) : R1 :=
 ve (call (.f qc9) [] H) fun a1 H =>
 .ok a1 H
def qcp : Ev.Call → Hp → R1 := Classical.choose (⟨qg1, rfl⟩ : ∃ f, f = qg1)
theorem qvf : qcp = qg1 := Classical.choose_spec (⟨qg1, rfl⟩ : ∃ f, f = qg1)
def qg0 (call : Ev.Call) (g3 : AV → Hp → R1) (x11 : AV) (H : Hp) : R1 :=
 vq (intV (qab .add).f x11 (.int .i64 (.ofNat 1))) H fun a4 H =>
 g3 a4 H
def q0p : Ev.Call → (AV → Hp → R1) → AV → Hp → R1 := Classical.choose (⟨qg0, rfl⟩ : ∃ f, f = qg0)
theorem qve : q0p = qg0 := Classical.choose_spec (⟨qg0, rfl⟩ : ∃ f, f = qg0)
def qgz (call : Ev.Call) (q3r : AV → Hp → R1) (g3 : AV → Hp → R1) (x11 x97 : AV) (H : Hp) : R1 :=
 cd x97 (
 q3r (.bool false) H) (
 q0p call g3 x11 H)
def qvd : Ev.Call → (AV → Hp → R1) → (AV → Hp → R1) → AV → AV → Hp → R1 := Classical.choose (⟨qgz, rfl⟩ : ∃ f, f = qgz)
theorem qvc : qvd = qgz := Classical.choose_spec (⟨qgz, rfl⟩ : ∃ f, f = qgz)
def qer (call : Ev.Call) (q3r : AV → Hp → R1) (g3 : AV → Hp → R1) (x11 x12 : AV) (H : Hp) : R1 :=
 vq (intV (qab .eql).f x12 (.int .i64 (.ofNat 0))) H fun a7 H =>
 vg (qai false a7) (.val x11) H fun a8 H =>
 vg (qai false a7) (intV (qab .eql).f a8 (.int .i64 (.ofNat 0))) H fun a9 H =>
 vg (qai false a7) (.val a9) H fun a10 H =>
 vg (qai true a10) (.val x12) H fun a11 H =>
 vg (qai true a10) (intV (qab .eql).f a11 (.int .i64 (.ofNat 1))) H fun a12 H =>
 vg (qai false a7) (qb7 a10 a12 (.bool false)) H fun a13 H =>
 vq (qb7 a7 (.bool true) a13) H fun a14 H =>
 qvd call q3r g3 x11 a14 H
def qse : Ev.Call → (AV → Hp → R1) → (AV → Hp → R1) → AV → AV → Hp → R1 := Classical.choose (⟨qer, rfl⟩ : ∃ f, f = qer)
theorem qp2 : qse = qer := Classical.choose_spec (⟨qer, rfl⟩ : ∃ f, f = qer)
def qeq (call : Ev.Call) (q3r : AV → Hp → R1) (g3 : AV → Hp → R1) (x3 x9 x11 : AV) (H : Hp) : R1 :=
 vl (qad 1 x3) fun a16 =>
 vl (qae H a16) fun a17 =>
 vl (idxS 1 x9 x11) fun a18 =>
 vl (qae H a18) fun a19 =>
 vl (qad 0 x3) fun a20 =>
 vl (qae H a20) fun a21 =>
 vl (intV (qab .mul).f a19 a21) fun a22 =>
 vl (intV (qab .add).f x11 (.int .i64 (.ofNat 1))) fun a23 =>
 vl (lenSl x9) fun a24 =>
 vl (intV (qab .rem).f a23 a24) fun a25 =>
 vl (idxS 1 x9 a25) fun a26 =>
 vl (qae H a26) fun a27 =>
 vl (intV (qab .add).f a22 a27) fun a28 =>
 vl (idxS 1 a17 a28) fun a29 =>
 vl (qae H a29) fun a30 =>
 qse call q3r g3 x11 a30 H
def qsd : Ev.Call → (AV → Hp → R1) → (AV → Hp → R1) → AV → AV → AV → Hp → R1 := Classical.choose (⟨qeq, rfl⟩ : ∃ f, f = qeq)
theorem qp1 : qsd = qeq := Classical.choose_spec (⟨qeq, rfl⟩ : ∃ f, f = qeq)
def qdq (call : Ev.Call) (q3r : AV → Hp → R1) (g3 : AV → Hp → R1) (q3e0 : Hp → R1) (x3 x9 x11 x65 : AV) (H : Hp) : R1 :=
 cd x65 (
 qsd call q3r g3 x3 x9 x11 H) (
 q3e0 H)
def qsc : Ev.Call → (AV → Hp → R1) → (AV → Hp → R1) → (Hp → R1) → AV → AV → AV → AV → Hp → R1 := Classical.choose (⟨qdq, rfl⟩ : ∃ f, f = qdq)
theorem qp0 : qsc = qdq := Classical.choose_spec (⟨qdq, rfl⟩ : ∃ f, f = qdq)
def q69 (call : Ev.Call) (q3r : AV → Hp → R1) (q3e0 : Hp → R1) (x3 x9 : AV) (g3 : AV → Hp → R1) (x11 : AV) (H : Hp) : R1 :=
 vq (lenSl x9) H fun a33 H =>
 vq (intV (qab .lss).f x11 a33) H fun a34 H =>
 qsc call q3r g3 q3e0 x3 x9 x11 a34 H
def qd9 (call : Ev.Call) (q3r : AV → Hp → R1) (q3e0 : Hp → R1) (x3 x9 : AV) (n : Nat) : AV → Hp → R1 :=
 Nat.rec (motive := fun _ => AV → Hp → R1) (fun _ _ => .bad) (fun _ ih => q69 call q3r q3e0 x3 x9 ih) n
def q7a (call : Ev.Call) (q3r : AV → Hp → R1) (q3e0 : Hp → R1) (x3 x9 : AV) : AV → Hp → R1 := qd9 call q3r q3e0 x3 x9 qbd
def qep (call : Ev.Call) (x3 x9 : AV) (H : Hp) : R1 :=
 q7a call (fun x2 H => .ok x2 H) (fun H => qcp call H) x3 x9 (.int .i64 (.ofNat 0)) H
def qsb : Ev.Call → AV → AV → Hp → R1 := Classical.choose (⟨qep, rfl⟩ : ∃ f, f = qep)
theorem qpy : qsb = qep := Classical.choose_spec (⟨qep, rfl⟩ : ∃ f, f = qep)
def qeo (call : Ev.Call) (x3 x9 x61 : AV) (H : Hp) : R1 :=
 cd x61 (
 .ok (.bool false) H) (
 qsb call x3 x9 H)
def qsa : Ev.Call → AV → AV → AV → Hp → R1 := Classical.choose (⟨qeo, rfl⟩ : ∃ f, f = qeo)
theorem qpx : qsa = qeo := Classical.choose_spec (⟨qeo, rfl⟩ : ∃ f, f = qeo)
def qen (call : Ev.Call) (x3 x7 x8 x9 x10 : AV) (H : Hp) : R1 :=
 ve (call (.f qg6) [x7, x8, (.nilsl), (.int .i64 (.ofNat 12))] H) fun a37 H =>
 vq ((unS .not).f a37) H fun a38 H =>
 vg (qai false a38) (.val x9) H fun a39 H =>
 vg (qai false a38) (.val x10) H fun a40 H =>
 vg (qai false a38) (qa4 2 H x3) H fun a41 H =>
 veg (qai false a38) (call (.f qso) [a41] H) H fun a42 H =>
 veg (qai false a38) (call (.f qg6) [a39, a40, a42, (.int .i64 (.ofNat 0))] H) H fun a43 H =>
 vg (qai false a38) ((unS .not).f a43) H fun a44 H =>
 vq (qb7 a38 (.bool true) a44) H fun a45 H =>
 vg (qai false a45) (.val x9) H fun a46 H =>
 vg (qai false a45) (lenSl a46) H fun a47 H =>
 vg (qai false a45) (intV (qab .eql).f a47 (.int .i64 (.ofNat 0))) H fun a48 H =>
 vq (qb7 a45 (.bool true) a48) H fun a49 H =>
 qsa call x3 x9 a49 H
def qr9 : Ev.Call → AV → AV → AV → AV → AV → Hp → R1 := Classical.choose (⟨qen, rfl⟩ : ∃ f, f = qen)
theorem qpw : qr9 = qen := Classical.choose_spec (⟨qen, rfl⟩ : ∃ f, f = qen)
def qdp (call : Ev.Call) (x3 x5 x6 x7 x8 x9 x10 : AV) (H : Hp) : R1 :=
 cd x6 (
 ve (call (.f qg6) [x7, x8, x5, (.int .i64 (.ofNat 0))] H) fun a51 H =>
 vg (qai true a51) (.val x9) H fun a52 H =>
 vg (qai true a51) (.val x10) H fun a53 H =>
 veg (qai true a51) (call (.f qg6) [a52, a53, (.nilsl), (.int .i64 (.ofNat 8))] H) H fun a54 H =>
 vq (qb7 a51 a54 (.bool false)) H fun a55 H =>
 veg (qai true a55) (call (.f qc9) [] H) H fun a56 H =>
 vq (qb7 a55 a56 (.bool false)) H fun a57 H =>
 .ok a57 H) (
 qr9 call x3 x7 x8 x9 x10 H)
def qr8 : Ev.Call → AV → AV → AV → AV → AV → AV → AV → Hp → R1 := Classical.choose (⟨qdp, rfl⟩ : ∃ f, f = qdp)
theorem qpv : qr8 = qdp := Classical.choose_spec (⟨qdp, rfl⟩ : ∃ f, f = qdp)
def qdo (call : Ev.Call) (x3 x4 x5 x6 x7 x8 : AV) (H : Hp) : R1 :=
 vq (qa4 2 H x4) H fun a59 H =>
 ve (call (.f qlr) [a59] H) fun a60 H =>
 vq (extr 0 a60) H fun a61 H =>
 vq (extr 1 a60) H fun a62 H =>
 qr8 call x3 x5 x6 x7 x8 a61 a62 H
def qr7 : Ev.Call → AV → AV → AV → AV → AV → AV → Hp → R1 := Classical.choose (⟨qdo, rfl⟩ : ∃ f, f = qdo)
theorem qpt : qr7 = qdo := Classical.choose_spec (⟨qdo, rfl⟩ : ∃ f, f = qdo)
def qdn (call : Ev.Call) (x3 x4 x5 x6 : AV) (H : Hp) : R1 :=
 vq (qa4 2 H x4) H fun a64 H =>
 ve (call (.f qlt) [a64] H) fun a65 H =>
 vq (extr 0 a65) H fun a66 H =>
 vq (extr 1 a65) H fun a67 H =>
 qr7 call x3 x4 x5 x6 a66 a67 H
def qr6 : Ev.Call → AV → AV → AV → AV → Hp → R1 := Classical.choose (⟨qdn, rfl⟩ : ∃ f, f = qdn)
theorem qpr : qr6 = qdn := Classical.choose_spec (⟨qdn, rfl⟩ : ∃ f, f = qdn)
def qem (call : Ev.Call) (x3 x4 : AV) (H : Hp) : R1 :=
 vq (qa4 2 H x3) H fun a69 H =>
 ve (call (.f qsr) [a69] H) fun a70 H =>
 vq (extr 0 a70) H fun a71 H =>
 vq (extr 1 a70) H fun a72 H =>
 qr6 call x3 x4 a71 a72 H
def qr5 : Ev.Call → AV → AV → Hp → R1 := Classical.choose (⟨qem, rfl⟩ : ∃ f, f = qem)
theorem qpp : qr5 = qem := Classical.choose_spec (⟨qem, rfl⟩ : ∃ f, f = qem)
def qel (call : Ev.Call) (x3 : AV) (H : Hp) : R1 :=
 vq (qa4 2 H x3) H fun a74 H =>
 ve (call (.f q0s) [a74] H) fun a75 H =>
 vq (.new (.ptr H.nx 0) (qaa 0 [.int .i64 (.ofNat 0), .nilsl])) H fun a76 H =>
 ve (qbh 2 H a76 a75) fun _ H =>
 qr5 call x3 a76 H
def qr4 : Ev.Call → AV → Hp → R1 := Classical.choose (⟨qel, rfl⟩ : ∃ f, f = qel)
theorem qpo : qr4 = qel := Classical.choose_spec (⟨qel, rfl⟩ : ∃ f, f = qel)
def zey (call : Ev.Call) (x0 : AV) (H : Hp) : R1 :=
 vq (boxA 2 H.nx x0) H fun a0 H =>
 vq (qa4 2 H a0) H fun a79 H =>
 ve (call (.f qst) [a79] H) fun a80 H =>
 vq (.new (.ptr H.nx 0) (qaa 0 [.int .i64 (.ofNat 0), .nilsl])) H fun a81 H =>
 ve (qbh 2 H a81 a80) fun _ H =>
 qr4 call a81 H
def lwN (call : Ev.Call) (x0 : AV) (H : Hp) : R1 := zey call x0 H
def qit (call : Ev.Call) (x2 x3 x4 : AV) (H : Hp) : R1 :=
 ve (call (.f qnu) [x3, x4] H) fun a6 H =>
 ve (qbh 2 H x2 a6) fun _ H =>
 finR (rV (qa4 2 H x2)) H
def qs1 (call : Ev.Call) (g9 : AV → AV → Hp → R1) (x4 x5 : AV) (H : Hp) : R1 :=
 vq (intV (qab .add).f x5 (.int .i64 (.ofNat 1))) H fun a10 H =>
 g9 x4 a10 H
def qs0 (call : Ev.Call) (g9 : AV → AV → Hp → R1) (x1 x3 x4 x5 : AV) (H : Hp) : R1 :=
 dz 31 H fun b12 H =>
 dq false false 0 0 (b12 + 0) H [] [] (fun _ => .val x4) (some true) fun a13 H p w =>
 dq false false 1 0 (b12 + 1) H p w (fun _ => qad 1 x1) (some true) fun a14 H p w =>
 dq true false 2 2 (b12 + 2) H p w (fun H => qae H a14) (some true) fun a15 H p w =>
 dq false false 3 0 (b12 + 3) H p w (fun _ => .val x5) (some true) fun a16 H p w =>
 dq false false 4 14 (b12 + 4) H p w (fun _ => idxS 3 a15 a16) (some true) fun a17 H p w =>
 dq false false 5 30 (b12 + 5) H p w (fun _ => idxA 3 1 a17 (.int .i64 (.ofNat 0))) (some true) fun a18 H p w =>
 dq true false 6 62 (b12 + 6) H p w (fun H => qae H a18) (some true) fun a19 H p w =>
 dq false true 7 126 (b12 + 7) H p w (fun _ => qv1 .i64 a19) (some true) fun a20 H p w =>
 dq false false 8 0 (b12 + 8) H p w (fun _ => .val x3) (some true) fun a21 H p w =>
 dq false false 9 510 (b12 + 9) H p w (fun _ => intV (qab .rem).f a20 a21) (some true) fun a22 H p w =>
 dq false false 10 0 (b12 + 10) H p w (fun _ => qad 1 x1) (some true) fun a23 H p w =>
 dq true false 11 1024 (b12 + 11) H p w (fun H => qae H a23) (some true) fun a24 H p w =>
 dq false false 12 0 (b12 + 12) H p w (fun _ => .val x5) (some true) fun a25 H p w =>
 dq false false 13 7168 (b12 + 13) H p w (fun _ => idxS 3 a24 a25) (some true) fun a26 H p w =>
 dq false false 14 15360 (b12 + 14) H p w (fun _ => idxA 3 1 a26 (.int .i64 (.ofNat 1))) (some true) fun a27 H p w =>
 dq true false 15 31744 (b12 + 15) H p w (fun H => qae H a27) (some true) fun a28 H p w =>
 dq false true 16 64512 (b12 + 16) H p w (fun _ => qv1 .i64 a28) (some true) fun a29 H p w =>
 dq false false 17 0 (b12 + 17) H p w (fun _ => .val x3) (some true) fun a30 H p w =>
 dq false false 18 261120 (b12 + 18) H p w (fun _ => intV (qab .rem).f a29 a30) (some true) fun a31 H p w =>
 dq false false 19 0 (b12 + 19) H p w (fun _ => qad 1 x1) (some true) fun a32 H p w =>
 dq true false 20 524288 (b12 + 20) H p w (fun H => qae H a32) (some true) fun a33 H p w =>
 dq false false 21 0 (b12 + 21) H p w (fun _ => .val x5) (some true) fun a34 H p w =>
 dq false false 22 3670016 (b12 + 22) H p w (fun _ => idxS 3 a33 a34) (some true) fun a35 H p w =>
 dq false false 23 7864320 (b12 + 23) H p w (fun _ => idxA 3 1 a35 (.int .i64 (.ofNat 2))) (some true) fun a36 H p w =>
 dq true false 24 16252928 (b12 + 24) H p w (fun H => qae H a36) (some true) fun a37 H p w =>
 dq false false 25 33030144 (b12 + 25) H p w (fun _ => intV (qab .rem).f a37 (.int .u8 (.ofNat 2))) (some true) fun a38 H p w =>
 dq false true 26 66584576 (b12 + 26) H p w (fun _ => qv1 .i64 a38) (some true) fun a39 H p w =>
 dq false false 27 134217726 (b12 + 27) H p w (fun _ => aggN (qar [.int .i64 (.ofNat 0), .int .i64 (.ofNat 0), .int .i64 (.ofNat 0)] [(0, 1, a22), (1, 1, a31), (2, 1, a39)])) (some true) fun a40 H p w =>
 dq false true 28 268435454 (b12 + 28) H p w (fun _ => qdg 1 (b12 + 28) (qar (reps [.int .i64 (.ofNat 0), .int .i64 (.ofNat 0), .int .i64 (.ofNat 0)] 1) [(0, 3, a40)])) (some true) fun a41 H p w =>
 de 536870911 H p w (qay 3 24 (qa0 536870911 p H) a13 (qbj 3 (qa0 536870911 p H) a41)) (some true) fun a42 H p w =>
 dq false false 30 1073741823 (b12 + 30) H p w (fun _ => .val a42) (some true) fun a43 H p w =>
 dz2 p H fun H =>
 qs1 call g9 a43 x5 H
def qyc (call : Ev.Call) (q9e0 : AV → Hp → R1) (x1 x3 : AV) (g9 : AV → AV → Hp → R1) (x4 x5 : AV) (H : Hp) : R1 :=
 vq (intV (qab .gtr).f x3 (.int .i64 (.ofNat 0))) H fun a45 H =>
 vg (qai true a45) (.val x5) H fun a46 H =>
 vg (qai true a45) (qad 1 x1) H fun a47 H =>
 vg (qai true a45) (qae H a47) H fun a48 H =>
 vg (qai true a45) (lenSl a48) H fun a49 H =>
 vg (qai true a45) (intV (qab .lss).f a46 a49) H fun a50 H =>
 vq (qb7 a45 a50 (.bool false)) H fun a51 H =>
 vg (qai true a51) (.val x5) H fun a52 H =>
 vg (qai true a51) (intV (qab .lss).f a52 (.int .i64 (.ofNat 40))) H fun a53 H =>
 vq (qb7 a51 a53 (.bool false)) H fun a54 H =>
 cd a54 (
 qs0 call g9 x1 x3 x4 x5 H) (
 q9e0 x4 H)
def qkh (call : Ev.Call) (q9e0 : AV → Hp → R1) (x1 x3 : AV) (n : Nat) : AV → AV → Hp → R1 :=
 Nat.rec (motive := fun _ => AV → AV → Hp → R1) (fun _ _ _ => .bad) (fun _ ih => qyc call q9e0 x1 x3 ih) n
def qyd (call : Ev.Call) (q9e0 : AV → Hp → R1) (x1 x3 : AV) : AV → AV → Hp → R1 := qkh call q9e0 x1 x3 qbd
def q7y (call : Ev.Call) (x0 : AV) (H : Hp) : R1 :=
 vq (boxA 2 H.nx x0) H fun a0 H =>
 vq (.new (.ptr H.nx 0) (qaa 0 [.int .i64 (.ofNat 0), .nilsl])) H fun a1 H =>
 vq (qad 0 a0) H fun a2 H =>
 vq (qae H a2) H fun a3 H =>
 vq (intV (qab .rem).f a3 (.int .u8 (.ofNat 13))) H fun a4 H =>
 vq (qv1 .i64 a4) H fun a5 H =>
 qyd call (fun x4 H => qit call a1 a5 x4 H) a0 a5 (.nilsl) (.int .i64 (.ofNat 0)) H
def hMat (call : Ev.Call) (x0 : AV) (H : Hp) : R1 := q7y call x0 H
def qir (call : Ev.Call) (x2 x3 : AV) (H : Hp) : R1 :=
 vq (qa4 2 H x3) H fun a9 H =>
 ve (qbh 2 H x2 a9) fun _ H =>
 finR (rV (qa4 2 H x2)) H
def qx5 (call : Ev.Call) (g12 : AV → Hp → R1) (x5 : AV) (H : Hp) : R1 :=
 vq (intV (qab .add).f x5 (.int .i64 (.ofNat 1))) H fun a13 H =>
 g12 a13 H
def qx4 (call : Ev.Call) (g12 : AV → Hp → R1) (x3 x4 x5 : AV) (H : Hp) : R1 :=
 dz 23 H fun b15 H =>
 dq false false 0 0 (b15 + 0) H [] [] (fun _ => qad 1 x3) (some true) fun a16 H p w =>
 dq true false 1 1 (b15 + 1) H p w (fun H => qae H a16) (some true) fun a17 H p w =>
 dq false false 2 0 (b15 + 2) H p w (fun _ => .val x4) (some true) fun a18 H p w =>
 dq false false 3 0 (b15 + 3) H p w (fun _ => .val x5) (some true) fun a19 H p w =>
 dq false false 4 12 (b15 + 4) H p w (fun _ => idxS 3 a18 a19) (some true) fun a20 H p w =>
 dq false false 5 28 (b15 + 5) H p w (fun _ => idxA 3 1 a20 (.int .i64 (.ofNat 0))) (some true) fun a21 H p w =>
 dq true false 6 60 (b15 + 6) H p w (fun H => qae H a21) (some true) fun a22 H p w =>
 dq false false 7 0 (b15 + 7) H p w (fun _ => .val x4) (some true) fun a23 H p w =>
 dq false false 8 0 (b15 + 8) H p w (fun _ => .val x5) (some true) fun a24 H p w =>
 dq false false 9 384 (b15 + 9) H p w (fun _ => idxS 3 a23 a24) (some true) fun a25 H p w =>
 dq false false 10 896 (b15 + 10) H p w (fun _ => idxA 3 1 a25 (.int .i64 (.ofNat 1))) (some true) fun a26 H p w =>
 dq true false 11 1920 (b15 + 11) H p w (fun H => qae H a26) (some true) fun a27 H p w =>
 dq false false 12 0 (b15 + 12) H p w (fun _ => .val x4) (some true) fun a28 H p w =>
 dq false false 13 0 (b15 + 13) H p w (fun _ => .val x5) (some true) fun a29 H p w =>
 dq false false 14 12288 (b15 + 14) H p w (fun _ => idxS 3 a28 a29) (some true) fun a30 H p w =>
 dq false false 15 28672 (b15 + 15) H p w (fun _ => idxA 3 1 a30 (.int .i64 (.ofNat 2))) (some true) fun a31 H p w =>
 dq true false 16 61440 (b15 + 16) H p w (fun H => qae H a31) (some true) fun a32 H p w =>
 dq false false 17 126976 (b15 + 17) H p w (fun _ => intV (qab .eql).f a32 (.int .i64 (.ofNat 1))) (some true) fun a33 H p w =>
 dq false false 18 262140 (b15 + 18) H p w (fun _ => aggN (qar [.int .i64 (.ofNat 0), .int .i64 (.ofNat 0), .bool false] [(0, 1, a22), (1, 1, a27), (2, 1, a33)])) (some true) fun a34 H p w =>
 dq false true 19 524284 (b15 + 19) H p w (fun _ => qdg 1 (b15 + 19) (qar (reps [.int .i64 (.ofNat 0), .int .i64 (.ofNat 0), .bool false] 1) [(0, 3, a34)])) (some true) fun a35 H p w =>
 de 1048575 H p w (qay 3 24 (qa0 1048575 p H) a17 (qbj 3 (qa0 1048575 p H) a35)) (some true) fun a36 H p w =>
 dq false false 21 2097151 (b15 + 21) H p w (fun _ => qad 1 x3) (some true) fun a37 H p w =>
 de 4194303 H p w (qaz (qa0 4194303 p H) a37 a36) (some true) fun _ H p w =>
 dz2 p H fun H =>
 qx5 call g12 x5 H
def qx6 (call : Ev.Call) (q12e0 : Hp → R1) (x3 x4 : AV) (g12 : AV → Hp → R1) (x5 : AV) (H : Hp) : R1 :=
 vq (lenSl x4) H fun a40 H =>
 vq (intV (qab .lss).f x5 a40) H fun a41 H =>
 cd a41 (
 qx4 call g12 x3 x4 x5 H) (
 q12e0 H)
def qke (call : Ev.Call) (q12e0 : Hp → R1) (x3 x4 : AV) (n : Nat) : AV → Hp → R1 :=
 Nat.rec (motive := fun _ => AV → Hp → R1) (fun _ _ => .bad) (fun _ ih => qx6 call q12e0 x3 x4 ih) n
def qx7 (call : Ev.Call) (q12e0 : Hp → R1) (x3 x4 : AV) : AV → Hp → R1 := qke call q12e0 x3 x4 qbd
def ze5 (call : Ev.Call) (x0 : AV) (H : Hp) : R1 :=
 vq (boxA 2 H.nx x0) H fun a0 H =>
 vq (.new (.ptr H.nx 0) (qaa 0 [.int .i64 (.ofNat 0), .nilsl])) H fun a1 H =>
 vq (qad 0 a0) H fun a2 H =>
 vq (qae H a2) H fun a3 H =>
 vq (aggN (qar [.int .i64 (.ofNat 0), .nilsl] [(0, 1, a3)])) H fun a4 H =>
 vq (.new (.ptr H.nx 0) (qaa 0 [.int .i64 (.ofNat 0), .nilsl])) H fun a5 H =>
 ve (qbh 2 H a5 a4) fun _ H =>
 vq (qa4 2 H a0) H fun a7 H =>
 ve (call (.f qnv) [a7] H) fun a8 H =>
 qx7 call (fun H => qir call a1 a5 H) a5 a8 (.int .i64 (.ofNat 0)) H
def lGr (call : Ev.Call) (x0 : AV) (H : Hp) : R1 := ze5 call x0 H
def qbz (call : Ev.Call) (x4 : AV) (H : Hp) : R1 :=
 .ok (.tup [x4, (.bool true)]) H
def qe2 (call : Ev.Call) (g6 : AV → AV → Hp → R1) (x5 x6 : AV) (H : Hp) : R1 :=
 vq (intV (qab .add).f x6 (.int .i64 (.ofNat 1))) H fun a7 H =>
 g6 x5 a7 H
def qru (call : Ev.Call) (g9 : AV → AV → Hp → R1) (x5 x7 : AV) (H : Hp) : R1 :=
 vq (intV (qab .add).f x7 (.int .i64 (.ofNat 1))) H fun a10 H =>
 g9 x5 a10 H
def qhn (call : Ev.Call) (q9r : AV → AV → Hp → R1) (g9 : AV → AV → Hp → R1) (x1 x4 x5 x6 x7 : AV) (H : Hp) : R1 :=
 vl (idxS 1 x4 x6) fun a12 =>
 vl (qae H a12) fun a13 =>
 vl (qad 0 x1) fun a14 =>
 vl (qae H a14) fun a15 =>
 vl (intV (qab .gtr).f a13 a15) fun a16 =>
 cd a16 (
 q9r (.nilsl) (.bool false) H) (
 qru call g9 x5 x7 H)
def qhm (call : Ev.Call) (q9r : AV → AV → Hp → R1) (g9 : AV → AV → Hp → R1) (x1 x4 x5 x6 x7 x8 : AV) (H : Hp) : R1 :=
 vq (idxS 1 x4 x6) H fun a18 H =>
 vq (qae H a18) H fun a19 H =>
 vq (intV (qab .lss).f a19 x8) H fun a20 H =>
 cd a20 (
 vq (idxS 1 x4 x6) H fun a21 H =>
 ve (qaz H a21 x8) fun _ H =>
 qhn call q9r g9 x1 x4 (.bool true) x6 x7 H) (
 qhn call q9r g9 x1 x4 x5 x6 x7 H)
def qhl (call : Ev.Call) (q9r : AV → AV → Hp → R1) (g9 : AV → AV → Hp → R1) (x1 x4 x5 x6 x7 x8 : AV) (H : Hp) : R1 :=
 vq (qad 1 x1) H fun a24 H =>
 vq (qae H a24) H fun a25 H =>
 vq (qad 0 x1) H fun a26 H =>
 vq (qae H a26) H fun a27 H =>
 vq (intV (qab .mul).f x6 a27) H fun a28 H =>
 vq (intV (qab .add).f a28 x7) H fun a29 H =>
 vq (idxS 1 a25 a29) H fun a30 H =>
 vq (qae H a30) H fun a31 H =>
 vq (intV (qab .gtr).f a31 (.int .i64 (.ofNat 1))) H fun a32 H =>
 cd a32 (
 vq (idxS 1 x4 x7) H fun a33 H =>
 vq (qae H a33) H fun a34 H =>
 vq (intV (qab .add).f a34 (.int .i64 (.ofNat 1))) H fun a35 H =>
 qhm call q9r g9 x1 x4 x5 x6 x7 a35 H) (
 qhm call q9r g9 x1 x4 x5 x6 x7 x8 H)
def qrt (call : Ev.Call) (q9r : AV → AV → Hp → R1) (g9 : AV → AV → Hp → R1) (x1 x4 x5 x6 x7 : AV) (H : Hp) : R1 :=
 vq (qad 1 x1) H fun a37 H =>
 vq (qae H a37) H fun a38 H =>
 vq (qad 0 x1) H fun a39 H =>
 vq (qae H a39) H fun a40 H =>
 vq (intV (qab .mul).f x6 a40) H fun a41 H =>
 vq (intV (qab .add).f a41 x7) H fun a42 H =>
 vq (idxS 1 a38 a42) H fun a43 H =>
 vq (qae H a43) H fun a44 H =>
 vq (intV (qab .eql).f a44 (.int .i64 (.ofNat 1))) H fun a45 H =>
 cd a45 (
 vq (idxS 1 x4 x7) H fun a46 H =>
 vq (qae H a46) H fun a47 H =>
 qhl call q9r g9 x1 x4 x5 x6 x7 a47 H) (
 qhl call q9r g9 x1 x4 x5 x6 x7 (.int .i64 (.negSucc 0)) H)
def qxl (call : Ev.Call) (q9r : AV → AV → Hp → R1) (q9e4 : AV → Hp → R1) (x1 x4 x6 : AV) (g9 : AV → AV → Hp → R1) (x5 x7 : AV) (H : Hp) : R1 :=
 vq (qad 0 x1) H fun a49 H =>
 vq (qae H a49) H fun a50 H =>
 vq (intV (qab .lss).f x7 a50) H fun a51 H =>
 cd a51 (
 qrt call q9r g9 x1 x4 x5 x6 x7 H) (
 q9e4 x5 H)
def qd3 (call : Ev.Call) (q9r : AV → AV → Hp → R1) (q9e4 : AV → Hp → R1) (x1 x4 x6 : AV) (n : Nat) : AV → AV → Hp → R1 :=
 Nat.rec (motive := fun _ => AV → AV → Hp → R1) (fun _ _ _ => .bad) (fun _ ih => qxl call q9r q9e4 x1 x4 x6 ih) n
def qxn (call : Ev.Call) (q9r : AV → AV → Hp → R1) (q9e4 : AV → Hp → R1) (x1 x4 x6 : AV) : AV → AV → Hp → R1 := qd3 call q9r q9e4 x1 x4 x6 qbd
def qrs (call : Ev.Call) (q6r : AV → AV → Hp → R1) (g6 : AV → AV → Hp → R1) (x1 x4 x5 x6 : AV) (H : Hp) : R1 :=
 qxn call (fun x2 x3 H => q6r x2 x3 H) (fun x5 H => qe2 call g6 x5 x6 H) x1 x4 x6 x5 (.int .i64 (.ofNat 0)) H
def qxm (call : Ev.Call) (q6r : AV → AV → Hp → R1) (q6e2 : AV → Hp → R1) (x1 x4 : AV) (g6 : AV → AV → Hp → R1) (x5 x6 : AV) (H : Hp) : R1 :=
 vq (qad 0 x1) H fun a53 H =>
 vq (qae H a53) H fun a54 H =>
 vq (intV (qab .lss).f x6 a54) H fun a55 H =>
 cd a55 (
 qrs call q6r g6 x1 x4 x5 x6 H) (
 q6e2 x5 H)
def qcx (call : Ev.Call) (q6r : AV → AV → Hp → R1) (q6e2 : AV → Hp → R1) (x1 x4 : AV) (n : Nat) : AV → AV → Hp → R1 :=
 Nat.rec (motive := fun _ => AV → AV → Hp → R1) (fun _ _ _ => .bad) (fun _ ih => qxm call q6r q6e2 x1 x4 ih) n
def qxo (call : Ev.Call) (q6r : AV → AV → Hp → R1) (q6e2 : AV → Hp → R1) (x1 x4 : AV) : AV → AV → Hp → R1 := qcx call q6r q6e2 x1 x4 qbd
def qrr (call : Ev.Call) (q5r : AV → AV → Hp → R1) (g5 : AV → Hp → R1) (x1 x4 : AV) (H : Hp) : R1 :=
 qxo call (fun x2 x3 H => q5r x2 x3 H) (fun x5 H => g5 x5 H) x1 x4 (.bool false) (.int .i64 (.ofNat 0)) H
def qms (call : Ev.Call) (q5r : AV → AV → Hp → R1) (q5e0 : Hp → R1) (x1 x4 : AV) (g5 : AV → Hp → R1) (x5 : AV) (H : Hp) : R1 :=
 cd x5 (
 qrr call q5r g5 x1 x4 H) (
 q5e0 H)
def qby (call : Ev.Call) (q5r : AV → AV → Hp → R1) (q5e0 : Hp → R1) (x1 x4 : AV) (n : Nat) : AV → Hp → R1 :=
 Nat.rec (motive := fun _ => AV → Hp → R1) (fun _ _ => .bad) (fun _ ih => qms call q5r q5e0 x1 x4 ih) n
def qxp (call : Ev.Call) (q5r : AV → AV → Hp → R1) (q5e0 : Hp → R1) (x1 x4 : AV) : AV → Hp → R1 := qby call q5r q5e0 x1 x4 qbd
def q6a (call : Ev.Call) (x0 : AV) (H : Hp) : R1 :=
 vq (boxA 2 H.nx x0) H fun a0 H =>
 vq (qad 0 a0) H fun a1 H =>
 vq (qae H a1) H fun a2 H =>
 vq (qgf [.int .i64 (.ofNat 0)] 8 H.nx a2 a2) H fun a3 H =>
 qxp call (fun x2 x3 H => .ok (.tup [x2, x3]) H) (fun H => qbz call a3 H) a0 a3 (.bool true) H
def rNum (call : Ev.Call) (x0 : AV) (H : Hp) : R1 := q6a call x0 H
def qbg (call : Ev.Call) (x8 : AV) (H : Hp) : R1 :=
 .ok (.tup [x8, (.int .i64 (.ofNat 0))]) H
def qd0 (call : Ev.Call) (g11 : AV → Hp → R1) (x41 : AV) (H : Hp) : R1 :=
 vq (intV (qab .add).f x41 (.int .i64 (.ofNat 1))) H fun a13 H =>
 g11 a13 H
def qma (call : Ev.Call) (g18 : AV → Hp → R1) (x85 : AV) (H : Hp) : R1 :=
 vq (intV (qab .add).f x85 (.int .i64 (.ofNat 1))) H fun a20 H =>
 g18 a20 H
def ql9 (call : Ev.Call) (g18 : AV → Hp → R1) (x8 x11 x83 x85 : AV) (H : Hp) : R1 :=
 vq (idxS 1 x83 x85) H fun a22 H =>
 vq (qae H a22) H fun a23 H =>
 ve (call (.f qjl) [x11] H) fun a24 H =>
 vq (idxS 1 x8 a23) H fun a25 H =>
 ve (qaz H a25 a24) fun _ H =>
 qma call g18 x85 H
def qmc (call : Ev.Call) (q18e4 : Hp → R1) (x8 x11 x83 x84 : AV) (g18 : AV → Hp → R1) (x85 : AV) (H : Hp) : R1 :=
 vq (intV (qab .lss).f x85 x84) H fun a19 H =>
 cd a19 (
 ql9 call g18 x8 x11 x83 x85 H) (
 q18e4 H)
def qfa (call : Ev.Call) (q18e4 : Hp → R1) (x8 x11 x83 x84 : AV) (n : Nat) : AV → Hp → R1 :=
 Nat.rec (motive := fun _ => AV → Hp → R1) (fun _ _ => .bad) (fun _ ih => qmc call q18e4 x8 x11 x83 x84 ih) n
def qme (call : Ev.Call) (q18e4 : Hp → R1) (x8 x11 x83 x84 : AV) : AV → Hp → R1 := qfa call q18e4 x8 x11 x83 x84 qbd
def qdc (call : Ev.Call) (g11 : AV → Hp → R1) (x8 x10 x11 x41 : AV) (H : Hp) : R1 :=
 vq (lenSl x10) H fun a17 H =>
 qme call (fun H => qd0 call g11 x41 H) x8 x11 x10 a17 (.int .i64 (.ofNat 0)) H
def qfb (call : Ev.Call) (g32 : AV → AV → Hp → R1) (x11 x49 : AV) (H : Hp) : R1 :=
 vq (intV (qab .add).f x49 (.int .i64 (.ofNat 1))) H fun a34 H =>
 g32 x11 a34 H
def qcu (call : Ev.Call) (g32 : AV → AV → Hp → R1) (x4 x8 x9 x11 x47 x49 : AV) (H : Hp) : R1 :=
 vq (idxS 3 x47 x49) H fun a36 H =>
 vq (qa4 3 H a36) H fun a37 H =>
 vq (.new (.ptr H.nx 0) (qaa 0 [.int .i64 (.ofNat 0), .int .i64 (.ofNat 0), .bool false])) H fun a38 H =>
 ve (qbh 3 H a38 a37) fun _ H =>
 vq (qad 1 x4) H fun a40 H =>
 vq (qae H a40) H fun a41 H =>
 vq (qad 0 a38) H fun a42 H =>
 vq (qae H a42) H fun a43 H =>
 vq (idxS 1 a41 a43) H fun a44 H =>
 vq (qae H a44) H fun a45 H =>
 vq (intV (qab .eql).f a45 x9) H fun a46 H =>
 vg (qai true a46) (qad 1 x4) H fun a47 H =>
 vg (qai true a46) (qae H a47) H fun a48 H =>
 vg (qai true a46) (qad 1 a38) H fun a49 H =>
 vg (qai true a46) (qae H a49) H fun a50 H =>
 vg (qai true a46) (idxS 1 a48 a50) H fun a51 H =>
 vg (qai true a46) (qae H a51) H fun a52 H =>
 vg (qai true a46) (.val x9) H fun a53 H =>
 vg (qai true a46) (intV (qab .neq).f a52 a53) H fun a54 H =>
 vq (qb7 a46 a54 (.bool false)) H fun a55 H =>
 cd a55 (
 dz 12 H fun b56 H =>
 dq false false 0 0 (b56 + 0) H [] [] (fun _ => .val x11) (some true) fun a57 H p w =>
 dq false false 1 0 (b56 + 1) H p w (fun _ => .val x8) (some true) fun a58 H p w =>
 dq false false 2 0 (b56 + 2) H p w (fun _ => qad 1 a38) (some true) fun a59 H p w =>
 dq true false 3 4 (b56 + 3) H p w (fun H => qae H a59) (some true) fun a60 H p w =>
 dq false false 4 14 (b56 + 4) H p w (fun _ => idxS 1 a58 a60) (some true) fun a61 H p w =>
 dq true false 5 30 (b56 + 5) H p w (fun H => qae H a61) (some true) fun a62 H p w =>
 dq true false 6 0 (b56 + 6) H p w (fun H => qa4 3 H a38) (some true) fun a63 H p w =>
 de 64 H p w (call (.f qls) [a63] (qa0 64 p H)) (some true) fun a64 H p w =>
 dq false false 8 254 (b56 + 8) H p w (fun _ => intV (qab .add).f a62 a64) (some true) fun a65 H p w =>
 dq false true 9 510 (b56 + 9) H p w (fun _ => qdg 1 (b56 + 9) (qar (reps [.int .i64 (.ofNat 0)] 1) [(0, 1, a65)])) (some true) fun a66 H p w =>
 de 1023 H p w (qay 1 8 (qa0 1023 p H) a57 (qbj 1 (qa0 1023 p H) a66)) (some true) fun a67 H p w =>
 dq false false 11 2047 (b56 + 11) H p w (fun _ => .val a67) (some true) fun a68 H p w =>
 dz2 p H fun H =>
 qfb call g32 a68 x49 H) (
 qfb call g32 x11 x49 H)
def ql8 : Ev.Call → (AV → AV → Hp → R1) → AV → AV → AV → AV → AV → AV → Hp → R1 := Classical.choose (⟨qcu, rfl⟩ : ∃ f, f = qcu)
theorem qk8 : ql8 = qcu := Classical.choose_spec (⟨qcu, rfl⟩ : ∃ f, f = qcu)
def qmb (call : Ev.Call) (q32e2 : AV → Hp → R1) (x4 x8 x9 x47 x48 : AV) (g32 : AV → AV → Hp → R1) (x11 x49 : AV) (H : Hp) : R1 :=
 vq (intV (qab .lss).f x49 x48) H fun a33 H =>
 cd a33 (
 ql8 call g32 x4 x8 x9 x11 x47 x49 H) (
 q32e2 x11 H)
def qdb (call : Ev.Call) (q32e2 : AV → Hp → R1) (x4 x8 x9 x47 x48 : AV) (n : Nat) : AV → AV → Hp → R1 :=
 Nat.rec (motive := fun _ => AV → AV → Hp → R1) (fun _ _ _ => .bad) (fun _ ih => qmb call q32e2 x4 x8 x9 x47 x48 ih) n
def qmd (call : Ev.Call) (q32e2 : AV → Hp → R1) (x4 x8 x9 x47 x48 : AV) : AV → AV → Hp → R1 := qdb call q32e2 x4 x8 x9 x47 x48 qbd
def ql7 (call : Ev.Call) (g11 : AV → Hp → R1) (x1 x4 x8 x39 x41 : AV) (H : Hp) : R1 :=
 vq (idxS 1 x39 x41) H fun a15 H =>
 vq (qae H a15) H fun a16 H =>
 vq (qad 1 x1) H fun a29 H =>
 vq (qae H a29) H fun a30 H =>
 vq (lenSl a30) H fun a31 H =>
 qmd call (fun x11 H => qdc call g11 x8 a16 x11 x41 H) x4 x8 x41 a30 a31 (.nilsl) (.int .i64 (.ofNat 0)) H
def qgn (call : Ev.Call) (q11e0 : Hp → R1) (x1 x4 x8 x39 x40 : AV) (g11 : AV → Hp → R1) (x41 : AV) (H : Hp) : R1 :=
 vq (intV (qab .lss).f x41 x40) H fun a12 H =>
 cd a12 (
 ql7 call g11 x1 x4 x8 x39 x41 H) (
 q11e0 H)
def qba (call : Ev.Call) (q11e0 : Hp → R1) (x1 x4 x8 x39 x40 : AV) (n : Nat) : AV → Hp → R1 :=
 Nat.rec (motive := fun _ => AV → Hp → R1) (fun _ _ => .bad) (fun _ ih => qgn call q11e0 x1 x4 x8 x39 x40 ih) n
def qi5 (call : Ev.Call) (q11e0 : Hp → R1) (x1 x4 x8 x39 x40 : AV) : AV → Hp → R1 := qba call q11e0 x1 x4 x8 x39 x40 qbd
def qcc (call : Ev.Call) (x1 x4 x8 : AV) (H : Hp) : R1 :=
 vq (qad 0 x4) H fun a8 H =>
 vq (qae H a8) H fun a9 H =>
 vq (lenSl a9) H fun a10 H =>
 qi5 call (fun H => qbg call x8 H) x1 x4 x8 a9 a10 (.int .i64 (.ofNat 0)) H
def qi4 : Ev.Call → AV → AV → AV → Hp → R1 := Classical.choose (⟨qcc, rfl⟩ : ∃ f, f = qcc)
theorem qgm : qi4 = qcc := Classical.choose_spec (⟨qcc, rfl⟩ : ∃ f, f = qcc)
def qct (call : Ev.Call) (x1 x4 : AV) (H : Hp) : R1 :=
 vq (qad 0 x1) H fun a72 H =>
 vq (qae H a72) H fun a73 H =>
 vq (intV (qab .gtr).f a73 (.int .i64 (.ofNat 0))) H fun a74 H =>
 cd a74 (
 vq (qad 0 x1) H fun a75 H =>
 vq (qae H a75) H fun a76 H =>
 vq (qgf [.int .i64 (.ofNat 0)] 8 H.nx a76 a76) H fun a77 H =>
 qi4 call x1 x4 a77 H) (
 qi4 call x1 x4 (.nilsl) H)
def ql6 : Ev.Call → AV → AV → Hp → R1 := Classical.choose (⟨qct, rfl⟩ : ∃ f, f = qct)
theorem qk7 : ql6 = qct := Classical.choose_spec (⟨qct, rfl⟩ : ∃ f, f = qct)
def qcs (call : Ev.Call) (x1 x4 : AV) (H : Hp) : R1 :=
 vq (qa4 2 H x1) H fun a79 H =>
 ve (call (.f qsy) [a79] H) fun a80 H =>
 vq (extr 0 a80) H fun a81 H =>
 vq (extr 1 a80) H fun a82 H =>
 vq (lenSl a81) H fun a83 H =>
 vq (intV (qab .gtr).f a83 (.int .i64 (.ofNat 0))) H fun a84 H =>
 cd a84 (
 .ok (.tup [(.nilsl), (.int .i64 (.ofNat 12))]) H) (
 ql6 call x1 x4 H)
def ql5 : Ev.Call → AV → AV → Hp → R1 := Classical.choose (⟨qcs, rfl⟩ : ∃ f, f = qcs)
theorem qk6 : ql5 = qcs := Classical.choose_spec (⟨qcs, rfl⟩ : ∃ f, f = qcs)
def qwr (call : Ev.Call) (x0 : AV) (H : Hp) : R1 :=
 vq (boxA 2 H.nx x0) H fun a0 H =>
 vq (qa4 2 H a0) H fun a1 H =>
 ve (call (.f qp5) [a1] H) fun a2 H =>
 vq (extr 0 a2) H fun a3 H =>
 vq (extr 1 a2) H fun a4 H =>
 vq (.new (.ptr H.nx 0) (qaa 0 [.nilsl, .nilsl])) H fun a5 H =>
 ve (qbh 2 H a5 a3) fun _ H =>
 vq (intV (qab .neq).f a4 (.int .i64 (.ofNat 0))) H fun a86 H =>
 cd a86 (
 .ok (.tup [(.nilsl), a4]) H) (
 ql5 call a0 a5 H)
def stNum (call : Ev.Call) (x0 : AV) (H : Hp) : R1 := qwr call x0 H
def ql4 (call : Ev.Call) (x1 x6 : AV) (H : Hp) : R1 :=
 vq (qad 1 x1) H fun a10 H =>
 vq (qae H a10) H fun a11 H =>
 vq (idxS 3 a11 x6) H fun a12 H =>
 vq (qa4 3 H a12) H fun a13 H =>
 vq (.new (.ptr H.nx 0) (qaa 0 [.int .i64 (.ofNat 0), .int .i64 (.ofNat 0), .bool false])) H fun a14 H =>
 ve (qbh 3 H a14 a13) fun _ H =>
 vq (qa4 2 H x1) H fun a16 H =>
 vq (qad 1 a14) H fun a17 H =>
 vq (qae H a17) H fun a18 H =>
 vq (qad 0 a14) H fun a19 H =>
 vq (qae H a19) H fun a20 H =>
 ve (call (.f qnx) [a16, a18, a20] H) fun a21 H =>
 vq (extr 0 a21) H fun a22 H =>
 vq (extr 1 a21) H fun a23 H =>
 dz 12 H fun b24 H =>
 dq false false 0 0 (b24 + 0) H [] [] (fun _ => qad 0 a14) (some true) fun a25 H p w =>
 dq true false 1 1 (b24 + 1) H p w (fun H => qae H a25) (some true) fun a26 H p w =>
 dq false true 2 3 (b24 + 2) H p w (fun _ => qdg 1 (b24 + 2) (qar (reps [.int .i64 (.ofNat 0)] 1) [(0, 1, a26)])) (some true) fun a27 H p w =>
 dq false false 3 0 (b24 + 3) H p w (fun _ => .val a22) (some true) fun a28 H p w =>
 dq false false 4 0 (b24 + 4) H p w (fun _ => .val a22) (some true) fun a29 H p w =>
 dq false false 5 16 (b24 + 5) H p w (fun _ => lenSl a29) (some true) fun a30 H p w =>
 dq false false 6 48 (b24 + 6) H p w (fun _ => intV (qab .sub).f a30 (.int .i64 (.ofNat 1))) (some true) fun a31 H p w =>
 dq false false 7 120 (b24 + 7) H p w (fun _ => qa8 1 a28 none (some a31) none) (some true) fun a32 H p w =>
 de 255 H p w (qay 1 8 (qa0 255 p H) a27 (qbj 1 (qa0 255 p H) a32)) (some true) fun a33 H p w =>
 de 511 H p w (call (.f qg4) [a33] (qa0 511 p H)) (some true) fun a34 H p w =>
 dq false false 10 1023 (b24 + 10) H p w (fun _ => .val a34) (some true) fun a35 H p w =>
 dq false false 11 2047 (b24 + 11) H p w (fun _ => .val (.int .i64 (.ofNat 0))) (some true) fun a36 H p w =>
 dz2 p H fun H =>
 .ok (.tup [a35, a36]) H
def ql3 (call : Ev.Call) (x1 x4 : AV) (H : Hp) : R1 :=
 vq (qad 1 x1) H fun a7 H =>
 vq (qae H a7) H fun a8 H =>
 ve (call (.f qsk) [a8, (.fn qjk [] [x4])] H) fun a9 H =>
 vq (intV (qab .lss).f a9 (.int .i64 (.ofNat 0))) H fun a38 H =>
 cd a38 (
 .ok (.tup [(.nilsl), (.int .i64 (.ofNat 8))]) H) (
 ql4 call x1 a9 H)
def qwo (call : Ev.Call) (x0 : AV) (H : Hp) : R1 :=
 vq (boxA 2 H.nx x0) H fun a0 H =>
 vq (qa4 2 H a0) H fun a1 H =>
 ve (call (.f qp5) [a1] H) fun a2 H =>
 vq (extr 0 a2) H fun a3 H =>
 vq (extr 1 a2) H fun a4 H =>
 vq (.new (.ptr H.nx 0) (qaa 0 [.nilsl, .nilsl])) H fun a5 H =>
 ve (qbh 2 H a5 a3) fun _ H =>
 vq (intV (qab .neq).f a4 (.int .i64 (.ofNat 0))) H fun a40 H =>
 cd a40 (
 .ok (.tup [(.nilsl), a4]) H) (
 ql3 call a0 a5 H)
def stWit (call : Ev.Call) (x0 : AV) (H : Hp) : R1 := qwo call x0 H
def qnm (call : Ev.Call) (H : Hp) : R1 :=
 .ok (.bool true) H
def q63 (call : Ev.Call) (g1 : AV → Hp → R1) (x9 : AV) (H : Hp) : R1 :=
 vq (intV (qab .add).f x9 (.int .i64 (.ofNat 1))) H fun a2 H =>
 g1 a2 H
def q62 (call : Ev.Call) (q1r : AV → Hp → R1) (g1 : AV → Hp → R1) (x0 x2 x9 : AV) (H : Hp) : R1 :=
 vl (idxS 1 x0 x9) fun a4 =>
 vl (qae H a4) fun a5 =>
 vl (idxS 1 x2 x9) fun a6 =>
 vl (qae H a6) fun a7 =>
 vl (intV (qab .neq).f a5 a7) fun a8 =>
 cd a8 (
 q1r (.bool false) H) (
 q63 call g1 x9 H)
def q64 (call : Ev.Call) (q1r : AV → Hp → R1) (q1e0 : Hp → R1) (x0 x2 : AV) (g1 : AV → Hp → R1) (x9 : AV) (H : Hp) : R1 :=
 vq (lenSl x2) H fun a10 H =>
 vq (intV (qab .lss).f x9 a10) H fun a11 H =>
 cd a11 (
 q62 call q1r g1 x0 x2 x9 H) (
 q1e0 H)
def qpn (call : Ev.Call) (q1r : AV → Hp → R1) (q1e0 : Hp → R1) (x0 x2 : AV) (n : Nat) : AV → Hp → R1 :=
 Nat.rec (motive := fun _ => AV → Hp → R1) (fun _ _ => .bad) (fun _ ih => q64 call q1r q1e0 x0 x2 ih) n
def q65 (call : Ev.Call) (q1r : AV → Hp → R1) (q1e0 : Hp → R1) (x0 x2 : AV) : AV → Hp → R1 := qpn call q1r q1e0 x0 x2 qbd
def qx2 (call : Ev.Call) (x0 x2 : AV) (H : Hp) : R1 :=
 q65 call (fun x8 H => .ok x8 H) (fun H => qnm call H) x0 x2 (.int .i64 (.ofNat 0)) H
def zex (call : Ev.Call) (x0 x1 x2 x3 : AV) (H : Hp) : R1 :=
 vq (intV (qab .neq).f x1 x3) H fun a13 H =>
 vg (qai false a13) (.val x0) H fun a14 H =>
 vg (qai false a13) (lenSl a14) H fun a15 H =>
 vg (qai false a13) (.val x2) H fun a16 H =>
 vg (qai false a13) (lenSl a16) H fun a17 H =>
 vg (qai false a13) (intV (qab .neq).f a15 a17) H fun a18 H =>
 vq (qb7 a13 (.bool true) a18) H fun a19 H =>
 vg (qai false a19) (.val x0) H fun a20 H =>
 vg (qai false a19) (capV a20) H fun a21 H =>
 vg (qai false a19) (.val x0) H fun a22 H =>
 vg (qai false a19) (lenSl a22) H fun a23 H =>
 vg (qai false a19) (intV (qab .neq).f a21 a23) H fun a24 H =>
 vq (qb7 a19 (.bool true) a24) H fun a25 H =>
 cd a25 (
 .ok (.bool false) H) (
 qx2 call x0 x2 H)
def lwT (call : Ev.Call) (x0 x1 x2 x3 : AV) (H : Hp) : R1 := zex call x0 x1 x2 x3 H
def qij (call : Ev.Call) (H : Hp) : R1 :=
 .ok (.nilsl) H
def qrm (call : Ev.Call) (g6 : AV → Hp → R1) (x5 : AV) (H : Hp) : R1 :=
 vq (intV (qab .add).f x5 (.int .i64 (.ofNat 1))) H fun a7 H =>
 g6 a7 H
def qrn (call : Ev.Call) (q6r : AV → Hp → R1) (g6 : AV → Hp → R1) (x1 x3 x4 x5 : AV) (H : Hp) : R1 :=
 vl (idxS 3 x4 x5) fun a9 =>
 vl (idxA 3 1 a9 (.int .i64 (.ofNat 0))) fun a10 =>
 vl (qae H a10) fun a11 =>
 vl (idxS 3 x4 x5) fun a12 =>
 vl (idxA 3 1 a12 (.int .i64 (.ofNat 1))) fun a13 =>
 vl (qae H a13) fun a14 =>
 vq (idxS 3 x4 x5) H fun a15 H =>
 vq (idxA 3 1 a15 (.int .i64 (.ofNat 2))) H fun a16 H =>
 vq (qae H a16) H fun a17 H =>
 vq (intV (qab .eql).f a17 (.int .i64 (.ofNat 1))) H fun a18 H =>
 vg (qai true a18) (.val x3) H fun a19 H =>
 vg (qai true a18) (.val a14) H fun a20 H =>
 vg (qai true a18) (qad 0 x1) H fun a21 H =>
 vg (qai true a18) (qae H a21) H fun a22 H =>
 vg (qai true a18) (intV (qab .mul).f a20 a22) H fun a23 H =>
 vg (qai true a18) (.val a11) H fun a24 H =>
 vg (qai true a18) (intV (qab .add).f a23 a24) H fun a25 H =>
 vg (qai true a18) (idxS 1 a19 a25) H fun a26 H =>
 vg (qai true a18) (qae H a26) H fun a27 H =>
 vg (qai true a18) (intV (qab .geq).f a27 (.int .i64 (.ofNat 0))) H fun a28 H =>
 vq (qb7 a18 a28 (.bool false)) H fun a29 H =>
 cd a29 (
 vq (qa4 2 H x1) H fun a30 H =>
 ve (call (.f qsq) [a30, a14, a11] H) fun a31 H =>
 vq (qdg 1 H.nx (qar (reps [.int .i64 (.ofNat 0)] 1) [(0, 1, a11)])) H fun a32 H =>
 vq (lenSl a31) H fun a33 H =>
 vq (intV (qab .sub).f a33 (.int .i64 (.ofNat 1))) H fun a34 H =>
 vq (qa8 1 a31 none (some a34) none) H fun a35 H =>
 ve (qay 1 8 H a32 (qbj 1 H a35)) fun a36 H =>
 q6r a36 H) (
 qrm call g6 x5 H)
def qxg (call : Ev.Call) (q6r : AV → Hp → R1) (q6e0 : Hp → R1) (x1 x3 x4 : AV) (g6 : AV → Hp → R1) (x5 : AV) (H : Hp) : R1 :=
 vq (lenSl x4) H fun a38 H =>
 vq (intV (qab .lss).f x5 a38) H fun a39 H =>
 cd a39 (
 qrn call q6r g6 x1 x3 x4 x5 H) (
 q6e0 H)
def qii (call : Ev.Call) (q6r : AV → Hp → R1) (q6e0 : Hp → R1) (x1 x3 x4 : AV) (n : Nat) : AV → Hp → R1 :=
 Nat.rec (motive := fun _ => AV → Hp → R1) (fun _ _ => .bad) (fun _ ih => qxg call q6r q6e0 x1 x3 x4 ih) n
def qxh (call : Ev.Call) (q6r : AV → Hp → R1) (q6e0 : Hp → R1) (x1 x3 x4 : AV) : AV → Hp → R1 := qii call q6r q6e0 x1 x3 x4 qbd
def q54 (call : Ev.Call) (x0 : AV) (H : Hp) : R1 :=
 vq (boxA 2 H.nx x0) H fun a0 H =>
 vq (qa4 2 H a0) H fun a1 H =>
 ve (call (.f qjn) [a1] H) fun a2 H =>
 vq (qa4 2 H a0) H fun a3 H =>
 ve (call (.f qnv) [a3] H) fun a4 H =>
 qxh call (fun x2 H => .ok x2 H) (fun H => qij call H) a0 a2 a4 (.int .i64 (.ofNat 0)) H
def rWit (call : Ev.Call) (x0 : AV) (H : Hp) : R1 := q54 call x0 H
def qil (call : Ev.Call) (x4 x5 : AV) (H : Hp) : R1 :=
 vq (qa4 2 H x5) H fun a4 H =>
 ve (qbh 2 H x4 a4) fun _ H =>
 finR (rV (qa4 2 H x4)) H
def qxq (call : Ev.Call) (g7 : AV → Hp → R1) (x6 : AV) (H : Hp) : R1 :=
 vq (intV (qab .add).f x6 (.int .i64 (.ofNat 1))) H fun a8 H =>
 g7 a8 H
def qrv (call : Ev.Call) (g7 : AV → Hp → R1) (x1 x5 x6 : AV) (H : Hp) : R1 :=
 dz 0 H fun b10 H =>
 dq true false 0 0 (b10 + 0) H [] [] (fun H => qa4 2 H x5) (some true) fun a11 H p w =>
 dq false false 1 0 (b10 + 1) H p w (fun _ => .val x1) (some true) fun a12 H p w =>
 dq false false 2 0 (b10 + 2) H p w (fun _ => .val x6) (some true) fun a13 H p w =>
 dq false false 3 6 (b10 + 3) H p w (fun _ => idxS 3 a12 a13) (some true) fun a14 H p w =>
 dq false false 4 14 (b10 + 4) H p w (fun _ => idxA 3 1 a14 (.int .i64 (.ofNat 0))) (some true) fun a15 H p w =>
 dq true false 5 30 (b10 + 5) H p w (fun H => qae H a15) (some true) fun a16 H p w =>
 dq false false 6 0 (b10 + 6) H p w (fun _ => .val x1) (some true) fun a17 H p w =>
 dq false false 7 0 (b10 + 7) H p w (fun _ => .val x6) (some true) fun a18 H p w =>
 dq false false 8 192 (b10 + 8) H p w (fun _ => idxS 3 a17 a18) (some true) fun a19 H p w =>
 dq false false 9 448 (b10 + 9) H p w (fun _ => idxA 3 1 a19 (.int .i64 (.ofNat 1))) (some true) fun a20 H p w =>
 dq true false 10 960 (b10 + 10) H p w (fun H => qae H a20) (some true) fun a21 H p w =>
 dq false false 11 0 (b10 + 11) H p w (fun _ => .val x1) (some true) fun a22 H p w =>
 dq false false 12 0 (b10 + 12) H p w (fun _ => .val x6) (some true) fun a23 H p w =>
 dq false false 13 6144 (b10 + 13) H p w (fun _ => idxS 3 a22 a23) (some true) fun a24 H p w =>
 dq false false 14 14336 (b10 + 14) H p w (fun _ => idxA 3 1 a24 (.int .i64 (.ofNat 2))) (some true) fun a25 H p w =>
 dq true false 15 30720 (b10 + 15) H p w (fun H => qae H a25) (some true) fun a26 H p w =>
 dq false false 16 63488 (b10 + 16) H p w (fun _ => intV (qab .eql).f a26 (.int .i64 (.ofNat 1))) (some true) fun a27 H p w =>
 de 131071 H p w (call (.f qsp) [a11, a16, a21, a27] (qa0 131071 p H)) (some true) fun a28 H p w =>
 dz2 p H fun H =>
 qxq call g7 x6 H
def qxr (call : Ev.Call) (q7e0 : Hp → R1) (x1 x5 : AV) (g7 : AV → Hp → R1) (x6 : AV) (H : Hp) : R1 :=
 vq (lenSl x1) H fun a30 H =>
 vq (intV (qab .lss).f x6 a30) H fun a31 H =>
 cd a31 (
 qrv call g7 x1 x5 x6 H) (
 q7e0 H)
def qj7 (call : Ev.Call) (q7e0 : Hp → R1) (x1 x5 : AV) (n : Nat) : AV → Hp → R1 :=
 Nat.rec (motive := fun _ => AV → Hp → R1) (fun _ _ => .bad) (fun _ ih => qxr call q7e0 x1 x5 ih) n
def qxs (call : Ev.Call) (q7e0 : Hp → R1) (x1 x5 : AV) : AV → Hp → R1 := qj7 call q7e0 x1 x5 qbd
def q6e (call : Ev.Call) (x0 x1 : AV) (H : Hp) : R1 :=
 vq (.new (.ptr H.nx 0) (qaa 0 [.int .i64 (.ofNat 0), .nilsl])) H fun a0 H =>
 ve (call (.f qss) [x0] H) fun a1 H =>
 vq (.new (.ptr H.nx 0) (qaa 0 [.int .i64 (.ofNat 0), .nilsl])) H fun a2 H =>
 ve (qbh 2 H a2 a1) fun _ H =>
 qxs call (fun H => qil call a0 a2 H) x1 a2 (.int .i64 (.ofNat 0)) H
def rMat (call : Ev.Call) (x0 x1 : AV) (H : Hp) : R1 := q6e call x0 x1 H
def qdl (call : Ev.Call) (x3 : AV) (H : Hp) : R1 :=
 .ok x3 H
def qgr (call : Ev.Call) (g2 : AV → AV → Hp → R1) (x3 x4 : AV) (H : Hp) : R1 :=
 vq (intV (qab .add).f x4 (.int .i64 (.ofNat 1))) H fun a3 H =>
 g2 x3 a3 H
def qmt (call : Ev.Call) (g5 : AV → AV → Hp → R1) (x3 x5 : AV) (H : Hp) : R1 :=
 vq (intV (qab .add).f x5 (.int .i64 (.ofNat 1))) H fun a6 H =>
 g5 x3 a6 H
def qjc (call : Ev.Call) (g5 : AV → AV → Hp → R1) (x1 x3 x4 x5 : AV) (H : Hp) : R1 :=
 vq (qad 1 x1) H fun a8 H =>
 vq (qae H a8) H fun a9 H =>
 vq (qad 0 x1) H fun a10 H =>
 vq (qae H a10) H fun a11 H =>
 vq (intV (qab .mul).f x4 a11) H fun a12 H =>
 vq (intV (qab .add).f a12 x5) H fun a13 H =>
 vq (idxS 1 a9 a13) H fun a14 H =>
 vq (qae H a14) H fun a15 H =>
 vq (intV (qab .gtr).f a15 (.int .i64 (.ofNat 1))) H fun a16 H =>
 cd a16 (
 vq (aggN (qar [.int .i64 (.ofNat 0), .int .i64 (.ofNat 0), .int .i64 (.ofNat 0)] [(0, 1, x4), (1, 1, x5), (2, 1, (.int .i64 (.ofNat 1)))])) H fun a17 H =>
 vq (qdg 1 H.nx (qar (reps [.int .i64 (.ofNat 0), .int .i64 (.ofNat 0), .int .i64 (.ofNat 0)] 1) [(0, 3, a17)])) H fun a18 H =>
 ve (qay 3 24 H x3 (qbj 3 H a18)) fun a19 H =>
 qmt call g5 a19 x5 H) (
 qmt call g5 x3 x5 H)
def qrx (call : Ev.Call) (g5 : AV → AV → Hp → R1) (x1 x3 x4 x5 : AV) (H : Hp) : R1 :=
 vq (qad 1 x1) H fun a21 H =>
 vq (qae H a21) H fun a22 H =>
 vq (qad 0 x1) H fun a23 H =>
 vq (qae H a23) H fun a24 H =>
 vq (intV (qab .mul).f x4 a24) H fun a25 H =>
 vq (intV (qab .add).f a25 x5) H fun a26 H =>
 vq (idxS 1 a22 a26) H fun a27 H =>
 vq (qae H a27) H fun a28 H =>
 vq (intV (qab .rem).f a28 (.int .i64 (.ofNat 2))) H fun a29 H =>
 vq (intV (qab .eql).f a29 (.int .i64 (.ofNat 1))) H fun a30 H =>
 cd a30 (
 vq (aggN (qar [.int .i64 (.ofNat 0), .int .i64 (.ofNat 0), .int .i64 (.ofNat 0)] [(0, 1, x4), (1, 1, x5), (2, 1, (.int .i64 (.ofNat 0)))])) H fun a31 H =>
 vq (qdg 1 H.nx (qar (reps [.int .i64 (.ofNat 0), .int .i64 (.ofNat 0), .int .i64 (.ofNat 0)] 1) [(0, 3, a31)])) H fun a32 H =>
 ve (qay 3 24 H x3 (qbj 3 H a32)) fun a33 H =>
 qjc call g5 x1 a33 x4 x5 H) (
 qjc call g5 x1 x3 x4 x5 H)
def qxt (call : Ev.Call) (q5e2 : AV → Hp → R1) (x1 x4 : AV) (g5 : AV → AV → Hp → R1) (x3 x5 : AV) (H : Hp) : R1 :=
 vq (qad 0 x1) H fun a35 H =>
 vq (qae H a35) H fun a36 H =>
 vq (intV (qab .lss).f x5 a36) H fun a37 H =>
 cd a37 (
 qrx call g5 x1 x3 x4 x5 H) (
 q5e2 x3 H)
def qgq (call : Ev.Call) (q5e2 : AV → Hp → R1) (x1 x4 : AV) (n : Nat) : AV → AV → Hp → R1 :=
 Nat.rec (motive := fun _ => AV → AV → Hp → R1) (fun _ _ _ => .bad) (fun _ ih => qxt call q5e2 x1 x4 ih) n
def qxv (call : Ev.Call) (q5e2 : AV → Hp → R1) (x1 x4 : AV) : AV → AV → Hp → R1 := qgq call q5e2 x1 x4 qbd
def qrw (call : Ev.Call) (g2 : AV → AV → Hp → R1) (x1 x3 x4 : AV) (H : Hp) : R1 :=
 qxv call (fun x3 H => qgr call g2 x3 x4 H) x1 x4 x3 (.int .i64 (.ofNat 0)) H
def qxu (call : Ev.Call) (q2e0 : AV → Hp → R1) (x1 : AV) (g2 : AV → AV → Hp → R1) (x3 x4 : AV) (H : Hp) : R1 :=
 vq (qad 0 x1) H fun a39 H =>
 vq (qae H a39) H fun a40 H =>
 vq (intV (qab .lss).f x4 a40) H fun a41 H =>
 cd a41 (
 qrw call g2 x1 x3 x4 H) (
 q2e0 x3 H)
def qd4 (call : Ev.Call) (q2e0 : AV → Hp → R1) (x1 : AV) (n : Nat) : AV → AV → Hp → R1 :=
 Nat.rec (motive := fun _ => AV → AV → Hp → R1) (fun _ _ _ => .bad) (fun _ ih => qxu call q2e0 x1 ih) n
def qxw (call : Ev.Call) (q2e0 : AV → Hp → R1) (x1 : AV) : AV → AV → Hp → R1 := qd4 call q2e0 x1 qbd
def q6g (call : Ev.Call) (x0 : AV) (H : Hp) : R1 :=
 vq (boxA 2 H.nx x0) H fun a0 H =>
 qxw call (fun x3 H => qdl call x3 H) a0 (.nilsl) (.int .i64 (.ofNat 0)) H
def rEdg (call : Ev.Call) (x0 : AV) (H : Hp) : R1 := q6g call x0 H
def qge (call : Ev.Call) (x6 : AV) (H : Hp) : R1 :=
 ve (call (.f qeb) [x6] H) fun a7 H =>
 ve (call (.f qes) [x6] H) fun a8 H =>
 ve (call (.f qg4) [a8] H) fun a9 H =>
 .ok (.tup [a9, (.int .i64 (.ofNat 0))]) H
def qh0 (call : Ev.Call) (g14 : AV → AV → Hp → R1) (x6 x20 : AV) (H : Hp) : R1 :=
 vq (intV (qab .add).f x20 (.int .i64 (.ofNat 1))) H fun a16 H =>
 g14 x6 a16 H
def qty (call : Ev.Call) (g14 : AV → AV → Hp → R1) (x4 x6 x18 x20 : AV) (H : Hp) : R1 :=
 vq (idxS 3 x18 x20) H fun a18 H =>
 vq (qa4 3 H a18) H fun a19 H =>
 vq (.new (.ptr H.nx 0) (qaa 0 [.int .i64 (.ofNat 0), .int .i64 (.ofNat 0), .bool false])) H fun a20 H =>
 ve (qbh 3 H a20 a19) fun _ H =>
 vl (qad 2 a20) fun a22 =>
 vl (qae H a22) fun a23 =>
 vlg (qai true a23) (qad 1 x4) fun a24 =>
 vlg (qai true a23) (qae H a24) fun a25 =>
 vlg (qai true a23) (qad 0 a20) fun a26 =>
 vlg (qai true a23) (qae H a26) fun a27 =>
 vlg (qai true a23) (idxS 1 a25 a27) fun a28 =>
 vlg (qai true a23) (qae H a28) fun a29 =>
 vlg (qai true a23) (qad 1 x4) fun a30 =>
 vlg (qai true a23) (qae H a30) fun a31 =>
 vlg (qai true a23) (qad 1 a20) fun a32 =>
 vlg (qai true a23) (qae H a32) fun a33 =>
 vlg (qai true a23) (idxS 1 a31 a33) fun a34 =>
 vlg (qai true a23) (qae H a34) fun a35 =>
 vlg (qai true a23) (intV (qab .eql).f a29 a35) fun a36 =>
 vl (qb7 a23 a36 (.bool false)) fun a37 =>
 cd a37 (
 vq (qad 1 x4) H fun a38 H =>
 vq (qae H a38) H fun a39 H =>
 vq (qad 0 a20) H fun a40 H =>
 vq (qae H a40) H fun a41 H =>
 vq (idxS 1 a39 a41) H fun a42 H =>
 vq (qae H a42) H fun a43 H =>
 vq (qdg 1 H.nx (qar (reps [.int .i64 (.ofNat 0)] 1) [(0, 1, a43)])) H fun a44 H =>
 ve (qay 1 8 H x6 (qbj 1 H a44)) fun a45 H =>
 qh0 call g14 a45 x20 H) (
 qh0 call g14 x6 x20 H)
def qtz (call : Ev.Call) (q14e0 : AV → Hp → R1) (x4 x18 x19 : AV) (g14 : AV → AV → Hp → R1) (x6 x20 : AV) (H : Hp) : R1 :=
 vq (intV (qab .lss).f x20 x19) H fun a15 H =>
 cd a15 (
 qty call g14 x4 x6 x18 x20 H) (
 q14e0 x6 H)
def qhz (call : Ev.Call) (q14e0 : AV → Hp → R1) (x4 x18 x19 : AV) (n : Nat) : AV → AV → Hp → R1 :=
 Nat.rec (motive := fun _ => AV → AV → Hp → R1) (fun _ _ _ => .bad) (fun _ ih => qtz call q14e0 x4 x18 x19 ih) n
def qt0 (call : Ev.Call) (q14e0 : AV → Hp → R1) (x4 x18 x19 : AV) : AV → AV → Hp → R1 := qhz call q14e0 x4 x18 x19 qbd
def qeg (call : Ev.Call) (x1 x4 : AV) (H : Hp) : R1 :=
 vq (qad 1 x1) H fun a11 H =>
 vq (qae H a11) H fun a12 H =>
 vq (lenSl a12) H fun a13 H =>
 qt0 call (fun x6 H => qge call x6 H) x4 a12 a13 (.nilsl) (.int .i64 (.ofNat 0)) H
def qtx : Ev.Call → AV → AV → Hp → R1 := Classical.choose (⟨qeg, rfl⟩ : ∃ f, f = qeg)
theorem qor : qtx = qeg := Classical.choose_spec (⟨qeg, rfl⟩ : ∃ f, f = qeg)
def q9m (call : Ev.Call) (x0 : AV) (H : Hp) : R1 :=
 vq (boxA 2 H.nx x0) H fun a0 H =>
 vq (qa4 2 H a0) H fun a1 H =>
 ve (call (.f qp5) [a1] H) fun a2 H =>
 vq (extr 0 a2) H fun a3 H =>
 vq (extr 1 a2) H fun a4 H =>
 vq (.new (.ptr H.nx 0) (qaa 0 [.nilsl, .nilsl])) H fun a5 H =>
 ve (qbh 2 H a5 a3) fun _ H =>
 vq (intV (qab .neq).f a4 (.int .i64 (.ofNat 0))) H fun a48 H =>
 cd a48 (
 .ok (.tup [(.nilsl), a4]) H) (
 qtx call a0 a5 H)
def cMix (call : Ev.Call) (x0 : AV) (H : Hp) : R1 := q9m call x0 H
def qqt (call : Ev.Call) (H : Hp) : R1 :=
 .ok (.int .i64 (.ofNat 0)) H
def qwq (call : Ev.Call) (x0 : AV) (H : Hp) : R1 :=
 vq (boxA 3 H.nx x0) H fun a0 H =>
 vq (qad 2 a0) H fun a2 H =>
 vq (qae H a2) H fun a3 H =>
 cd a3 (
 .ok (.int .i64 (.ofNat 1)) H) (
 qqt call H)
def stStp (call : Ev.Call) (x0 : AV) (H : Hp) : R1 := qwq call x0 H
def qfq (call : Ev.Call) (x3 : AV) (H : Hp) : R1 :=
 .ok x3 H
def qqv (call : Ev.Call) (g2 : AV → AV → Hp → R1) (x3 x8 : AV) (H : Hp) : R1 :=
 vq (intV (qab .add).f x8 (.int .i64 (.ofNat 1))) H fun a4 H =>
 g2 x3 a4 H
def qqu (call : Ev.Call) (g2 : AV → AV → Hp → R1) (x3 x6 x8 : AV) (H : Hp) : R1 :=
 vq (idxS 1 x6 x8) H fun a6 H =>
 vq (qae H a6) H fun a7 H =>
 vq (qfk maxV x3 [a7]) H fun a8 H =>
 qqv call g2 a8 x8 H
def qqw (call : Ev.Call) (q2e0 : AV → Hp → R1) (x6 x7 : AV) (g2 : AV → AV → Hp → R1) (x3 x8 : AV) (H : Hp) : R1 :=
 vq (intV (qab .lss).f x8 x7) H fun a3 H =>
 cd a3 (
 qqu call g2 x3 x6 x8 H) (
 q2e0 x3 H)
def qhh (call : Ev.Call) (q2e0 : AV → Hp → R1) (x6 x7 : AV) (n : Nat) : AV → AV → Hp → R1 :=
 Nat.rec (motive := fun _ => AV → AV → Hp → R1) (fun _ _ _ => .bad) (fun _ ih => qqw call q2e0 x6 x7 ih) n
def qqx (call : Ev.Call) (q2e0 : AV → Hp → R1) (x6 x7 : AV) : AV → AV → Hp → R1 := qhh call q2e0 x6 x7 qbd
def qws (call : Ev.Call) (x0 : AV) (H : Hp) : R1 :=
 vq (lenSl x0) H fun a1 H =>
 qqx call (fun x3 H => qfq call x3 H) x0 a1 (.int .i64 (.ofNat 0)) (.int .i64 (.ofNat 0)) H
def stGre (call : Ev.Call) (x0 : AV) (H : Hp) : R1 := qws call x0 H
def qwp (call : Ev.Call) (x0 x1 : AV) (H : Hp) : R1 :=
 vq (boxA 3 H.nx x0) H fun a0 H =>
 vl (qad 2 a0) fun a1 =>
 vl (qae H a1) fun a2 =>
 vlg (qai true a2) (qad 1 x1) fun a3 =>
 vlg (qai true a2) (qae H a3) fun a4 =>
 vlg (qai true a2) (qad 0 a0) fun a5 =>
 vlg (qai true a2) (qae H a5) fun a6 =>
 vlg (qai true a2) (idxS 1 a4 a6) fun a7 =>
 vlg (qai true a2) (qae H a7) fun a8 =>
 vlg (qai true a2) (qad 1 x1) fun a9 =>
 vlg (qai true a2) (qae H a9) fun a10 =>
 vlg (qai true a2) (qad 1 a0) fun a11 =>
 vlg (qai true a2) (qae H a11) fun a12 =>
 vlg (qai true a2) (idxS 1 a10 a12) fun a13 =>
 vlg (qai true a2) (qae H a13) fun a14 =>
 vlg (qai true a2) (intV (qab .eql).f a8 a14) fun a15 =>
 vl (qb7 a2 a15 (.bool false)) fun a16 =>
 .ok a16 H
def stWiA (call : Ev.Call) (x0 x1 : AV) (H : Hp) : R1 := qwp call x0 x1 H
def qig (call : Ev.Call) (H : Hp) : R1 :=
 .ok (.int .i64 (.negSucc 0)) H
def qw3 (call : Ev.Call) (g2 : AV → Hp → R1) (x8 : AV) (H : Hp) : R1 :=
 vq (intV (qab .add).f x8 (.int .i64 (.ofNat 1))) H fun a4 H =>
 g2 a4 H
def qw2 (call : Ev.Call) (q2r : AV → Hp → R1) (g2 : AV → Hp → R1) (x0 x1 x8 : AV) (H : Hp) : R1 :=
 vq (idxS 3 x0 x8) H fun a6 H =>
 vq (qa4 3 H a6) H fun a7 H =>
 ve (qtm call x1 [a7] H) fun a8 H =>
 cd a8 (
 q2r x8 H) (
 qw3 call g2 x8 H)
def qw4 (call : Ev.Call) (q2r : AV → Hp → R1) (q2e0 : Hp → R1) (x0 x1 x7 : AV) (g2 : AV → Hp → R1) (x8 : AV) (H : Hp) : R1 :=
 vq (intV (qab .lss).f x8 x7) H fun a3 H =>
 cd a3 (
 qw2 call q2r g2 x0 x1 x8 H) (
 q2e0 H)
def qj1 (call : Ev.Call) (q2r : AV → Hp → R1) (q2e0 : Hp → R1) (x0 x1 x7 : AV) (n : Nat) : AV → Hp → R1 :=
 Nat.rec (motive := fun _ => AV → Hp → R1) (fun _ _ => .bad) (fun _ ih => qw4 call q2r q2e0 x0 x1 x7 ih) n
def qw5 (call : Ev.Call) (q2r : AV → Hp → R1) (q2e0 : Hp → R1) (x0 x1 x7 : AV) : AV → Hp → R1 := qj1 call q2r q2e0 x0 x1 x7 qbd
def q5d (call : Ev.Call) (x0 x1 : AV) (H : Hp) : R1 :=
 vq (lenSl x0) H fun a1 H =>
 qw5 call (fun x4 H => .ok x4 H) (fun H => qig call H) x0 x1 a1 (.int .i64 (.ofNat 0)) H
def sIxF (call : Ev.Call) (x0 x1 : AV) (H : Hp) : R1 := q5d call x0 x1 H
def qki (call : Ev.Call) (x10 : AV) (H : Hp) : R1 :=
 ve (call (.f qsj) [x10] H) fun a6 H =>
 ve (call (.f qg4) [x10] H) fun a7 H =>
 .ok (.tup [a7, (.int .i64 (.ofNat 0))]) H
def qtc (call : Ev.Call) (g9 : AV → AV → Hp → R1) (x9 x10 x11 : AV) (H : Hp) : R1 :=
 vq (idxA 256 1 x9 x11) H fun a10 H =>
 vq (qae H a10) H fun a11 H =>
 vq (qdg 1 H.nx (qar (reps [.int .i64 (.ofNat 0)] 1) [(0, 1, a11)])) H fun a12 H =>
 ve (qay 1 8 H x10 (qbj 1 H a12)) fun a13 H =>
 g9 a13 a11 H
def qyi (call : Ev.Call) (q9e0 : AV → Hp → R1) (x1 x9 : AV) (g9 : AV → AV → Hp → R1) (x10 x11 : AV) (H : Hp) : R1 :=
 vq (intV (qab .neq).f x11 x1) H fun a15 H =>
 cd a15 (
 qtc call g9 x9 x10 x11 H) (
 q9e0 x10 H)
def qn4 (call : Ev.Call) (q9e0 : AV → Hp → R1) (x1 x9 : AV) (n : Nat) : AV → AV → Hp → R1 :=
 Nat.rec (motive := fun _ => AV → AV → Hp → R1) (fun _ _ _ => .bad) (fun _ ih => qyi call q9e0 x1 x9 ih) n
def qyj (call : Ev.Call) (q9e0 : AV → Hp → R1) (x1 x9 : AV) : AV → AV → Hp → R1 := qn4 call q9e0 x1 x9 qbd
def qtb (call : Ev.Call) (x1 x2 x9 : AV) (H : Hp) : R1 :=
 vq (qdg 1 H.nx (qar (reps [.int .i64 (.ofNat 0)] 1) [(0, 1, x2)])) H fun a5 H =>
 qyj call (fun x10 H => qki call x10 H) x1 x9 a5 x2 H
def qlv (call : Ev.Call) (x1 x2 x3 : AV) (H : Hp) : R1 :=
 vq (qa4 2 H x3) H fun a1 H =>
 ve (call (.f qsu) [a1, x1] H) fun a2 H =>
 vq (.new (.ptr H.nx 0) (qaa 0 (List.replicate 256 (.int .i64 (.ofNat 0))))) H fun a3 H =>
 ve (qbh 256 H a3 a2) fun _ H =>
 vq (idxA 256 1 a3 x2) H fun a17 H =>
 vq (qae H a17) H fun a18 H =>
 vq (intV (qab .lss).f a18 (.int .i64 (.ofNat 0))) H fun a19 H =>
 cd a19 (
 .ok (.tup [(.nilsl), (.int .i64 (.ofNat 8))]) H) (
 qtb call x1 x2 a3 H)
def q76 (call : Ev.Call) (x0 x1 x2 : AV) (H : Hp) : R1 :=
 vq (boxA 2 H.nx x0) H fun a0 H =>
 dz 9 H fun b21 H =>
 dq true false 0 0 (b21 + 0) H [] [] (fun H => qa4 2 H a0) (some true) fun a22 H p w =>
 dq false false 1 0 (b21 + 1) H p w (fun _ => .val x1) (some true) fun a23 H p w =>
 dq true false 3 0 (b21 + 3) H p w (fun H => qa4 2 H a0) (some true) fun a24 H p w =>
 dq false false 4 0 (b21 + 4) H p w (fun _ => .val x2) (some true) fun a25 H p w =>
 de 3 H p w (call (.f qny) [a22, a23] (qa0 3 p H)) (some true) fun a26 H p w =>
 de 31 H p w (call (.f qny) [a24, a25] (qa0 31 p H)) (some true) fun a27 H p w =>
 dq false true 6 63 (b21 + 6) H p w (fun _ => qdg 2 (b21 + 6) (qar (reps [.int .i64 (.ofNat 0)] 2) [(0, 1, a26), (1, 1, a27)])) (some true) fun a28 H p w =>
 de 127 H p w (call (.f qsx) [a28] (qa0 127 p H)) (some true) fun a29 H p w =>
 dq false false 8 255 (b21 + 8) H p w (fun _ => .val a29) (some true) fun a30 H p w =>
 dz2 p H fun H =>
 vq (intV (qab .neq).f a30 (.int .i64 (.ofNat 0))) H fun a31 H =>
 cd a31 (
 .ok (.tup [(.nilsl), a30]) H) (
 qlv call x1 x2 a0 H)
def gPth (call : Ev.Call) (x0 x1 x2 : AV) (H : Hp) : R1 := q76 call x0 x1 x2 H
def qz4 (call : Ev.Call) (x0 : AV) (H : Hp) : R1 :=
 vq (lenSl x0) H fun a0 H =>
 vq (lenSl x0) H fun a1 H =>
 vq (qa8 1 x0 none (some a0) (some a1)) H fun a2 H =>
 .ok a2 H
def sClp (call : Ev.Call) (x0 : AV) (H : Hp) : R1 := qz4 call x0 H
def qbn (call : Ev.Call) (x3 : AV) (H : Hp) : R1 :=
 .ok x3 H
def qb0 (call : Ev.Call) (g8 : AV → Hp → R1) (x6 : AV) (H : Hp) : R1 :=
 vq (intV (qab .add).f x6 (.int .i64 (.ofNat 1))) H fun a9 H =>
 g8 a9 H
def qd8 (call : Ev.Call) (g11 : AV → Hp → R1) (x7 : AV) (H : Hp) : R1 :=
 vq (intV (qab .add).f x7 (.int .i64 (.ofNat 1))) H fun a12 H =>
 g11 a12 H
def qd7 (call : Ev.Call) (g14 : AV → Hp → R1) (x8 : AV) (H : Hp) : R1 :=
 vq (intV (qab .add).f x8 (.int .i64 (.ofNat 1))) H fun a15 H =>
 g14 a15 H
def qmy (call : Ev.Call) (g14 : AV → Hp → R1) (x1 x3 x6 x7 x8 : AV) (H : Hp) : R1 :=
 vl (qad 0 x1) fun a17 =>
 vl (qae H a17) fun a18 =>
 vl (intV (qab .mul).f x7 a18) fun a19 =>
 vl (intV (qab .add).f a19 x6) fun a20 =>
 vl (idxS 1 x3 a20) fun a21 =>
 vl (qae H a21) fun a22 =>
 vl (qad 0 x1) fun a23 =>
 vl (qae H a23) fun a24 =>
 vl (intV (qab .mul).f x6 a24) fun a25 =>
 vl (intV (qab .add).f a25 x8) fun a26 =>
 vl (idxS 1 x3 a26) fun a27 =>
 vl (qae H a27) fun a28 =>
 vq (intV (qab .geq).f a22 (.int .i64 (.ofNat 0))) H fun a29 H =>
 vg (qai true a29) (.val a28) H fun a30 H =>
 vg (qai true a29) (intV (qab .geq).f a30 (.int .i64 (.ofNat 0))) H fun a31 H =>
 vq (qb7 a29 a31 (.bool false)) H fun a32 H =>
 vg (qai true a32) (.val x3) H fun a33 H =>
 vg (qai true a32) (.val x7) H fun a34 H =>
 vg (qai true a32) (qad 0 x1) H fun a35 H =>
 vg (qai true a32) (qae H a35) H fun a36 H =>
 vg (qai true a32) (intV (qab .mul).f a34 a36) H fun a37 H =>
 vg (qai true a32) (.val x8) H fun a38 H =>
 vg (qai true a32) (intV (qab .add).f a37 a38) H fun a39 H =>
 vg (qai true a32) (idxS 1 a33 a39) H fun a40 H =>
 vg (qai true a32) (qae H a40) H fun a41 H =>
 vg (qai true a32) (intV (qab .lss).f a41 (.int .i64 (.ofNat 0))) H fun a42 H =>
 vg (qai true a32) (.val a42) H fun a43 H =>
 vg (qai false a43) (.val a22) H fun a44 H =>
 vg (qai false a43) (.val a28) H fun a45 H =>
 vg (qai false a43) (intV (qab .add).f a44 a45) H fun a46 H =>
 vg (qai false a43) (.val x3) H fun a47 H =>
 vg (qai false a43) (.val x7) H fun a48 H =>
 vg (qai false a43) (qad 0 x1) H fun a49 H =>
 vg (qai false a43) (qae H a49) H fun a50 H =>
 vg (qai false a43) (intV (qab .mul).f a48 a50) H fun a51 H =>
 vg (qai false a43) (.val x8) H fun a52 H =>
 vg (qai false a43) (intV (qab .add).f a51 a52) H fun a53 H =>
 vg (qai false a43) (idxS 1 a47 a53) H fun a54 H =>
 vg (qai false a43) (qae H a54) H fun a55 H =>
 vg (qai false a43) (intV (qab .lss).f a46 a55) H fun a56 H =>
 vg (qai true a32) (qb7 a43 (.bool true) a56) H fun a57 H =>
 vq (qb7 a32 a57 (.bool false)) H fun a58 H =>
 cd a58 (
 vq (qad 0 x1) H fun a59 H =>
 vq (qae H a59) H fun a60 H =>
 vq (intV (qab .mul).f x7 a60) H fun a61 H =>
 vq (intV (qab .add).f a61 x8) H fun a62 H =>
 vq (intV (qab .add).f a22 a28) H fun a63 H =>
 vq (idxS 1 x3 a62) H fun a64 H =>
 ve (qaz H a64 a63) fun _ H =>
 qd7 call g14 x8 H) (
 qd7 call g14 x8 H)
def qm1 (call : Ev.Call) (q14e8 : Hp → R1) (x1 x3 x6 x7 : AV) (g14 : AV → Hp → R1) (x8 : AV) (H : Hp) : R1 :=
 vq (qad 0 x1) H fun a67 H =>
 vq (qae H a67) H fun a68 H =>
 vq (intV (qab .lss).f x8 a68) H fun a69 H =>
 cd a69 (
 qmy call g14 x1 x3 x6 x7 x8 H) (
 q14e8 H)
def qde (call : Ev.Call) (q14e8 : Hp → R1) (x1 x3 x6 x7 : AV) (n : Nat) : AV → Hp → R1 :=
 Nat.rec (motive := fun _ => AV → Hp → R1) (fun _ _ => .bad) (fun _ ih => qm1 call q14e8 x1 x3 x6 x7 ih) n
def qm5 (call : Ev.Call) (q14e8 : Hp → R1) (x1 x3 x6 x7 : AV) : AV → Hp → R1 := qde call q14e8 x1 x3 x6 x7 qbd
def qmx (call : Ev.Call) (g11 : AV → Hp → R1) (x1 x3 x6 x7 : AV) (H : Hp) : R1 :=
 qm5 call (fun H => qd8 call g11 x7 H) x1 x3 x6 x7 (.int .i64 (.ofNat 0)) H
def qm2 (call : Ev.Call) (q11e6 : Hp → R1) (x1 x3 x6 : AV) (g11 : AV → Hp → R1) (x7 : AV) (H : Hp) : R1 :=
 vq (qad 0 x1) H fun a71 H =>
 vq (qae H a71) H fun a72 H =>
 vq (intV (qab .lss).f x7 a72) H fun a73 H =>
 cd a73 (
 qmx call g11 x1 x3 x6 x7 H) (
 q11e6 H)
def qb6 (call : Ev.Call) (q11e6 : Hp → R1) (x1 x3 x6 : AV) (n : Nat) : AV → Hp → R1 :=
 Nat.rec (motive := fun _ => AV → Hp → R1) (fun _ _ => .bad) (fun _ ih => qm2 call q11e6 x1 x3 x6 ih) n
def qm6 (call : Ev.Call) (q11e6 : Hp → R1) (x1 x3 x6 : AV) : AV → Hp → R1 := qb6 call q11e6 x1 x3 x6 qbd
def qmw (call : Ev.Call) (g8 : AV → Hp → R1) (x1 x3 x6 : AV) (H : Hp) : R1 :=
 qm6 call (fun H => qb0 call g8 x6 H) x1 x3 x6 (.int .i64 (.ofNat 0)) H
def qry (call : Ev.Call) (q8e4 : Hp → R1) (x1 x3 : AV) (g8 : AV → Hp → R1) (x6 : AV) (H : Hp) : R1 :=
 vq (qad 0 x1) H fun a75 H =>
 vq (qae H a75) H fun a76 H =>
 vq (intV (qab .lss).f x6 a76) H fun a77 H =>
 cd a77 (
 qmw call g8 x1 x3 x6 H) (
 q8e4 H)
def qbv (call : Ev.Call) (q8e4 : Hp → R1) (x1 x3 : AV) (n : Nat) : AV → Hp → R1 :=
 Nat.rec (motive := fun _ => AV → Hp → R1) (fun _ _ => .bad) (fun _ ih => qry call q8e4 x1 x3 ih) n
def qrz (call : Ev.Call) (q8e4 : Hp → R1) (x1 x3 : AV) : AV → Hp → R1 := qbv call q8e4 x1 x3 qbd
def qd6 (call : Ev.Call) (x1 x3 : AV) (H : Hp) : R1 :=
 qrz call (fun H => qbn call x3 H) x1 x3 (.int .i64 (.ofNat 0)) H
def qmv (call : Ev.Call) (g79 : AV → Hp → R1) (x5 : AV) (H : Hp) : R1 :=
 vq (intV (qab .add).f x5 (.int .i64 (.ofNat 1))) H fun a80 H =>
 g79 a80 H
def qmu (call : Ev.Call) (g79 : AV → Hp → R1) (x1 x3 x5 : AV) (H : Hp) : R1 :=
 vq (qad 0 x1) H fun a82 H =>
 vq (qae H a82) H fun a83 H =>
 vq (intV (qab .mul).f x5 a83) H fun a84 H =>
 vq (intV (qab .add).f a84 x5) H fun a85 H =>
 vq (idxS 1 x3 a85) H fun a86 H =>
 ve (qaz H a86 (.int .i64 (.ofNat 0))) fun _ H =>
 qmv call g79 x5 H
def qm0 (call : Ev.Call) (q79e2 : Hp → R1) (x1 x3 : AV) (g79 : AV → Hp → R1) (x5 : AV) (H : Hp) : R1 :=
 vq (qad 0 x1) H fun a89 H =>
 vq (qae H a89) H fun a90 H =>
 vq (intV (qab .lss).f x5 a90) H fun a91 H =>
 cd a91 (
 qmu call g79 x1 x3 x5 H) (
 q79e2 H)
def qfg (call : Ev.Call) (q79e2 : Hp → R1) (x1 x3 : AV) (n : Nat) : AV → Hp → R1 :=
 Nat.rec (motive := fun _ => AV → Hp → R1) (fun _ _ => .bad) (fun _ ih => qm0 call q79e2 x1 x3 ih) n
def qm4 (call : Ev.Call) (q79e2 : Hp → R1) (x1 x3 : AV) : AV → Hp → R1 := qfg call q79e2 x1 x3 qbd
def qd5 (call : Ev.Call) (x1 x3 : AV) (H : Hp) : R1 :=
 qm4 call (fun H => qd6 call x1 x3 H) x1 x3 (.int .i64 (.ofNat 0)) H
def qgs (call : Ev.Call) (g93 : AV → Hp → R1) (x4 : AV) (H : Hp) : R1 :=
 vq (intV (qab .add).f x4 (.int .i64 (.ofNat 1))) H fun a94 H =>
 g93 a94 H
def qj8 (call : Ev.Call) (g93 : AV → Hp → R1) (x1 x3 x4 : AV) (H : Hp) : R1 :=
 vq (idxS 1 x3 x4) H fun a96 H =>
 ve (qaz H a96 (.int .i64 (.negSucc 0))) fun _ H =>
 vq (qad 1 x1) H fun a98 H =>
 vq (qae H a98) H fun a99 H =>
 vq (idxS 1 a99 x4) H fun a100 H =>
 vq (qae H a100) H fun a101 H =>
 vq (intV (qab .gtr).f a101 (.int .i64 (.ofNat 0))) H fun a102 H =>
 cd a102 (
 vq (idxS 1 x3 x4) H fun a103 H =>
 ve (qaz H a103 (.int .i64 (.ofNat 1))) fun _ H =>
 qgs call g93 x4 H) (
 qgs call g93 x4 H)
def qmz (call : Ev.Call) (q93e0 : Hp → R1) (x1 x3 : AV) (g93 : AV → Hp → R1) (x4 : AV) (H : Hp) : R1 :=
 vq (lenSl x3) H fun a106 H =>
 vq (intV (qab .lss).f x4 a106) H fun a107 H =>
 cd a107 (
 qj8 call g93 x1 x3 x4 H) (
 q93e0 H)
def qff (call : Ev.Call) (q93e0 : Hp → R1) (x1 x3 : AV) (n : Nat) : AV → Hp → R1 :=
 Nat.rec (motive := fun _ => AV → Hp → R1) (fun _ _ => .bad) (fun _ ih => qmz call q93e0 x1 x3 ih) n
def qm3 (call : Ev.Call) (q93e0 : Hp → R1) (x1 x3 : AV) : AV → Hp → R1 := qff call q93e0 x1 x3 qbd
def qxx (call : Ev.Call) (x0 : AV) (H : Hp) : R1 :=
 vq (boxA 2 H.nx x0) H fun a0 H =>
 vq (qad 0 a0) H fun a1 H =>
 vq (qae H a1) H fun a2 H =>
 vq (qad 0 a0) H fun a3 H =>
 vq (qae H a3) H fun a4 H =>
 vq (intV (qab .mul).f a2 a4) H fun a5 H =>
 vq (qgf [.int .i64 (.ofNat 0)] 8 H.nx a5 a5) H fun a6 H =>
 qm3 call (fun H => qd5 call a0 a6 H) a0 a6 (.int .i64 (.ofNat 0)) H
def rDist (call : Ev.Call) (x0 : AV) (H : Hp) : R1 := qxx call x0 H
def qd2 (call : Ev.Call) (x8 : AV) (H : Hp) : R1 :=
 .ok x8 H
def qik (call : Ev.Call) (g5 : AV → AV → Hp → R1) (x8 x9 : AV) (H : Hp) : R1 :=
 vq (qdg 1 H.nx (qar (reps [.int .i64 (.ofNat 0)] 1) [(0, 1, x9)])) H fun a6 H =>
 ve (qay 1 8 H x8 (qbj 1 H a6)) fun a7 H =>
 g5 x9 a7 H
def qfz (call : Ev.Call) (g9 : AV → AV → Hp → R1) (x9 x10 : AV) (H : Hp) : R1 :=
 vq (intV (qab .add).f x10 (.int .i64 (.ofNat 1))) H fun a10 H =>
 g9 x9 a10 H
def qrq (call : Ev.Call) (g9 : AV → AV → Hp → R1) (x1 x2 x3 x7 x9 x10 : AV) (H : Hp) : R1 :=
 vl (qad 1 x3) fun a12 =>
 vl (qae H a12) fun a13 =>
 vl (qad 0 x3) fun a14 =>
 vl (qae H a14) fun a15 =>
 vl (intV (qab .mul).f x1 a15) fun a16 =>
 vl (intV (qab .add).f a16 x10) fun a17 =>
 vl (idxS 1 a13 a17) fun a18 =>
 vl (qae H a18) fun a19 =>
 vl (intV (qab .gtr).f a19 (.int .i64 (.ofNat 0))) fun a20 =>
 vlg (qai true a20) (.val x7) fun a21 =>
 vlg (qai true a20) (.val x10) fun a22 =>
 vlg (qai true a20) (qad 0 x3) fun a23 =>
 vlg (qai true a20) (qae H a23) fun a24 =>
 vlg (qai true a20) (intV (qab .mul).f a22 a24) fun a25 =>
 vlg (qai true a20) (.val x2) fun a26 =>
 vlg (qai true a20) (intV (qab .add).f a25 a26) fun a27 =>
 vlg (qai true a20) (idxS 1 a21 a27) fun a28 =>
 vlg (qai true a20) (qae H a28) fun a29 =>
 vlg (qai true a20) (intV (qab .geq).f a29 (.int .i64 (.ofNat 0))) fun a30 =>
 vl (qb7 a20 a30 (.bool false)) fun a31 =>
 vlg (qai true a31) (.val x7) fun a32 =>
 vlg (qai true a31) (.val x10) fun a33 =>
 vlg (qai true a31) (qad 0 x3) fun a34 =>
 vlg (qai true a31) (qae H a34) fun a35 =>
 vlg (qai true a31) (intV (qab .mul).f a33 a35) fun a36 =>
 vlg (qai true a31) (.val x2) fun a37 =>
 vlg (qai true a31) (intV (qab .add).f a36 a37) fun a38 =>
 vlg (qai true a31) (idxS 1 a32 a38) fun a39 =>
 vlg (qai true a31) (qae H a39) fun a40 =>
 vlg (qai true a31) (.val x7) fun a41 =>
 vlg (qai true a31) (.val x1) fun a42 =>
 vlg (qai true a31) (qad 0 x3) fun a43 =>
 vlg (qai true a31) (qae H a43) fun a44 =>
 vlg (qai true a31) (intV (qab .mul).f a42 a44) fun a45 =>
 vlg (qai true a31) (.val x2) fun a46 =>
 vlg (qai true a31) (intV (qab .add).f a45 a46) fun a47 =>
 vlg (qai true a31) (idxS 1 a41 a47) fun a48 =>
 vlg (qai true a31) (qae H a48) fun a49 =>
 vlg (qai true a31) (intV (qab .sub).f a49 (.int .i64 (.ofNat 1))) fun a50 =>
 vlg (qai true a31) (intV (qab .eql).f a40 a50) fun a51 =>
 vl (qb7 a31 a51 (.bool false)) fun a52 =>
 cd a52 (
 qfz call g9 x10 x10 H) (
 qfz call g9 x9 x10 H)
def qmr (call : Ev.Call) (q9e2 : AV → Hp → R1) (x1 x2 x3 x7 : AV) (g9 : AV → AV → Hp → R1) (x9 x10 : AV) (H : Hp) : R1 :=
 vq (qad 0 x3) H fun a54 H =>
 vq (qae H a54) H fun a55 H =>
 vq (intV (qab .lss).f x10 a55) H fun a56 H =>
 vg (qai true a56) (.val x9) H fun a57 H =>
 vg (qai true a56) (intV (qab .lss).f a57 (.int .i64 (.ofNat 0))) H fun a58 H =>
 vq (qb7 a56 a58 (.bool false)) H fun a59 H =>
 cd a59 (
 qrq call g9 x1 x2 x3 x7 x9 x10 H) (
 q9e2 x9 H)
def qfy (call : Ev.Call) (q9e2 : AV → Hp → R1) (x1 x2 x3 x7 : AV) (n : Nat) : AV → AV → Hp → R1 :=
 Nat.rec (motive := fun _ => AV → AV → Hp → R1) (fun _ _ _ => .bad) (fun _ ih => qmr call q9e2 x1 x2 x3 x7 ih) n
def qxj (call : Ev.Call) (q9e2 : AV → Hp → R1) (x1 x2 x3 x7 : AV) : AV → AV → Hp → R1 := qfy call q9e2 x1 x2 x3 x7 qbd
def qrp (call : Ev.Call) (g5 : AV → AV → Hp → R1) (x1 x2 x3 x7 x8 : AV) (H : Hp) : R1 :=
 qxj call (fun x9 H => qik call g5 x8 x9 H) x1 x2 x3 x7 (.int .i64 (.negSucc 0)) (.int .i64 (.ofNat 0)) H
def qxi (call : Ev.Call) (q5e0 : AV → Hp → R1) (x2 x3 x7 : AV) (g5 : AV → AV → Hp → R1) (x1 x8 : AV) (H : Hp) : R1 :=
 vq (intV (qab .neq).f x1 x2) H fun a61 H =>
 cd a61 (
 qrp call g5 x1 x2 x3 x7 x8 H) (
 q5e0 x8 H)
def qe1 (call : Ev.Call) (q5e0 : AV → Hp → R1) (x2 x3 x7 : AV) (n : Nat) : AV → AV → Hp → R1 :=
 Nat.rec (motive := fun _ => AV → AV → Hp → R1) (fun _ _ _ => .bad) (fun _ ih => qxi call q5e0 x2 x3 x7 ih) n
def qxk (call : Ev.Call) (q5e0 : AV → Hp → R1) (x2 x3 x7 : AV) : AV → AV → Hp → R1 := qe1 call q5e0 x2 x3 x7 qbd
def qro (call : Ev.Call) (x1 x2 x3 x7 : AV) (H : Hp) : R1 :=
 vq (qdg 1 H.nx (qar (reps [.int .i64 (.ofNat 0)] 1) [(0, 1, x1)])) H fun a3 H =>
 qxk call (fun x8 H => qd2 call x8 H) x2 x3 x7 x1 a3 H
def q58 (call : Ev.Call) (x0 x1 x2 : AV) (H : Hp) : R1 :=
 vq (boxA 2 H.nx x0) H fun a0 H =>
 vq (qa4 2 H a0) H fun a1 H =>
 ve (call (.f qjn) [a1] H) fun a2 H =>
 vq (qad 0 a0) H fun a63 H =>
 vq (qae H a63) H fun a64 H =>
 vq (intV (qab .mul).f x1 a64) H fun a65 H =>
 vq (intV (qab .add).f a65 x2) H fun a66 H =>
 vq (idxS 1 a2 a66) H fun a67 H =>
 vq (qae H a67) H fun a68 H =>
 vq (intV (qab .lss).f a68 (.int .i64 (.ofNat 0))) H fun a69 H =>
 cd a69 (
 .ok (.nilsl) H) (
 qro call x1 x2 a0 a2 H)
def rPth (call : Ev.Call) (x0 x1 x2 : AV) (H : Hp) : R1 := q58 call x0 x1 x2 H
def q6c (call : Ev.Call) (x0 : AV) (H : Hp) : R1 :=
 vq (.new (.ptr H.nx 0) (qaa 0 [.int .i64 (.ofNat 0), .nilsl])) H fun a0 H =>
 vq (intV (qab .mul).f x0 x0) H fun a1 H =>
 vq (qgf [.int .i64 (.ofNat 0)] 8 H.nx a1 a1) H fun a2 H =>
 vq (aggN (qar [.int .i64 (.ofNat 0), .nilsl] [(0, 1, x0), (1, 1, a2)])) H fun a3 H =>
 ve (qbh 2 H a0 a3) fun _ H =>
 finR (rV (qa4 2 H a0)) H
def rNew (call : Ev.Call) (x0 : AV) (H : Hp) : R1 := q6c call x0 H
def qjb (call : Ev.Call) (x1 x2 x4 x8 : AV) (H : Hp) : R1 :=
 vq (qad 1 x4) H fun a1 H =>
 vq (qae H a1) H fun a2 H =>
 vq (qad 0 x4) H fun a3 H =>
 vq (qae H a3) H fun a4 H =>
 vq (intV (qab .mul).f x1 a4) H fun a5 H =>
 vq (intV (qab .add).f a5 x2) H fun a6 H =>
 vq (idxS 1 a2 a6) H fun a7 H =>
 vq (qae H a7) H fun a8 H =>
 vq (intV (qab .quo).f a8 x8) H fun a9 H =>
 vq (intV (qab .rem).f a9 (.int .i64 (.ofNat 2))) H fun a10 H =>
 vq (intV (qab .eql).f a10 (.int .i64 (.ofNat 0))) H fun a11 H =>
 cd a11 (
 vq (qad 1 x4) H fun a12 H =>
 vq (qae H a12) H fun a13 H =>
 vq (qad 0 x4) H fun a14 H =>
 vq (qae H a14) H fun a15 H =>
 vq (intV (qab .mul).f x1 a15) H fun a16 H =>
 vq (intV (qab .add).f a16 x2) H fun a17 H =>
 vq (idxS 1 a13 a17) H fun a18 H =>
 vq (qae H a18) H fun a19 H =>
 vq (intV (qab .add).f a19 x8) H fun a20 H =>
 vq (idxS 1 a13 a17) H fun a21 H =>
 ve (qaz H a21 a20) fun _ H =>
 .ok (.tup []) H) (
 .ok (.tup []) H)
def q56 (call : Ev.Call) (x0 x1 x2 x3 : AV) (H : Hp) : R1 :=
 vq (boxA 2 H.nx x0) H fun a0 H =>
 cd x3 (
 qjb call x1 x2 a0 (.int .i64 (.ofNat 2)) H) (
 qjb call x1 x2 a0 (.int .i64 (.ofNat 1)) H)
def rPut (call : Ev.Call) (x0 x1 x2 x3 : AV) (H : Hp) : R1 := q56 call x0 x1 x2 x3 H
def qiv (call : Ev.Call) (H : Hp) : R1 :=
 .ok (.int .i64 (.ofNat 0)) H
def qtd (call : Ev.Call) (g5 : AV → Hp → R1) (x16 : AV) (H : Hp) : R1 :=
 vq (intV (qab .add).f x16 (.int .i64 (.ofNat 1))) H fun a7 H =>
 g5 a7 H
def q8c (call : Ev.Call) (q5r : AV → Hp → R1) (g5 : AV → Hp → R1) (x1 x3 x4 x16 : AV) (H : Hp) : R1 :=
 vq (qad 0 x4) H fun a13 H =>
 vq (qae H a13) H fun a14 H =>
 vq (qad 1 x4) H fun a15 H =>
 vq (qae H a15) H fun a16 H =>
 vq (qfk minV a14 [a16]) H fun a17 H =>
 vq (intV (qab .lss).f a17 (.int .i64 (.ofNat 0))) H fun a18 H =>
 vg (qai false a18) (qad 0 x4) H fun a19 H =>
 vg (qai false a18) (qae H a19) H fun a20 H =>
 vg (qai false a18) (qad 1 x4) H fun a21 H =>
 vg (qai false a18) (qae H a21) H fun a22 H =>
 vg (qai false a18) (qfk maxV a20 [a22]) H fun a23 H =>
 vg (qai false a18) (qad 0 x1) H fun a24 H =>
 vg (qai false a18) (qae H a24) H fun a25 H =>
 vg (qai false a18) (intV (qab .geq).f a23 a25) H fun a26 H =>
 vq (qb7 a18 (.bool true) a26) H fun a27 H =>
 cd a27 (
 q5r (.int .i64 (.ofNat 4)) H) (
 dz 0 H fun b28 H =>
 dq false false 0 0 (b28 + 0) H [] [] (fun _ => .val x3) (some true) fun a29 H p w =>
 dq false false 1 1 (b28 + 1) H p w (fun _ => intV (qab .gtr).f a29 (.int .i64 (.ofNat 0))) (some true) fun a30 H p w =>
 dq false false 2 3 (b28 + 2) H p w (fun _ => .val a30) (some true) fun a31 H p w =>
 dq false false 3 7 (b28 + 3) H p w (fun _ => qad 1 x1) (qai true a31) fun a32 H p w =>
 dq true false 4 15 (b28 + 4) H p w (fun H => qae H a32) (qai true a31) fun a33 H p w =>
 dq false false 5 7 (b28 + 5) H p w (fun _ => .val x3) (qai true a31) fun a34 H p w =>
 dq false false 6 39 (b28 + 6) H p w (fun _ => intV (qab .sub).f a34 (.int .i64 (.ofNat 1))) (qai true a31) fun a35 H p w =>
 dq false false 7 127 (b28 + 7) H p w (fun _ => idxS 3 a33 a35) (qai true a31) fun a36 H p w =>
 dq true false 8 255 (b28 + 8) H p w (fun H => qa4 3 H a36) (qai true a31) fun a37 H p w =>
 dq true false 9 7 (b28 + 9) H p w (fun H => qa4 3 H x4) (qai true a31) fun a38 H p w =>
 de 1023 H p w (call (.f qsv) [a37, a38] (qa0 1023 p H)) (qai true a31) fun a39 H p w =>
 dq false false 11 2047 (b28 + 11) H p w (fun _ => intV (qab .geq).f a39 (.int .i64 (.ofNat 0))) (qai true a31) fun a40 H p w =>
 dq false false 12 4095 (b28 + 12) H p w (fun _ => qb7 a31 a40 (.bool false)) (some true) fun a41 H p w =>
 dq false false 13 8191 (b28 + 13) H p w (fun _ => .val a41) (some true) fun a42 H p w =>
 dz2 p H fun H =>
 cd a42 (
 q5r (.int .i64 (.ofNat 18)) H) (
 qtd call g5 x16 H))
def qtf (call : Ev.Call) (q5r : AV → Hp → R1) (g5 : AV → Hp → R1) (x1 x14 x16 : AV) (H : Hp) : R1 :=
 vq (idxS 3 x14 x16) H fun a9 H =>
 vq (qa4 3 H a9) H fun a10 H =>
 vq (.new (.ptr H.nx 0) (qaa 0 [.int .i64 (.ofNat 0), .int .i64 (.ofNat 0), .bool false])) H fun a11 H =>
 ve (qbh 3 H a11 a10) fun _ H =>
 q8c call q5r g5 x1 x16 a11 x16 H
def qym (call : Ev.Call) (q5r : AV → Hp → R1) (q5e0 : Hp → R1) (x1 x14 x15 : AV) (g5 : AV → Hp → R1) (x16 : AV) (H : Hp) : R1 :=
 vq (intV (qab .lss).f x16 x15) H fun a6 H =>
 cd a6 (
 qtf call q5r g5 x1 x14 x16 H) (
 q5e0 H)
def qiu (call : Ev.Call) (q5r : AV → Hp → R1) (q5e0 : Hp → R1) (x1 x14 x15 : AV) (n : Nat) : AV → Hp → R1 :=
 Nat.rec (motive := fun _ => AV → Hp → R1) (fun _ _ => .bad) (fun _ ih => qym call q5r q5e0 x1 x14 x15 ih) n
def qyn (call : Ev.Call) (q5r : AV → Hp → R1) (q5e0 : Hp → R1) (x1 x14 x15 : AV) : AV → Hp → R1 := qiu call q5r q5e0 x1 x14 x15 qbd
def qte (call : Ev.Call) (x1 : AV) (H : Hp) : R1 :=
 vq (qad 1 x1) H fun a2 H =>
 vq (qae H a2) H fun a3 H =>
 vq (lenSl a3) H fun a4 H =>
 qyn call (fun x2 H => .ok x2 H) (fun H => qiv call H) x1 a3 a4 (.int .i64 (.ofNat 0)) H
def q8e (call : Ev.Call) (x0 : AV) (H : Hp) : R1 :=
 vq (boxA 2 H.nx x0) H fun a0 H =>
 vq (qad 0 a0) H fun a45 H =>
 vq (qae H a45) H fun a46 H =>
 vq (intV (qab .lss).f a46 (.int .i64 (.ofNat 0))) H fun a47 H =>
 vg (qai false a47) (qad 0 a0) H fun a48 H =>
 vg (qai false a47) (qae H a48) H fun a49 H =>
 vg (qai false a47) (intV (qab .gtr).f a49 (.int .i64 (.ofNat 256))) H fun a50 H =>
 vq (qb7 a47 (.bool true) a50) H fun a51 H =>
 cd a51 (
 .ok (.int .i64 (.ofNat 3)) H) (
 qte call a0 H)
def gChk (call : Ev.Call) (x0 : AV) (H : Hp) : R1 := q8e call x0 H
def qef (call : Ev.Call) (x3 : AV) (H : Hp) : R1 :=
 vq (qad 1026 x3) H fun a2 H =>
 vq (qae H a2) H fun a3 H =>
 .ok a3 H
def qfn (call : Ev.Call) (g7 : AV → Hp → R1) (x30 : AV) (H : Hp) : R1 :=
 vq (intV (qab .add).f x30 (.int .i64 (.ofNat 1))) H fun a9 H =>
 g7 a9 H
def qkr (call : Ev.Call) (g7 : AV → Hp → R1) (x3 x30 : AV) (H : Hp) : R1 :=
 vq (qad 256 x3) H fun a11 H =>
 vq (idxA 256 1 a11 x30) H fun a12 H =>
 vq (qae H a12) H fun a13 H =>
 vq (intV (qab .eql).f a13 (.int .i64 (.ofNat 0))) H fun a14 H =>
 cd a14 (
 ve (call (.f qlu) [x3, x30] H) fun a15 H =>
 qfn call g7 x30 H) (
 qfn call g7 x30 H)
def qon (call : Ev.Call) (q7e2 : Hp → R1) (x3 x29 : AV) (g7 : AV → Hp → R1) (x30 : AV) (H : Hp) : R1 :=
 vq (intV (qab .lss).f x30 x29) H fun a8 H =>
 cd a8 (
 qkr call g7 x3 x30 H) (
 q7e2 H)
def qfm (call : Ev.Call) (q7e2 : Hp → R1) (x3 x29 : AV) (n : Nat) : AV → Hp → R1 :=
 Nat.rec (motive := fun _ => AV → Hp → R1) (fun _ _ => .bad) (fun _ ih => qon call q7e2 x3 x29 ih) n
def qoo (call : Ev.Call) (q7e2 : Hp → R1) (x3 x29 : AV) : AV → Hp → R1 := qfm call q7e2 x3 x29 qbd
def qc0 (call : Ev.Call) (x1 x3 : AV) (H : Hp) : R1 :=
 vq (qad 0 x1) H fun a5 H =>
 vq (qae H a5) H fun a6 H =>
 qoo call (fun H => qef call x3 H) x3 a6 (.int .i64 (.ofNat 0)) H
def qkq (call : Ev.Call) (g21 : AV → Hp → R1) (x10 : AV) (H : Hp) : R1 :=
 vq (intV (qab .add).f x10 (.int .i64 (.ofNat 1))) H fun a23 H =>
 g21 a23 H
def qkp (call : Ev.Call) (g21 : AV → Hp → R1) (x3 x8 x10 : AV) (H : Hp) : R1 :=
 vq (idxS 3 x8 x10) H fun a25 H =>
 vq (qa4 3 H a25) H fun a26 H =>
 vq (.new (.ptr H.nx 0) (qaa 0 [.int .i64 (.ofNat 0), .int .i64 (.ofNat 0), .bool false])) H fun a27 H =>
 ve (qbh 3 H a27 a26) fun _ H =>
 dz 14 H fun b29 H =>
 dq false false 0 0 (b29 + 0) H [] [] (fun _ => qad 0 a27) (some true) fun a30 H p w =>
 dq true false 1 1 (b29 + 1) H p w (fun H => qae H a30) (some true) fun a31 H p w =>
 dq false false 2 0 (b29 + 2) H p w (fun _ => qad 0 a27) (some true) fun a32 H p w =>
 dq true false 3 4 (b29 + 3) H p w (fun H => qae H a32) (some true) fun a33 H p w =>
 dq false false 4 0 (b29 + 4) H p w (fun _ => qad 0 x3) (some true) fun a34 H p w =>
 dq false false 5 28 (b29 + 5) H p w (fun _ => idxA 256 1 a34 a33) (some true) fun a35 H p w =>
 dq true false 6 60 (b29 + 6) H p w (fun H => qae H a35) (some true) fun a36 H p w =>
 dq false false 7 0 (b29 + 7) H p w (fun _ => qad 1 a27) (some true) fun a37 H p w =>
 dq true false 8 128 (b29 + 8) H p w (fun H => qae H a37) (some true) fun a38 H p w =>
 dq false true 9 384 (b29 + 9) H p w (fun _ => qdg 1 (b29 + 9) (qar (reps [.int .i64 (.ofNat 0)] 1) [(0, 1, a38)])) (some true) fun a39 H p w =>
 dq false false 11 0 (b29 + 11) H p w (fun _ => qad 0 x3) (some true) fun a40 H p w =>
 de 1020 H p w (qay 1 8 (qa0 1020 p H) a36 (qbj 1 (qa0 1020 p H) a39)) (some true) fun a41 H p w =>
 dq false false 12 4095 (b29 + 12) H p w (fun _ => idxA 256 1 a40 a31) (some true) fun a42 H p w =>
 de 8191 H p w (qaz (qa0 8191 p H) a42 a41) (some true) fun _ H p w =>
 dz2 p H fun H =>
 qkq call g21 x10 H
def qks (call : Ev.Call) (q21e0 : Hp → R1) (x3 x8 x9 : AV) (g21 : AV → Hp → R1) (x10 : AV) (H : Hp) : R1 :=
 vq (intV (qab .lss).f x10 x9) H fun a22 H =>
 cd a22 (
 qkp call g21 x3 x8 x10 H) (
 q21e0 H)
def qdx (call : Ev.Call) (q21e0 : Hp → R1) (x3 x8 x9 : AV) (n : Nat) : AV → Hp → R1 :=
 Nat.rec (motive := fun _ => AV → Hp → R1) (fun _ _ => .bad) (fun _ ih => qks call q21e0 x3 x8 x9 ih) n
def qkt (call : Ev.Call) (q21e0 : Hp → R1) (x3 x8 x9 : AV) : AV → Hp → R1 := qdx call q21e0 x3 x8 x9 qbd
def qtw (call : Ev.Call) (x0 : AV) (H : Hp) : R1 :=
 vq (boxA 2 H.nx x0) H fun a0 H =>
 vq (.new (.ptr H.nx 0) (qaa 0 (List.replicate 256 (.nilsl) ++ List.replicate 512 (.int .i64 (.ofNat 0)) ++ List.replicate 256 (.bool false) ++ [.nilsl] ++ [.int .i64 (.ofNat 0)] ++ [.nilsl]))) H fun a1 H =>
 vq (qad 1 a0) H fun a18 H =>
 vq (qae H a18) H fun a19 H =>
 vq (lenSl a19) H fun a20 H =>
 qkt call (fun H => qc0 call a0 a1 H) a1 a19 a20 (.int .i64 (.ofNat 0)) H
def cParts (call : Ev.Call) (x0 : AV) (H : Hp) : R1 := qtw call x0 H
def qee (call : Ev.Call) (x2 x3 x5 : AV) (H : Hp) : R1 :=
 .ok (.fn qg5 [] [x3, x2, x5]) H
def qgd (call : Ev.Call) (g12 : AV → Hp → R1) (x17 : AV) (H : Hp) : R1 :=
 vq (intV (qab .add).f x17 (.int .i64 (.ofNat 1))) H fun a14 H =>
 g12 a14 H
def qtr (call : Ev.Call) (g19 : AV → Hp → R1) (x24 : AV) (H : Hp) : R1 :=
 vq (intV (qab .add).f x24 (.int .i64 (.ofNat 1))) H fun a21 H =>
 g19 a21 H
def qtq (call : Ev.Call) (g19 : AV → Hp → R1) (x5 x6 x22 x24 : AV) (H : Hp) : R1 :=
 vq (idxS 1 x22 x24) H fun a23 H =>
 vq (qae H a23) H fun a24 H =>
 vq (qae H x5) H fun a25 H =>
 vq (idxS 1 a25 a24) H fun a26 H =>
 ve (qaz H a26 x6) fun _ H =>
 qtr call g19 x24 H
def qts (call : Ev.Call) (q19e2 : Hp → R1) (x5 x6 x22 x23 : AV) (g19 : AV → Hp → R1) (x24 : AV) (H : Hp) : R1 :=
 vq (intV (qab .lss).f x24 x23) H fun a20 H =>
 cd a20 (
 qtq call g19 x5 x6 x22 x24 H) (
 q19e2 H)
def qhy (call : Ev.Call) (q19e2 : Hp → R1) (x5 x6 x22 x23 : AV) (n : Nat) : AV → Hp → R1 :=
 Nat.rec (motive := fun _ => AV → Hp → R1) (fun _ _ => .bad) (fun _ ih => qts call q19e2 x5 x6 x22 x23 ih) n
def qtu (call : Ev.Call) (q19e2 : Hp → R1) (x5 x6 x22 x23 : AV) : AV → Hp → R1 := qhy call q19e2 x5 x6 x22 x23 qbd
def qtp (call : Ev.Call) (g12 : AV → Hp → R1) (x5 x15 x17 : AV) (H : Hp) : R1 :=
 vq (idxS 1 x15 x17) H fun a16 H =>
 vq (qae H a16) H fun a17 H =>
 vq (lenSl a17) H fun a18 H =>
 qtu call (fun H => qgd call g12 x17 H) x5 x17 a17 a18 (.int .i64 (.ofNat 0)) H
def qtt (call : Ev.Call) (q12e0 : Hp → R1) (x5 x15 x16 : AV) (g12 : AV → Hp → R1) (x17 : AV) (H : Hp) : R1 :=
 vq (intV (qab .lss).f x17 x16) H fun a13 H =>
 cd a13 (
 qtp call g12 x5 x15 x17 H) (
 q12e0 H)
def qda (call : Ev.Call) (q12e0 : Hp → R1) (x5 x15 x16 : AV) (n : Nat) : AV → Hp → R1 :=
 Nat.rec (motive := fun _ => AV → Hp → R1) (fun _ _ => .bad) (fun _ ih => qtt call q12e0 x5 x15 x16 ih) n
def qtv (call : Ev.Call) (q12e0 : Hp → R1) (x5 x15 x16 : AV) : AV → Hp → R1 := qda call q12e0 x5 x15 x16 qbd
def q9b (call : Ev.Call) (x0 x1 : AV) (H : Hp) : R1 :=
 vq (boxA 2 H.nx x0) H fun a0 H =>
 vq (box1 H.nx x1) H fun a1 H =>
 vq (qae H a1) H fun a2 H =>
 ve (call (.f qbq) [a2, (.fn qis [] [])] H) fun a3 H =>
 vq (qad 0 a0) H fun a4 H =>
 vq (qae H a4) H fun a5 H =>
 vq (qgf [.int .i64 (.ofNat 0)] 8 H.nx a5 a5) H fun a6 H =>
 vq (.new (.ptr H.nx 0) (qaa 0 [.nilsl])) H fun a7 H =>
 ve (qaz H a7 a6) fun _ H =>
 vq (qae H a1) H fun a10 H =>
 vq (lenSl a10) H fun a11 H =>
 qtv call (fun H => qee call a0 a1 a7 H) a7 a10 a11 (.int .i64 (.ofNat 0)) H
def cRdy (call : Ev.Call) (x0 x1 : AV) (H : Hp) : R1 := q9b call x0 x1 H
def qxa (call : Ev.Call) (x0 : AV) (H : Hp) : R1 :=
 vq (lenSl x0) H fun a0 H =>
 vq (lenSl x0) H fun a1 H =>
 vq (qa8 1 x0 none (some a0) (some a1)) H fun a2 H =>
 .ok a2 H
def sClpS (call : Ev.Call) (x0 : AV) (H : Hp) : R1 := qxa call x0 H
def qyl (call : Ev.Call) (H : Hp) : R1 :=
 .ok (.int .i64 (.ofNat 0)) H
def qyk (call : Ev.Call) (x1 x2 : AV) (H : Hp) : R1 :=
 vq (intV (qab .lss).f x1 (.int .i64 (.ofNat 0))) H fun a2 H =>
 vg (qai false a2) (.val x1) H fun a3 H =>
 vg (qai false a2) (qad 0 x2) H fun a4 H =>
 vg (qai false a2) (qae H a4) H fun a5 H =>
 vg (qai false a2) (intV (qab .geq).f a3 a5) H fun a6 H =>
 vq (qb7 a2 (.bool true) a6) H fun a7 H =>
 cd a7 (
 .ok (.int .i64 (.ofNat 4)) H) (
 qyl call H)
def q78 (call : Ev.Call) (x0 x1 : AV) (H : Hp) : R1 :=
 vq (boxA 2 H.nx x0) H fun a0 H =>
 vq (qa4 2 H a0) H fun a9 H =>
 ve (call (.f qnz) [a9] H) fun a10 H =>
 vq (intV (qab .neq).f a10 (.int .i64 (.ofNat 0))) H fun a11 H =>
 cd a11 (
 .ok a10 H) (
 qyk call x1 a0 H)
def gOfN (call : Ev.Call) (x0 x1 : AV) (H : Hp) : R1 := q78 call x0 x1 H
def qhc (call : Ev.Call) (x3 : AV) (H : Hp) : R1 :=
 .ok x3 H
def qy2 (call : Ev.Call) (g2 : AV → Hp → R1) (x8 : AV) (H : Hp) : R1 :=
 vq (intV (qab .add).f x8 (.int .i64 (.ofNat 1))) H fun a4 H =>
 g2 a4 H
def qy1 (call : Ev.Call) (q2r : AV → Hp → R1) (g2 : AV → Hp → R1) (x3 x6 x8 : AV) (H : Hp) : R1 :=
 vq (idxS 1 x6 x8) H fun a6 H =>
 vq (qae H a6) H fun a7 H =>
 vq (intV (qab .neq).f a7 x3) H fun a8 H =>
 cd a8 (
 q2r a7 H) (
 qy2 call g2 x8 H)
def qy3 (call : Ev.Call) (q2r : AV → Hp → R1) (q2e0 : Hp → R1) (x3 x6 x7 : AV) (g2 : AV → Hp → R1) (x8 : AV) (H : Hp) : R1 :=
 vq (intV (qab .lss).f x8 x7) H fun a3 H =>
 cd a3 (
 qy1 call q2r g2 x3 x6 x8 H) (
 q2e0 H)
def qku (call : Ev.Call) (q2r : AV → Hp → R1) (q2e0 : Hp → R1) (x3 x6 x7 : AV) (n : Nat) : AV → Hp → R1 :=
 Nat.rec (motive := fun _ => AV → Hp → R1) (fun _ _ => .bad) (fun _ ih => qy3 call q2r q2e0 x3 x6 x7 ih) n
def qy4 (call : Ev.Call) (q2r : AV → Hp → R1) (q2e0 : Hp → R1) (x3 x6 x7 : AV) : AV → Hp → R1 := qku call q2r q2e0 x3 x6 x7 qbd
def q9h (call : Ev.Call) (x0 : AV) (H : Hp) : R1 :=
 vq (lenSl x0) H fun a1 H =>
 qy4 call (fun x2 H => .ok x2 H) (fun H => qhc call (.int .i64 (.ofNat 0)) H) (.int .i64 (.ofNat 0)) x0 a1 (.int .i64 (.ofNat 0)) H
def cOrE (call : Ev.Call) (x0 : AV) (H : Hp) : R1 := q9h call x0 H
def qed (call : Ev.Call) (x4 x5 : AV) (H : Hp) : R1 :=
 vq (qa4 256 H x5) H fun a5 H =>
 ve (qbh 256 H x4 a5) fun _ H =>
 finR (rV (qa4 256 H x4)) H
def qf8 (call : Ev.Call) (g9 : AV → Hp → R1) (x7 : AV) (H : Hp) : R1 :=
 vq (qa8 1 x7 (some (.int .i64 (.ofNat 1))) none none) H fun a10 H =>
 g9 a10 H
def qhu (call : Ev.Call) (g15 : AV → AV → Hp → R1) (x7 x29 : AV) (H : Hp) : R1 :=
 vq (intV (qab .add).f x29 (.int .i64 (.ofNat 1))) H fun a17 H =>
 g15 x7 a17 H
def qs6 (call : Ev.Call) (g15 : AV → AV → Hp → R1) (x5 x7 x27 x29 : AV) (H : Hp) : R1 :=
 vq (idxS 3 x27 x29) H fun a19 H =>
 vq (qa4 3 H a19) H fun a20 H =>
 vq (.new (.ptr H.nx 0) (qaa 0 [.int .i64 (.ofNat 0), .int .i64 (.ofNat 0), .bool false])) H fun a21 H =>
 ve (qbh 3 H a21 a20) fun _ H =>
 vl (qad 0 a21) fun a23 =>
 vl (qae H a23) fun a24 =>
 vl (idxS 1 x7 (.int .i64 (.ofNat 0))) fun a25 =>
 vl (qae H a25) fun a26 =>
 vl (intV (qab .eql).f a24 a26) fun a27 =>
 vlg (qai true a27) (qad 1 a21) fun a28 =>
 vlg (qai true a27) (qae H a28) fun a29 =>
 vlg (qai true a27) (idxA 256 1 x5 a29) fun a30 =>
 vlg (qai true a27) (qae H a30) fun a31 =>
 vlg (qai true a27) (intV (qab .lss).f a31 (.int .i64 (.ofNat 0))) fun a32 =>
 vl (qb7 a27 a32 (.bool false)) fun a33 =>
 cd a33 (
 vq (qad 1 a21) H fun a34 H =>
 vq (qae H a34) H fun a35 H =>
 vq (qad 0 a21) H fun a36 H =>
 vq (qae H a36) H fun a37 H =>
 vq (idxA 256 1 x5 a35) H fun a38 H =>
 ve (qaz H a38 a37) fun _ H =>
 vq (qad 1 a21) H fun a40 H =>
 vq (qae H a40) H fun a41 H =>
 vq (qdg 1 H.nx (qar (reps [.int .i64 (.ofNat 0)] 1) [(0, 1, a41)])) H fun a42 H =>
 ve (qay 1 8 H x7 (qbj 1 H a42)) fun a43 H =>
 qhu call g15 a43 x29 H) (
 qhu call g15 x7 x29 H)
def qs8 (call : Ev.Call) (q15e4 : AV → Hp → R1) (x5 x27 x28 : AV) (g15 : AV → AV → Hp → R1) (x7 x29 : AV) (H : Hp) : R1 :=
 vq (intV (qab .lss).f x29 x28) H fun a16 H =>
 cd a16 (
 qs6 call g15 x5 x7 x27 x29 H) (
 q15e4 x7 H)
def qht (call : Ev.Call) (q15e4 : AV → Hp → R1) (x5 x27 x28 : AV) (n : Nat) : AV → AV → Hp → R1 :=
 Nat.rec (motive := fun _ => AV → AV → Hp → R1) (fun _ _ _ => .bad) (fun _ ih => qs8 call q15e4 x5 x27 x28 ih) n
def qta (call : Ev.Call) (q15e4 : AV → Hp → R1) (x5 x27 x28 : AV) : AV → AV → Hp → R1 := qht call q15e4 x5 x27 x28 qbd
def qs5 (call : Ev.Call) (g9 : AV → Hp → R1) (x2 x5 x7 : AV) (H : Hp) : R1 :=
 vq (qad 1 x2) H fun a12 H =>
 vq (qae H a12) H fun a13 H =>
 vq (lenSl a13) H fun a14 H =>
 qta call (fun x7 H => qf8 call g9 x7 H) x5 a13 a14 x7 (.int .i64 (.ofNat 0)) H
def qyf (call : Ev.Call) (q9e2 : Hp → R1) (x2 x5 : AV) (g9 : AV → Hp → R1) (x7 : AV) (H : Hp) : R1 :=
 vq (lenSl x7) H fun a46 H =>
 vq (intV (qab .gtr).f a46 (.int .i64 (.ofNat 0))) H fun a47 H =>
 cd a47 (
 qs5 call g9 x2 x5 x7 H) (
 q9e2 H)
def qe5 (call : Ev.Call) (q9e2 : Hp → R1) (x2 x5 : AV) (n : Nat) : AV → Hp → R1 :=
 Nat.rec (motive := fun _ => AV → Hp → R1) (fun _ _ => .bad) (fun _ ih => qyf call q9e2 x2 x5 ih) n
def qyg (call : Ev.Call) (q9e2 : Hp → R1) (x2 x5 : AV) : AV → Hp → R1 := qe5 call q9e2 x2 x5 qbd
def qf7 (call : Ev.Call) (x1 x2 x4 x5 : AV) (H : Hp) : R1 :=
 vq (idxA 256 1 x5 x1) H fun a3 H =>
 ve (qaz H a3 x1) fun _ H =>
 vq (qdg 1 H.nx (qar (reps [.int .i64 (.ofNat 0)] 1) [(0, 1, x1)])) H fun a8 H =>
 qyg call (fun H => qed call x4 x5 H) x2 x5 a8 H
def qs4 (call : Ev.Call) (g49 : AV → Hp → R1) (x10 : AV) (H : Hp) : R1 :=
 vq (intV (qab .add).f x10 (.int .i64 (.ofNat 1))) H fun a51 H =>
 g49 a51 H
def qs3 (call : Ev.Call) (g49 : AV → Hp → R1) (x5 x10 : AV) (H : Hp) : R1 :=
 vq (idxA 256 1 x5 x10) H fun a53 H =>
 ve (qaz H a53 (.int .i64 (.negSucc 0))) fun _ H =>
 qs4 call g49 x10 H
def qs7 (call : Ev.Call) (q49e0 : Hp → R1) (x5 : AV) (g49 : AV → Hp → R1) (x10 : AV) (H : Hp) : R1 :=
 vq (intV (qab .lss).f x10 (.int .i64 (.ofNat 256))) H fun a50 H =>
 cd a50 (
 qs3 call g49 x5 x10 H) (
 q49e0 H)
def qhs (call : Ev.Call) (q49e0 : Hp → R1) (x5 : AV) (n : Nat) : AV → Hp → R1 :=
 Nat.rec (motive := fun _ => AV → Hp → R1) (fun _ _ => .bad) (fun _ ih => qs7 call q49e0 x5 ih) n
def qs9 (call : Ev.Call) (q49e0 : Hp → R1) (x5 : AV) : AV → Hp → R1 := qhs call q49e0 x5 qbd
def q72 (call : Ev.Call) (x0 x1 : AV) (H : Hp) : R1 :=
 vq (boxA 2 H.nx x0) H fun a0 H =>
 vq (.new (.ptr H.nx 0) (qaa 0 (List.replicate 256 (.int .i64 (.ofNat 0))))) H fun a1 H =>
 vq (.new (.ptr H.nx 0) (qaa 0 (List.replicate 256 (.int .i64 (.ofNat 0))))) H fun a2 H =>
 qs9 call (fun H => qf7 call x1 a0 a1 a2 H) a2 (.int .i64 (.ofNat 0)) H
def gWlk (call : Ev.Call) (x0 x1 : AV) (H : Hp) : R1 := q72 call x0 x1 H
def qwz (call : Ev.Call) (g2 : AV → AV → Hp → R1) (x2 x3 : AV) (H : Hp) : R1 :=
 vq (intV (qab .add).f x2 (.int .i64 (.ofNat 1))) H fun a3 H =>
 vq (intV (qab .sub).f x3 (.int .i64 (.ofNat 1))) H fun a4 H =>
 g2 a3 a4 H
def qq7 (call : Ev.Call) (g2 : AV → AV → Hp → R1) (x0 x2 x3 : AV) (H : Hp) : R1 :=
 dz 0 H fun b6 H =>
 dq false false 0 0 (b6 + 0) H [] [] (fun _ => .val x0) (some true) fun a7 H p w =>
 dq false false 1 0 (b6 + 1) H p w (fun _ => .val x2) (some true) fun a8 H p w =>
 dq false false 2 0 (b6 + 2) H p w (fun _ => .val x0) (some true) fun a9 H p w =>
 dq false false 3 0 (b6 + 3) H p w (fun _ => .val x3) (some true) fun a10 H p w =>
 dq false false 4 0 (b6 + 4) H p w (fun _ => .val x0) (some true) fun a11 H p w =>
 dq false false 5 0 (b6 + 5) H p w (fun _ => .val x3) (some true) fun a12 H p w =>
 dq false false 6 48 (b6 + 6) H p w (fun _ => idxS 1 a11 a12) (some true) fun a13 H p w =>
 dq true false 7 112 (b6 + 7) H p w (fun H => qae H a13) (some true) fun a14 H p w =>
 dq false false 8 0 (b6 + 8) H p w (fun _ => .val x0) (some true) fun a15 H p w =>
 dq false false 9 0 (b6 + 9) H p w (fun _ => .val x2) (some true) fun a16 H p w =>
 dq false false 10 768 (b6 + 10) H p w (fun _ => idxS 1 a15 a16) (some true) fun a17 H p w =>
 dq true false 11 1792 (b6 + 11) H p w (fun H => qae H a17) (some true) fun a18 H p w =>
 dq false false 12 4083 (b6 + 12) H p w (fun _ => idxS 1 a7 a8) (some true) fun a19 H p w =>
 de 8179 H p w (qaz (qa0 8179 p H) a19 a14) (some true) fun _ H p w =>
 dq false false 14 16383 (b6 + 14) H p w (fun _ => idxS 1 a9 a10) (some true) fun a21 H p w =>
 de 32767 H p w (qaz (qa0 32767 p H) a21 a18) (some true) fun _ H p w =>
 dz2 p H fun H =>
 qwz call g2 x2 x3 H
def qw0 (call : Ev.Call) (q2e0 : Hp → R1) (x0 : AV) (g2 : AV → AV → Hp → R1) (x2 x3 : AV) (H : Hp) : R1 :=
 vq (intV (qab .lss).f x2 x3) H fun a24 H =>
 cd a24 (
 qq7 call g2 x0 x2 x3 H) (
 q2e0 H)
def qj0 (call : Ev.Call) (q2e0 : Hp → R1) (x0 : AV) (n : Nat) : AV → AV → Hp → R1 :=
 Nat.rec (motive := fun _ => AV → AV → Hp → R1) (fun _ _ _ => .bad) (fun _ ih => qw0 call q2e0 x0 ih) n
def qw1 (call : Ev.Call) (q2e0 : Hp → R1) (x0 : AV) : AV → AV → Hp → R1 := qj0 call q2e0 x0 qbd
def q5a (call : Ev.Call) (x0 : AV) (H : Hp) : R1 :=
 vq (lenSl x0) H fun a0 H =>
 vq (intV (qab .sub).f a0 (.int .i64 (.ofNat 1))) H fun a1 H =>
 qw1 call (fun H => .ok (.tup []) H) x0 (.int .i64 (.ofNat 0)) a1 H
def sRvs (call : Ev.Call) (x0 : AV) (H : Hp) : R1 := q5a call x0 H
def q8b (call : Ev.Call) (x0 x1 : AV) (H : Hp) : R1 :=
 vq (boxA 3 H.nx x0) H fun a0 H =>
 vq (boxA 3 H.nx x1) H fun a1 H =>
 dz 18 H fun b2 H =>
 dq false false 0 0 (b2 + 0) H [] [] (fun _ => qad 0 a0) (some true) fun a3 H p w =>
 dq true false 1 1 (b2 + 1) H p w (fun H => qae H a3) (some true) fun a4 H p w =>
 dq false false 2 0 (b2 + 2) H p w (fun _ => qad 0 a1) (some true) fun a5 H p w =>
 dq true false 3 4 (b2 + 3) H p w (fun H => qae H a5) (some true) fun a6 H p w =>
 dq false false 5 0 (b2 + 5) H p w (fun _ => qad 1 a0) (some true) fun a7 H p w =>
 dq true false 6 32 (b2 + 6) H p w (fun H => qae H a7) (some true) fun a8 H p w =>
 dq false false 7 0 (b2 + 7) H p w (fun _ => qad 1 a1) (some true) fun a9 H p w =>
 dq true false 8 128 (b2 + 8) H p w (fun H => qae H a9) (some true) fun a10 H p w =>
 dq true false 10 0 (b2 + 10) H p w (fun H => qa4 3 H a0) (some true) fun a11 H p w =>
 dq true false 12 0 (b2 + 12) H p w (fun H => qa4 3 H a1) (some true) fun a12 H p w =>
 de 15 H p w (call (.f qkf) [a4, a6] (qa0 15 p H)) (some true) fun a13 H p w =>
 de 511 H p w (call (.f qkf) [a8, a10] (qa0 511 p H)) (some true) fun a14 H p w =>
 de 2047 H p w (call (.f qnw) [a11] (qa0 2047 p H)) (some true) fun a15 H p w =>
 de 8191 H p w (call (.f qnw) [a12] (qa0 8191 p H)) (some true) fun a16 H p w =>
 de 16383 H p w (call (.f qkf) [a15, a16] (qa0 16383 p H)) (some true) fun a17 H p w =>
 dq false true 15 32767 (b2 + 15) H p w (fun _ => qdg 3 (b2 + 15) (qar (reps [.int .i64 (.ofNat 0)] 3) [(0, 1, a13), (1, 1, a14), (2, 1, a17)])) (some true) fun a18 H p w =>
 de 65535 H p w (call (.f q0t) [a18] (qa0 65535 p H)) (some true) fun a19 H p w =>
 dq false false 17 131071 (b2 + 17) H p w (fun _ => .val a19) (some true) fun a20 H p w =>
 dz2 p H fun H =>
 .ok a20 H
def gCmp (call : Ev.Call) (x0 x1 : AV) (H : Hp) : R1 := q8b call x0 x1 H
def qdj (call : Ev.Call) (g3 : AV → Hp → R1) (x0 x4 x5 : AV) (H : Hp) : R1 :=
 vq (nilC x5) H fun a7 H =>
 vq (qad 0 a7) H fun a8 H =>
 vq (qae H a8) H fun a9 H =>
 ve (call (.f qfj) [x0, a9] H) fun a10 H =>
 vq (lenSl x4) H fun a11 H =>
 vq (intV (qab .sub).f a11 (.int .i64 (.ofNat 1))) H fun a12 H =>
 vq (qa8 2 x4 none (some a12) none) H fun a13 H =>
 vq (lenSl a13) H fun a14 H =>
 vq (intV (qab .gtr).f a14 (.int .i64 (.ofNat 0))) H fun a15 H =>
 cd a15 (
 vq (lenSl a13) H fun a16 H =>
 vq (intV (qab .sub).f a16 (.int .i64 (.ofNat 1))) H fun a17 H =>
 vq (idxS 2 a13 a17) H fun a18 H =>
 vq (qad 0 a18) H fun a19 H =>
 vq (qae H a19) H fun a20 H =>
 dz 0 H fun b21 H =>
 dq false false 0 0 (b21 + 0) H [] [] (fun _ => .val x0) (some true) fun a22 H p w =>
 dq false false 1 0 (b21 + 1) H p w (fun _ => .val a20) (some true) fun a23 H p w =>
 dq false false 2 0 (b21 + 2) H p w (fun _ => .val x0) (some true) fun a24 H p w =>
 dq false false 3 0 (b21 + 3) H p w (fun _ => .val a20) (some true) fun a25 H p w =>
 dq false false 4 4 (b21 + 4) H p w (fun _ => nilC a24) (some true) fun a26 H p w =>
 dq false false 5 20 (b21 + 5) H p w (fun _ => qad 512 a26) (some true) fun a27 H p w =>
 dq false false 6 60 (b21 + 6) H p w (fun _ => idxA 256 1 a27 a25) (some true) fun a28 H p w =>
 dq true false 7 124 (b21 + 7) H p w (fun H => qae H a28) (some true) fun a29 H p w =>
 dq false false 8 0 (b21 + 8) H p w (fun _ => .val x0) (some true) fun a30 H p w =>
 dq false false 9 0 (b21 + 9) H p w (fun _ => .val a9) (some true) fun a31 H p w =>
 dq false false 10 256 (b21 + 10) H p w (fun _ => nilC a30) (some true) fun a32 H p w =>
 dq false false 11 1280 (b21 + 11) H p w (fun _ => qad 512 a32) (some true) fun a33 H p w =>
 dq false false 12 3840 (b21 + 12) H p w (fun _ => idxA 256 1 a33 a31) (some true) fun a34 H p w =>
 dq true false 13 7936 (b21 + 13) H p w (fun H => qae H a34) (some true) fun a35 H p w =>
 dq false false 14 16380 (b21 + 14) H p w (fun _ => qfk minV a29 [a35]) (some true) fun a36 H p w =>
 dq false false 15 1 (b21 + 15) H p w (fun _ => nilC a22) (some true) fun a37 H p w =>
 dq false false 16 32769 (b21 + 16) H p w (fun _ => qad 512 a37) (some true) fun a38 H p w =>
 dq false false 17 131071 (b21 + 17) H p w (fun _ => idxA 256 1 a38 a23) (some true) fun a39 H p w =>
 de 262143 H p w (qaz (qa0 262143 p H) a39 a36) (some true) fun _ H p w =>
 dz2 p H fun H =>
 g3 a13 H) (
 g3 a13 H)
def qok (call : Ev.Call) (g42 : AV → Hp → R1) (x0 x4 x5 x6 : AV) (H : Hp) : R1 :=
 vq (nilC x0) H fun a62 H =>
 vq (qad 768 a62) H fun a63 H =>
 vq (idxA 256 1 a63 x6) H fun a64 H =>
 vq (qae H a64) H fun a65 H =>
 cd a65 (
 dz 0 H fun b66 H =>
 dq false false 0 0 (b66 + 0) H [] [] (fun _ => .val x0) (some true) fun a67 H p w =>
 dq false false 1 0 (b66 + 1) H p w (fun _ => .val x5) (some true) fun a68 H p w =>
 dq false false 2 2 (b66 + 2) H p w (fun _ => nilC a68) (some true) fun a69 H p w =>
 dq false false 3 6 (b66 + 3) H p w (fun _ => qad 0 a69) (some true) fun a70 H p w =>
 dq true false 4 14 (b66 + 4) H p w (fun H => qae H a70) (some true) fun a71 H p w =>
 dq false false 5 0 (b66 + 5) H p w (fun _ => .val x0) (some true) fun a72 H p w =>
 dq false false 6 0 (b66 + 6) H p w (fun _ => .val x5) (some true) fun a73 H p w =>
 dq false false 7 64 (b66 + 7) H p w (fun _ => nilC a73) (some true) fun a74 H p w =>
 dq false false 8 192 (b66 + 8) H p w (fun _ => qad 0 a74) (some true) fun a75 H p w =>
 dq true false 9 448 (b66 + 9) H p w (fun H => qae H a75) (some true) fun a76 H p w =>
 dq false false 10 32 (b66 + 10) H p w (fun _ => nilC a72) (some true) fun a77 H p w =>
 dq false false 11 1056 (b66 + 11) H p w (fun _ => qad 512 a77) (some true) fun a78 H p w =>
 dq false false 12 4064 (b66 + 12) H p w (fun _ => idxA 256 1 a78 a76) (some true) fun a79 H p w =>
 dq true false 13 8160 (b66 + 13) H p w (fun H => qae H a79) (some true) fun a80 H p w =>
 dq false false 14 0 (b66 + 14) H p w (fun _ => .val x0) (some true) fun a81 H p w =>
 dq false false 15 0 (b66 + 15) H p w (fun _ => .val x6) (some true) fun a82 H p w =>
 dq false false 16 16384 (b66 + 16) H p w (fun _ => nilC a81) (some true) fun a83 H p w =>
 dq false false 17 81920 (b66 + 17) H p w (fun _ => qad 256 a83) (some true) fun a84 H p w =>
 dq false false 18 245760 (b66 + 18) H p w (fun _ => idxA 256 1 a84 a82) (some true) fun a85 H p w =>
 dq true false 19 507904 (b66 + 19) H p w (fun H => qae H a85) (some true) fun a86 H p w =>
 dq false false 20 1048544 (b66 + 20) H p w (fun _ => qfk minV a80 [a86]) (some true) fun a87 H p w =>
 dq false false 21 1 (b66 + 21) H p w (fun _ => nilC a67) (some true) fun a88 H p w =>
 dq false false 22 2097153 (b66 + 22) H p w (fun _ => qad 512 a88) (some true) fun a89 H p w =>
 dq false false 23 8388607 (b66 + 23) H p w (fun _ => idxA 256 1 a89 a71) (some true) fun a90 H p w =>
 de 16777215 H p w (qaz (qa0 16777215 p H) a90 a87) (some true) fun _ H p w =>
 dz2 p H fun H =>
 g42 x4 H) (
 g42 x4 H)
def qko (call : Ev.Call) (q42e1 : AV → Hp → R1) (g42 : AV → Hp → R1) (x0 x4 x5 : AV) (H : Hp) : R1 :=
 vl (nilC x5) fun a43 =>
 vl (qad 0 a43) fun a44 =>
 vl (qae H a44) fun a45 =>
 vl (nilC x0) fun a46 =>
 vl (qad 0 a46) fun a47 =>
 vl (idxA 256 1 a47 a45) fun a48 =>
 vl (qae H a48) fun a49 =>
 vl (nilC x5) fun a50 =>
 vl (qad 1 a50) fun a51 =>
 vl (qae H a51) fun a52 =>
 vl (idxS 1 a49 a52) fun a53 =>
 vl (qae H a53) fun a54 =>
 vq (nilC x5) H fun a55 H =>
 vq (qad 1 a55) H fun a56 H =>
 vq (qae H a56) H fun a57 H =>
 vq (intV (qab .add).f a57 (.int .i64 (.ofNat 1))) H fun a58 H =>
 vq (nilC x5) H fun a59 H =>
 vq (qad 1 a59) H fun a60 H =>
 ve (qaz H a60 a58) fun _ H =>
 vq (nilC x0) H fun a93 H =>
 vq (qad 256 a93) H fun a94 H =>
 vq (idxA 256 1 a94 a54) H fun a95 H =>
 vq (qae H a95) H fun a96 H =>
 vq (intV (qab .eql).f a96 (.int .i64 (.ofNat 0))) H fun a97 H =>
 cd a97 (
 ve (call (.f qg7) [x0, a54] H) fun a98 H =>
 vq (aggN (qar [.int .i64 (.ofNat 0), .int .i64 (.ofNat 0)] [(0, 1, a54), (1, 1, (.int .i64 (.ofNat 0)))])) H fun a99 H =>
 vq (qdg 1 H.nx (qar (reps [.int .i64 (.ofNat 0), .int .i64 (.ofNat 0)] 1) [(0, 2, a99)])) H fun a100 H =>
 ve (qay 2 16 H x4 (qbj 2 H a100)) fun a101 H =>
 q42e1 a101 H) (
 qok call g42 x0 x4 x5 a54 H)
def qol (call : Ev.Call) (q42e1 : AV → Hp → R1) (q42e2 : AV → Hp → R1) (x0 x5 : AV) (g42 : AV → Hp → R1) (x4 : AV) (H : Hp) : R1 :=
 vl (nilC x5) fun a103 =>
 vl (qad 1 a103) fun a104 =>
 vl (qae H a104) fun a105 =>
 vl (nilC x5) fun a106 =>
 vl (qad 0 a106) fun a107 =>
 vl (qae H a107) fun a108 =>
 vl (nilC x0) fun a109 =>
 vl (qad 0 a109) fun a110 =>
 vl (idxA 256 1 a110 a108) fun a111 =>
 vl (qae H a111) fun a112 =>
 vl (lenSl a112) fun a113 =>
 vl (intV (qab .lss).f a105 a113) fun a114 =>
 cd a114 (
 qko call q42e1 g42 x0 x4 x5 H) (
 q42e2 x4 H)
def qfl (call : Ev.Call) (q42e1 : AV → Hp → R1) (q42e2 : AV → Hp → R1) (x0 x5 : AV) (n : Nat) : AV → Hp → R1 :=
 Nat.rec (motive := fun _ => AV → Hp → R1) (fun _ _ => .bad) (fun _ ih => qol call q42e1 q42e2 x0 x5 ih) n
def qom (call : Ev.Call) (q42e1 : AV → Hp → R1) (q42e2 : AV → Hp → R1) (x0 x5 : AV) : AV → Hp → R1 := qfl call q42e1 q42e2 x0 x5 qbd
def qkn (call : Ev.Call) (g3 : AV → Hp → R1) (x0 x4 : AV) (H : Hp) : R1 :=
 vq (lenSl x4) H fun a4 H =>
 vq (intV (qab .sub).f a4 (.int .i64 (.ofNat 1))) H fun a5 H =>
 vq (idxS 2 x4 a5) H fun a6 H =>
 qom call (fun x4 H => g3 x4 H) (fun x4 H => qdj call g3 x0 x4 a6 H) x0 a6 x4 H
def qtn (call : Ev.Call) (q3e0 : Hp → R1) (x0 : AV) (g3 : AV → Hp → R1) (x4 : AV) (H : Hp) : R1 :=
 vq (lenSl x4) H fun a116 H =>
 vq (intV (qab .gtr).f a116 (.int .i64 (.ofNat 0))) H fun a117 H =>
 cd a117 (
 qkn call g3 x0 x4 H) (
 q3e0 H)
def qbr (call : Ev.Call) (q3e0 : Hp → R1) (x0 : AV) (n : Nat) : AV → Hp → R1 :=
 Nat.rec (motive := fun _ => AV → Hp → R1) (fun _ _ => .bad) (fun _ ih => qtn call q3e0 x0 ih) n
def qto (call : Ev.Call) (q3e0 : Hp → R1) (x0 : AV) : AV → Hp → R1 := qbr call q3e0 x0 qbd
def qkm (call : Ev.Call) (x0 x4 : AV) (H : Hp) : R1 :=
 qto call (fun H => .ok (.tup []) H) x0 x4 H
def qyz (call : Ev.Call) (x0 x1 : AV) (H : Hp) : R1 :=
 ve (call (.f qg7) [x0, x1] H) fun a0 H =>
 vq (aggN (qar [.int .i64 (.ofNat 0), .int .i64 (.ofNat 0)] [(0, 1, x1), (1, 1, (.int .i64 (.ofNat 0)))])) H fun a1 H =>
 vq (qdg 1 H.nx (qar (reps [.int .i64 (.ofNat 0), .int .i64 (.ofNat 0)] 1) [(0, 2, a1)])) H fun a2 H =>
 qkm call x0 a2 H
def cWalk (call : Ev.Call) (x0 x1 : AV) (H : Hp) : R1 := qyz call x0 x1 H
def qfw (call : Ev.Call) (g5 : AV → Hp → R1) (x17 : AV) (H : Hp) : R1 :=
 vq (intV (qab .add).f x17 (.int .i64 (.ofNat 1))) H fun a7 H =>
 g5 a7 H
def qll (call : Ev.Call) (g14 : AV → Hp → R1) (x55 : AV) (H : Hp) : R1 :=
 vq (intV (qab .add).f x55 (.int .i64 (.ofNat 1))) H fun a16 H =>
 g14 a16 H
def qrf (call : Ev.Call) (q14r : Hp → R1) (q14e4 : Hp → R1) (g14 : AV → Hp → R1) (x0 x1 x5 x6 x55 : AV) (H : Hp) : R1 :=
 vq (idxS 1 x5 x55) H fun a18 H =>
 vq (qae H a18) H fun a19 H =>
 vq ((unS .not).f a19) H fun a20 H =>
 vg (qai true a20) (.val x6) H fun a21 H =>
 vg (qai true a20) (.val x55) H fun a22 H =>
 vg (qai true a20) (idxS 1 a21 a22) H fun a23 H =>
 vg (qai true a20) (qae H a23) H fun a24 H =>
 vg (qai true a20) ((unS .not).f a24) H fun a25 H =>
 vq (qb7 a20 a25 (.bool false)) H fun a26 H =>
 cd a26 (
 vq (idxS 1 x5 x55) H fun a27 H =>
 ve (qaz H a27 (.bool true)) fun _ H =>
 vq (qae H x1) H fun a29 H =>
 vq (idxS 1 a29 x55) H fun a30 H =>
 vq (qae H a30) H fun a31 H =>
 ve (qtm call x0 [a31] H) fun a32 H =>
 vq ((unS .not).f a32) H fun a33 H =>
 cd a33 (
 q14r H) (
 q14e4 H)) (
 qll call g14 x55 H)
def qrh (call : Ev.Call) (q14r : Hp → R1) (q14e4 : Hp → R1) (x0 x1 x5 x6 x54 : AV) (g14 : AV → Hp → R1) (x55 : AV) (H : Hp) : R1 :=
 vq (intV (qab .lss).f x55 x54) H fun a15 H =>
 cd a15 (
 qrf call q14r q14e4 g14 x0 x1 x5 x6 x55 H) (
 q14e4 H)
def qfv (call : Ev.Call) (q14r : Hp → R1) (q14e4 : Hp → R1) (x0 x1 x5 x6 x54 : AV) (n : Nat) : AV → Hp → R1 :=
 Nat.rec (motive := fun _ => AV → Hp → R1) (fun _ _ => .bad) (fun _ ih => qrh call q14r q14e4 x0 x1 x5 x6 x54 ih) n
def qrj (call : Ev.Call) (q14r : Hp → R1) (q14e4 : Hp → R1) (x0 x1 x5 x6 x54 : AV) : AV → Hp → R1 := qfv call q14r q14e4 x0 x1 x5 x6 x54 qbd
def qfx (call : Ev.Call) (q5r : Hp → R1) (g5 : AV → Hp → R1) (x0 x1 x5 x6 x17 : AV) (H : Hp) : R1 :=
 vq (qae H x1) H fun a12 H =>
 vq (lenSl a12) H fun a13 H =>
 qrj call (fun H => q5r H) (fun H => qfw call g5 x17 H) x0 x1 x5 x6 a13 (.int .i64 (.ofNat 0)) H
def qja (call : Ev.Call) (g39 : AV → Hp → R1) (x25 : AV) (H : Hp) : R1 :=
 vq (intV (qab .add).f x25 (.int .i64 (.ofNat 1))) H fun a41 H =>
 g39 a41 H
def qre (call : Ev.Call) (g39 : AV → Hp → R1) (x3 x5 x6 x23 x25 : AV) (H : Hp) : R1 :=
 vq (idxS 3 x23 x25) H fun a43 H =>
 vq (qa4 3 H a43) H fun a44 H =>
 vq (.new (.ptr H.nx 0) (qaa 0 [.int .i64 (.ofNat 0), .int .i64 (.ofNat 0), .bool false])) H fun a45 H =>
 ve (qbh 3 H a45 a44) fun _ H =>
 vl (qae H x3) fun a47 =>
 vl (qad 0 a45) fun a48 =>
 vl (qae H a48) fun a49 =>
 vl (idxS 1 a47 a49) fun a50 =>
 vl (qae H a50) fun a51 =>
 vl (qae H x3) fun a52 =>
 vl (qad 1 a45) fun a53 =>
 vl (qae H a53) fun a54 =>
 vl (idxS 1 a52 a54) fun a55 =>
 vl (qae H a55) fun a56 =>
 vq (intV (qab .neq).f a51 a56) H fun a57 H =>
 vg (qai true a57) (.val x5) H fun a58 H =>
 vg (qai true a57) (.val a56) H fun a59 H =>
 vg (qai true a57) (idxS 1 a58 a59) H fun a60 H =>
 vg (qai true a57) (qae H a60) H fun a61 H =>
 vg (qai true a57) ((unS .not).f a61) H fun a62 H =>
 vq (qb7 a57 a62 (.bool false)) H fun a63 H =>
 cd a63 (
 vq (idxS 1 x6 a51) H fun a64 H =>
 ve (qaz H a64 (.bool true)) fun _ H =>
 qja call g39 x25 H) (
 qja call g39 x25 H)
def qrg (call : Ev.Call) (q39e2 : Hp → R1) (x3 x5 x6 x23 x24 : AV) (g39 : AV → Hp → R1) (x25 : AV) (H : Hp) : R1 :=
 vq (intV (qab .lss).f x25 x24) H fun a40 H =>
 cd a40 (
 qre call g39 x3 x5 x6 x23 x25 H) (
 q39e2 H)
def qfu (call : Ev.Call) (q39e2 : Hp → R1) (x3 x5 x6 x23 x24 : AV) (n : Nat) : AV → Hp → R1 :=
 Nat.rec (motive := fun _ => AV → Hp → R1) (fun _ _ => .bad) (fun _ ih => qrg call q39e2 x3 x5 x6 x23 x24 ih) n
def qri (call : Ev.Call) (q39e2 : Hp → R1) (x3 x5 x6 x23 x24 : AV) : AV → Hp → R1 := qfu call q39e2 x3 x5 x6 x23 x24 qbd
def qrd (call : Ev.Call) (q5r : Hp → R1) (g5 : AV → Hp → R1) (x0 x1 x2 x3 x5 x17 : AV) (H : Hp) : R1 :=
 vq (qae H x1) H fun a9 H =>
 vq (lenSl a9) H fun a10 H =>
 vq (qgf [.bool false] 1 H.nx a10 a10) H fun a11 H =>
 vq (qad 1 x2) H fun a36 H =>
 vq (qae H a36) H fun a37 H =>
 vq (lenSl a37) H fun a38 H =>
 qri call (fun H => qfx call q5r g5 x0 x1 x5 a11 x17 H) x3 x5 a11 a37 a38 (.int .i64 (.ofNat 0)) H
def qxd (call : Ev.Call) (q5r : Hp → R1) (q5e0 : Hp → R1) (x0 x1 x2 x3 x5 x16 : AV) (g5 : AV → Hp → R1) (x17 : AV) (H : Hp) : R1 :=
 vq (intV (qab .lss).f x17 x16) H fun a6 H =>
 cd a6 (
 qrd call q5r g5 x0 x1 x2 x3 x5 x17 H) (
 q5e0 H)
def qb5 (call : Ev.Call) (q5r : Hp → R1) (q5e0 : Hp → R1) (x0 x1 x2 x3 x5 x16 : AV) (n : Nat) : AV → Hp → R1 :=
 Nat.rec (motive := fun _ => AV → Hp → R1) (fun _ _ => .bad) (fun _ ih => qxd call q5r q5e0 x0 x1 x2 x3 x5 x16 ih) n
def qxe (call : Ev.Call) (q5r : Hp → R1) (q5e0 : Hp → R1) (x0 x1 x2 x3 x5 x16 : AV) : AV → Hp → R1 := qb5 call q5r q5e0 x0 x1 x2 x3 x5 x16 qbd
def q5x (call : Ev.Call) (x0 x1 x2 x3 : AV) (H : Hp) : R1 :=
 vq (qae H x1) H fun a0 H =>
 vq (lenSl a0) H fun a1 H =>
 vq (qgf [.bool false] 1 H.nx a1 a1) H fun a2 H =>
 vq (qae H x1) H fun a3 H =>
 vq (lenSl a3) H fun a4 H =>
 qxe call (fun H => .ok (.tup []) H) (fun H => .ok (.tup []) H) x0 x1 x2 x3 a2 a4 (.int .i64 (.ofNat 0)) H
def rdyB (call : Ev.Call) (x0 x1 x2 x3 : AV) (H : Hp) : R1 := q5x call x0 x1 x2 x3 H
def qzg (call : Ev.Call) (H : Hp) : R1 :=
 .ok (.int .i64 (.ofNat 0)) H
def qzf (call : Ev.Call) (x0 x1 : AV) (H : Hp) : R1 :=
 vq (intV (qab .gtr).f x0 x1) H fun a3 H =>
 cd a3 (
 .ok (.int .i64 (.ofNat 1)) H) (
 qzg call H)
def qze (call : Ev.Call) (x0 x1 : AV) (H : Hp) : R1 :=
 vq (intV (qab .lss).f x0 x1) H fun a5 H =>
 cd a5 (
 .ok (.int .i64 (.negSucc 0)) H) (
 qzf call x0 x1 H)
def qzd (call : Ev.Call) (x0 x1 x6 : AV) (H : Hp) : R1 :=
 cd x6 (
 .ok (.int .i64 (.ofNat 1)) H) (
 qze call x0 x1 H)
def q9o (call : Ev.Call) (H : Hp) : R1 :=
 .ok (.int .i64 (.negSucc 0)) H
def q9p (call : Ev.Call) (x0 x1 : AV) (H : Hp) : R1 :=
 ve (call (.f qn0) [x0] H) fun a0 H =>
 ve (call (.f qn0) [x1] H) fun a1 H =>
 cd a0 (
 cd a1 (
 .ok (.int .i64 (.ofNat 0)) H) (
 q9o call H)) (
 qzd call x0 x1 a1 H)
def cCmp (call : Ev.Call) (x0 x1 : AV) (H : Hp) : R1 := q9p call x0 x1 H
def qyh (call : Ev.Call) (H : Hp) : R1 :=
 .ok (.int .i64 (.ofNat 0)) H
def q74 (call : Ev.Call) (x0 : AV) (H : Hp) : R1 :=
 vq (boxA 3 H.nx x0) H fun a0 H =>
 vq (qad 2 a0) H fun a2 H =>
 vq (qae H a2) H fun a3 H =>
 cd a3 (
 .ok (.int .i64 (.ofNat 1)) H) (
 qyh call H)
def gSgn (call : Ev.Call) (x0 : AV) (H : Hp) : R1 := q74 call x0 H
def qop (call : Ev.Call) (x3 : AV) (H : Hp) : R1 :=
 .ok x3 H
def q9d (call : Ev.Call) (g2 : AV → Hp → R1) (x8 : AV) (H : Hp) : R1 :=
 vq (intV (qab .add).f x8 (.int .i64 (.ofNat 1))) H fun a4 H =>
 g2 a4 H
def q9c (call : Ev.Call) (q2r : AV → Hp → R1) (g2 : AV → Hp → R1) (x3 x6 x8 : AV) (H : Hp) : R1 :=
 vq (idxS 1 x6 x8) H fun a6 H =>
 vq (qae H a6) H fun a7 H =>
 vq (intV (qab .neq).f a7 x3) H fun a8 H =>
 cd a8 (
 q2r a7 H) (
 q9d call g2 x8 H)
def q9e (call : Ev.Call) (q2r : AV → Hp → R1) (q2e0 : Hp → R1) (x3 x6 x7 : AV) (g2 : AV → Hp → R1) (x8 : AV) (H : Hp) : R1 :=
 vq (intV (qab .lss).f x8 x7) H fun a3 H =>
 cd a3 (
 q9c call q2r g2 x3 x6 x8 H) (
 q2e0 H)
def qqd (call : Ev.Call) (q2r : AV → Hp → R1) (q2e0 : Hp → R1) (x3 x6 x7 : AV) (n : Nat) : AV → Hp → R1 :=
 Nat.rec (motive := fun _ => AV → Hp → R1) (fun _ _ => .bad) (fun _ ih => q9e call q2r q2e0 x3 x6 x7 ih) n
def q9f (call : Ev.Call) (q2r : AV → Hp → R1) (q2e0 : Hp → R1) (x3 x6 x7 : AV) : AV → Hp → R1 := qqd call q2r q2e0 x3 x6 x7 qbd
def zfy (call : Ev.Call) (x0 : AV) (H : Hp) : R1 :=
 vq (lenSl x0) H fun a1 H =>
 q9f call (fun x2 H => .ok x2 H) (fun H => qop call (.int .i64 (.ofNat 0)) H) (.int .i64 (.ofNat 0)) x0 a1 (.int .i64 (.ofNat 0)) H
def cOr (call : Ev.Call) (x0 : AV) (H : Hp) : R1 := zfy call x0 H
def qt1 (call : Ev.Call) (x0 x1 : AV) (H : Hp) : R1 :=
 vq (nilC x0) H fun a0 H =>
 vq (qad 1025 a0) H fun a1 H =>
 vq (qae H a1) H fun a2 H =>
 vq (intV (qab .add).f a2 (.int .i64 (.ofNat 1))) H fun a3 H =>
 vq (nilC x0) H fun a4 H =>
 vq (qad 1025 a4) H fun a5 H =>
 ve (qaz H a5 a3) fun _ H =>
 dz 0 H fun b7 H =>
 dq false false 0 0 (b7 + 0) H [] [] (fun _ => .val x0) (some true) fun a8 H p w =>
 dq false false 1 0 (b7 + 1) H p w (fun _ => .val x1) (some true) fun a9 H p w =>
 dq false false 2 0 (b7 + 2) H p w (fun _ => .val x0) (some true) fun a10 H p w =>
 dq false false 3 0 (b7 + 3) H p w (fun _ => .val x1) (some true) fun a11 H p w =>
 dq false false 4 0 (b7 + 4) H p w (fun _ => .val x0) (some true) fun a12 H p w =>
 dq false false 5 0 (b7 + 5) H p w (fun _ => .val x1) (some true) fun a13 H p w =>
 dq false false 6 0 (b7 + 6) H p w (fun _ => .val x0) (some true) fun a14 H p w =>
 dq false false 7 64 (b7 + 7) H p w (fun _ => nilC a14) (some true) fun a15 H p w =>
 dq false false 8 192 (b7 + 8) H p w (fun _ => qad 1025 a15) (some true) fun a16 H p w =>
 dq true false 9 448 (b7 + 9) H p w (fun H => qae H a16) (some true) fun a17 H p w =>
 dq false false 10 0 (b7 + 10) H p w (fun _ => .val x0) (some true) fun a18 H p w =>
 dq false false 11 1024 (b7 + 11) H p w (fun _ => nilC a18) (some true) fun a19 H p w =>
 dq false false 12 3072 (b7 + 12) H p w (fun _ => qad 1025 a19) (some true) fun a20 H p w =>
 dq true false 13 7168 (b7 + 13) H p w (fun H => qae H a20) (some true) fun a21 H p w =>
 dq false false 14 1 (b7 + 14) H p w (fun _ => nilC a8) (some true) fun a22 H p w =>
 dq false false 15 16385 (b7 + 15) H p w (fun _ => qad 256 a22) (some true) fun a23 H p w =>
 dq false false 16 65475 (b7 + 16) H p w (fun _ => idxA 256 1 a23 a9) (some true) fun a24 H p w =>
 dq false false 18 4 (b7 + 18) H p w (fun _ => nilC a10) (some true) fun a25 H p w =>
 dq false false 19 262148 (b7 + 19) H p w (fun _ => qad 512 a25) (some true) fun a26 H p w =>
 dq false false 22 16 (b7 + 22) H p w (fun _ => nilC a12) (some true) fun a27 H p w =>
 dq false false 23 4194320 (b7 + 23) H p w (fun _ => qad 768 a27) (some true) fun a28 H p w =>
 de 131011 H p w (qaz (qa0 131011 p H) a24 a17) (some true) fun _ H p w =>
 dq false false 20 1048527 (b7 + 20) H p w (fun _ => idxA 256 1 a26 a11) (some true) fun a30 H p w =>
 de 2097103 H p w (qaz (qa0 2097103 p H) a30 a21) (some true) fun _ H p w =>
 dq false false 24 16777215 (b7 + 24) H p w (fun _ => idxA 256 1 a28 a13) (some true) fun a32 H p w =>
 de 33554431 H p w (qaz (qa0 33554431 p H) a32 (.bool true)) (some true) fun _ H p w =>
 dz2 p H fun H =>
 vq (nilC x0) H fun a34 H =>
 vq (qad 1024 a34) H fun a35 H =>
 vq (qae H a35) H fun a36 H =>
 vq (qdg 1 H.nx (qar (reps [.int .i64 (.ofNat 0)] 1) [(0, 1, x1)])) H fun a37 H =>
 ve (qay 1 8 H a36 (qbj 1 H a37)) fun a38 H =>
 vq (nilC x0) H fun a39 H =>
 vq (qad 1024 a39) H fun a40 H =>
 ve (qaz H a40 a38) fun _ H =>
 .ok (.tup []) H
def cEnter (call : Ev.Call) (x0 x1 : AV) (H : Hp) : R1 := qt1 call x0 x1 H
def qc7 (call : Ev.Call) (x0 x4 x5 : AV) (H : Hp) : R1 :=
 vq (nilC x0) H fun a10 H =>
 vq (qad 1024 a10) H fun a11 H =>
 vq (qae H a11) H fun a12 H =>
 vq (qa8 1 a12 none (some x4) none) H fun a13 H =>
 vq (nilC x0) H fun a14 H =>
 vq (qad 1024 a14) H fun a15 H =>
 ve (qaz H a15 a13) fun _ H =>
 vq (nilC x0) H fun a17 H =>
 vq (qad 1026 a17) H fun a18 H =>
 vq (qae H a18) H fun a19 H =>
 vq (qdg 1 H.nx (qar (reps [.nilsl] 1) [(0, 1, x5)])) H fun a20 H =>
 ve (qay 1 24 H a19 (qbj 1 H a20)) fun a21 H =>
 vq (nilC x0) H fun a22 H =>
 vq (qad 1026 a22) H fun a23 H =>
 ve (qaz H a23 a21) fun _ H =>
 .ok (.tup []) H
def qky (call : Ev.Call) (g27 : AV → Hp → R1) (x37 : AV) (H : Hp) : R1 :=
 vq (intV (qab .add).f x37 (.int .i64 (.ofNat 1))) H fun a29 H =>
 g27 a29 H
def qkx (call : Ev.Call) (g27 : AV → Hp → R1) (x0 x35 x37 : AV) (H : Hp) : R1 :=
 vq (idxS 1 x35 x37) H fun a31 H =>
 vq (qae H a31) H fun a32 H =>
 vq (nilC x0) H fun a33 H =>
 vq (qad 768 a33) H fun a34 H =>
 vq (idxA 256 1 a34 a32) H fun a35 H =>
 ve (qaz H a35 (.bool false)) fun _ H =>
 qky call g27 x37 H
def qkz (call : Ev.Call) (q27e0 : Hp → R1) (x0 x35 x36 : AV) (g27 : AV → Hp → R1) (x37 : AV) (H : Hp) : R1 :=
 vq (intV (qab .lss).f x37 x36) H fun a28 H =>
 cd a28 (
 qkx call g27 x0 x35 x37 H) (
 q27e0 H)
def qdy (call : Ev.Call) (q27e0 : Hp → R1) (x0 x35 x36 : AV) (n : Nat) : AV → Hp → R1 :=
 Nat.rec (motive := fun _ => AV → Hp → R1) (fun _ _ => .bad) (fun _ ih => qkz call q27e0 x0 x35 x36 ih) n
def qk0 (call : Ev.Call) (q27e0 : Hp → R1) (x0 x35 x36 : AV) : AV → Hp → R1 := qdy call q27e0 x0 x35 x36 qbd
def qkw (call : Ev.Call) (x0 x1 : AV) (H : Hp) : R1 :=
 vq (nilC x0) H fun a0 H =>
 vq (qad 1024 a0) H fun a1 H =>
 vq (qae H a1) H fun a2 H =>
 ve (call (.f qsl) [a2, x1] H) fun a3 H =>
 vq (nilC x0) H fun a4 H =>
 vq (qad 1024 a4) H fun a5 H =>
 vq (qae H a5) H fun a6 H =>
 vq (qa8 1 a6 (some a3) none none) H fun a7 H =>
 ve (call (.f qya) [a7] H) fun a8 H =>
 ve (call (.f qsi) [a8] H) fun a9 H =>
 vq (lenSl a9) H fun a26 H =>
 qk0 call (fun H => qc7 call x0 a3 a9 H) x0 a9 a26 (.int .i64 (.ofNat 0)) H
def qlz (call : Ev.Call) (x0 x1 : AV) (H : Hp) : R1 :=
 vl (nilC x0) fun a39 =>
 vl (qad 512 a39) fun a40 =>
 vl (idxA 256 1 a40 x1) fun a41 =>
 vl (qae H a41) fun a42 =>
 vl (nilC x0) fun a43 =>
 vl (qad 256 a43) fun a44 =>
 vl (idxA 256 1 a44 x1) fun a45 =>
 vl (qae H a45) fun a46 =>
 vl (intV (qab .lss).f a42 a46) fun a47 =>
 cd a47 (
 .ok (.tup []) H) (
 qkw call x0 x1 H)
def cLeave (call : Ev.Call) (x0 x1 : AV) (H : Hp) : R1 := qlz call x0 x1 H
def q9k (call : Ev.Call) (x0 : AV) (H : Hp) : R1 :=
 vq (intV (qab .neq).f x0 x0) H fun a0 H =>
 .ok a0 H
def cNaN (call : Ev.Call) (x0 : AV) (H : Hp) : R1 := q9k call x0 H
def qj3 (call : Ev.Call) (H : Hp) : R1 :=
 .ok (.int .i64 (.negSucc 0)) H
def qw7 (call : Ev.Call) (g2 : AV → Hp → R1) (x8 : AV) (H : Hp) : R1 :=
 vq (intV (qab .add).f x8 (.int .i64 (.ofNat 1))) H fun a4 H =>
 g2 a4 H
def qw6 (call : Ev.Call) (q2r : AV → Hp → R1) (g2 : AV → Hp → R1) (x0 x1 x8 : AV) (H : Hp) : R1 :=
 vq (idxS 1 x0 x8) H fun a6 H =>
 vq (qae H a6) H fun a7 H =>
 vq (intV (qab .eql).f x1 a7) H fun a8 H =>
 cd a8 (
 q2r x8 H) (
 qw7 call g2 x8 H)
def qw8 (call : Ev.Call) (q2r : AV → Hp → R1) (q2e0 : Hp → R1) (x0 x1 x7 : AV) (g2 : AV → Hp → R1) (x8 : AV) (H : Hp) : R1 :=
 vq (intV (qab .lss).f x8 x7) H fun a3 H =>
 cd a3 (
 qw6 call q2r g2 x0 x1 x8 H) (
 q2e0 H)
def qj2 (call : Ev.Call) (q2r : AV → Hp → R1) (q2e0 : Hp → R1) (x0 x1 x7 : AV) (n : Nat) : AV → Hp → R1 :=
 Nat.rec (motive := fun _ => AV → Hp → R1) (fun _ _ => .bad) (fun _ ih => qw8 call q2r q2e0 x0 x1 x7 ih) n
def qw9 (call : Ev.Call) (q2r : AV → Hp → R1) (q2e0 : Hp → R1) (x0 x1 x7 : AV) : AV → Hp → R1 := qj2 call q2r q2e0 x0 x1 x7 qbd
def q5g (call : Ev.Call) (x0 x1 : AV) (H : Hp) : R1 :=
 vq (lenSl x0) H fun a1 H =>
 qw9 call (fun x4 H => .ok x4 H) (fun H => qj3 call H) x0 x1 a1 (.int .i64 (.ofNat 0)) H
def sIdx (call : Ev.Call) (x0 x1 : AV) (H : Hp) : R1 := q5g call x0 x1 H
def q45 (call : Ev.Call) (x0 : AV) (H : Hp) : R1 :=
 vq (box1 H.nx x0) H fun a0 H =>
 .ok (.fn qcm [] [a0]) H
def sVal (call : Ev.Call) (x0 : AV) (H : Hp) : R1 := q45 call x0 H
def q47 (call : Ev.Call) (x0 : AV) (H : Hp) : R1 :=
 ve (call (.f qsm) [x0] H) fun a0 H =>
 ve (call (.f qeb) [a0] H) fun a1 H =>
 .ok a0 H
def sSrt (call : Ev.Call) (x0 : AV) (H : Hp) : R1 := q47 call x0 H
def qq4 (call : Ev.Call) (g2 : AV → Hp → R1) (x7 : AV) (H : Hp) : R1 :=
 vq (intV (qab .add).f x7 (.int .i64 (.ofNat 1))) H fun a4 H =>
 g2 a4 H
def qml (call : Ev.Call) (q2r : Hp → R1) (g2 : AV → Hp → R1) (x0 x5 x7 : AV) (H : Hp) : R1 :=
 vq (idxS 1 x5 x7) H fun a6 H =>
 vq (qae H a6) H fun a7 H =>
 ve (qtm call x0 [a7] H) fun a8 H =>
 vq ((unS .not).f a8) H fun a9 H =>
 cd a9 (
 q2r H) (
 qq4 call g2 x7 H)
def qq5 (call : Ev.Call) (q2r : Hp → R1) (q2e0 : Hp → R1) (x0 x5 x6 : AV) (g2 : AV → Hp → R1) (x7 : AV) (H : Hp) : R1 :=
 vq (intV (qab .lss).f x7 x6) H fun a3 H =>
 cd a3 (
 qml call q2r g2 x0 x5 x7 H) (
 q2e0 H)
def qhi (call : Ev.Call) (q2r : Hp → R1) (q2e0 : Hp → R1) (x0 x5 x6 : AV) (n : Nat) : AV → Hp → R1 :=
 Nat.rec (motive := fun _ => AV → Hp → R1) (fun _ _ => .bad) (fun _ ih => qq5 call q2r q2e0 x0 x5 x6 ih) n
def qq6 (call : Ev.Call) (q2r : Hp → R1) (q2e0 : Hp → R1) (x0 x5 x6 : AV) : AV → Hp → R1 := qhi call q2r q2e0 x0 x5 x6 qbd
def qwy (call : Ev.Call) (x0 x1 : AV) (H : Hp) : R1 :=
 vq (qae H x1) H fun a0 H =>
 vq (lenSl a0) H fun a1 H =>
 qq6 call (fun H => .ok (.tup []) H) (fun H => .ok (.tup []) H) x0 a0 a1 (.int .i64 (.ofNat 0)) H
def sValA (call : Ev.Call) (x0 x1 : AV) (H : Hp) : R1 := qwy call x0 x1 H
def q5i (call : Ev.Call) (x0 : AV) (H : Hp) : R1 :=
 ve (call (.f qsn) [(.nilsl), x0] H) fun a0 H =>
 .ok a0 H
def sCol (call : Ev.Call) (x0 : AV) (H : Hp) : R1 := q5i call x0 H
end Go.Di
end
noncomputable section
namespace Go.Di
open Go.Ev
structure Lnk (c d : Ev.Call) : Prop where
 lwN : ∀ (x0 : AV) (H : Hp), c (.f zc8) [x0] H = Di.lwN d x0 H
 hMat : ∀ (x0 : AV) (H : Hp), c (.f qst) [x0] H = Di.hMat d x0 H
 lGr : ∀ (x0 : AV) (H : Hp), c (.f q0s) [x0] H = Di.lGr d x0 H
 rNum : ∀ (x0 : AV) (H : Hp), c (.f qsr) [x0] H = Di.rNum d x0 H
 stNum : ∀ (x0 : AV) (H : Hp), c (.f qlt) [x0] H = Di.stNum d x0 H
 stWit : ∀ (x0 : AV) (H : Hp), c (.f qlr) [x0] H = Di.stWit d x0 H
 lwT : ∀ (x0 x1 x2 x3 : AV) (H : Hp), c (.f qg6) [x0, x1, x2, x3] H = Di.lwT d x0 x1 x2 x3 H
 rWit : ∀ (x0 : AV) (H : Hp), c (.f qso) [x0] H = Di.rWit d x0 H
 rMat : ∀ (x0 x1 : AV) (H : Hp), c (.f qnu) [x0, x1] H = Di.rMat d x0 x1 H
 rEdg : ∀ (x0 : AV) (H : Hp), c (.f qnv) [x0] H = Di.rEdg d x0 H
 cMix : ∀ (x0 : AV) (H : Hp), c (.f qsy) [x0] H = Di.cMix d x0 H
 stStp : ∀ (x0 : AV) (H : Hp), c (.f qls) [x0] H = Di.stStp d x0 H
 stGre : ∀ (x0 : AV) (H : Hp), c (.f qjl) [x0] H = Di.stGre d x0 H
 stWiA : ∀ (x0 x1 : AV) (H : Hp), c (.f qjk) [x0, x1] H = Di.stWiA d x0 x1 H
 sIxF : ∀ (x0 x1 : AV) (H : Hp), c (.f qsk) [x0, x1] H = Di.sIxF d x0 x1 H
 gPth : ∀ (x0 x1 x2 : AV) (H : Hp), c (.f qnx) [x0, x1, x2] H = Di.gPth d x0 x1 x2 H
 sClp : ∀ (x0 : AV) (H : Hp), c (.f qg4) [x0] H = Di.sClp d x0 H
 rDist : ∀ (x0 : AV) (H : Hp), c (.f qjn) [x0] H = Di.rDist d x0 H
 rPth : ∀ (x0 x1 x2 : AV) (H : Hp), c (.f qsq) [x0, x1, x2] H = Di.rPth d x0 x1 x2 H
 rNew : ∀ (x0 : AV) (H : Hp), c (.f qss) [x0] H = Di.rNew d x0 H
 rPut : ∀ (x0 x1 x2 x3 : AV) (H : Hp), c (.f qsp) [x0, x1, x2, x3] H = Di.rPut d x0 x1 x2 x3 H
 gChk : ∀ (x0 : AV) (H : Hp), c (.f qnz) [x0] H = Di.gChk d x0 H
 cParts : ∀ (x0 : AV) (H : Hp), c (.f qjo) [x0] H = Di.cParts d x0 H
 cRdy : ∀ (x0 x1 : AV) (H : Hp), c (.f qsw) [x0, x1] H = Di.cRdy d x0 x1 H
 sClpS : ∀ (x0 : AV) (H : Hp), c (.f qjm) [x0] H = Di.sClpS d x0 H
 gOfN : ∀ (x0 x1 : AV) (H : Hp), c (.f qny) [x0, x1] H = Di.gOfN d x0 x1 H
 cOrE : ∀ (x0 : AV) (H : Hp), c (.f qsx) [x0] H = Di.cOrE d x0 H
 gWlk : ∀ (x0 x1 : AV) (H : Hp), c (.f qsu) [x0, x1] H = Di.gWlk d x0 x1 H
 sRvs : ∀ (x0 : AV) (H : Hp), c (.f qsj) [x0] H = Di.sRvs d x0 H
 gCmp : ∀ (x0 x1 : AV) (H : Hp), c (.f qsv) [x0, x1] H = Di.gCmp d x0 x1 H
 cWalk : ∀ (x0 x1 : AV) (H : Hp), c (.f qlu) [x0, x1] H = Di.cWalk d x0 x1 H
 rdyB : ∀ (x0 x1 x2 x3 : AV) (H : Hp), c (.f qg5) [x0, x1, x2, x3] H = Di.rdyB d x0 x1 x2 x3 H
 cCmp : ∀ (x0 x1 : AV) (H : Hp), c (.f qkf) [x0, x1] H = Di.cCmp d x0 x1 H
 gSgn : ∀ (x0 : AV) (H : Hp), c (.f qnw) [x0] H = Di.gSgn d x0 H
 cOr : ∀ (x0 : AV) (H : Hp), c (.f q0t) [x0] H = Di.cOr d x0 H
 cEnter : ∀ (x0 x1 : AV) (H : Hp), c (.f qg7) [x0, x1] H = Di.cEnter d x0 x1 H
 cLeave : ∀ (x0 x1 : AV) (H : Hp), c (.f qfj) [x0, x1] H = Di.cLeave d x0 x1 H
 cNaN : ∀ (x0 : AV) (H : Hp), c (.f qn0) [x0] H = Di.cNaN d x0 H
 sIdx : ∀ (x0 x1 : AV) (H : Hp), c (.f qsl) [x0, x1] H = Di.sIdx d x0 x1 H
 sVal : ∀ (x0 : AV) (H : Hp), c (.f qya) [x0] H = Di.sVal d x0 H
 sSrt : ∀ (x0 : AV) (H : Hp), c (.f qsi) [x0] H = Di.sSrt d x0 H
 sValA : ∀ (x0 x1 : AV) (H : Hp), c (.f qcm) [x0, x1] H = Di.sValA d x0 x1 H
 sCol : ∀ (x0 : AV) (H : Hp), c (.f qsm) [x0] H = Di.sCol d x0 H
abbrev qgi (C : Nat → Ev.Call) : Prop := ∀ k, Lnk (C (k + 1)) (C k)
theorem q68 {call : Ev.Call} {H : Hp} {Q : AV → Hp → Prop} (h : Ok (qg1 call H) Q) : Ok (qcp call H) Q := by rw [qvf]; exact h
theorem q67 {call : Ev.Call} {g3 : AV → Hp → R1} {x11 : AV} {H : Hp} {Q : AV → Hp → Prop} (h : Ok (qg0 call g3 x11 H) Q) : Ok (q0p call g3 x11 H) Q := by rw [qve]; exact h
theorem q66 {call : Ev.Call} {q3r : AV → Hp → R1} {g3 : AV → Hp → R1} {x11 x97 : AV} {H : Hp} {Q : AV → Hp → Prop} (h : Ok (qgz call q3r g3 x11 x97 H) Q) : Ok (qvd call q3r g3 x11 x97 H) Q := by rw [qvc]; exact h
theorem q27 {call : Ev.Call} {q3r : AV → Hp → R1} {g3 : AV → Hp → R1} {x11 x12 : AV} {H : Hp} {Q : AV → Hp → Prop} (h : Ok (qer call q3r g3 x11 x12 H) Q) : Ok (qse call q3r g3 x11 x12 H) Q := by rw [qp2]; exact h
theorem q26 {call : Ev.Call} {q3r : AV → Hp → R1} {g3 : AV → Hp → R1} {x3 x9 x11 : AV} {H : Hp} {Q : AV → Hp → Prop} (h : Ok (qeq call q3r g3 x3 x9 x11 H) Q) : Ok (qsd call q3r g3 x3 x9 x11 H) Q := by rw [qp1]; exact h
theorem qpz {call : Ev.Call} {q3r : AV → Hp → R1} {g3 : AV → Hp → R1} {q3e0 : Hp → R1} {x3 x9 x11 x65 : AV} {H : Hp} {Q : AV → Hp → Prop} (h : Ok (qdq call q3r g3 q3e0 x3 x9 x11 x65 H) Q) : Ok (qsc call q3r g3 q3e0 x3 x9 x11 x65 H) Q := by rw [qp0]; exact h
theorem q25 {call : Ev.Call} {x3 x9 : AV} {H : Hp} {Q : AV → Hp → Prop} (h : Ok (qep call x3 x9 H) Q) : Ok (qsb call x3 x9 H) Q := by rw [qpy]; exact h
theorem q23 {call : Ev.Call} {x3 x9 x61 : AV} {H : Hp} {Q : AV → Hp → Prop} (h : Ok (qeo call x3 x9 x61 H) Q) : Ok (qsa call x3 x9 x61 H) Q := by rw [qpx]; exact h
theorem q21 {call : Ev.Call} {x3 x7 x8 x9 x10 : AV} {H : Hp} {Q : AV → Hp → Prop} (h : Ok (qen call x3 x7 x8 x9 x10 H) Q) : Ok (qr9 call x3 x7 x8 x9 x10 H) Q := by rw [qpw]; exact h
theorem qpu {call : Ev.Call} {x3 x5 x6 x7 x8 x9 x10 : AV} {H : Hp} {Q : AV → Hp → Prop} (h : Ok (qdp call x3 x5 x6 x7 x8 x9 x10 H) Q) : Ok (qr8 call x3 x5 x6 x7 x8 x9 x10 H) Q := by rw [qpv]; exact h
theorem qps {call : Ev.Call} {x3 x4 x5 x6 x7 x8 : AV} {H : Hp} {Q : AV → Hp → Prop} (h : Ok (qdo call x3 x4 x5 x6 x7 x8 H) Q) : Ok (qr7 call x3 x4 x5 x6 x7 x8 H) Q := by rw [qpt]; exact h
theorem qpq {call : Ev.Call} {x3 x4 x5 x6 : AV} {H : Hp} {Q : AV → Hp → Prop} (h : Ok (qdn call x3 x4 x5 x6 H) Q) : Ok (qr6 call x3 x4 x5 x6 H) Q := by rw [qpr]; exact h
theorem q20 {call : Ev.Call} {x3 x4 : AV} {H : Hp} {Q : AV → Hp → Prop} (h : Ok (qem call x3 x4 H) Q) : Ok (qr5 call x3 x4 H) Q := by rw [qpp]; exact h
theorem q2y {call : Ev.Call} {x3 : AV} {H : Hp} {Q : AV → Hp → Prop} (h : Ok (qel call x3 H) Q) : Ok (qr4 call x3 H) Q := by rw [qpo]; exact h
end Go.Di
end
noncomputable section
namespace Go.Di
open Go.Ev
end Go.Di
end
noncomputable section
namespace Go.Di
open Go.Ev
structure LnkS (c d : Ev.Call) : Prop where
 srtF : ∀ (b o n m : Nat) (x : Bool) (H : Hp) (r : R1), qk9 H b o n = some r → c (.f qbq) [.sl b o n m x, .fn qis [] []] H = r
 srtN : ∀ (H : Hp), c (.f qbq) [.nilsl, .fn qis [] []] H = .ok (.tup []) H
 srt0 : ∀ (b o m : Nat) (x : Bool) (H : Hp), c (.f qbq) [.sl b o 0 m x, .fn qis [] []] H = .ok (.tup []) H
abbrev qce (C : Nat → Ev.Call) : Prop := ∀ k, LnkS (C (k + 1)) (C k)
end Go.Di
end
noncomputable section
namespace Go.Di
open Go.Ev
def qb1 (call : Ev.Call) (x0 : AV) (H : Hp) : R1 :=
 .ok x0 H
def qgv (call : Ev.Call) (g1 : AV → Hp → R1) (x3 : AV) (H : Hp) : R1 :=
 vq (intV (qab .add).f x3 (.int .i64 (.ofNat 1))) H fun a2 H =>
 g1 a2 H
def qbo (call : Ev.Call) (q1r : AV → Hp → R1) (x0 x3 : AV) (H : Hp) : R1 :=
 vq (qa8 1 x0 (some x3) none none) H fun a11 H =>
 ve (qoi [.int .i64 (.ofNat 0)] H a11) fun _ H =>
 vq (qa8 1 x0 none (some x3) none) H fun a13 H =>
 q1r a13 H
def qck (call : Ev.Call) (g15 : AV → AV → Hp → R1) (x3 x5 : AV) (H : Hp) : R1 :=
 vq (intV (qab .add).f x5 (.int .i64 (.ofNat 1))) H fun a16 H =>
 g15 x3 a16 H
def qf2 (call : Ev.Call) (g15 : AV → AV → Hp → R1) (x0 x3 x4 x5 : AV) (H : Hp) : R1 :=
 vl (idxS 1 x4 x5) fun a18 =>
 vl (qae H a18) fun a19 =>
 vl (intV (qab .sub).f x5 (.int .i64 (.ofNat 1))) fun a20 =>
 vl (idxS 1 x4 a20) fun a21 =>
 vl (qae H a21) fun a22 =>
 vl (intV (qab .neq).f a19 a22) fun a23 =>
 cd a23 (
 vq (idxS 1 x4 x5) H fun a24 H =>
 vq (qae H a24) H fun a25 H =>
 vq (idxS 1 x0 x3) H fun a26 H =>
 ve (qaz H a26 a25) fun _ H =>
 vq (intV (qab .add).f x3 (.int .i64 (.ofNat 1))) H fun a28 H =>
 qck call g15 a28 x5 H) (
 qck call g15 x3 x5 H)
def qf3 (call : Ev.Call) (q15e2 : AV → Hp → R1) (x0 x4 : AV) (g15 : AV → AV → Hp → R1) (x3 x5 : AV) (H : Hp) : R1 :=
 vq (lenSl x4) H fun a30 H =>
 vq (intV (qab .lss).f x5 a30) H fun a31 H =>
 cd a31 (
 qf2 call g15 x0 x3 x4 x5 H) (
 q15e2 x3 H)
def qb4 (call : Ev.Call) (q15e2 : AV → Hp → R1) (x0 x4 : AV) (n : Nat) : AV → AV → Hp → R1 :=
 Nat.rec (motive := fun _ => AV → AV → Hp → R1) (fun _ _ _ => .bad) (fun _ ih => qf3 call q15e2 x0 x4 ih) n
def qf4 (call : Ev.Call) (q15e2 : AV → Hp → R1) (x0 x4 : AV) : AV → AV → Hp → R1 := qb4 call q15e2 x0 x4 qbd
def qf1 (call : Ev.Call) (q1r : AV → Hp → R1) (g1 : AV → Hp → R1) (x0 x3 : AV) (H : Hp) : R1 :=
 vl (idxS 1 x0 x3) fun a4 =>
 vl (qae H a4) fun a5 =>
 vl (intV (qab .sub).f x3 (.int .i64 (.ofNat 1))) fun a6 =>
 vl (idxS 1 x0 a6) fun a7 =>
 vl (qae H a7) fun a8 =>
 vl (intV (qab .eql).f a5 a8) fun a9 =>
 cd a9 (
 vq (qa8 1 x0 (some x3) none none) H fun a10 H =>
 qf4 call (fun x3 H => qbo call q1r x0 x3 H) x0 a10 x3 (.int .i64 (.ofNat 1)) H) (
 qgv call g1 x3 H)
def qgw (call : Ev.Call) (q1r : AV → Hp → R1) (q1e0 : Hp → R1) (x0 : AV) (g1 : AV → Hp → R1) (x3 : AV) (H : Hp) : R1 :=
 vq (lenSl x0) H fun a33 H =>
 vq (intV (qab .lss).f x3 a33) H fun a34 H =>
 cd a34 (
 qf1 call q1r g1 x0 x3 H) (
 q1e0 H)
def qcd (call : Ev.Call) (q1r : AV → Hp → R1) (q1e0 : Hp → R1) (x0 : AV) (n : Nat) : AV → Hp → R1 :=
 Nat.rec (motive := fun _ => AV → Hp → R1) (fun _ _ => .bad) (fun _ ih => qgw call q1r q1e0 x0 ih) n
def qgx (call : Ev.Call) (q1r : AV → Hp → R1) (q1e0 : Hp → R1) (x0 : AV) : AV → Hp → R1 := qcd call q1r q1e0 x0 qbd
def qf0 (call : Ev.Call) (x0 : AV) (H : Hp) : R1 :=
 qgx call (fun x2 H => .ok x2 H) (fun H => qb1 call x0 H) x0 (.int .i64 (.ofNat 1)) H
def qip (call : Ev.Call) (x0 : AV) (H : Hp) : R1 :=
 vq (lenSl x0) H fun a36 H =>
 vq (intV (qab .lss).f a36 (.int .i64 (.ofNat 2))) H fun a37 H =>
 cd a37 (
 .ok x0 H) (
 qf0 call x0 H)
def o_Compact (call : Ev.Call) (x0 : AV) (H : Hp) : R1 := qip call x0 H
end Go.Di
end
noncomputable section
namespace Go.Di
open Go.Ev
structure LnkO (c d : Ev.Call) : Prop where
 o_Compact : ∀ (x0 : AV) (H : Hp), c (.f qes) [x0] H = Di.o_Compact d x0 H
 srt : ∀ (b o n m : Nat) (x : Bool) (H : Hp) (r : R1), qui H b o n = some r → c (.f qeb) [.sl b o n m x] H = r
 srtN : ∀ (H : Hp), c (.f qeb) [.nilsl] H = .ok (.tup []) H
abbrev qcq (C : Nat → Ev.Call) : Prop := ∀ k, LnkO (C (k + 1)) (C k)
end Go.Di
end
