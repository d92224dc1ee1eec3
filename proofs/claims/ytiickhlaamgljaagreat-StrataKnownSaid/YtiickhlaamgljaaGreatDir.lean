/-
 For countersignlaw18.StrataKnown: the functions of the law in direct style (printed by a program). No conditions beyond those that each theorem states.
-/
import Derived.Test.YtiickhlaamgljaaGreatEv4
import Derived.Test.YtiickhlaamgljaaGreatGraB
set_option linter.unusedSimpArgs false
set_option linter.unusedVariables false
noncomputable section
namespace Go.Di
open Go.Ev
def qow : FuncId := 11
def qov : FuncId := 12
def qm4 : FuncId := 32
def qo7 : FuncId := 33
def qjy : FuncId := 34
def qht : FuncId := 35
def qhs : FuncId := 37
def qoz : FuncId := 36
def qli : FuncId := 38
def qfs : FuncId := 39
def qlk : FuncId := 28
def qhv : FuncId := 66
def qo5 : FuncId := 65
def qhu : FuncId := 67
def qlj : FuncId := 71
def qo6 : FuncId := 70
def qo3 : FuncId := 72
def qoy : FuncId := 73
def qo4 : FuncId := 63
def qjz : FuncId := 102
def qg4 : FuncId := 100
def qft : FuncId := 101
def qik : FuncId := 92
def qlh : FuncId := 93
def qvw : FuncId := 91
def qfu : FuncId := 131
def qeg : FuncId := 132
def qll : FuncId := 124
def qo0 : FuncId := 169
def qth : FuncId := 171
def qox : FuncId := 170
def qca : FuncId := 188
def qo1 : FuncId := 187
def qo2 : FuncId := 196
def qbl : FuncId := 99
def qdh : FuncId := 68
def qdt : FuncId := 69
def qbc (call : Ev.Call) (x8 : AV) (H : Hp) : R1 :=
 .ok (.tup [x8, (.int .i64 (.ofNat 0))]) H
def qdg (call : Ev.Call) (g11 : AV → Hp → R1) (x41 : AV) (H : Hp) : R1 :=
 vq (intV (qae .add).f x41 (.int .i64 (.ofNat 1))) H fun a13 H =>
 g11 a13 H
def qkf (call : Ev.Call) (g18 : AV → Hp → R1) (x85 : AV) (H : Hp) : R1 :=
 vq (intV (qae .add).f x85 (.int .i64 (.ofNat 1))) H fun a20 H =>
 g18 a20 H
def qke (call : Ev.Call) (g18 : AV → Hp → R1) (x8 x11 x83 x85 : AV) (H : Hp) : R1 :=
 vq (idxS 1 x83 x85) H fun a22 H =>
 vq (qag H a22) H fun a23 H =>
 ve (call (.f qht) [x11] H) fun a24 H =>
 vq (idxS 1 x8 a23) H fun a25 H =>
 ve (qa3 H a25 a24) fun _ H =>
 qkf call g18 x85 H
def qkh (call : Ev.Call) (q18e4 : Hp → R1) (x8 x11 x83 x84 : AV) (g18 : AV → Hp → R1) (x85 : AV) (H : Hp) : R1 :=
 vq (intV (qae .lss).f x85 x84) H fun a19 H =>
 cd a19 (
 qke call g18 x8 x11 x83 x85 H) (
 q18e4 H)
def qd8 (call : Ev.Call) (q18e4 : Hp → R1) (x8 x11 x83 x84 : AV) (n : Nat) : AV → Hp → R1 :=
 Nat.rec (motive := fun _ => AV → Hp → R1) (fun _ _ => .bad) (fun _ ih => qkh call q18e4 x8 x11 x83 x84 ih) n
def qkj (call : Ev.Call) (q18e4 : Hp → R1) (x8 x11 x83 x84 : AV) : AV → Hp → R1 := qd8 call q18e4 x8 x11 x83 x84 qb1
def qct (call : Ev.Call) (g11 : AV → Hp → R1) (x8 x10 x11 x41 : AV) (H : Hp) : R1 :=
 vq (lenSl x10) H fun a17 H =>
 qkj call (fun H => qdg call g11 x41 H) x8 x11 x10 a17 (.int .i64 (.ofNat 0)) H
def qd9 (call : Ev.Call) (g32 : AV → AV → Hp → R1) (x11 x49 : AV) (H : Hp) : R1 :=
 vq (intV (qae .add).f x49 (.int .i64 (.ofNat 1))) H fun a34 H =>
 g32 x11 a34 H
def qch (call : Ev.Call) (g32 : AV → AV → Hp → R1) (x4 x8 x9 x11 x47 x49 : AV) (H : Hp) : R1 :=
 vq (idxS 3 x47 x49) H fun a36 H =>
 vq (qbi 3 H a36) H fun a37 H =>
 vq (.new (.ptr H.nx 0) (qaa 0 [.int .i64 (.ofNat 0), .int .i64 (.ofNat 0), .bool false])) H fun a38 H =>
 ve (qb3 3 H a38 a37) fun _ H =>
 vq (qaf 1 x4) H fun a40 H =>
 vq (qag H a40) H fun a41 H =>
 vq (qaf 0 a38) H fun a42 H =>
 vq (qag H a42) H fun a43 H =>
 vq (idxS 1 a41 a43) H fun a44 H =>
 vq (qag H a44) H fun a45 H =>
 vq (intV (qae .eql).f a45 x9) H fun a46 H =>
 vg (qau true a46) (qaf 1 x4) H fun a47 H =>
 vg (qau true a46) (qag H a47) H fun a48 H =>
 vg (qau true a46) (qaf 1 a38) H fun a49 H =>
 vg (qau true a46) (qag H a49) H fun a50 H =>
 vg (qau true a46) (idxS 1 a48 a50) H fun a51 H =>
 vg (qau true a46) (qag H a51) H fun a52 H =>
 vg (qau true a46) (.val x9) H fun a53 H =>
 vg (qau true a46) (intV (qae .neq).f a52 a53) H fun a54 H =>
 vq (qg1 a46 a54 (.bool false)) H fun a55 H =>
 cd a55 (
 dz 12 H fun b56 H =>
 dq false false 0 0 (b56 + 0) H [] [] (fun _ => .val x11) (some true) fun a57 H p w =>
 dq false false 1 0 (b56 + 1) H p w (fun _ => .val x8) (some true) fun a58 H p w =>
 dq false false 2 0 (b56 + 2) H p w (fun _ => qaf 1 a38) (some true) fun a59 H p w =>
 dq true false 3 4 (b56 + 3) H p w (fun H => qag H a59) (some true) fun a60 H p w =>
 dq false false 4 14 (b56 + 4) H p w (fun _ => idxS 1 a58 a60) (some true) fun a61 H p w =>
 dq true false 5 30 (b56 + 5) H p w (fun H => qag H a61) (some true) fun a62 H p w =>
 dq true false 6 0 (b56 + 6) H p w (fun H => qbi 3 H a38) (some true) fun a63 H p w =>
 de 64 H p w (call (.f qjy) [a63] (qa2 64 p H)) (some true) fun a64 H p w =>
 dq false false 8 254 (b56 + 8) H p w (fun _ => intV (qae .add).f a62 a64) (some true) fun a65 H p w =>
 dq false true 9 510 (b56 + 9) H p w (fun _ => qe1 1 (b56 + 9) (qar (reps [.int .i64 (.ofNat 0)] 1) [(0, 1, a65)])) (some true) fun a66 H p w =>
 de 1023 H p w (qaz 1 8 (qa2 1023 p H) a57 (qby 1 (qa2 1023 p H) a66)) (some true) fun a67 H p w =>
 dq false false 11 2047 (b56 + 11) H p w (fun _ => .val a67) (some true) fun a68 H p w =>
 dz2 p H fun H =>
 qd9 call g32 a68 x49 H) (
 qd9 call g32 x11 x49 H)
def qkd : Ev.Call → (AV → AV → Hp → R1) → AV → AV → AV → AV → AV → AV → Hp → R1 := Classical.choose (⟨qch, rfl⟩ : ∃ f, f = qch)
theorem qje : qkd = qch := Classical.choose_spec (⟨qch, rfl⟩ : ∃ f, f = qch)
def qkg (call : Ev.Call) (q32e2 : AV → Hp → R1) (x4 x8 x9 x47 x48 : AV) (g32 : AV → AV → Hp → R1) (x11 x49 : AV) (H : Hp) : R1 :=
 vq (intV (qae .lss).f x49 x48) H fun a33 H =>
 cd a33 (
 qkd call g32 x4 x8 x9 x11 x47 x49 H) (
 q32e2 x11 H)
def qcs (call : Ev.Call) (q32e2 : AV → Hp → R1) (x4 x8 x9 x47 x48 : AV) (n : Nat) : AV → AV → Hp → R1 :=
 Nat.rec (motive := fun _ => AV → AV → Hp → R1) (fun _ _ _ => .bad) (fun _ ih => qkg call q32e2 x4 x8 x9 x47 x48 ih) n
def qki (call : Ev.Call) (q32e2 : AV → Hp → R1) (x4 x8 x9 x47 x48 : AV) : AV → AV → Hp → R1 := qcs call q32e2 x4 x8 x9 x47 x48 qb1
def qkc (call : Ev.Call) (g11 : AV → Hp → R1) (x1 x4 x8 x39 x41 : AV) (H : Hp) : R1 :=
 vq (idxS 1 x39 x41) H fun a15 H =>
 vq (qag H a15) H fun a16 H =>
 vq (qaf 1 x1) H fun a29 H =>
 vq (qag H a29) H fun a30 H =>
 vq (lenSl a30) H fun a31 H =>
 qki call (fun x11 H => qct call g11 x8 a16 x11 x41 H) x4 x8 x41 a30 a31 (.nilsl) (.int .i64 (.ofNat 0)) H
def qfg (call : Ev.Call) (q11e0 : Hp → R1) (x1 x4 x8 x39 x40 : AV) (g11 : AV → Hp → R1) (x41 : AV) (H : Hp) : R1 :=
 vq (intV (qae .lss).f x41 x40) H fun a12 H =>
 cd a12 (
 qkc call g11 x1 x4 x8 x39 x41 H) (
 q11e0 H)
def qa7 (call : Ev.Call) (q11e0 : Hp → R1) (x1 x4 x8 x39 x40 : AV) (n : Nat) : AV → Hp → R1 :=
 Nat.rec (motive := fun _ => AV → Hp → R1) (fun _ _ => .bad) (fun _ ih => qfg call q11e0 x1 x4 x8 x39 x40 ih) n
def qhf (call : Ev.Call) (q11e0 : Hp → R1) (x1 x4 x8 x39 x40 : AV) : AV → Hp → R1 := qa7 call q11e0 x1 x4 x8 x39 x40 qb1
def qb4 (call : Ev.Call) (x1 x4 x8 : AV) (H : Hp) : R1 :=
 vq (qaf 0 x4) H fun a8 H =>
 vq (qag H a8) H fun a9 H =>
 vq (lenSl a9) H fun a10 H =>
 qhf call (fun H => qbc call x8 H) x1 x4 x8 a9 a10 (.int .i64 (.ofNat 0)) H
def qhe : Ev.Call → AV → AV → AV → Hp → R1 := Classical.choose (⟨qb4, rfl⟩ : ∃ f, f = qb4)
theorem qff : qhe = qb4 := Classical.choose_spec (⟨qb4, rfl⟩ : ∃ f, f = qb4)
def qcg (call : Ev.Call) (x1 x4 : AV) (H : Hp) : R1 :=
 vq (qaf 0 x1) H fun a72 H =>
 vq (qag H a72) H fun a73 H =>
 vq (intV (qae .gtr).f a73 (.int .i64 (.ofNat 0))) H fun a74 H =>
 cd a74 (
 vq (qaf 0 x1) H fun a75 H =>
 vq (qag H a75) H fun a76 H =>
 vq (qhr [.int .i64 (.ofNat 0)] 8 H.nx a76 a76) H fun a77 H =>
 qhe call x1 x4 a77 H) (
 qhe call x1 x4 (.nilsl) H)
def qkb : Ev.Call → AV → AV → Hp → R1 := Classical.choose (⟨qcg, rfl⟩ : ∃ f, f = qcg)
theorem qjd : qkb = qcg := Classical.choose_spec (⟨qcg, rfl⟩ : ∃ f, f = qcg)
def qcf (call : Ev.Call) (x1 x4 : AV) (H : Hp) : R1 :=
 vq (qbi 2 H x1) H fun a79 H =>
 ve (call (.f qo7) [a79] H) fun a80 H =>
 vq (extr 0 a80) H fun a81 H =>
 vq (extr 1 a80) H fun a82 H =>
 vq (lenSl a81) H fun a83 H =>
 vq (intV (qae .gtr).f a83 (.int .i64 (.ofNat 0))) H fun a84 H =>
 cd a84 (
 .ok (.tup [(.nilsl), (.int .i64 (.ofNat 12))]) H) (
 qkb call x1 x4 H)
def qka : Ev.Call → AV → AV → Hp → R1 := Classical.choose (⟨qcf, rfl⟩ : ∃ f, f = qcf)
theorem qjc : qka = qcf := Classical.choose_spec (⟨qcf, rfl⟩ : ∃ f, f = qcf)
def qsl (call : Ev.Call) (x0 : AV) (H : Hp) : R1 :=
 vq (boxA 2 H.nx x0) H fun a0 H =>
 vq (qbi 2 H a0) H fun a1 H =>
 ve (call (.f qm4) [a1] H) fun a2 H =>
 vq (extr 0 a2) H fun a3 H =>
 vq (extr 1 a2) H fun a4 H =>
 vq (.new (.ptr H.nx 0) (qaa 0 [.nilsl, .nilsl])) H fun a5 H =>
 ve (qb3 2 H a5 a3) fun _ H =>
 vq (intV (qae .neq).f a4 (.int .i64 (.ofNat 0))) H fun a86 H =>
 cd a86 (
 .ok (.tup [(.nilsl), a4]) H) (
 qka call a0 a5 H)
def stNum (call : Ev.Call) (x0 : AV) (H : Hp) : R1 := qsl call x0 H
def qj9 (call : Ev.Call) (x1 x6 : AV) (H : Hp) : R1 :=
 vq (qaf 1 x1) H fun a10 H =>
 vq (qag H a10) H fun a11 H =>
 vq (idxS 3 a11 x6) H fun a12 H =>
 vq (qbi 3 H a12) H fun a13 H =>
 vq (.new (.ptr H.nx 0) (qaa 0 [.int .i64 (.ofNat 0), .int .i64 (.ofNat 0), .bool false])) H fun a14 H =>
 ve (qb3 3 H a14 a13) fun _ H =>
 vq (qbi 2 H x1) H fun a16 H =>
 vq (qaf 1 a14) H fun a17 H =>
 vq (qag H a17) H fun a18 H =>
 vq (qaf 0 a14) H fun a19 H =>
 vq (qag H a19) H fun a20 H =>
 ve (call (.f qli) [a16, a18, a20] H) fun a21 H =>
 vq (extr 0 a21) H fun a22 H =>
 vq (extr 1 a21) H fun a23 H =>
 dz 12 H fun b24 H =>
 dq false false 0 0 (b24 + 0) H [] [] (fun _ => qaf 0 a14) (some true) fun a25 H p w =>
 dq true false 1 1 (b24 + 1) H p w (fun H => qag H a25) (some true) fun a26 H p w =>
 dq false true 2 3 (b24 + 2) H p w (fun _ => qe1 1 (b24 + 2) (qar (reps [.int .i64 (.ofNat 0)] 1) [(0, 1, a26)])) (some true) fun a27 H p w =>
 dq false false 3 0 (b24 + 3) H p w (fun _ => .val a22) (some true) fun a28 H p w =>
 dq false false 4 0 (b24 + 4) H p w (fun _ => .val a22) (some true) fun a29 H p w =>
 dq false false 5 16 (b24 + 5) H p w (fun _ => lenSl a29) (some true) fun a30 H p w =>
 dq false false 6 48 (b24 + 6) H p w (fun _ => intV (qae .sub).f a30 (.int .i64 (.ofNat 1))) (some true) fun a31 H p w =>
 dq false false 7 120 (b24 + 7) H p w (fun _ => qa8 1 a28 none (some a31) none) (some true) fun a32 H p w =>
 de 255 H p w (qaz 1 8 (qa2 255 p H) a27 (qby 1 (qa2 255 p H) a32)) (some true) fun a33 H p w =>
 de 511 H p w (call (.f qfs) [a33] (qa2 511 p H)) (some true) fun a34 H p w =>
 dq false false 10 1023 (b24 + 10) H p w (fun _ => .val a34) (some true) fun a35 H p w =>
 dq false false 11 2047 (b24 + 11) H p w (fun _ => .val (.int .i64 (.ofNat 0))) (some true) fun a36 H p w =>
 dz2 p H fun H =>
 .ok (.tup [a35, a36]) H
def qj8 (call : Ev.Call) (x1 x4 : AV) (H : Hp) : R1 :=
 vq (qaf 1 x1) H fun a7 H =>
 vq (qag H a7) H fun a8 H =>
 ve (call (.f qoz) [a8, (.fn qhs [] [x4])] H) fun a9 H =>
 vq (intV (qae .lss).f a9 (.int .i64 (.ofNat 0))) H fun a38 H =>
 cd a38 (
 .ok (.tup [(.nilsl), (.int .i64 (.ofNat 8))]) H) (
 qj9 call x1 a9 H)
def qsi (call : Ev.Call) (x0 : AV) (H : Hp) : R1 :=
 vq (boxA 2 H.nx x0) H fun a0 H =>
 vq (qbi 2 H a0) H fun a1 H =>
 ve (call (.f qm4) [a1] H) fun a2 H =>
 vq (extr 0 a2) H fun a3 H =>
 vq (extr 1 a2) H fun a4 H =>
 vq (.new (.ptr H.nx 0) (qaa 0 [.nilsl, .nilsl])) H fun a5 H =>
 ve (qb3 2 H a5 a3) fun _ H =>
 vq (intV (qae .neq).f a4 (.int .i64 (.ofNat 0))) H fun a40 H =>
 cd a40 (
 .ok (.tup [(.nilsl), a4]) H) (
 qj8 call a0 a5 H)
def stWit (call : Ev.Call) (x0 : AV) (H : Hp) : R1 := qsi call x0 H
def qfb (call : Ev.Call) (x6 : AV) (H : Hp) : R1 :=
 ve (call (.f qdh) [x6] H) fun a7 H =>
 ve (call (.f qdt) [x6] H) fun a8 H =>
 ve (call (.f qfs) [a8] H) fun a9 H =>
 .ok (.tup [a9, (.int .i64 (.ofNat 0))]) H
def qgh (call : Ev.Call) (g14 : AV → AV → Hp → R1) (x6 x20 : AV) (H : Hp) : R1 :=
 vq (intV (qae .add).f x20 (.int .i64 (.ofNat 1))) H fun a16 H =>
 g14 x6 a16 H
def qp6 (call : Ev.Call) (g14 : AV → AV → Hp → R1) (x4 x6 x18 x20 : AV) (H : Hp) : R1 :=
 vq (idxS 3 x18 x20) H fun a18 H =>
 vq (qbi 3 H a18) H fun a19 H =>
 vq (.new (.ptr H.nx 0) (qaa 0 [.int .i64 (.ofNat 0), .int .i64 (.ofNat 0), .bool false])) H fun a20 H =>
 ve (qb3 3 H a20 a19) fun _ H =>
 vl (qaf 2 a20) fun a22 =>
 vl (qag H a22) fun a23 =>
 vlg (qau true a23) (qaf 1 x4) fun a24 =>
 vlg (qau true a23) (qag H a24) fun a25 =>
 vlg (qau true a23) (qaf 0 a20) fun a26 =>
 vlg (qau true a23) (qag H a26) fun a27 =>
 vlg (qau true a23) (idxS 1 a25 a27) fun a28 =>
 vlg (qau true a23) (qag H a28) fun a29 =>
 vlg (qau true a23) (qaf 1 x4) fun a30 =>
 vlg (qau true a23) (qag H a30) fun a31 =>
 vlg (qau true a23) (qaf 1 a20) fun a32 =>
 vlg (qau true a23) (qag H a32) fun a33 =>
 vlg (qau true a23) (idxS 1 a31 a33) fun a34 =>
 vlg (qau true a23) (qag H a34) fun a35 =>
 vlg (qau true a23) (intV (qae .eql).f a29 a35) fun a36 =>
 vl (qg1 a23 a36 (.bool false)) fun a37 =>
 cd a37 (
 vq (qaf 1 x4) H fun a38 H =>
 vq (qag H a38) H fun a39 H =>
 vq (qaf 0 a20) H fun a40 H =>
 vq (qag H a40) H fun a41 H =>
 vq (idxS 1 a39 a41) H fun a42 H =>
 vq (qag H a42) H fun a43 H =>
 vq (qe1 1 H.nx (qar (reps [.int .i64 (.ofNat 0)] 1) [(0, 1, a43)])) H fun a44 H =>
 ve (qaz 1 8 H x6 (qby 1 H a44)) fun a45 H =>
 qgh call g14 a45 x20 H) (
 qgh call g14 x6 x20 H)
def qp7 (call : Ev.Call) (q14e0 : AV → Hp → R1) (x4 x18 x19 : AV) (g14 : AV → AV → Hp → R1) (x6 x20 : AV) (H : Hp) : R1 :=
 vq (intV (qae .lss).f x20 x19) H fun a15 H =>
 cd a15 (
 qp6 call g14 x4 x6 x18 x20 H) (
 q14e0 x6 H)
def qgg (call : Ev.Call) (q14e0 : AV → Hp → R1) (x4 x18 x19 : AV) (n : Nat) : AV → AV → Hp → R1 :=
 Nat.rec (motive := fun _ => AV → AV → Hp → R1) (fun _ _ _ => .bad) (fun _ ih => qp7 call q14e0 x4 x18 x19 ih) n
def qp8 (call : Ev.Call) (q14e0 : AV → Hp → R1) (x4 x18 x19 : AV) : AV → AV → Hp → R1 := qgg call q14e0 x4 x18 x19 qb1
def qdn (call : Ev.Call) (x1 x4 : AV) (H : Hp) : R1 :=
 vq (qaf 1 x1) H fun a11 H =>
 vq (qag H a11) H fun a12 H =>
 vq (lenSl a12) H fun a13 H =>
 qp8 call (fun x6 H => qfb call x6 H) x4 a12 a13 (.nilsl) (.int .i64 (.ofNat 0)) H
def qp5 : Ev.Call → AV → AV → Hp → R1 := Classical.choose (⟨qdn, rfl⟩ : ∃ f, f = qdn)
theorem qmb : qp5 = qdn := Classical.choose_spec (⟨qdn, rfl⟩ : ∃ f, f = qdn)
def q3c (call : Ev.Call) (x0 : AV) (H : Hp) : R1 :=
 vq (boxA 2 H.nx x0) H fun a0 H =>
 vq (qbi 2 H a0) H fun a1 H =>
 ve (call (.f qm4) [a1] H) fun a2 H =>
 vq (extr 0 a2) H fun a3 H =>
 vq (extr 1 a2) H fun a4 H =>
 vq (.new (.ptr H.nx 0) (qaa 0 [.nilsl, .nilsl])) H fun a5 H =>
 ve (qb3 2 H a5 a3) fun _ H =>
 vq (intV (qae .neq).f a4 (.int .i64 (.ofNat 0))) H fun a48 H =>
 cd a48 (
 .ok (.tup [(.nilsl), a4]) H) (
 qp5 call a0 a5 H)
def cMix (call : Ev.Call) (x0 : AV) (H : Hp) : R1 := q3c call x0 H
def qns (call : Ev.Call) (H : Hp) : R1 :=
 .ok (.int .i64 (.ofNat 0)) H
def qsk (call : Ev.Call) (x0 : AV) (H : Hp) : R1 :=
 vq (boxA 3 H.nx x0) H fun a0 H =>
 vq (qaf 2 a0) H fun a2 H =>
 vq (qag H a2) H fun a3 H =>
 cd a3 (
 .ok (.int .i64 (.ofNat 1)) H) (
 qns call H)
def stStp (call : Ev.Call) (x0 : AV) (H : Hp) : R1 := qsk call x0 H
def qeo (call : Ev.Call) (x3 : AV) (H : Hp) : R1 :=
 .ok x3 H
def qnu (call : Ev.Call) (g2 : AV → AV → Hp → R1) (x3 x8 : AV) (H : Hp) : R1 :=
 vq (intV (qae .add).f x8 (.int .i64 (.ofNat 1))) H fun a4 H =>
 g2 x3 a4 H
def qnt (call : Ev.Call) (g2 : AV → AV → Hp → R1) (x3 x6 x8 : AV) (H : Hp) : R1 :=
 vq (idxS 1 x6 x8) H fun a6 H =>
 vq (qag H a6) H fun a7 H =>
 vq (qeh maxV x3 [a7]) H fun a8 H =>
 qnu call g2 a8 x8 H
def qnv (call : Ev.Call) (q2e0 : AV → Hp → R1) (x6 x7 : AV) (g2 : AV → AV → Hp → R1) (x3 x8 : AV) (H : Hp) : R1 :=
 vq (intV (qae .lss).f x8 x7) H fun a3 H =>
 cd a3 (
 qnt call g2 x3 x6 x8 H) (
 q2e0 x3 H)
def qf3 (call : Ev.Call) (q2e0 : AV → Hp → R1) (x6 x7 : AV) (n : Nat) : AV → AV → Hp → R1 :=
 Nat.rec (motive := fun _ => AV → AV → Hp → R1) (fun _ _ _ => .bad) (fun _ ih => qnv call q2e0 x6 x7 ih) n
def qnw (call : Ev.Call) (q2e0 : AV → Hp → R1) (x6 x7 : AV) : AV → AV → Hp → R1 := qf3 call q2e0 x6 x7 qb1
def qsm (call : Ev.Call) (x0 : AV) (H : Hp) : R1 :=
 vq (lenSl x0) H fun a1 H =>
 qnw call (fun x3 H => qeo call x3 H) x0 a1 (.int .i64 (.ofNat 0)) (.int .i64 (.ofNat 0)) H
def stGre (call : Ev.Call) (x0 : AV) (H : Hp) : R1 := qsm call x0 H
def qsj (call : Ev.Call) (x0 x1 : AV) (H : Hp) : R1 :=
 vq (boxA 3 H.nx x0) H fun a0 H =>
 vl (qaf 2 a0) fun a1 =>
 vl (qag H a1) fun a2 =>
 vlg (qau true a2) (qaf 1 x1) fun a3 =>
 vlg (qau true a2) (qag H a3) fun a4 =>
 vlg (qau true a2) (qaf 0 a0) fun a5 =>
 vlg (qau true a2) (qag H a5) fun a6 =>
 vlg (qau true a2) (idxS 1 a4 a6) fun a7 =>
 vlg (qau true a2) (qag H a7) fun a8 =>
 vlg (qau true a2) (qaf 1 x1) fun a9 =>
 vlg (qau true a2) (qag H a9) fun a10 =>
 vlg (qau true a2) (qaf 1 a0) fun a11 =>
 vlg (qau true a2) (qag H a11) fun a12 =>
 vlg (qau true a2) (idxS 1 a10 a12) fun a13 =>
 vlg (qau true a2) (qag H a13) fun a14 =>
 vlg (qau true a2) (intV (qae .eql).f a8 a14) fun a15 =>
 vl (qg1 a2 a15 (.bool false)) fun a16 =>
 .ok a16 H
def stWiA (call : Ev.Call) (x0 x1 : AV) (H : Hp) : R1 := qsj call x0 x1 H
def qgx (call : Ev.Call) (H : Hp) : R1 :=
 .ok (.int .i64 (.negSucc 0)) H
def qsx (call : Ev.Call) (g2 : AV → Hp → R1) (x8 : AV) (H : Hp) : R1 :=
 vq (intV (qae .add).f x8 (.int .i64 (.ofNat 1))) H fun a4 H =>
 g2 a4 H
def qsw (call : Ev.Call) (q2r : AV → Hp → R1) (g2 : AV → Hp → R1) (x0 x1 x8 : AV) (H : Hp) : R1 :=
 vq (idxS 3 x0 x8) H fun a6 H =>
 vq (qbi 3 H a6) H fun a7 H =>
 ve (qpu call x1 [a7] H) fun a8 H =>
 cd a8 (
 q2r x8 H) (
 qsx call g2 x8 H)
def qsy (call : Ev.Call) (q2r : AV → Hp → R1) (q2e0 : Hp → R1) (x0 x1 x7 : AV) (g2 : AV → Hp → R1) (x8 : AV) (H : Hp) : R1 :=
 vq (intV (qae .lss).f x8 x7) H fun a3 H =>
 cd a3 (
 qsw call q2r g2 x0 x1 x8 H) (
 q2e0 H)
def qh9 (call : Ev.Call) (q2r : AV → Hp → R1) (q2e0 : Hp → R1) (x0 x1 x7 : AV) (n : Nat) : AV → Hp → R1 :=
 Nat.rec (motive := fun _ => AV → Hp → R1) (fun _ _ => .bad) (fun _ ih => qsy call q2r q2e0 x0 x1 x7 ih) n
def qsz (call : Ev.Call) (q2r : AV → Hp → R1) (q2e0 : Hp → R1) (x0 x1 x7 : AV) : AV → Hp → R1 := qh9 call q2r q2e0 x0 x1 x7 qb1
def qzj (call : Ev.Call) (x0 x1 : AV) (H : Hp) : R1 :=
 vq (lenSl x0) H fun a1 H =>
 qsz call (fun x4 H => .ok x4 H) (fun H => qgx call H) x0 x1 a1 (.int .i64 (.ofNat 0)) H
def sIxF (call : Ev.Call) (x0 x1 : AV) (H : Hp) : R1 := qzj call x0 x1 H
def qil (call : Ev.Call) (x10 : AV) (H : Hp) : R1 :=
 ve (call (.f qoy) [x10] H) fun a6 H =>
 ve (call (.f qfs) [x10] H) fun a7 H =>
 .ok (.tup [a7, (.int .i64 (.ofNat 0))]) H
def qpk (call : Ev.Call) (g9 : AV → AV → Hp → R1) (x9 x10 x11 : AV) (H : Hp) : R1 :=
 vq (idxA 256 1 x9 x11) H fun a10 H =>
 vq (qag H a10) H fun a11 H =>
 vq (qe1 1 H.nx (qar (reps [.int .i64 (.ofNat 0)] 1) [(0, 1, a11)])) H fun a12 H =>
 ve (qaz 1 8 H x10 (qby 1 H a12)) fun a13 H =>
 g9 a13 a11 H
def qtn (call : Ev.Call) (q9e0 : AV → Hp → R1) (x1 x9 : AV) (g9 : AV → AV → Hp → R1) (x10 x11 : AV) (H : Hp) : R1 :=
 vq (intV (qae .neq).f x11 x1) H fun a15 H =>
 cd a15 (
 qpk call g9 x9 x10 x11 H) (
 q9e0 x10 H)
def qlp (call : Ev.Call) (q9e0 : AV → Hp → R1) (x1 x9 : AV) (n : Nat) : AV → AV → Hp → R1 :=
 Nat.rec (motive := fun _ => AV → AV → Hp → R1) (fun _ _ _ => .bad) (fun _ ih => qtn call q9e0 x1 x9 ih) n
def qto (call : Ev.Call) (q9e0 : AV → Hp → R1) (x1 x9 : AV) : AV → AV → Hp → R1 := qlp call q9e0 x1 x9 qb1
def qpj (call : Ev.Call) (x1 x2 x9 : AV) (H : Hp) : R1 :=
 vq (qe1 1 H.nx (qar (reps [.int .i64 (.ofNat 0)] 1) [(0, 1, x2)])) H fun a5 H =>
 qto call (fun x10 H => qil call x10 H) x1 x9 a5 x2 H
def qj1 (call : Ev.Call) (x1 x2 x3 : AV) (H : Hp) : R1 :=
 vq (qbi 2 H x3) H fun a1 H =>
 ve (call (.f qo3) [a1, x1] H) fun a2 H =>
 vq (.new (.ptr H.nx 0) (qaa 0 (List.replicate 256 (.int .i64 (.ofNat 0))))) H fun a3 H =>
 ve (qb3 256 H a3 a2) fun _ H =>
 vq (idxA 256 1 a3 x2) H fun a17 H =>
 vq (qag H a17) H fun a18 H =>
 vq (intV (qae .lss).f a18 (.int .i64 (.ofNat 0))) H fun a19 H =>
 cd a19 (
 .ok (.tup [(.nilsl), (.int .i64 (.ofNat 8))]) H) (
 qpj call x1 x2 a3 H)
def q1k (call : Ev.Call) (x0 x1 x2 : AV) (H : Hp) : R1 :=
 vq (boxA 2 H.nx x0) H fun a0 H =>
 dz 9 H fun b21 H =>
 dq true false 0 0 (b21 + 0) H [] [] (fun H => qbi 2 H a0) (some true) fun a22 H p w =>
 dq false false 1 0 (b21 + 1) H p w (fun _ => .val x1) (some true) fun a23 H p w =>
 dq true false 3 0 (b21 + 3) H p w (fun H => qbi 2 H a0) (some true) fun a24 H p w =>
 dq false false 4 0 (b21 + 4) H p w (fun _ => .val x2) (some true) fun a25 H p w =>
 de 3 H p w (call (.f qlj) [a22, a23] (qa2 3 p H)) (some true) fun a26 H p w =>
 de 31 H p w (call (.f qlj) [a24, a25] (qa2 31 p H)) (some true) fun a27 H p w =>
 dq false true 6 63 (b21 + 6) H p w (fun _ => qe1 2 (b21 + 6) (qar (reps [.int .i64 (.ofNat 0)] 2) [(0, 1, a26), (1, 1, a27)])) (some true) fun a28 H p w =>
 de 127 H p w (call (.f qo6) [a28] (qa2 127 p H)) (some true) fun a29 H p w =>
 dq false false 8 255 (b21 + 8) H p w (fun _ => .val a29) (some true) fun a30 H p w =>
 dz2 p H fun H =>
 vq (intV (qae .neq).f a30 (.int .i64 (.ofNat 0))) H fun a31 H =>
 cd a31 (
 .ok (.tup [(.nilsl), a30]) H) (
 qj1 call x1 x2 a0 H)
def gPth (call : Ev.Call) (x0 x1 x2 : AV) (H : Hp) : R1 := q1k call x0 x1 x2 H
def qva (call : Ev.Call) (x0 : AV) (H : Hp) : R1 :=
 vq (lenSl x0) H fun a0 H =>
 vq (lenSl x0) H fun a1 H =>
 vq (qa8 1 x0 none (some a0) (some a1)) H fun a2 H =>
 .ok a2 H
def sClp (call : Ev.Call) (x0 : AV) (H : Hp) : R1 := qva call x0 H
def qg6 (call : Ev.Call) (H : Hp) : R1 :=
 .ok (.int .i64 (.ofNat 0)) H
def qpl (call : Ev.Call) (g5 : AV → Hp → R1) (x16 : AV) (H : Hp) : R1 :=
 vq (intV (qae .add).f x16 (.int .i64 (.ofNat 1))) H fun a7 H =>
 g5 a7 H
def q1p (call : Ev.Call) (q5r : AV → Hp → R1) (g5 : AV → Hp → R1) (x1 x3 x4 x16 : AV) (H : Hp) : R1 :=
 vq (qaf 0 x4) H fun a13 H =>
 vq (qag H a13) H fun a14 H =>
 vq (qaf 1 x4) H fun a15 H =>
 vq (qag H a15) H fun a16 H =>
 vq (qeh minV a14 [a16]) H fun a17 H =>
 vq (intV (qae .lss).f a17 (.int .i64 (.ofNat 0))) H fun a18 H =>
 vg (qau false a18) (qaf 0 x4) H fun a19 H =>
 vg (qau false a18) (qag H a19) H fun a20 H =>
 vg (qau false a18) (qaf 1 x4) H fun a21 H =>
 vg (qau false a18) (qag H a21) H fun a22 H =>
 vg (qau false a18) (qeh maxV a20 [a22]) H fun a23 H =>
 vg (qau false a18) (qaf 0 x1) H fun a24 H =>
 vg (qau false a18) (qag H a24) H fun a25 H =>
 vg (qau false a18) (intV (qae .geq).f a23 a25) H fun a26 H =>
 vq (qg1 a18 (.bool true) a26) H fun a27 H =>
 cd a27 (
 q5r (.int .i64 (.ofNat 4)) H) (
 dz 0 H fun b28 H =>
 dq false false 0 0 (b28 + 0) H [] [] (fun _ => .val x3) (some true) fun a29 H p w =>
 dq false false 1 1 (b28 + 1) H p w (fun _ => intV (qae .gtr).f a29 (.int .i64 (.ofNat 0))) (some true) fun a30 H p w =>
 dq false false 2 3 (b28 + 2) H p w (fun _ => .val a30) (some true) fun a31 H p w =>
 dq false false 3 7 (b28 + 3) H p w (fun _ => qaf 1 x1) (qau true a31) fun a32 H p w =>
 dq true false 4 15 (b28 + 4) H p w (fun H => qag H a32) (qau true a31) fun a33 H p w =>
 dq false false 5 7 (b28 + 5) H p w (fun _ => .val x3) (qau true a31) fun a34 H p w =>
 dq false false 6 39 (b28 + 6) H p w (fun _ => intV (qae .sub).f a34 (.int .i64 (.ofNat 1))) (qau true a31) fun a35 H p w =>
 dq false false 7 127 (b28 + 7) H p w (fun _ => idxS 3 a33 a35) (qau true a31) fun a36 H p w =>
 dq true false 8 255 (b28 + 8) H p w (fun H => qbi 3 H a36) (qau true a31) fun a37 H p w =>
 dq true false 9 7 (b28 + 9) H p w (fun H => qbi 3 H x4) (qau true a31) fun a38 H p w =>
 de 1023 H p w (call (.f qo4) [a37, a38] (qa2 1023 p H)) (qau true a31) fun a39 H p w =>
 dq false false 11 2047 (b28 + 11) H p w (fun _ => intV (qae .geq).f a39 (.int .i64 (.ofNat 0))) (qau true a31) fun a40 H p w =>
 dq false false 12 4095 (b28 + 12) H p w (fun _ => qg1 a31 a40 (.bool false)) (some true) fun a41 H p w =>
 dq false false 13 8191 (b28 + 13) H p w (fun _ => .val a41) (some true) fun a42 H p w =>
 dz2 p H fun H =>
 cd a42 (
 q5r (.int .i64 (.ofNat 18)) H) (
 qpl call g5 x16 H))
def qpn (call : Ev.Call) (q5r : AV → Hp → R1) (g5 : AV → Hp → R1) (x1 x14 x16 : AV) (H : Hp) : R1 :=
 vq (idxS 3 x14 x16) H fun a9 H =>
 vq (qbi 3 H a9) H fun a10 H =>
 vq (.new (.ptr H.nx 0) (qaa 0 [.int .i64 (.ofNat 0), .int .i64 (.ofNat 0), .bool false])) H fun a11 H =>
 ve (qb3 3 H a11 a10) fun _ H =>
 q1p call q5r g5 x1 x16 a11 x16 H
def qtr (call : Ev.Call) (q5r : AV → Hp → R1) (q5e0 : Hp → R1) (x1 x14 x15 : AV) (g5 : AV → Hp → R1) (x16 : AV) (H : Hp) : R1 :=
 vq (intV (qae .lss).f x16 x15) H fun a6 H =>
 cd a6 (
 qpn call q5r g5 x1 x14 x16 H) (
 q5e0 H)
def qg5 (call : Ev.Call) (q5r : AV → Hp → R1) (q5e0 : Hp → R1) (x1 x14 x15 : AV) (n : Nat) : AV → Hp → R1 :=
 Nat.rec (motive := fun _ => AV → Hp → R1) (fun _ _ => .bad) (fun _ ih => qtr call q5r q5e0 x1 x14 x15 ih) n
def qts (call : Ev.Call) (q5r : AV → Hp → R1) (q5e0 : Hp → R1) (x1 x14 x15 : AV) : AV → Hp → R1 := qg5 call q5r q5e0 x1 x14 x15 qb1
def qpm (call : Ev.Call) (x1 : AV) (H : Hp) : R1 :=
 vq (qaf 1 x1) H fun a2 H =>
 vq (qag H a2) H fun a3 H =>
 vq (lenSl a3) H fun a4 H =>
 qts call (fun x2 H => .ok x2 H) (fun H => qg6 call H) x1 a3 a4 (.int .i64 (.ofNat 0)) H
def q1s (call : Ev.Call) (x0 : AV) (H : Hp) : R1 :=
 vq (boxA 2 H.nx x0) H fun a0 H =>
 vq (qaf 0 a0) H fun a45 H =>
 vq (qag H a45) H fun a46 H =>
 vq (intV (qae .lss).f a46 (.int .i64 (.ofNat 0))) H fun a47 H =>
 vg (qau false a47) (qaf 0 a0) H fun a48 H =>
 vg (qau false a47) (qag H a48) H fun a49 H =>
 vg (qau false a47) (intV (qae .gtr).f a49 (.int .i64 (.ofNat 256))) H fun a50 H =>
 vq (qg1 a47 (.bool true) a50) H fun a51 H =>
 cd a51 (
 .ok (.int .i64 (.ofNat 3)) H) (
 qpm call a0 H)
def gChk (call : Ev.Call) (x0 : AV) (H : Hp) : R1 := q1s call x0 H
def qdm (call : Ev.Call) (x3 : AV) (H : Hp) : R1 :=
 vq (qaf 1026 x3) H fun a2 H =>
 vq (qag H a2) H fun a3 H =>
 .ok a3 H
def qem (call : Ev.Call) (g7 : AV → Hp → R1) (x30 : AV) (H : Hp) : R1 :=
 vq (intV (qae .add).f x30 (.int .i64 (.ofNat 1))) H fun a9 H =>
 g7 a9 H
def qix (call : Ev.Call) (g7 : AV → Hp → R1) (x3 x30 : AV) (H : Hp) : R1 :=
 vq (qaf 256 x3) H fun a11 H =>
 vq (idxA 256 1 a11 x30) H fun a12 H =>
 vq (qag H a12) H fun a13 H =>
 vq (intV (qae .eql).f a13 (.int .i64 (.ofNat 0))) H fun a14 H =>
 cd a14 (
 ve (call (.f qjz) [x3, x30] H) fun a15 H =>
 qem call g7 x30 H) (
 qem call g7 x30 H)
def ql7 (call : Ev.Call) (q7e2 : Hp → R1) (x3 x29 : AV) (g7 : AV → Hp → R1) (x30 : AV) (H : Hp) : R1 :=
 vq (intV (qae .lss).f x30 x29) H fun a8 H =>
 cd a8 (
 qix call g7 x3 x30 H) (
 q7e2 H)
def qel (call : Ev.Call) (q7e2 : Hp → R1) (x3 x29 : AV) (n : Nat) : AV → Hp → R1 :=
 Nat.rec (motive := fun _ => AV → Hp → R1) (fun _ _ => .bad) (fun _ ih => ql7 call q7e2 x3 x29 ih) n
def ql8 (call : Ev.Call) (q7e2 : Hp → R1) (x3 x29 : AV) : AV → Hp → R1 := qel call q7e2 x3 x29 qb1
def qcm (call : Ev.Call) (x1 x3 : AV) (H : Hp) : R1 :=
 vq (qaf 0 x1) H fun a5 H =>
 vq (qag H a5) H fun a6 H =>
 ql8 call (fun H => qdm call x3 H) x3 a6 (.int .i64 (.ofNat 0)) H
def qiw (call : Ev.Call) (g21 : AV → Hp → R1) (x10 : AV) (H : Hp) : R1 :=
 vq (intV (qae .add).f x10 (.int .i64 (.ofNat 1))) H fun a23 H =>
 g21 a23 H
def qiv (call : Ev.Call) (g21 : AV → Hp → R1) (x3 x8 x10 : AV) (H : Hp) : R1 :=
 vq (idxS 3 x8 x10) H fun a25 H =>
 vq (qbi 3 H a25) H fun a26 H =>
 vq (.new (.ptr H.nx 0) (qaa 0 [.int .i64 (.ofNat 0), .int .i64 (.ofNat 0), .bool false])) H fun a27 H =>
 ve (qb3 3 H a27 a26) fun _ H =>
 dz 14 H fun b29 H =>
 dq false false 0 0 (b29 + 0) H [] [] (fun _ => qaf 0 a27) (some true) fun a30 H p w =>
 dq true false 1 1 (b29 + 1) H p w (fun H => qag H a30) (some true) fun a31 H p w =>
 dq false false 2 0 (b29 + 2) H p w (fun _ => qaf 0 a27) (some true) fun a32 H p w =>
 dq true false 3 4 (b29 + 3) H p w (fun H => qag H a32) (some true) fun a33 H p w =>
 dq false false 4 0 (b29 + 4) H p w (fun _ => qaf 0 x3) (some true) fun a34 H p w =>
 dq false false 5 28 (b29 + 5) H p w (fun _ => idxA 256 1 a34 a33) (some true) fun a35 H p w =>
 dq true false 6 60 (b29 + 6) H p w (fun H => qag H a35) (some true) fun a36 H p w =>
 dq false false 7 0 (b29 + 7) H p w (fun _ => qaf 1 a27) (some true) fun a37 H p w =>
 dq true false 8 128 (b29 + 8) H p w (fun H => qag H a37) (some true) fun a38 H p w =>
 dq false true 9 384 (b29 + 9) H p w (fun _ => qe1 1 (b29 + 9) (qar (reps [.int .i64 (.ofNat 0)] 1) [(0, 1, a38)])) (some true) fun a39 H p w =>
 dq false false 11 0 (b29 + 11) H p w (fun _ => qaf 0 x3) (some true) fun a40 H p w =>
 de 1020 H p w (qaz 1 8 (qa2 1020 p H) a36 (qby 1 (qa2 1020 p H) a39)) (some true) fun a41 H p w =>
 dq false false 12 4095 (b29 + 12) H p w (fun _ => idxA 256 1 a40 a31) (some true) fun a42 H p w =>
 de 8191 H p w (qa3 (qa2 8191 p H) a42 a41) (some true) fun _ H p w =>
 dz2 p H fun H =>
 qiw call g21 x10 H
def qiy (call : Ev.Call) (q21e0 : Hp → R1) (x3 x8 x9 : AV) (g21 : AV → Hp → R1) (x10 : AV) (H : Hp) : R1 :=
 vq (intV (qae .lss).f x10 x9) H fun a22 H =>
 cd a22 (
 qiv call g21 x3 x8 x10 H) (
 q21e0 H)
def qdd (call : Ev.Call) (q21e0 : Hp → R1) (x3 x8 x9 : AV) (n : Nat) : AV → Hp → R1 :=
 Nat.rec (motive := fun _ => AV → Hp → R1) (fun _ _ => .bad) (fun _ ih => qiy call q21e0 x3 x8 x9 ih) n
def qiz (call : Ev.Call) (q21e0 : Hp → R1) (x3 x8 x9 : AV) : AV → Hp → R1 := qdd call q21e0 x3 x8 x9 qb1
def qp4 (call : Ev.Call) (x0 : AV) (H : Hp) : R1 :=
 vq (boxA 2 H.nx x0) H fun a0 H =>
 vq (.new (.ptr H.nx 0) (qaa 0 (List.replicate 256 (.nilsl) ++ List.replicate 512 (.int .i64 (.ofNat 0)) ++ List.replicate 256 (.bool false) ++ [.nilsl] ++ [.int .i64 (.ofNat 0)] ++ [.nilsl]))) H fun a1 H =>
 vq (qaf 1 a0) H fun a18 H =>
 vq (qag H a18) H fun a19 H =>
 vq (lenSl a19) H fun a20 H =>
 qiz call (fun H => qcm call a0 a1 H) a1 a19 a20 (.int .i64 (.ofNat 0)) H
def cParts (call : Ev.Call) (x0 : AV) (H : Hp) : R1 := qp4 call x0 H
def qdl (call : Ev.Call) (x2 x3 x5 : AV) (H : Hp) : R1 :=
 .ok (.fn qft [] [x3, x2, x5]) H
def qfa (call : Ev.Call) (g12 : AV → Hp → R1) (x17 : AV) (H : Hp) : R1 :=
 vq (intV (qae .add).f x17 (.int .i64 (.ofNat 1))) H fun a14 H =>
 g12 a14 H
def qpz (call : Ev.Call) (g19 : AV → Hp → R1) (x24 : AV) (H : Hp) : R1 :=
 vq (intV (qae .add).f x24 (.int .i64 (.ofNat 1))) H fun a21 H =>
 g19 a21 H
def qpy (call : Ev.Call) (g19 : AV → Hp → R1) (x5 x6 x22 x24 : AV) (H : Hp) : R1 :=
 vq (idxS 1 x22 x24) H fun a23 H =>
 vq (qag H a23) H fun a24 H =>
 vq (qag H x5) H fun a25 H =>
 vq (idxS 1 a25 a24) H fun a26 H =>
 ve (qa3 H a26 x6) fun _ H =>
 qpz call g19 x24 H
def qp0 (call : Ev.Call) (q19e2 : Hp → R1) (x5 x6 x22 x23 : AV) (g19 : AV → Hp → R1) (x24 : AV) (H : Hp) : R1 :=
 vq (intV (qae .lss).f x24 x23) H fun a20 H =>
 cd a20 (
 qpy call g19 x5 x6 x22 x24 H) (
 q19e2 H)
def qgf (call : Ev.Call) (q19e2 : Hp → R1) (x5 x6 x22 x23 : AV) (n : Nat) : AV → Hp → R1 :=
 Nat.rec (motive := fun _ => AV → Hp → R1) (fun _ _ => .bad) (fun _ ih => qp0 call q19e2 x5 x6 x22 x23 ih) n
def qp2 (call : Ev.Call) (q19e2 : Hp → R1) (x5 x6 x22 x23 : AV) : AV → Hp → R1 := qgf call q19e2 x5 x6 x22 x23 qb1
def qpx (call : Ev.Call) (g12 : AV → Hp → R1) (x5 x15 x17 : AV) (H : Hp) : R1 :=
 vq (idxS 1 x15 x17) H fun a16 H =>
 vq (qag H a16) H fun a17 H =>
 vq (lenSl a17) H fun a18 H =>
 qp2 call (fun H => qfa call g12 x17 H) x5 x17 a17 a18 (.int .i64 (.ofNat 0)) H
def qp1 (call : Ev.Call) (q12e0 : Hp → R1) (x5 x15 x16 : AV) (g12 : AV → Hp → R1) (x17 : AV) (H : Hp) : R1 :=
 vq (intV (qae .lss).f x17 x16) H fun a13 H =>
 cd a13 (
 qpx call g12 x5 x15 x17 H) (
 q12e0 H)
def qcr (call : Ev.Call) (q12e0 : Hp → R1) (x5 x15 x16 : AV) (n : Nat) : AV → Hp → R1 :=
 Nat.rec (motive := fun _ => AV → Hp → R1) (fun _ _ => .bad) (fun _ ih => qp1 call q12e0 x5 x15 x16 ih) n
def qp3 (call : Ev.Call) (q12e0 : Hp → R1) (x5 x15 x16 : AV) : AV → Hp → R1 := qcr call q12e0 x5 x15 x16 qb1
def q2y (call : Ev.Call) (x0 x1 : AV) (H : Hp) : R1 :=
 vq (boxA 2 H.nx x0) H fun a0 H =>
 vq (box1 H.nx x1) H fun a1 H =>
 vq (qag H a1) H fun a2 H =>
 ve (call (.f qbl) [a2, (.fn qg4 [] [])] H) fun a3 H =>
 vq (qaf 0 a0) H fun a4 H =>
 vq (qag H a4) H fun a5 H =>
 vq (qhr [.int .i64 (.ofNat 0)] 8 H.nx a5 a5) H fun a6 H =>
 vq (.new (.ptr H.nx 0) (qaa 0 [.nilsl])) H fun a7 H =>
 ve (qa3 H a7 a6) fun _ H =>
 vq (qag H a1) H fun a10 H =>
 vq (lenSl a10) H fun a11 H =>
 qp3 call (fun H => qdl call a0 a1 a7 H) a7 a10 a11 (.int .i64 (.ofNat 0)) H
def cRdy (call : Ev.Call) (x0 x1 : AV) (H : Hp) : R1 := q2y call x0 x1 H
def qs4 (call : Ev.Call) (x0 : AV) (H : Hp) : R1 :=
 vq (lenSl x0) H fun a0 H =>
 vq (lenSl x0) H fun a1 H =>
 vq (qa8 1 x0 none (some a0) (some a1)) H fun a2 H =>
 .ok a2 H
def sClpS (call : Ev.Call) (x0 : AV) (H : Hp) : R1 := qs4 call x0 H
def qtq (call : Ev.Call) (H : Hp) : R1 :=
 .ok (.int .i64 (.ofNat 0)) H
def qtp (call : Ev.Call) (x1 x2 : AV) (H : Hp) : R1 :=
 vq (intV (qae .lss).f x1 (.int .i64 (.ofNat 0))) H fun a2 H =>
 vg (qau false a2) (.val x1) H fun a3 H =>
 vg (qau false a2) (qaf 0 x2) H fun a4 H =>
 vg (qau false a2) (qag H a4) H fun a5 H =>
 vg (qau false a2) (intV (qae .geq).f a3 a5) H fun a6 H =>
 vq (qg1 a2 (.bool true) a6) H fun a7 H =>
 cd a7 (
 .ok (.int .i64 (.ofNat 4)) H) (
 qtq call H)
def q1m (call : Ev.Call) (x0 x1 : AV) (H : Hp) : R1 :=
 vq (boxA 2 H.nx x0) H fun a0 H =>
 vq (qbi 2 H a0) H fun a9 H =>
 ve (call (.f qlk) [a9] H) fun a10 H =>
 vq (intV (qae .neq).f a10 (.int .i64 (.ofNat 0))) H fun a11 H =>
 cd a11 (
 .ok a10 H) (
 qtp call x1 a0 H)
def gOfN (call : Ev.Call) (x0 x1 : AV) (H : Hp) : R1 := q1m call x0 x1 H
def qfy (call : Ev.Call) (x3 : AV) (H : Hp) : R1 :=
 .ok x3 H
def qt9 (call : Ev.Call) (g2 : AV → Hp → R1) (x8 : AV) (H : Hp) : R1 :=
 vq (intV (qae .add).f x8 (.int .i64 (.ofNat 1))) H fun a4 H =>
 g2 a4 H
def qt8 (call : Ev.Call) (q2r : AV → Hp → R1) (g2 : AV → Hp → R1) (x3 x6 x8 : AV) (H : Hp) : R1 :=
 vq (idxS 1 x6 x8) H fun a6 H =>
 vq (qag H a6) H fun a7 H =>
 vq (intV (qae .neq).f a7 x3) H fun a8 H =>
 cd a8 (
 q2r a7 H) (
 qt9 call g2 x8 H)
def qua (call : Ev.Call) (q2r : AV → Hp → R1) (q2e0 : Hp → R1) (x3 x6 x7 : AV) (g2 : AV → Hp → R1) (x8 : AV) (H : Hp) : R1 :=
 vq (intV (qae .lss).f x8 x7) H fun a3 H =>
 cd a3 (
 qt8 call q2r g2 x3 x6 x8 H) (
 q2e0 H)
def qi0 (call : Ev.Call) (q2r : AV → Hp → R1) (q2e0 : Hp → R1) (x3 x6 x7 : AV) (n : Nat) : AV → Hp → R1 :=
 Nat.rec (motive := fun _ => AV → Hp → R1) (fun _ _ => .bad) (fun _ ih => qua call q2r q2e0 x3 x6 x7 ih) n
def qub (call : Ev.Call) (q2r : AV → Hp → R1) (q2e0 : Hp → R1) (x3 x6 x7 : AV) : AV → Hp → R1 := qi0 call q2r q2e0 x3 x6 x7 qb1
def q27 (call : Ev.Call) (x0 : AV) (H : Hp) : R1 :=
 vq (lenSl x0) H fun a1 H =>
 qub call (fun x2 H => .ok x2 H) (fun H => qfy call (.int .i64 (.ofNat 0)) H) (.int .i64 (.ofNat 0)) x0 a1 (.int .i64 (.ofNat 0)) H
def cOrE (call : Ev.Call) (x0 : AV) (H : Hp) : R1 := q27 call x0 H
def qdj (call : Ev.Call) (x4 x5 : AV) (H : Hp) : R1 :=
 vq (qbi 256 H x5) H fun a5 H =>
 ve (qb3 256 H x4 a5) fun _ H =>
 finR (rV (qbi 256 H x4)) H
def qe4 (call : Ev.Call) (g9 : AV → Hp → R1) (x7 : AV) (H : Hp) : R1 :=
 vq (qa8 1 x7 (some (.int .i64 (.ofNat 1))) none none) H fun a10 H =>
 g9 a10 H
def qgc (call : Ev.Call) (g15 : AV → AV → Hp → R1) (x7 x29 : AV) (H : Hp) : R1 :=
 vq (intV (qae .add).f x29 (.int .i64 (.ofNat 1))) H fun a17 H =>
 g15 x7 a17 H
def qpe (call : Ev.Call) (g15 : AV → AV → Hp → R1) (x5 x7 x27 x29 : AV) (H : Hp) : R1 :=
 vq (idxS 3 x27 x29) H fun a19 H =>
 vq (qbi 3 H a19) H fun a20 H =>
 vq (.new (.ptr H.nx 0) (qaa 0 [.int .i64 (.ofNat 0), .int .i64 (.ofNat 0), .bool false])) H fun a21 H =>
 ve (qb3 3 H a21 a20) fun _ H =>
 vl (qaf 0 a21) fun a23 =>
 vl (qag H a23) fun a24 =>
 vl (idxS 1 x7 (.int .i64 (.ofNat 0))) fun a25 =>
 vl (qag H a25) fun a26 =>
 vl (intV (qae .eql).f a24 a26) fun a27 =>
 vlg (qau true a27) (qaf 1 a21) fun a28 =>
 vlg (qau true a27) (qag H a28) fun a29 =>
 vlg (qau true a27) (idxA 256 1 x5 a29) fun a30 =>
 vlg (qau true a27) (qag H a30) fun a31 =>
 vlg (qau true a27) (intV (qae .lss).f a31 (.int .i64 (.ofNat 0))) fun a32 =>
 vl (qg1 a27 a32 (.bool false)) fun a33 =>
 cd a33 (
 vq (qaf 1 a21) H fun a34 H =>
 vq (qag H a34) H fun a35 H =>
 vq (qaf 0 a21) H fun a36 H =>
 vq (qag H a36) H fun a37 H =>
 vq (idxA 256 1 x5 a35) H fun a38 H =>
 ve (qa3 H a38 a37) fun _ H =>
 vq (qaf 1 a21) H fun a40 H =>
 vq (qag H a40) H fun a41 H =>
 vq (qe1 1 H.nx (qar (reps [.int .i64 (.ofNat 0)] 1) [(0, 1, a41)])) H fun a42 H =>
 ve (qaz 1 8 H x7 (qby 1 H a42)) fun a43 H =>
 qgc call g15 a43 x29 H) (
 qgc call g15 x7 x29 H)
def qpg (call : Ev.Call) (q15e4 : AV → Hp → R1) (x5 x27 x28 : AV) (g15 : AV → AV → Hp → R1) (x7 x29 : AV) (H : Hp) : R1 :=
 vq (intV (qae .lss).f x29 x28) H fun a16 H =>
 cd a16 (
 qpe call g15 x5 x7 x27 x29 H) (
 q15e4 x7 H)
def qgb (call : Ev.Call) (q15e4 : AV → Hp → R1) (x5 x27 x28 : AV) (n : Nat) : AV → AV → Hp → R1 :=
 Nat.rec (motive := fun _ => AV → AV → Hp → R1) (fun _ _ _ => .bad) (fun _ ih => qpg call q15e4 x5 x27 x28 ih) n
def qpi (call : Ev.Call) (q15e4 : AV → Hp → R1) (x5 x27 x28 : AV) : AV → AV → Hp → R1 := qgb call q15e4 x5 x27 x28 qb1
def qpd (call : Ev.Call) (g9 : AV → Hp → R1) (x2 x5 x7 : AV) (H : Hp) : R1 :=
 vq (qaf 1 x2) H fun a12 H =>
 vq (qag H a12) H fun a13 H =>
 vq (lenSl a13) H fun a14 H =>
 qpi call (fun x7 H => qe4 call g9 x7 H) x5 a13 a14 x7 (.int .i64 (.ofNat 0)) H
def qtk (call : Ev.Call) (q9e2 : Hp → R1) (x2 x5 : AV) (g9 : AV → Hp → R1) (x7 : AV) (H : Hp) : R1 :=
 vq (lenSl x7) H fun a46 H =>
 vq (intV (qae .gtr).f a46 (.int .i64 (.ofNat 0))) H fun a47 H =>
 cd a47 (
 qpd call g9 x2 x5 x7 H) (
 q9e2 H)
def qd4 (call : Ev.Call) (q9e2 : Hp → R1) (x2 x5 : AV) (n : Nat) : AV → Hp → R1 :=
 Nat.rec (motive := fun _ => AV → Hp → R1) (fun _ _ => .bad) (fun _ ih => qtk call q9e2 x2 x5 ih) n
def qtl (call : Ev.Call) (q9e2 : Hp → R1) (x2 x5 : AV) : AV → Hp → R1 := qd4 call q9e2 x2 x5 qb1
def qe3 (call : Ev.Call) (x1 x2 x4 x5 : AV) (H : Hp) : R1 :=
 vq (idxA 256 1 x5 x1) H fun a3 H =>
 ve (qa3 H a3 x1) fun _ H =>
 vq (qe1 1 H.nx (qar (reps [.int .i64 (.ofNat 0)] 1) [(0, 1, x1)])) H fun a8 H =>
 qtl call (fun H => qdj call x4 x5 H) x2 x5 a8 H
def qpc (call : Ev.Call) (g49 : AV → Hp → R1) (x10 : AV) (H : Hp) : R1 :=
 vq (intV (qae .add).f x10 (.int .i64 (.ofNat 1))) H fun a51 H =>
 g49 a51 H
def qpb (call : Ev.Call) (g49 : AV → Hp → R1) (x5 x10 : AV) (H : Hp) : R1 :=
 vq (idxA 256 1 x5 x10) H fun a53 H =>
 ve (qa3 H a53 (.int .i64 (.negSucc 0))) fun _ H =>
 qpc call g49 x10 H
def qpf (call : Ev.Call) (q49e0 : Hp → R1) (x5 : AV) (g49 : AV → Hp → R1) (x10 : AV) (H : Hp) : R1 :=
 vq (intV (qae .lss).f x10 (.int .i64 (.ofNat 256))) H fun a50 H =>
 cd a50 (
 qpb call g49 x5 x10 H) (
 q49e0 H)
def qga (call : Ev.Call) (q49e0 : Hp → R1) (x5 : AV) (n : Nat) : AV → Hp → R1 :=
 Nat.rec (motive := fun _ => AV → Hp → R1) (fun _ _ => .bad) (fun _ ih => qpf call q49e0 x5 ih) n
def qph (call : Ev.Call) (q49e0 : Hp → R1) (x5 : AV) : AV → Hp → R1 := qga call q49e0 x5 qb1
def q1g (call : Ev.Call) (x0 x1 : AV) (H : Hp) : R1 :=
 vq (boxA 2 H.nx x0) H fun a0 H =>
 vq (.new (.ptr H.nx 0) (qaa 0 (List.replicate 256 (.int .i64 (.ofNat 0))))) H fun a1 H =>
 vq (.new (.ptr H.nx 0) (qaa 0 (List.replicate 256 (.int .i64 (.ofNat 0))))) H fun a2 H =>
 qph call (fun H => qe3 call x1 a0 a1 a2 H) a2 (.int .i64 (.ofNat 0)) H
def gWlk (call : Ev.Call) (x0 x1 : AV) (H : Hp) : R1 := q1g call x0 x1 H
def qst (call : Ev.Call) (g2 : AV → AV → Hp → R1) (x2 x3 : AV) (H : Hp) : R1 :=
 vq (intV (qae .add).f x2 (.int .i64 (.ofNat 1))) H fun a3 H =>
 vq (intV (qae .sub).f x3 (.int .i64 (.ofNat 1))) H fun a4 H =>
 g2 a3 a4 H
def qn6 (call : Ev.Call) (g2 : AV → AV → Hp → R1) (x0 x2 x3 : AV) (H : Hp) : R1 :=
 dz 0 H fun b6 H =>
 dq false false 0 0 (b6 + 0) H [] [] (fun _ => .val x0) (some true) fun a7 H p w =>
 dq false false 1 0 (b6 + 1) H p w (fun _ => .val x2) (some true) fun a8 H p w =>
 dq false false 2 0 (b6 + 2) H p w (fun _ => .val x0) (some true) fun a9 H p w =>
 dq false false 3 0 (b6 + 3) H p w (fun _ => .val x3) (some true) fun a10 H p w =>
 dq false false 4 0 (b6 + 4) H p w (fun _ => .val x0) (some true) fun a11 H p w =>
 dq false false 5 0 (b6 + 5) H p w (fun _ => .val x3) (some true) fun a12 H p w =>
 dq false false 6 48 (b6 + 6) H p w (fun _ => idxS 1 a11 a12) (some true) fun a13 H p w =>
 dq true false 7 112 (b6 + 7) H p w (fun H => qag H a13) (some true) fun a14 H p w =>
 dq false false 8 0 (b6 + 8) H p w (fun _ => .val x0) (some true) fun a15 H p w =>
 dq false false 9 0 (b6 + 9) H p w (fun _ => .val x2) (some true) fun a16 H p w =>
 dq false false 10 768 (b6 + 10) H p w (fun _ => idxS 1 a15 a16) (some true) fun a17 H p w =>
 dq true false 11 1792 (b6 + 11) H p w (fun H => qag H a17) (some true) fun a18 H p w =>
 dq false false 12 4083 (b6 + 12) H p w (fun _ => idxS 1 a7 a8) (some true) fun a19 H p w =>
 de 8179 H p w (qa3 (qa2 8179 p H) a19 a14) (some true) fun _ H p w =>
 dq false false 14 16383 (b6 + 14) H p w (fun _ => idxS 1 a9 a10) (some true) fun a21 H p w =>
 de 32767 H p w (qa3 (qa2 32767 p H) a21 a18) (some true) fun _ H p w =>
 dz2 p H fun H =>
 qst call g2 x2 x3 H
def qsu (call : Ev.Call) (q2e0 : Hp → R1) (x0 : AV) (g2 : AV → AV → Hp → R1) (x2 x3 : AV) (H : Hp) : R1 :=
 vq (intV (qae .lss).f x2 x3) H fun a24 H =>
 cd a24 (
 qn6 call g2 x0 x2 x3 H) (
 q2e0 H)
def qh8 (call : Ev.Call) (q2e0 : Hp → R1) (x0 : AV) (n : Nat) : AV → AV → Hp → R1 :=
 Nat.rec (motive := fun _ => AV → AV → Hp → R1) (fun _ _ _ => .bad) (fun _ ih => qsu call q2e0 x0 ih) n
def qsv (call : Ev.Call) (q2e0 : Hp → R1) (x0 : AV) : AV → AV → Hp → R1 := qh8 call q2e0 x0 qb1
def qzg (call : Ev.Call) (x0 : AV) (H : Hp) : R1 :=
 vq (lenSl x0) H fun a0 H =>
 vq (intV (qae .sub).f a0 (.int .i64 (.ofNat 1))) H fun a1 H =>
 qsv call (fun H => .ok (.tup []) H) x0 (.int .i64 (.ofNat 0)) a1 H
def sRvs (call : Ev.Call) (x0 : AV) (H : Hp) : R1 := qzg call x0 H
def q1o (call : Ev.Call) (x0 x1 : AV) (H : Hp) : R1 :=
 vq (boxA 3 H.nx x0) H fun a0 H =>
 vq (boxA 3 H.nx x1) H fun a1 H =>
 dz 18 H fun b2 H =>
 dq false false 0 0 (b2 + 0) H [] [] (fun _ => qaf 0 a0) (some true) fun a3 H p w =>
 dq true false 1 1 (b2 + 1) H p w (fun H => qag H a3) (some true) fun a4 H p w =>
 dq false false 2 0 (b2 + 2) H p w (fun _ => qaf 0 a1) (some true) fun a5 H p w =>
 dq true false 3 4 (b2 + 3) H p w (fun H => qag H a5) (some true) fun a6 H p w =>
 dq false false 5 0 (b2 + 5) H p w (fun _ => qaf 1 a0) (some true) fun a7 H p w =>
 dq true false 6 32 (b2 + 6) H p w (fun H => qag H a7) (some true) fun a8 H p w =>
 dq false false 7 0 (b2 + 7) H p w (fun _ => qaf 1 a1) (some true) fun a9 H p w =>
 dq true false 8 128 (b2 + 8) H p w (fun H => qag H a9) (some true) fun a10 H p w =>
 dq true false 10 0 (b2 + 10) H p w (fun H => qbi 3 H a0) (some true) fun a11 H p w =>
 dq true false 12 0 (b2 + 12) H p w (fun H => qbi 3 H a1) (some true) fun a12 H p w =>
 de 15 H p w (call (.f qik) [a4, a6] (qa2 15 p H)) (some true) fun a13 H p w =>
 de 511 H p w (call (.f qik) [a8, a10] (qa2 511 p H)) (some true) fun a14 H p w =>
 de 2047 H p w (call (.f qlh) [a11] (qa2 2047 p H)) (some true) fun a15 H p w =>
 de 8191 H p w (call (.f qlh) [a12] (qa2 8191 p H)) (some true) fun a16 H p w =>
 de 16383 H p w (call (.f qik) [a15, a16] (qa2 16383 p H)) (some true) fun a17 H p w =>
 dq false true 15 32767 (b2 + 15) H p w (fun _ => qe1 3 (b2 + 15) (qar (reps [.int .i64 (.ofNat 0)] 3) [(0, 1, a13), (1, 1, a14), (2, 1, a17)])) (some true) fun a18 H p w =>
 de 65535 H p w (call (.f qvw) [a18] (qa2 65535 p H)) (some true) fun a19 H p w =>
 dq false false 17 131071 (b2 + 17) H p w (fun _ => .val a19) (some true) fun a20 H p w =>
 dz2 p H fun H =>
 .ok a20 H
def gCmp (call : Ev.Call) (x0 x1 : AV) (H : Hp) : R1 := q1o call x0 x1 H
def qcy (call : Ev.Call) (g3 : AV → Hp → R1) (x0 x4 x5 : AV) (H : Hp) : R1 :=
 vq (nilC x5) H fun a7 H =>
 vq (qaf 0 a7) H fun a8 H =>
 vq (qag H a8) H fun a9 H =>
 ve (call (.f qeg) [x0, a9] H) fun a10 H =>
 vq (lenSl x4) H fun a11 H =>
 vq (intV (qae .sub).f a11 (.int .i64 (.ofNat 1))) H fun a12 H =>
 vq (qa8 2 x4 none (some a12) none) H fun a13 H =>
 vq (lenSl a13) H fun a14 H =>
 vq (intV (qae .gtr).f a14 (.int .i64 (.ofNat 0))) H fun a15 H =>
 cd a15 (
 vq (lenSl a13) H fun a16 H =>
 vq (intV (qae .sub).f a16 (.int .i64 (.ofNat 1))) H fun a17 H =>
 vq (idxS 2 a13 a17) H fun a18 H =>
 vq (qaf 0 a18) H fun a19 H =>
 vq (qag H a19) H fun a20 H =>
 dz 0 H fun b21 H =>
 dq false false 0 0 (b21 + 0) H [] [] (fun _ => .val x0) (some true) fun a22 H p w =>
 dq false false 1 0 (b21 + 1) H p w (fun _ => .val a20) (some true) fun a23 H p w =>
 dq false false 2 0 (b21 + 2) H p w (fun _ => .val x0) (some true) fun a24 H p w =>
 dq false false 3 0 (b21 + 3) H p w (fun _ => .val a20) (some true) fun a25 H p w =>
 dq false false 4 4 (b21 + 4) H p w (fun _ => nilC a24) (some true) fun a26 H p w =>
 dq false false 5 20 (b21 + 5) H p w (fun _ => qaf 512 a26) (some true) fun a27 H p w =>
 dq false false 6 60 (b21 + 6) H p w (fun _ => idxA 256 1 a27 a25) (some true) fun a28 H p w =>
 dq true false 7 124 (b21 + 7) H p w (fun H => qag H a28) (some true) fun a29 H p w =>
 dq false false 8 0 (b21 + 8) H p w (fun _ => .val x0) (some true) fun a30 H p w =>
 dq false false 9 0 (b21 + 9) H p w (fun _ => .val a9) (some true) fun a31 H p w =>
 dq false false 10 256 (b21 + 10) H p w (fun _ => nilC a30) (some true) fun a32 H p w =>
 dq false false 11 1280 (b21 + 11) H p w (fun _ => qaf 512 a32) (some true) fun a33 H p w =>
 dq false false 12 3840 (b21 + 12) H p w (fun _ => idxA 256 1 a33 a31) (some true) fun a34 H p w =>
 dq true false 13 7936 (b21 + 13) H p w (fun H => qag H a34) (some true) fun a35 H p w =>
 dq false false 14 16380 (b21 + 14) H p w (fun _ => qeh minV a29 [a35]) (some true) fun a36 H p w =>
 dq false false 15 1 (b21 + 15) H p w (fun _ => nilC a22) (some true) fun a37 H p w =>
 dq false false 16 32769 (b21 + 16) H p w (fun _ => qaf 512 a37) (some true) fun a38 H p w =>
 dq false false 17 131071 (b21 + 17) H p w (fun _ => idxA 256 1 a38 a23) (some true) fun a39 H p w =>
 de 262143 H p w (qa3 (qa2 262143 p H) a39 a36) (some true) fun _ H p w =>
 dz2 p H fun H =>
 g3 a13 H) (
 g3 a13 H)
def ql4 (call : Ev.Call) (g42 : AV → Hp → R1) (x0 x4 x5 x6 : AV) (H : Hp) : R1 :=
 vq (nilC x0) H fun a62 H =>
 vq (qaf 768 a62) H fun a63 H =>
 vq (idxA 256 1 a63 x6) H fun a64 H =>
 vq (qag H a64) H fun a65 H =>
 cd a65 (
 dz 0 H fun b66 H =>
 dq false false 0 0 (b66 + 0) H [] [] (fun _ => .val x0) (some true) fun a67 H p w =>
 dq false false 1 0 (b66 + 1) H p w (fun _ => .val x5) (some true) fun a68 H p w =>
 dq false false 2 2 (b66 + 2) H p w (fun _ => nilC a68) (some true) fun a69 H p w =>
 dq false false 3 6 (b66 + 3) H p w (fun _ => qaf 0 a69) (some true) fun a70 H p w =>
 dq true false 4 14 (b66 + 4) H p w (fun H => qag H a70) (some true) fun a71 H p w =>
 dq false false 5 0 (b66 + 5) H p w (fun _ => .val x0) (some true) fun a72 H p w =>
 dq false false 6 0 (b66 + 6) H p w (fun _ => .val x5) (some true) fun a73 H p w =>
 dq false false 7 64 (b66 + 7) H p w (fun _ => nilC a73) (some true) fun a74 H p w =>
 dq false false 8 192 (b66 + 8) H p w (fun _ => qaf 0 a74) (some true) fun a75 H p w =>
 dq true false 9 448 (b66 + 9) H p w (fun H => qag H a75) (some true) fun a76 H p w =>
 dq false false 10 32 (b66 + 10) H p w (fun _ => nilC a72) (some true) fun a77 H p w =>
 dq false false 11 1056 (b66 + 11) H p w (fun _ => qaf 512 a77) (some true) fun a78 H p w =>
 dq false false 12 4064 (b66 + 12) H p w (fun _ => idxA 256 1 a78 a76) (some true) fun a79 H p w =>
 dq true false 13 8160 (b66 + 13) H p w (fun H => qag H a79) (some true) fun a80 H p w =>
 dq false false 14 0 (b66 + 14) H p w (fun _ => .val x0) (some true) fun a81 H p w =>
 dq false false 15 0 (b66 + 15) H p w (fun _ => .val x6) (some true) fun a82 H p w =>
 dq false false 16 16384 (b66 + 16) H p w (fun _ => nilC a81) (some true) fun a83 H p w =>
 dq false false 17 81920 (b66 + 17) H p w (fun _ => qaf 256 a83) (some true) fun a84 H p w =>
 dq false false 18 245760 (b66 + 18) H p w (fun _ => idxA 256 1 a84 a82) (some true) fun a85 H p w =>
 dq true false 19 507904 (b66 + 19) H p w (fun H => qag H a85) (some true) fun a86 H p w =>
 dq false false 20 1048544 (b66 + 20) H p w (fun _ => qeh minV a80 [a86]) (some true) fun a87 H p w =>
 dq false false 21 1 (b66 + 21) H p w (fun _ => nilC a67) (some true) fun a88 H p w =>
 dq false false 22 2097153 (b66 + 22) H p w (fun _ => qaf 512 a88) (some true) fun a89 H p w =>
 dq false false 23 8388607 (b66 + 23) H p w (fun _ => idxA 256 1 a89 a71) (some true) fun a90 H p w =>
 de 16777215 H p w (qa3 (qa2 16777215 p H) a90 a87) (some true) fun _ H p w =>
 dz2 p H fun H =>
 g42 x4 H) (
 g42 x4 H)
def qiu (call : Ev.Call) (q42e1 : AV → Hp → R1) (g42 : AV → Hp → R1) (x0 x4 x5 : AV) (H : Hp) : R1 :=
 vl (nilC x5) fun a43 =>
 vl (qaf 0 a43) fun a44 =>
 vl (qag H a44) fun a45 =>
 vl (nilC x0) fun a46 =>
 vl (qaf 0 a46) fun a47 =>
 vl (idxA 256 1 a47 a45) fun a48 =>
 vl (qag H a48) fun a49 =>
 vl (nilC x5) fun a50 =>
 vl (qaf 1 a50) fun a51 =>
 vl (qag H a51) fun a52 =>
 vl (idxS 1 a49 a52) fun a53 =>
 vl (qag H a53) fun a54 =>
 vq (nilC x5) H fun a55 H =>
 vq (qaf 1 a55) H fun a56 H =>
 vq (qag H a56) H fun a57 H =>
 vq (intV (qae .add).f a57 (.int .i64 (.ofNat 1))) H fun a58 H =>
 vq (nilC x5) H fun a59 H =>
 vq (qaf 1 a59) H fun a60 H =>
 ve (qa3 H a60 a58) fun _ H =>
 vq (nilC x0) H fun a93 H =>
 vq (qaf 256 a93) H fun a94 H =>
 vq (idxA 256 1 a94 a54) H fun a95 H =>
 vq (qag H a95) H fun a96 H =>
 vq (intV (qae .eql).f a96 (.int .i64 (.ofNat 0))) H fun a97 H =>
 cd a97 (
 ve (call (.f qfu) [x0, a54] H) fun a98 H =>
 vq (aggN (qar [.int .i64 (.ofNat 0), .int .i64 (.ofNat 0)] [(0, 1, a54), (1, 1, (.int .i64 (.ofNat 0)))])) H fun a99 H =>
 vq (qe1 1 H.nx (qar (reps [.int .i64 (.ofNat 0), .int .i64 (.ofNat 0)] 1) [(0, 2, a99)])) H fun a100 H =>
 ve (qaz 2 16 H x4 (qby 2 H a100)) fun a101 H =>
 q42e1 a101 H) (
 ql4 call g42 x0 x4 x5 a54 H)
def ql5 (call : Ev.Call) (q42e1 : AV → Hp → R1) (q42e2 : AV → Hp → R1) (x0 x5 : AV) (g42 : AV → Hp → R1) (x4 : AV) (H : Hp) : R1 :=
 vl (nilC x5) fun a103 =>
 vl (qaf 1 a103) fun a104 =>
 vl (qag H a104) fun a105 =>
 vl (nilC x5) fun a106 =>
 vl (qaf 0 a106) fun a107 =>
 vl (qag H a107) fun a108 =>
 vl (nilC x0) fun a109 =>
 vl (qaf 0 a109) fun a110 =>
 vl (idxA 256 1 a110 a108) fun a111 =>
 vl (qag H a111) fun a112 =>
 vl (lenSl a112) fun a113 =>
 vl (intV (qae .lss).f a105 a113) fun a114 =>
 cd a114 (
 qiu call q42e1 g42 x0 x4 x5 H) (
 q42e2 x4 H)
def qek (call : Ev.Call) (q42e1 : AV → Hp → R1) (q42e2 : AV → Hp → R1) (x0 x5 : AV) (n : Nat) : AV → Hp → R1 :=
 Nat.rec (motive := fun _ => AV → Hp → R1) (fun _ _ => .bad) (fun _ ih => ql5 call q42e1 q42e2 x0 x5 ih) n
def ql6 (call : Ev.Call) (q42e1 : AV → Hp → R1) (q42e2 : AV → Hp → R1) (x0 x5 : AV) : AV → Hp → R1 := qek call q42e1 q42e2 x0 x5 qb1
def qit (call : Ev.Call) (g3 : AV → Hp → R1) (x0 x4 : AV) (H : Hp) : R1 :=
 vq (lenSl x4) H fun a4 H =>
 vq (intV (qae .sub).f a4 (.int .i64 (.ofNat 1))) H fun a5 H =>
 vq (idxS 2 x4 a5) H fun a6 H =>
 ql6 call (fun x4 H => g3 x4 H) (fun x4 H => qcy call g3 x0 x4 a6 H) x0 a6 x4 H
def qpv (call : Ev.Call) (q3e0 : Hp → R1) (x0 : AV) (g3 : AV → Hp → R1) (x4 : AV) (H : Hp) : R1 :=
 vq (lenSl x4) H fun a116 H =>
 vq (intV (qae .gtr).f a116 (.int .i64 (.ofNat 0))) H fun a117 H =>
 cd a117 (
 qit call g3 x0 x4 H) (
 q3e0 H)
def qbm (call : Ev.Call) (q3e0 : Hp → R1) (x0 : AV) (n : Nat) : AV → Hp → R1 :=
 Nat.rec (motive := fun _ => AV → Hp → R1) (fun _ _ => .bad) (fun _ ih => qpv call q3e0 x0 ih) n
def qpw (call : Ev.Call) (q3e0 : Hp → R1) (x0 : AV) : AV → Hp → R1 := qbm call q3e0 x0 qb1
def qis (call : Ev.Call) (x0 x4 : AV) (H : Hp) : R1 :=
 qpw call (fun H => .ok (.tup []) H) x0 x4 H
def qt6 (call : Ev.Call) (x0 x1 : AV) (H : Hp) : R1 :=
 ve (call (.f qfu) [x0, x1] H) fun a0 H =>
 vq (aggN (qar [.int .i64 (.ofNat 0), .int .i64 (.ofNat 0)] [(0, 1, x1), (1, 1, (.int .i64 (.ofNat 0)))])) H fun a1 H =>
 vq (qe1 1 H.nx (qar (reps [.int .i64 (.ofNat 0), .int .i64 (.ofNat 0)] 1) [(0, 2, a1)])) H fun a2 H =>
 qis call x0 a2 H
def cWalk (call : Ev.Call) (x0 x1 : AV) (H : Hp) : R1 := qt6 call x0 x1 H
def qeu (call : Ev.Call) (g5 : AV → Hp → R1) (x17 : AV) (H : Hp) : R1 :=
 vq (intV (qae .add).f x17 (.int .i64 (.ofNat 1))) H fun a7 H =>
 g5 a7 H
def qjt (call : Ev.Call) (g14 : AV → Hp → R1) (x55 : AV) (H : Hp) : R1 :=
 vq (intV (qae .add).f x55 (.int .i64 (.ofNat 1))) H fun a16 H =>
 g14 a16 H
def qod (call : Ev.Call) (q14r : Hp → R1) (q14e4 : Hp → R1) (g14 : AV → Hp → R1) (x0 x1 x5 x6 x55 : AV) (H : Hp) : R1 :=
 vq (idxS 1 x5 x55) H fun a18 H =>
 vq (qag H a18) H fun a19 H =>
 vq ((unS .not).f a19) H fun a20 H =>
 vg (qau true a20) (.val x6) H fun a21 H =>
 vg (qau true a20) (.val x55) H fun a22 H =>
 vg (qau true a20) (idxS 1 a21 a22) H fun a23 H =>
 vg (qau true a20) (qag H a23) H fun a24 H =>
 vg (qau true a20) ((unS .not).f a24) H fun a25 H =>
 vq (qg1 a20 a25 (.bool false)) H fun a26 H =>
 cd a26 (
 vq (idxS 1 x5 x55) H fun a27 H =>
 ve (qa3 H a27 (.bool true)) fun _ H =>
 vq (qag H x1) H fun a29 H =>
 vq (idxS 1 a29 x55) H fun a30 H =>
 vq (qag H a30) H fun a31 H =>
 ve (qpu call x0 [a31] H) fun a32 H =>
 vq ((unS .not).f a32) H fun a33 H =>
 cd a33 (
 q14r H) (
 q14e4 H)) (
 qjt call g14 x55 H)
def qof (call : Ev.Call) (q14r : Hp → R1) (q14e4 : Hp → R1) (x0 x1 x5 x6 x54 : AV) (g14 : AV → Hp → R1) (x55 : AV) (H : Hp) : R1 :=
 vq (intV (qae .lss).f x55 x54) H fun a15 H =>
 cd a15 (
 qod call q14r q14e4 g14 x0 x1 x5 x6 x55 H) (
 q14e4 H)
def qet (call : Ev.Call) (q14r : Hp → R1) (q14e4 : Hp → R1) (x0 x1 x5 x6 x54 : AV) (n : Nat) : AV → Hp → R1 :=
 Nat.rec (motive := fun _ => AV → Hp → R1) (fun _ _ => .bad) (fun _ ih => qof call q14r q14e4 x0 x1 x5 x6 x54 ih) n
def qoh (call : Ev.Call) (q14r : Hp → R1) (q14e4 : Hp → R1) (x0 x1 x5 x6 x54 : AV) : AV → Hp → R1 := qet call q14r q14e4 x0 x1 x5 x6 x54 qb1
def qev (call : Ev.Call) (q5r : Hp → R1) (g5 : AV → Hp → R1) (x0 x1 x5 x6 x17 : AV) (H : Hp) : R1 :=
 vq (qag H x1) H fun a12 H =>
 vq (lenSl a12) H fun a13 H =>
 qoh call (fun H => q5r H) (fun H => qeu call g5 x17 H) x0 x1 x5 x6 a13 (.int .i64 (.ofNat 0)) H
def qhj (call : Ev.Call) (g39 : AV → Hp → R1) (x25 : AV) (H : Hp) : R1 :=
 vq (intV (qae .add).f x25 (.int .i64 (.ofNat 1))) H fun a41 H =>
 g39 a41 H
def qoc (call : Ev.Call) (g39 : AV → Hp → R1) (x3 x5 x6 x23 x25 : AV) (H : Hp) : R1 :=
 vq (idxS 3 x23 x25) H fun a43 H =>
 vq (qbi 3 H a43) H fun a44 H =>
 vq (.new (.ptr H.nx 0) (qaa 0 [.int .i64 (.ofNat 0), .int .i64 (.ofNat 0), .bool false])) H fun a45 H =>
 ve (qb3 3 H a45 a44) fun _ H =>
 vl (qag H x3) fun a47 =>
 vl (qaf 0 a45) fun a48 =>
 vl (qag H a48) fun a49 =>
 vl (idxS 1 a47 a49) fun a50 =>
 vl (qag H a50) fun a51 =>
 vl (qag H x3) fun a52 =>
 vl (qaf 1 a45) fun a53 =>
 vl (qag H a53) fun a54 =>
 vl (idxS 1 a52 a54) fun a55 =>
 vl (qag H a55) fun a56 =>
 vq (intV (qae .neq).f a51 a56) H fun a57 H =>
 vg (qau true a57) (.val x5) H fun a58 H =>
 vg (qau true a57) (.val a56) H fun a59 H =>
 vg (qau true a57) (idxS 1 a58 a59) H fun a60 H =>
 vg (qau true a57) (qag H a60) H fun a61 H =>
 vg (qau true a57) ((unS .not).f a61) H fun a62 H =>
 vq (qg1 a57 a62 (.bool false)) H fun a63 H =>
 cd a63 (
 vq (idxS 1 x6 a51) H fun a64 H =>
 ve (qa3 H a64 (.bool true)) fun _ H =>
 qhj call g39 x25 H) (
 qhj call g39 x25 H)
def qoe (call : Ev.Call) (q39e2 : Hp → R1) (x3 x5 x6 x23 x24 : AV) (g39 : AV → Hp → R1) (x25 : AV) (H : Hp) : R1 :=
 vq (intV (qae .lss).f x25 x24) H fun a40 H =>
 cd a40 (
 qoc call g39 x3 x5 x6 x23 x25 H) (
 q39e2 H)
def qes (call : Ev.Call) (q39e2 : Hp → R1) (x3 x5 x6 x23 x24 : AV) (n : Nat) : AV → Hp → R1 :=
 Nat.rec (motive := fun _ => AV → Hp → R1) (fun _ _ => .bad) (fun _ ih => qoe call q39e2 x3 x5 x6 x23 x24 ih) n
def qog (call : Ev.Call) (q39e2 : Hp → R1) (x3 x5 x6 x23 x24 : AV) : AV → Hp → R1 := qes call q39e2 x3 x5 x6 x23 x24 qb1
def qob (call : Ev.Call) (q5r : Hp → R1) (g5 : AV → Hp → R1) (x0 x1 x2 x3 x5 x17 : AV) (H : Hp) : R1 :=
 vq (qag H x1) H fun a9 H =>
 vq (lenSl a9) H fun a10 H =>
 vq (qhr [.bool false] 1 H.nx a10 a10) H fun a11 H =>
 vq (qaf 1 x2) H fun a36 H =>
 vq (qag H a36) H fun a37 H =>
 vq (lenSl a37) H fun a38 H =>
 qog call (fun H => qev call q5r g5 x0 x1 x5 a11 x17 H) x3 x5 a11 a37 a38 (.int .i64 (.ofNat 0)) H
def qs7 (call : Ev.Call) (q5r : Hp → R1) (q5e0 : Hp → R1) (x0 x1 x2 x3 x5 x16 : AV) (g5 : AV → Hp → R1) (x17 : AV) (H : Hp) : R1 :=
 vq (intV (qae .lss).f x17 x16) H fun a6 H =>
 cd a6 (
 qob call q5r g5 x0 x1 x2 x3 x5 x17 H) (
 q5e0 H)
def qbx (call : Ev.Call) (q5r : Hp → R1) (q5e0 : Hp → R1) (x0 x1 x2 x3 x5 x16 : AV) (n : Nat) : AV → Hp → R1 :=
 Nat.rec (motive := fun _ => AV → Hp → R1) (fun _ _ => .bad) (fun _ ih => qs7 call q5r q5e0 x0 x1 x2 x3 x5 x16 ih) n
def qs8 (call : Ev.Call) (q5r : Hp → R1) (q5e0 : Hp → R1) (x0 x1 x2 x3 x5 x16 : AV) : AV → Hp → R1 := qbx call q5r q5e0 x0 x1 x2 x3 x5 x16 qb1
def qzz (call : Ev.Call) (x0 x1 x2 x3 : AV) (H : Hp) : R1 :=
 vq (qag H x1) H fun a0 H =>
 vq (lenSl a0) H fun a1 H =>
 vq (qhr [.bool false] 1 H.nx a1 a1) H fun a2 H =>
 vq (qag H x1) H fun a3 H =>
 vq (lenSl a3) H fun a4 H =>
 qs8 call (fun H => .ok (.tup []) H) (fun H => .ok (.tup []) H) x0 x1 x2 x3 a2 a4 (.int .i64 (.ofNat 0)) H
def rdyB (call : Ev.Call) (x0 x1 x2 x3 : AV) (H : Hp) : R1 := qzz call x0 x1 x2 x3 H
def qun (call : Ev.Call) (H : Hp) : R1 :=
 .ok (.int .i64 (.ofNat 0)) H
def qum (call : Ev.Call) (x0 x1 : AV) (H : Hp) : R1 :=
 vq (intV (qae .gtr).f x0 x1) H fun a3 H =>
 cd a3 (
 .ok (.int .i64 (.ofNat 1)) H) (
 qun call H)
def qul (call : Ev.Call) (x0 x1 : AV) (H : Hp) : R1 :=
 vq (intV (qae .lss).f x0 x1) H fun a5 H =>
 cd a5 (
 .ok (.int .i64 (.negSucc 0)) H) (
 qum call x0 x1 H)
def quk (call : Ev.Call) (x0 x1 x6 : AV) (H : Hp) : R1 :=
 cd x6 (
 .ok (.int .i64 (.ofNat 1)) H) (
 qul call x0 x1 H)
def q3e (call : Ev.Call) (H : Hp) : R1 :=
 .ok (.int .i64 (.negSucc 0)) H
def q3f (call : Ev.Call) (x0 x1 : AV) (H : Hp) : R1 :=
 ve (call (.f qll) [x0] H) fun a0 H =>
 ve (call (.f qll) [x1] H) fun a1 H =>
 cd a0 (
 cd a1 (
 .ok (.int .i64 (.ofNat 0)) H) (
 q3e call H)) (
 quk call x0 x1 a1 H)
def cCmp (call : Ev.Call) (x0 x1 : AV) (H : Hp) : R1 := q3f call x0 x1 H
def qtm (call : Ev.Call) (H : Hp) : R1 :=
 .ok (.int .i64 (.ofNat 0)) H
def q1i (call : Ev.Call) (x0 : AV) (H : Hp) : R1 :=
 vq (boxA 3 H.nx x0) H fun a0 H =>
 vq (qaf 2 a0) H fun a2 H =>
 vq (qag H a2) H fun a3 H =>
 cd a3 (
 .ok (.int .i64 (.ofNat 1)) H) (
 qtm call H)
def gSgn (call : Ev.Call) (x0 : AV) (H : Hp) : R1 := q1i call x0 H
def ql9 (call : Ev.Call) (x3 : AV) (H : Hp) : R1 :=
 .ok x3 H
def q21 (call : Ev.Call) (g2 : AV → Hp → R1) (x8 : AV) (H : Hp) : R1 :=
 vq (intV (qae .add).f x8 (.int .i64 (.ofNat 1))) H fun a4 H =>
 g2 a4 H
def q20 (call : Ev.Call) (q2r : AV → Hp → R1) (g2 : AV → Hp → R1) (x3 x6 x8 : AV) (H : Hp) : R1 :=
 vq (idxS 1 x6 x8) H fun a6 H =>
 vq (qag H a6) H fun a7 H =>
 vq (intV (qae .neq).f a7 x3) H fun a8 H =>
 cd a8 (
 q2r a7 H) (
 q21 call g2 x8 H)
def q23 (call : Ev.Call) (q2r : AV → Hp → R1) (q2e0 : Hp → R1) (x3 x6 x7 : AV) (g2 : AV → Hp → R1) (x8 : AV) (H : Hp) : R1 :=
 vq (intV (qae .lss).f x8 x7) H fun a3 H =>
 cd a3 (
 q20 call q2r g2 x3 x6 x8 H) (
 q2e0 H)
def qnf (call : Ev.Call) (q2r : AV → Hp → R1) (q2e0 : Hp → R1) (x3 x6 x7 : AV) (n : Nat) : AV → Hp → R1 :=
 Nat.rec (motive := fun _ => AV → Hp → R1) (fun _ _ => .bad) (fun _ ih => q23 call q2r q2e0 x3 x6 x7 ih) n
def q25 (call : Ev.Call) (q2r : AV → Hp → R1) (q2e0 : Hp → R1) (x3 x6 x7 : AV) : AV → Hp → R1 := qnf call q2r q2e0 x3 x6 x7 qb1
def q9b (call : Ev.Call) (x0 : AV) (H : Hp) : R1 :=
 vq (lenSl x0) H fun a1 H =>
 q25 call (fun x2 H => .ok x2 H) (fun H => ql9 call (.int .i64 (.ofNat 0)) H) (.int .i64 (.ofNat 0)) x0 a1 (.int .i64 (.ofNat 0)) H
def cOr (call : Ev.Call) (x0 : AV) (H : Hp) : R1 := q9b call x0 H
def qp9 (call : Ev.Call) (x0 x1 : AV) (H : Hp) : R1 :=
 vq (nilC x0) H fun a0 H =>
 vq (qaf 1025 a0) H fun a1 H =>
 vq (qag H a1) H fun a2 H =>
 vq (intV (qae .add).f a2 (.int .i64 (.ofNat 1))) H fun a3 H =>
 vq (nilC x0) H fun a4 H =>
 vq (qaf 1025 a4) H fun a5 H =>
 ve (qa3 H a5 a3) fun _ H =>
 dz 0 H fun b7 H =>
 dq false false 0 0 (b7 + 0) H [] [] (fun _ => .val x0) (some true) fun a8 H p w =>
 dq false false 1 0 (b7 + 1) H p w (fun _ => .val x1) (some true) fun a9 H p w =>
 dq false false 2 0 (b7 + 2) H p w (fun _ => .val x0) (some true) fun a10 H p w =>
 dq false false 3 0 (b7 + 3) H p w (fun _ => .val x1) (some true) fun a11 H p w =>
 dq false false 4 0 (b7 + 4) H p w (fun _ => .val x0) (some true) fun a12 H p w =>
 dq false false 5 0 (b7 + 5) H p w (fun _ => .val x1) (some true) fun a13 H p w =>
 dq false false 6 0 (b7 + 6) H p w (fun _ => .val x0) (some true) fun a14 H p w =>
 dq false false 7 64 (b7 + 7) H p w (fun _ => nilC a14) (some true) fun a15 H p w =>
 dq false false 8 192 (b7 + 8) H p w (fun _ => qaf 1025 a15) (some true) fun a16 H p w =>
 dq true false 9 448 (b7 + 9) H p w (fun H => qag H a16) (some true) fun a17 H p w =>
 dq false false 10 0 (b7 + 10) H p w (fun _ => .val x0) (some true) fun a18 H p w =>
 dq false false 11 1024 (b7 + 11) H p w (fun _ => nilC a18) (some true) fun a19 H p w =>
 dq false false 12 3072 (b7 + 12) H p w (fun _ => qaf 1025 a19) (some true) fun a20 H p w =>
 dq true false 13 7168 (b7 + 13) H p w (fun H => qag H a20) (some true) fun a21 H p w =>
 dq false false 14 1 (b7 + 14) H p w (fun _ => nilC a8) (some true) fun a22 H p w =>
 dq false false 15 16385 (b7 + 15) H p w (fun _ => qaf 256 a22) (some true) fun a23 H p w =>
 dq false false 16 65475 (b7 + 16) H p w (fun _ => idxA 256 1 a23 a9) (some true) fun a24 H p w =>
 dq false false 18 4 (b7 + 18) H p w (fun _ => nilC a10) (some true) fun a25 H p w =>
 dq false false 19 262148 (b7 + 19) H p w (fun _ => qaf 512 a25) (some true) fun a26 H p w =>
 dq false false 22 16 (b7 + 22) H p w (fun _ => nilC a12) (some true) fun a27 H p w =>
 dq false false 23 4194320 (b7 + 23) H p w (fun _ => qaf 768 a27) (some true) fun a28 H p w =>
 de 131011 H p w (qa3 (qa2 131011 p H) a24 a17) (some true) fun _ H p w =>
 dq false false 20 1048527 (b7 + 20) H p w (fun _ => idxA 256 1 a26 a11) (some true) fun a30 H p w =>
 de 2097103 H p w (qa3 (qa2 2097103 p H) a30 a21) (some true) fun _ H p w =>
 dq false false 24 16777215 (b7 + 24) H p w (fun _ => idxA 256 1 a28 a13) (some true) fun a32 H p w =>
 de 33554431 H p w (qa3 (qa2 33554431 p H) a32 (.bool true)) (some true) fun _ H p w =>
 dz2 p H fun H =>
 vq (nilC x0) H fun a34 H =>
 vq (qaf 1024 a34) H fun a35 H =>
 vq (qag H a35) H fun a36 H =>
 vq (qe1 1 H.nx (qar (reps [.int .i64 (.ofNat 0)] 1) [(0, 1, x1)])) H fun a37 H =>
 ve (qaz 1 8 H a36 (qby 1 H a37)) fun a38 H =>
 vq (nilC x0) H fun a39 H =>
 vq (qaf 1024 a39) H fun a40 H =>
 ve (qa3 H a40 a38) fun _ H =>
 .ok (.tup []) H
def cEnter (call : Ev.Call) (x0 x1 : AV) (H : Hp) : R1 := qp9 call x0 x1 H
def qcn (call : Ev.Call) (x0 x4 x5 : AV) (H : Hp) : R1 :=
 vq (nilC x0) H fun a10 H =>
 vq (qaf 1024 a10) H fun a11 H =>
 vq (qag H a11) H fun a12 H =>
 vq (qa8 1 a12 none (some x4) none) H fun a13 H =>
 vq (nilC x0) H fun a14 H =>
 vq (qaf 1024 a14) H fun a15 H =>
 ve (qa3 H a15 a13) fun _ H =>
 vq (nilC x0) H fun a17 H =>
 vq (qaf 1026 a17) H fun a18 H =>
 vq (qag H a18) H fun a19 H =>
 vq (qe1 1 H.nx (qar (reps [.nilsl] 1) [(0, 1, x5)])) H fun a20 H =>
 ve (qaz 1 24 H a19 (qby 1 H a20)) fun a21 H =>
 vq (nilC x0) H fun a22 H =>
 vq (qaf 1026 a22) H fun a23 H =>
 ve (qa3 H a23 a21) fun _ H =>
 .ok (.tup []) H
def qi4 (call : Ev.Call) (g27 : AV → Hp → R1) (x37 : AV) (H : Hp) : R1 :=
 vq (intV (qae .add).f x37 (.int .i64 (.ofNat 1))) H fun a29 H =>
 g27 a29 H
def qi3 (call : Ev.Call) (g27 : AV → Hp → R1) (x0 x35 x37 : AV) (H : Hp) : R1 :=
 vq (idxS 1 x35 x37) H fun a31 H =>
 vq (qag H a31) H fun a32 H =>
 vq (nilC x0) H fun a33 H =>
 vq (qaf 768 a33) H fun a34 H =>
 vq (idxA 256 1 a34 a32) H fun a35 H =>
 ve (qa3 H a35 (.bool false)) fun _ H =>
 qi4 call g27 x37 H
def qi5 (call : Ev.Call) (q27e0 : Hp → R1) (x0 x35 x36 : AV) (g27 : AV → Hp → R1) (x37 : AV) (H : Hp) : R1 :=
 vq (intV (qae .lss).f x37 x36) H fun a28 H =>
 cd a28 (
 qi3 call g27 x0 x35 x37 H) (
 q27e0 H)
def qde (call : Ev.Call) (q27e0 : Hp → R1) (x0 x35 x36 : AV) (n : Nat) : AV → Hp → R1 :=
 Nat.rec (motive := fun _ => AV → Hp → R1) (fun _ _ => .bad) (fun _ ih => qi5 call q27e0 x0 x35 x36 ih) n
def qi6 (call : Ev.Call) (q27e0 : Hp → R1) (x0 x35 x36 : AV) : AV → Hp → R1 := qde call q27e0 x0 x35 x36 qb1
def qi2 (call : Ev.Call) (x0 x1 : AV) (H : Hp) : R1 :=
 vq (nilC x0) H fun a0 H =>
 vq (qaf 1024 a0) H fun a1 H =>
 vq (qag H a1) H fun a2 H =>
 ve (call (.f qo0) [a2, x1] H) fun a3 H =>
 vq (nilC x0) H fun a4 H =>
 vq (qaf 1024 a4) H fun a5 H =>
 vq (qag H a5) H fun a6 H =>
 vq (qa8 1 a6 (some a3) none none) H fun a7 H =>
 ve (call (.f qth) [a7] H) fun a8 H =>
 ve (call (.f qox) [a8] H) fun a9 H =>
 vq (lenSl a9) H fun a26 H =>
 qi6 call (fun H => qcn call x0 a3 a9 H) x0 a9 a26 (.int .i64 (.ofNat 0)) H
def qj4 (call : Ev.Call) (x0 x1 : AV) (H : Hp) : R1 :=
 vl (nilC x0) fun a39 =>
 vl (qaf 512 a39) fun a40 =>
 vl (idxA 256 1 a40 x1) fun a41 =>
 vl (qag H a41) fun a42 =>
 vl (nilC x0) fun a43 =>
 vl (qaf 256 a43) fun a44 =>
 vl (idxA 256 1 a44 x1) fun a45 =>
 vl (qag H a45) fun a46 =>
 vl (intV (qae .lss).f a42 a46) fun a47 =>
 cd a47 (
 .ok (.tup []) H) (
 qi2 call x0 x1 H)
def cLeave (call : Ev.Call) (x0 x1 : AV) (H : Hp) : R1 := qj4 call x0 x1 H
def q3a (call : Ev.Call) (x0 : AV) (H : Hp) : R1 :=
 vq (intV (qae .neq).f x0 x0) H fun a0 H =>
 .ok a0 H
def cNaN (call : Ev.Call) (x0 : AV) (H : Hp) : R1 := q3a call x0 H
def qib (call : Ev.Call) (H : Hp) : R1 :=
 .ok (.int .i64 (.negSucc 0)) H
def qs1 (call : Ev.Call) (g2 : AV → Hp → R1) (x8 : AV) (H : Hp) : R1 :=
 vq (intV (qae .add).f x8 (.int .i64 (.ofNat 1))) H fun a4 H =>
 g2 a4 H
def qs0 (call : Ev.Call) (q2r : AV → Hp → R1) (g2 : AV → Hp → R1) (x0 x1 x8 : AV) (H : Hp) : R1 :=
 vq (idxS 1 x0 x8) H fun a6 H =>
 vq (qag H a6) H fun a7 H =>
 vq (intV (qae .eql).f x1 a7) H fun a8 H =>
 cd a8 (
 q2r x8 H) (
 qs1 call g2 x8 H)
def qs2 (call : Ev.Call) (q2r : AV → Hp → R1) (q2e0 : Hp → R1) (x0 x1 x7 : AV) (g2 : AV → Hp → R1) (x8 : AV) (H : Hp) : R1 :=
 vq (intV (qae .lss).f x8 x7) H fun a3 H =>
 cd a3 (
 qs0 call q2r g2 x0 x1 x8 H) (
 q2e0 H)
def qia (call : Ev.Call) (q2r : AV → Hp → R1) (q2e0 : Hp → R1) (x0 x1 x7 : AV) (n : Nat) : AV → Hp → R1 :=
 Nat.rec (motive := fun _ => AV → Hp → R1) (fun _ _ => .bad) (fun _ ih => qs2 call q2r q2e0 x0 x1 x7 ih) n
def qs3 (call : Ev.Call) (q2r : AV → Hp → R1) (q2e0 : Hp → R1) (x0 x1 x7 : AV) : AV → Hp → R1 := qia call q2r q2e0 x0 x1 x7 qb1
def qzl (call : Ev.Call) (x0 x1 : AV) (H : Hp) : R1 :=
 vq (lenSl x0) H fun a1 H =>
 qs3 call (fun x4 H => .ok x4 H) (fun H => qib call H) x0 x1 a1 (.int .i64 (.ofNat 0)) H
def sIdx (call : Ev.Call) (x0 x1 : AV) (H : Hp) : R1 := qzl call x0 x1 H
def qzc (call : Ev.Call) (x0 : AV) (H : Hp) : R1 :=
 vq (box1 H.nx x0) H fun a0 H =>
 .ok (.fn qca [] [a0]) H
def sVal (call : Ev.Call) (x0 : AV) (H : Hp) : R1 := qzc call x0 H
def qze (call : Ev.Call) (x0 : AV) (H : Hp) : R1 :=
 ve (call (.f qo1) [x0] H) fun a0 H =>
 ve (call (.f qdh) [a0] H) fun a1 H =>
 .ok a0 H
def sSrt (call : Ev.Call) (x0 : AV) (H : Hp) : R1 := qze call x0 H
def qn3 (call : Ev.Call) (g2 : AV → Hp → R1) (x7 : AV) (H : Hp) : R1 :=
 vq (intV (qae .add).f x7 (.int .i64 (.ofNat 1))) H fun a4 H =>
 g2 a4 H
def qkp (call : Ev.Call) (q2r : Hp → R1) (g2 : AV → Hp → R1) (x0 x5 x7 : AV) (H : Hp) : R1 :=
 vq (idxS 1 x5 x7) H fun a6 H =>
 vq (qag H a6) H fun a7 H =>
 ve (qpu call x0 [a7] H) fun a8 H =>
 vq ((unS .not).f a8) H fun a9 H =>
 cd a9 (
 q2r H) (
 qn3 call g2 x7 H)
def qn4 (call : Ev.Call) (q2r : Hp → R1) (q2e0 : Hp → R1) (x0 x5 x6 : AV) (g2 : AV → Hp → R1) (x7 : AV) (H : Hp) : R1 :=
 vq (intV (qae .lss).f x7 x6) H fun a3 H =>
 cd a3 (
 qkp call q2r g2 x0 x5 x7 H) (
 q2e0 H)
def qf4 (call : Ev.Call) (q2r : Hp → R1) (q2e0 : Hp → R1) (x0 x5 x6 : AV) (n : Nat) : AV → Hp → R1 :=
 Nat.rec (motive := fun _ => AV → Hp → R1) (fun _ _ => .bad) (fun _ ih => qn4 call q2r q2e0 x0 x5 x6 ih) n
def qn5 (call : Ev.Call) (q2r : Hp → R1) (q2e0 : Hp → R1) (x0 x5 x6 : AV) : AV → Hp → R1 := qf4 call q2r q2e0 x0 x5 x6 qb1
def qss (call : Ev.Call) (x0 x1 : AV) (H : Hp) : R1 :=
 vq (qag H x1) H fun a0 H =>
 vq (lenSl a0) H fun a1 H =>
 qn5 call (fun H => .ok (.tup []) H) (fun H => .ok (.tup []) H) x0 a0 a1 (.int .i64 (.ofNat 0)) H
def sValA (call : Ev.Call) (x0 x1 : AV) (H : Hp) : R1 := qss call x0 x1 H
def qzn (call : Ev.Call) (x0 : AV) (H : Hp) : R1 :=
 ve (call (.f qo2) [(.nilsl), x0] H) fun a0 H =>
 .ok a0 H
def sCol (call : Ev.Call) (x0 : AV) (H : Hp) : R1 := qzn call x0 H
end Go.Di
end
noncomputable section
namespace Go.Di
open Go.Ev
structure Lnk (c d : Ev.Call) : Prop where
 stNum : ∀ (x0 : AV) (H : Hp), c (.f qow) [x0] H = Di.stNum d x0 H
 stWit : ∀ (x0 : AV) (H : Hp), c (.f qov) [x0] H = Di.stWit d x0 H
 cMix : ∀ (x0 : AV) (H : Hp), c (.f qo7) [x0] H = Di.cMix d x0 H
 stStp : ∀ (x0 : AV) (H : Hp), c (.f qjy) [x0] H = Di.stStp d x0 H
 stGre : ∀ (x0 : AV) (H : Hp), c (.f qht) [x0] H = Di.stGre d x0 H
 stWiA : ∀ (x0 x1 : AV) (H : Hp), c (.f qhs) [x0, x1] H = Di.stWiA d x0 x1 H
 sIxF : ∀ (x0 x1 : AV) (H : Hp), c (.f qoz) [x0, x1] H = Di.sIxF d x0 x1 H
 gPth : ∀ (x0 x1 x2 : AV) (H : Hp), c (.f qli) [x0, x1, x2] H = Di.gPth d x0 x1 x2 H
 sClp : ∀ (x0 : AV) (H : Hp), c (.f qfs) [x0] H = Di.sClp d x0 H
 gChk : ∀ (x0 : AV) (H : Hp), c (.f qlk) [x0] H = Di.gChk d x0 H
 cParts : ∀ (x0 : AV) (H : Hp), c (.f qhv) [x0] H = Di.cParts d x0 H
 cRdy : ∀ (x0 x1 : AV) (H : Hp), c (.f qo5) [x0, x1] H = Di.cRdy d x0 x1 H
 sClpS : ∀ (x0 : AV) (H : Hp), c (.f qhu) [x0] H = Di.sClpS d x0 H
 gOfN : ∀ (x0 x1 : AV) (H : Hp), c (.f qlj) [x0, x1] H = Di.gOfN d x0 x1 H
 cOrE : ∀ (x0 : AV) (H : Hp), c (.f qo6) [x0] H = Di.cOrE d x0 H
 gWlk : ∀ (x0 x1 : AV) (H : Hp), c (.f qo3) [x0, x1] H = Di.gWlk d x0 x1 H
 sRvs : ∀ (x0 : AV) (H : Hp), c (.f qoy) [x0] H = Di.sRvs d x0 H
 gCmp : ∀ (x0 x1 : AV) (H : Hp), c (.f qo4) [x0, x1] H = Di.gCmp d x0 x1 H
 cWalk : ∀ (x0 x1 : AV) (H : Hp), c (.f qjz) [x0, x1] H = Di.cWalk d x0 x1 H
 rdyB : ∀ (x0 x1 x2 x3 : AV) (H : Hp), c (.f qft) [x0, x1, x2, x3] H = Di.rdyB d x0 x1 x2 x3 H
 cCmp : ∀ (x0 x1 : AV) (H : Hp), c (.f qik) [x0, x1] H = Di.cCmp d x0 x1 H
 gSgn : ∀ (x0 : AV) (H : Hp), c (.f qlh) [x0] H = Di.gSgn d x0 H
 cOr : ∀ (x0 : AV) (H : Hp), c (.f qvw) [x0] H = Di.cOr d x0 H
 cEnter : ∀ (x0 x1 : AV) (H : Hp), c (.f qfu) [x0, x1] H = Di.cEnter d x0 x1 H
 cLeave : ∀ (x0 x1 : AV) (H : Hp), c (.f qeg) [x0, x1] H = Di.cLeave d x0 x1 H
 cNaN : ∀ (x0 : AV) (H : Hp), c (.f qll) [x0] H = Di.cNaN d x0 H
 sIdx : ∀ (x0 x1 : AV) (H : Hp), c (.f qo0) [x0, x1] H = Di.sIdx d x0 x1 H
 sVal : ∀ (x0 : AV) (H : Hp), c (.f qth) [x0] H = Di.sVal d x0 H
 sSrt : ∀ (x0 : AV) (H : Hp), c (.f qox) [x0] H = Di.sSrt d x0 H
 sValA : ∀ (x0 x1 : AV) (H : Hp), c (.f qca) [x0, x1] H = Di.sValA d x0 x1 H
 sCol : ∀ (x0 : AV) (H : Hp), c (.f qo1) [x0] H = Di.sCol d x0 H
abbrev qjl (C : Nat → Ev.Call) : Prop := ∀ k, Lnk (C (k + 1)) (C k)
end Go.Di
end
noncomputable section
namespace Go.Di
open Go.Ev
end Go.Di
end
noncomputable section
namespace Go.Di
open Go.Ev
structure LnkS (c d : Ev.Call) : Prop where
 srtF : ∀ (b o n m : Nat) (x : Bool) (H : Hp) (r : R1), qjf H b o n = some r → c (.f qbl) [.sl b o n m x, .fn qg4 [] []] H = r
 srtN : ∀ (H : Hp), c (.f qbl) [.nilsl, .fn qg4 [] []] H = .ok (.tup []) H
 srt0 : ∀ (b o m : Nat) (x : Bool) (H : Hp), c (.f qbl) [.sl b o 0 m x, .fn qg4 [] []] H = .ok (.tup []) H
abbrev qcb (C : Nat → Ev.Call) : Prop := ∀ k, LnkS (C (k + 1)) (C k)
end Go.Di
end
noncomputable section
namespace Go.Di
open Go.Ev
def qbs (call : Ev.Call) (x0 : AV) (H : Hp) : R1 :=
 .ok x0 H
def qfl (call : Ev.Call) (g1 : AV → Hp → R1) (x3 : AV) (H : Hp) : R1 :=
 vq (intV (qae .add).f x3 (.int .i64 (.ofNat 1))) H fun a2 H =>
 g1 a2 H
def qbk (call : Ev.Call) (q1r : AV → Hp → R1) (x0 x3 : AV) (H : Hp) : R1 :=
 vq (qa8 1 x0 (some x3) none none) H fun a11 H =>
 ve (ql2 [.int .i64 (.ofNat 0)] H a11) fun _ H =>
 vq (qa8 1 x0 none (some x3) none) H fun a13 H =>
 q1r a13 H
def qb9 (call : Ev.Call) (g15 : AV → AV → Hp → R1) (x3 x5 : AV) (H : Hp) : R1 :=
 vq (intV (qae .add).f x5 (.int .i64 (.ofNat 1))) H fun a16 H =>
 g15 x3 a16 H
def qey (call : Ev.Call) (g15 : AV → AV → Hp → R1) (x0 x3 x4 x5 : AV) (H : Hp) : R1 :=
 vl (idxS 1 x4 x5) fun a18 =>
 vl (qag H a18) fun a19 =>
 vl (intV (qae .sub).f x5 (.int .i64 (.ofNat 1))) fun a20 =>
 vl (idxS 1 x4 a20) fun a21 =>
 vl (qag H a21) fun a22 =>
 vl (intV (qae .neq).f a19 a22) fun a23 =>
 cd a23 (
 vq (idxS 1 x4 x5) H fun a24 H =>
 vq (qag H a24) H fun a25 H =>
 vq (idxS 1 x0 x3) H fun a26 H =>
 ve (qa3 H a26 a25) fun _ H =>
 vq (intV (qae .add).f x3 (.int .i64 (.ofNat 1))) H fun a28 H =>
 qb9 call g15 a28 x5 H) (
 qb9 call g15 x3 x5 H)
def qez (call : Ev.Call) (q15e2 : AV → Hp → R1) (x0 x4 : AV) (g15 : AV → AV → Hp → R1) (x3 x5 : AV) (H : Hp) : R1 :=
 vq (lenSl x4) H fun a30 H =>
 vq (intV (qae .lss).f x5 a30) H fun a31 H =>
 cd a31 (
 qey call g15 x0 x3 x4 x5 H) (
 q15e2 x3 H)
def qbw (call : Ev.Call) (q15e2 : AV → Hp → R1) (x0 x4 : AV) (n : Nat) : AV → AV → Hp → R1 :=
 Nat.rec (motive := fun _ => AV → AV → Hp → R1) (fun _ _ _ => .bad) (fun _ ih => qez call q15e2 x0 x4 ih) n
def qe0 (call : Ev.Call) (q15e2 : AV → Hp → R1) (x0 x4 : AV) : AV → AV → Hp → R1 := qbw call q15e2 x0 x4 qb1
def qex (call : Ev.Call) (q1r : AV → Hp → R1) (g1 : AV → Hp → R1) (x0 x3 : AV) (H : Hp) : R1 :=
 vl (idxS 1 x0 x3) fun a4 =>
 vl (qag H a4) fun a5 =>
 vl (intV (qae .sub).f x3 (.int .i64 (.ofNat 1))) fun a6 =>
 vl (idxS 1 x0 a6) fun a7 =>
 vl (qag H a7) fun a8 =>
 vl (intV (qae .eql).f a5 a8) fun a9 =>
 cd a9 (
 vq (qa8 1 x0 (some x3) none none) H fun a10 H =>
 qe0 call (fun x3 H => qbk call q1r x0 x3 H) x0 a10 x3 (.int .i64 (.ofNat 1)) H) (
 qfl call g1 x3 H)
def qfm (call : Ev.Call) (q1r : AV → Hp → R1) (q1e0 : Hp → R1) (x0 : AV) (g1 : AV → Hp → R1) (x3 : AV) (H : Hp) : R1 :=
 vq (lenSl x0) H fun a33 H =>
 vq (intV (qae .lss).f x3 a33) H fun a34 H =>
 cd a34 (
 qex call q1r g1 x0 x3 H) (
 q1e0 H)
def qb5 (call : Ev.Call) (q1r : AV → Hp → R1) (q1e0 : Hp → R1) (x0 : AV) (n : Nat) : AV → Hp → R1 :=
 Nat.rec (motive := fun _ => AV → Hp → R1) (fun _ _ => .bad) (fun _ ih => qfm call q1r q1e0 x0 ih) n
def qfn (call : Ev.Call) (q1r : AV → Hp → R1) (q1e0 : Hp → R1) (x0 : AV) : AV → Hp → R1 := qb5 call q1r q1e0 x0 qb1
def qew (call : Ev.Call) (x0 : AV) (H : Hp) : R1 :=
 qfn call (fun x2 H => .ok x2 H) (fun H => qbs call x0 H) x0 (.int .i64 (.ofNat 1)) H
def qg3 (call : Ev.Call) (x0 : AV) (H : Hp) : R1 :=
 vq (lenSl x0) H fun a36 H =>
 vq (intV (qae .lss).f a36 (.int .i64 (.ofNat 2))) H fun a37 H =>
 cd a37 (
 .ok x0 H) (
 qew call x0 H)
def o_Compact (call : Ev.Call) (x0 : AV) (H : Hp) : R1 := qg3 call x0 H
end Go.Di
end
noncomputable section
namespace Go.Di
open Go.Ev
structure LnkO (c d : Ev.Call) : Prop where
 o_Compact : ∀ (x0 : AV) (H : Hp), c (.f qdt) [x0] H = Di.o_Compact d x0 H
 srt : ∀ (b o n m : Nat) (x : Bool) (H : Hp) (r : R1), qqq H b o n = some r → c (.f qdh) [.sl b o n m x] H = r
 srtN : ∀ (H : Hp), c (.f qdh) [.nilsl] H = .ok (.tup []) H
abbrev qc0 (C : Nat → Ev.Call) : Prop := ∀ k, LnkO (C (k + 1)) (C k)
end Go.Di
end
