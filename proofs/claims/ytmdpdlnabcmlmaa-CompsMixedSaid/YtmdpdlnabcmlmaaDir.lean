/-
 For countersignlaw17.CompsMixed: the functions of the law in direct style (printed by a program). No conditions beyond those that each theorem states.
-/
import Derived.Test.YtmdpdlnabcmlmaaEv4
import Derived.Test.YtmdpdlnabcmlmaaGraB
set_option linter.unusedSimpArgs false
set_option linter.unusedVariables false
noncomputable section
namespace Go.Di
open Go.Ev
set_option linter.unusedVariables false
def zea : FuncId := 5
def qub : FuncId := 8
def q2m : FuncId := 9
def quf : FuncId := 20
def qt9 : FuncId := 21
def q2l : FuncId := 14
def qkt : FuncId := 22
def qwq : FuncId := 11
def qck : FuncId := 15
def qua : FuncId := 24
def qqb : FuncId := 25
def q2o : FuncId := 10
def qmn : FuncId := 28
def qt8 : FuncId := 38
def qt7 : FuncId := 39
def qud : FuncId := 23
def qky : FuncId := 27
def que : FuncId := 26
def qks : FuncId := 29
def quc : FuncId := 37
def qnz : FuncId := 43
def qjt : FuncId := 41
def qhv : FuncId := 42
def qmo : FuncId := 49
def qqc : FuncId := 50
def q2n : FuncId := 48
def qhy : FuncId := 52
def qf8 : FuncId := 53
def qju : FuncId := 65
def qt4 : FuncId := 74
def qz0 : FuncId := 76
def qt3 : FuncId := 75
def qcz : FuncId := 86
def qt5 : FuncId := 85
def qt6 : FuncId := 89
def qig : FuncId := 47
def qb1 : FuncId := 40
def qmm : FuncId := 63
def qml : FuncId := 64
def qgx : FuncId := 51
def qkq : FuncId := 78
def qe7 : FuncId := 79
def qkr : FuncId := 66
def q8w : FuncId := 67
def zcl : FuncId := 68
def zcj : FuncId := 69
def zci : FuncId := 70
def q8u : FuncId := 71
def zck : FuncId := 72
def q8v : FuncId := 73
def qdv : FuncId := 35
def qe8 : FuncId := 36
def qgy : FuncId := 46
def qkw : FuncId := 54
def qkx : FuncId := 55
def qny : FuncId := 56
def qnw : FuncId := 57
def qnv : FuncId := 58
def qhx : FuncId := 59
def qbe : FuncId := 60
def qnx : FuncId := 61
def qku : FuncId := 62
def qhw : FuncId := 77
def qdi : FuncId := 80
def qkv : FuncId := 81
def qf7 : FuncId := 87
def qjr (call : Ev.Call) (H : Hp) : R1 :=
 ve (call (.f qck) [] H) fun a22 H =>
 .ok a22 H
def qzj (call : Ev.Call) (g24 : AV → Hp → R1) (x14 : AV) (H : Hp) : R1 :=
 vq (intV (qaa .add).f x14 (.int .i64 (.ofNat 1))) H fun a25 H =>
 g24 a25 H
def qzi (call : Ev.Call) (q24r : AV → Hp → R1) (g24 : AV → Hp → R1) (x10 x14 : AV) (H : Hp) : R1 :=
 vq (idxS 1 x10 x14) H fun a27 H =>
 vq (qae H a27) H fun a28 H =>
 cd a28 (
 q24r (.bool false) H) (
 qzj call g24 x14 H)
def qzn (call : Ev.Call) (q24r : AV → Hp → R1) (q24e6 : Hp → R1) (x3 x10 : AV) (g24 : AV → Hp → R1) (x14 : AV) (H : Hp) : R1 :=
 vq (qak 0 x3) H fun a30 H =>
 vq (qae H a30) H fun a31 H =>
 vq (intV (qaa .lss).f x14 a31) H fun a32 H =>
 cd a32 (
 qzi call q24r g24 x10 x14 H) (
 q24e6 H)
def qmi (call : Ev.Call) (q24r : AV → Hp → R1) (q24e6 : Hp → R1) (x3 x10 : AV) (n : Nat) : AV → Hp → R1 :=
 Nat.rec (motive := fun _ => AV → Hp → R1) (fun _ _ => .bad) (fun _ ih => qzn call q24r q24e6 x3 x10 ih) n
def qzr (call : Ev.Call) (q24r : AV → Hp → R1) (q24e6 : Hp → R1) (x3 x10 : AV) : AV → Hp → R1 := qmi call q24r q24e6 x3 x10 qa6
def qhu (call : Ev.Call) (x3 x10 : AV) (H : Hp) : R1 :=
 qzr call (fun x2 H => .ok x2 H) (fun H => qjr call H) x3 x10 (.int .i64 (.ofNat 0)) H
def qzh (call : Ev.Call) (g34 : AV → Hp → R1) (x13 : AV) (H : Hp) : R1 :=
 vq (intV (qaa .add).f x13 (.int .i64 (.ofNat 1))) H fun a35 H =>
 g34 a35 H
def qzg (call : Ev.Call) (g34 : AV → Hp → R1) (x5 x10 x13 : AV) (H : Hp) : R1 :=
 vq (idxS 1 x5 x13) H fun a37 H =>
 vq (qae H a37) H fun a38 H =>
 vq (idxS 1 x10 a38) H fun a39 H =>
 ve (qat H a39 (.bool false)) fun _ H =>
 qzh call g34 x13 H
def qzf (call : Ev.Call) (q34r : AV → Hp → R1) (g34 : AV → Hp → R1) (x5 x10 x13 : AV) (H : Hp) : R1 :=
 vq (idxS 1 x5 x13) H fun a42 H =>
 vq (qae H a42) H fun a43 H =>
 vq (idxS 1 x10 a43) H fun a44 H =>
 vq (qae H a44) H fun a45 H =>
 vq ((unS .not).f a45) H fun a46 H =>
 cd a46 (
 q34r (.bool false) H) (
 qzg call g34 x5 x10 x13 H)
def qzm (call : Ev.Call) (q34r : AV → Hp → R1) (q34e4 : Hp → R1) (x5 x10 : AV) (g34 : AV → Hp → R1) (x13 : AV) (H : Hp) : R1 :=
 vq (qa5 x5) H fun a48 H =>
 vq (intV (qaa .lss).f x13 a48) H fun a49 H =>
 cd a49 (
 qzf call q34r g34 x5 x10 x13 H) (
 q34e4 H)
def qjp (call : Ev.Call) (q34r : AV → Hp → R1) (q34e4 : Hp → R1) (x5 x10 : AV) (n : Nat) : AV → Hp → R1 :=
 Nat.rec (motive := fun _ => AV → Hp → R1) (fun _ _ => .bad) (fun _ ih => qzm call q34r q34e4 x5 x10 ih) n
def qzq (call : Ev.Call) (q34r : AV → Hp → R1) (q34e4 : Hp → R1) (x5 x10 : AV) : AV → Hp → R1 := qjp call q34r q34e4 x5 x10 qa6
def qet (call : Ev.Call) (x3 x5 x10 : AV) (H : Hp) : R1 :=
 qzq call (fun x2 H => .ok x2 H) (fun H => qhu call x3 x10 H) x5 x10 (.int .i64 (.ofNat 0)) H
def qjq (call : Ev.Call) (g51 : AV → Hp → R1) (x11 : AV) (H : Hp) : R1 :=
 vq (intV (qaa .add).f x11 (.int .i64 (.ofNat 1))) H fun a52 H =>
 g51 a52 H
def qmj (call : Ev.Call) (g54 : AV → Hp → R1) (x12 : AV) (H : Hp) : R1 :=
 vq (intV (qaa .add).f x12 (.int .i64 (.ofNat 1))) H fun a55 H =>
 g54 a55 H
def qze (call : Ev.Call) (g54 : AV → Hp → R1) (x3 x7 x9 x10 x11 x12 : AV) (H : Hp) : R1 :=
 vq (qak 1 x3) H fun a57 H =>
 vq (qae H a57) H fun a58 H =>
 vq (qak 0 x3) H fun a59 H =>
 vq (qae H a59) H fun a60 H =>
 vq (intV (qaa .mul).f x11 a60) H fun a61 H =>
 vq (intV (qaa .add).f a61 x12) H fun a62 H =>
 vq (idxS 1 a58 a62) H fun a63 H =>
 vq (qae H a63) H fun a64 H =>
 vq (intV (qaa .gtr).f a64 (.int .i64 (.ofNat 1))) H fun a65 H =>
 vg (qad true a65) (.val x7) H fun a66 H =>
 vg (qad true a65) (.val x12) H fun a67 H =>
 vg (qad true a65) (qak 0 x3) H fun a68 H =>
 vg (qad true a65) (qae H a68) H fun a69 H =>
 vg (qad true a65) (intV (qaa .mul).f a67 a69) H fun a70 H =>
 vg (qad true a65) (.val x11) H fun a71 H =>
 vg (qad true a65) (intV (qaa .add).f a70 a71) H fun a72 H =>
 vg (qad true a65) (idxS 1 a66 a72) H fun a73 H =>
 vg (qad true a65) (qae H a73) H fun a74 H =>
 vg (qad true a65) (intV (qaa .geq).f a74 (.int .i64 (.ofNat 0))) H fun a75 H =>
 vq (qbm a65 a75 (.bool false)) H fun a76 H =>
 cd a76 (
 vq (idxS 1 x9 x11) H fun a77 H =>
 vq (qae H a77) H fun a78 H =>
 vq (idxS 1 x10 a78) H fun a79 H =>
 ve (qat H a79 (.bool true)) fun _ H =>
 qmj call g54 x12 H) (
 qmj call g54 x12 H)
def qzk (call : Ev.Call) (q54e2 : Hp → R1) (x3 x7 x9 x10 x11 : AV) (g54 : AV → Hp → R1) (x12 : AV) (H : Hp) : R1 :=
 vq (qak 0 x3) H fun a82 H =>
 vq (qae H a82) H fun a83 H =>
 vq (intV (qaa .lss).f x12 a83) H fun a84 H =>
 cd a84 (
 qze call g54 x3 x7 x9 x10 x11 x12 H) (
 q54e2 H)
def qmh (call : Ev.Call) (q54e2 : Hp → R1) (x3 x7 x9 x10 x11 : AV) (n : Nat) : AV → Hp → R1 :=
 Nat.rec (motive := fun _ => AV → Hp → R1) (fun _ _ => .bad) (fun _ ih => qzk call q54e2 x3 x7 x9 x10 x11 ih) n
def qzo (call : Ev.Call) (q54e2 : Hp → R1) (x3 x7 x9 x10 x11 : AV) : AV → Hp → R1 := qmh call q54e2 x3 x7 x9 x10 x11 qa6
def qzd (call : Ev.Call) (g51 : AV → Hp → R1) (x3 x7 x9 x10 x11 : AV) (H : Hp) : R1 :=
 qzo call (fun H => qjq call g51 x11 H) x3 x7 x9 x10 x11 (.int .i64 (.ofNat 0)) H
def qzl (call : Ev.Call) (q51e0 : Hp → R1) (x3 x7 x9 x10 : AV) (g51 : AV → Hp → R1) (x11 : AV) (H : Hp) : R1 :=
 vq (qak 0 x3) H fun a86 H =>
 vq (qae H a86) H fun a87 H =>
 vq (intV (qaa .lss).f x11 a87) H fun a88 H =>
 cd a88 (
 qzd call g51 x3 x7 x9 x10 x11 H) (
 q51e0 H)
def qfi (call : Ev.Call) (q51e0 : Hp → R1) (x3 x7 x9 x10 : AV) (n : Nat) : AV → Hp → R1 :=
 Nat.rec (motive := fun _ => AV → Hp → R1) (fun _ _ => .bad) (fun _ ih => qzl call q51e0 x3 x7 x9 x10 ih) n
def qzp (call : Ev.Call) (q51e0 : Hp → R1) (x3 x7 x9 x10 : AV) : AV → Hp → R1 := qfi call q51e0 x3 x7 x9 x10 qa6
def qzc (call : Ev.Call) (x3 x5 : AV) (H : Hp) : R1 :=
 vq (qbo 2 H x3) H fun a13 H =>
 ve (call (.f qkt) [a13] H) fun a14 H =>
 vq (qbo 2 H x3) H fun a15 H =>
 ve (call (.f qwq) [a15] H) fun a16 H =>
 vq (extr 0 a16) H fun a17 H =>
 vq (extr 1 a16) H fun a18 H =>
 vq (qak 0 x3) H fun a19 H =>
 vq (qae H a19) H fun a20 H =>
 vq (qg6 [.bool false] 1 H.nx a20 a20) H fun a21 H =>
 qzp call (fun H => qet call x3 x5 a21 H) x3 a14 a18 a21 (.int .i64 (.ofNat 0)) H
def zfy (call : Ev.Call) (x0 : AV) (H : Hp) : R1 :=
 vq (boxA 2 H.nx x0) H fun a0 H =>
 vq (qbo 2 H a0) H fun a1 H =>
 ve (call (.f qub) [a1] H) fun a2 H =>
 vq (.new (.ptr H.nx 0) (qab 0 [.int .i64 (.ofNat 0), .nilsl])) H fun a3 H =>
 ve (qch 2 H a3 a2) fun _ H =>
 vq (qbo 2 H a3) H fun a5 H =>
 ve (call (.f q2m) [a5] H) fun a6 H =>
 vq (.new (.ptr H.nx 0) (qab 0 [.int .i64 (.ofNat 0), .nilsl])) H fun a7 H =>
 ve (qch 2 H a7 a6) fun _ H =>
 vq (qbo 2 H a7) H fun a9 H =>
 ve (call (.f quf) [a9] H) fun a10 H =>
 vq (extr 0 a10) H fun a11 H =>
 vq (extr 1 a10) H fun a12 H =>
 vq (qbo 2 H a3) H fun a90 H =>
 ve (call (.f qt9) [a90] H) fun a91 H =>
 ve (call (.f q2l) [a11, a12, a91, (.int .i64 (.ofNat 0))] H) fun a92 H =>
 vq ((unS .not).f a92) H fun a93 H =>
 cd a93 (
 .ok (.bool false) H) (
 qzc call a3 a11 H)
def lwM (call : Ev.Call) (x0 : AV) (H : Hp) : R1 := zfy call x0 H
def qjv (call : Ev.Call) (x2 x3 x4 : AV) (H : Hp) : R1 :=
 ve (call (.f qua) [x3, x4] H) fun a6 H =>
 ve (qch 2 H x2 a6) fun _ H =>
 finR (rV (qbo 2 H x2)) H
def qui (call : Ev.Call) (g9 : AV → AV → Hp → R1) (x4 x5 : AV) (H : Hp) : R1 :=
 vq (intV (qaa .add).f x5 (.int .i64 (.ofNat 1))) H fun a10 H =>
 g9 x4 a10 H
def quh (call : Ev.Call) (g9 : AV → AV → Hp → R1) (x1 x3 x4 x5 : AV) (H : Hp) : R1 :=
 dz 31 H fun b12 H =>
 dq false false 0 0 (b12 + 0) H [] [] (fun _ => .val x4) (some true) fun a13 H p w =>
 dq false false 1 0 (b12 + 1) H p w (fun _ => qak 1 x1) (some true) fun a14 H p w =>
 dq true false 2 2 (b12 + 2) H p w (fun H => qae H a14) (some true) fun a15 H p w =>
 dq false false 3 0 (b12 + 3) H p w (fun _ => .val x5) (some true) fun a16 H p w =>
 dq false false 4 14 (b12 + 4) H p w (fun _ => idxS 3 a15 a16) (some true) fun a17 H p w =>
 dq false false 5 30 (b12 + 5) H p w (fun _ => idxA 3 1 a17 (.int .i64 (.ofNat 0))) (some true) fun a18 H p w =>
 dq true false 6 62 (b12 + 6) H p w (fun H => qae H a18) (some true) fun a19 H p w =>
 dq false true 7 126 (b12 + 7) H p w (fun _ => qfl .i64 a19) (some true) fun a20 H p w =>
 dq false false 8 0 (b12 + 8) H p w (fun _ => .val x3) (some true) fun a21 H p w =>
 dq false false 9 510 (b12 + 9) H p w (fun _ => intV (qaa .rem).f a20 a21) (some true) fun a22 H p w =>
 dq false false 10 0 (b12 + 10) H p w (fun _ => qak 1 x1) (some true) fun a23 H p w =>
 dq true false 11 1024 (b12 + 11) H p w (fun H => qae H a23) (some true) fun a24 H p w =>
 dq false false 12 0 (b12 + 12) H p w (fun _ => .val x5) (some true) fun a25 H p w =>
 dq false false 13 7168 (b12 + 13) H p w (fun _ => idxS 3 a24 a25) (some true) fun a26 H p w =>
 dq false false 14 15360 (b12 + 14) H p w (fun _ => idxA 3 1 a26 (.int .i64 (.ofNat 1))) (some true) fun a27 H p w =>
 dq true false 15 31744 (b12 + 15) H p w (fun H => qae H a27) (some true) fun a28 H p w =>
 dq false true 16 64512 (b12 + 16) H p w (fun _ => qfl .i64 a28) (some true) fun a29 H p w =>
 dq false false 17 0 (b12 + 17) H p w (fun _ => .val x3) (some true) fun a30 H p w =>
 dq false false 18 261120 (b12 + 18) H p w (fun _ => intV (qaa .rem).f a29 a30) (some true) fun a31 H p w =>
 dq false false 19 0 (b12 + 19) H p w (fun _ => qak 1 x1) (some true) fun a32 H p w =>
 dq true false 20 524288 (b12 + 20) H p w (fun H => qae H a32) (some true) fun a33 H p w =>
 dq false false 21 0 (b12 + 21) H p w (fun _ => .val x5) (some true) fun a34 H p w =>
 dq false false 22 3670016 (b12 + 22) H p w (fun _ => idxS 3 a33 a34) (some true) fun a35 H p w =>
 dq false false 23 7864320 (b12 + 23) H p w (fun _ => idxA 3 1 a35 (.int .i64 (.ofNat 2))) (some true) fun a36 H p w =>
 dq true false 24 16252928 (b12 + 24) H p w (fun H => qae H a36) (some true) fun a37 H p w =>
 dq false false 25 33030144 (b12 + 25) H p w (fun _ => intV (qaa .rem).f a37 (.int .u8 (.ofNat 2))) (some true) fun a38 H p w =>
 dq false true 26 66584576 (b12 + 26) H p w (fun _ => qfl .i64 a38) (some true) fun a39 H p w =>
 dq false false 27 134217726 (b12 + 27) H p w (fun _ => aggN (qax [.int .i64 (.ofNat 0), .int .i64 (.ofNat 0), .int .i64 (.ofNat 0)] [(0, 1, a22), (1, 1, a31), (2, 1, a39)])) (some true) fun a40 H p w =>
 dq false true 28 268435454 (b12 + 28) H p w (fun _ => qgu 1 (b12 + 28) (qax (reps [.int .i64 (.ofNat 0), .int .i64 (.ofNat 0), .int .i64 (.ofNat 0)] 1) [(0, 3, a40)])) (some true) fun a41 H p w =>
 de 536870911 H p w (qa8 3 24 (qaw 536870911 p H) a13 (qb7 3 (qaw 536870911 p H) a41)) (some true) fun a42 H p w =>
 dq false false 30 1073741823 (b12 + 30) H p w (fun _ => .val a42) (some true) fun a43 H p w =>
 dz2 p H fun H =>
 qui call g9 a43 x5 H
def qz2 (call : Ev.Call) (q9e0 : AV → Hp → R1) (x1 x3 : AV) (g9 : AV → AV → Hp → R1) (x4 x5 : AV) (H : Hp) : R1 :=
 vq (intV (qaa .gtr).f x3 (.int .i64 (.ofNat 0))) H fun a45 H =>
 vg (qad true a45) (.val x5) H fun a46 H =>
 vg (qad true a45) (qak 1 x1) H fun a47 H =>
 vg (qad true a45) (qae H a47) H fun a48 H =>
 vg (qad true a45) (qa5 a48) H fun a49 H =>
 vg (qad true a45) (intV (qaa .lss).f a46 a49) H fun a50 H =>
 vq (qbm a45 a50 (.bool false)) H fun a51 H =>
 vg (qad true a51) (.val x5) H fun a52 H =>
 vg (qad true a51) (intV (qaa .lss).f a52 (.int .i64 (.ofNat 40))) H fun a53 H =>
 vq (qbm a51 a53 (.bool false)) H fun a54 H =>
 cd a54 (
 quh call g9 x1 x3 x4 x5 H) (
 q9e0 x4 H)
def qmp (call : Ev.Call) (q9e0 : AV → Hp → R1) (x1 x3 : AV) (n : Nat) : AV → AV → Hp → R1 :=
 Nat.rec (motive := fun _ => AV → AV → Hp → R1) (fun _ _ _ => .bad) (fun _ ih => qz2 call q9e0 x1 x3 ih) n
def qz3 (call : Ev.Call) (q9e0 : AV → Hp → R1) (x1 x3 : AV) : AV → AV → Hp → R1 := qmp call q9e0 x1 x3 qa6
def q8z (call : Ev.Call) (x0 : AV) (H : Hp) : R1 :=
 vq (boxA 2 H.nx x0) H fun a0 H =>
 vq (.new (.ptr H.nx 0) (qab 0 [.int .i64 (.ofNat 0), .nilsl])) H fun a1 H =>
 vq (qak 0 a0) H fun a2 H =>
 vq (qae H a2) H fun a3 H =>
 vq (intV (qaa .rem).f a3 (.int .u8 (.ofNat 13))) H fun a4 H =>
 vq (qfl .i64 a4) H fun a5 H =>
 qz3 call (fun x4 H => qjv call a1 a5 x4 H) a0 a5 (.nilsl) (.int .i64 (.ofNat 0)) H
def hMat (call : Ev.Call) (x0 : AV) (H : Hp) : R1 := q8z call x0 H
def qjs (call : Ev.Call) (x2 x3 : AV) (H : Hp) : R1 :=
 vq (qbo 2 H x3) H fun a9 H =>
 ve (qch 2 H x2 a9) fun _ H =>
 finR (rV (qbo 2 H x2)) H
def qzv (call : Ev.Call) (g12 : AV → Hp → R1) (x5 : AV) (H : Hp) : R1 :=
 vq (intV (qaa .add).f x5 (.int .i64 (.ofNat 1))) H fun a13 H =>
 g12 a13 H
def qzu (call : Ev.Call) (g12 : AV → Hp → R1) (x3 x4 x5 : AV) (H : Hp) : R1 :=
 dz 23 H fun b15 H =>
 dq false false 0 0 (b15 + 0) H [] [] (fun _ => qak 1 x3) (some true) fun a16 H p w =>
 dq true false 1 1 (b15 + 1) H p w (fun H => qae H a16) (some true) fun a17 H p w =>
 dq false false 2 0 (b15 + 2) H p w (fun _ => .val x4) (some true) fun a18 H p w =>
 dq false false 3 0 (b15 + 3) H p w (fun _ => .val x5) (some true) fun a19 H p w =>
 dq false false 4 12 (b15 + 4) H p w (fun _ => idxS 3 a18 a19) (some true) fun a20 H p w =>
 dq false false 5 28 (b15 + 5) H p w (fun _ => idxA 3 1 a20 (.int .i64 (.ofNat 0))) (some true) fun a21 H p w =>
 dq true false 6 60 (b15 + 6) H p w (fun H => qae H a21) (some true) fun a22 H p w =>
 dq false false 7 0 (b15 + 7) H p w (fun _ => .val x4) (some true) fun a23 H p w =>
 dq false false 8 0 (b15 + 8) H p w (fun _ => .val x5) (some true) fun a24 H p w =>
 dq false false 9 384 (b15 + 9) H p w (fun _ => idxS 3 a23 a24) (some true) fun a25 H p w =>
 dq false false 10 896 (b15 + 10) H p w (fun _ => idxA 3 1 a25 (.int .i64 (.ofNat 1))) (some true) fun a26 H p w =>
 dq true false 11 1920 (b15 + 11) H p w (fun H => qae H a26) (some true) fun a27 H p w =>
 dq false false 12 0 (b15 + 12) H p w (fun _ => .val x4) (some true) fun a28 H p w =>
 dq false false 13 0 (b15 + 13) H p w (fun _ => .val x5) (some true) fun a29 H p w =>
 dq false false 14 12288 (b15 + 14) H p w (fun _ => idxS 3 a28 a29) (some true) fun a30 H p w =>
 dq false false 15 28672 (b15 + 15) H p w (fun _ => idxA 3 1 a30 (.int .i64 (.ofNat 2))) (some true) fun a31 H p w =>
 dq true false 16 61440 (b15 + 16) H p w (fun H => qae H a31) (some true) fun a32 H p w =>
 dq false false 17 126976 (b15 + 17) H p w (fun _ => intV (qaa .eql).f a32 (.int .i64 (.ofNat 1))) (some true) fun a33 H p w =>
 dq false false 18 262140 (b15 + 18) H p w (fun _ => aggN (qax [.int .i64 (.ofNat 0), .int .i64 (.ofNat 0), .bool false] [(0, 1, a22), (1, 1, a27), (2, 1, a33)])) (some true) fun a34 H p w =>
 dq false true 19 524284 (b15 + 19) H p w (fun _ => qgu 1 (b15 + 19) (qax (reps [.int .i64 (.ofNat 0), .int .i64 (.ofNat 0), .bool false] 1) [(0, 3, a34)])) (some true) fun a35 H p w =>
 de 1048575 H p w (qa8 3 24 (qaw 1048575 p H) a17 (qb7 3 (qaw 1048575 p H) a35)) (some true) fun a36 H p w =>
 dq false false 21 2097151 (b15 + 21) H p w (fun _ => qak 1 x3) (some true) fun a37 H p w =>
 de 4194303 H p w (qat (qaw 4194303 p H) a37 a36) (some true) fun _ H p w =>
 dz2 p H fun H =>
 qzv call g12 x5 H
def qzw (call : Ev.Call) (q12e0 : Hp → R1) (x3 x4 : AV) (g12 : AV → Hp → R1) (x5 : AV) (H : Hp) : R1 :=
 vq (qa5 x4) H fun a40 H =>
 vq (intV (qaa .lss).f x5 a40) H fun a41 H =>
 cd a41 (
 qzu call g12 x3 x4 x5 H) (
 q12e0 H)
def qmk (call : Ev.Call) (q12e0 : Hp → R1) (x3 x4 : AV) (n : Nat) : AV → Hp → R1 :=
 Nat.rec (motive := fun _ => AV → Hp → R1) (fun _ _ => .bad) (fun _ ih => qzw call q12e0 x3 x4 ih) n
def qzx (call : Ev.Call) (q12e0 : Hp → R1) (x3 x4 : AV) : AV → Hp → R1 := qmk call q12e0 x3 x4 qa6
def zf7 (call : Ev.Call) (x0 : AV) (H : Hp) : R1 :=
 vq (boxA 2 H.nx x0) H fun a0 H =>
 vq (.new (.ptr H.nx 0) (qab 0 [.int .i64 (.ofNat 0), .nilsl])) H fun a1 H =>
 vq (qak 0 a0) H fun a2 H =>
 vq (qae H a2) H fun a3 H =>
 vq (aggN (qax [.int .i64 (.ofNat 0), .nilsl] [(0, 1, a3)])) H fun a4 H =>
 vq (.new (.ptr H.nx 0) (qab 0 [.int .i64 (.ofNat 0), .nilsl])) H fun a5 H =>
 ve (qch 2 H a5 a4) fun _ H =>
 vq (qbo 2 H a0) H fun a7 H =>
 ve (call (.f qqb) [a7] H) fun a8 H =>
 qzx call (fun H => qjs call a1 a5 H) a5 a8 (.int .i64 (.ofNat 0)) H
def lGr (call : Ev.Call) (x0 : AV) (H : Hp) : R1 := zf7 call x0 H
def qg5 (call : Ev.Call) (x6 : AV) (H : Hp) : R1 :=
 ve (call (.f qdv) [x6] H) fun a7 H =>
 ve (call (.f qe8) [x6] H) fun a8 H =>
 ve (call (.f qmn) [a8] H) fun a9 H =>
 .ok (.tup [a9, (.int .i64 (.ofNat 0))]) H
def qio (call : Ev.Call) (g14 : AV → AV → Hp → R1) (x6 x20 : AV) (H : Hp) : R1 :=
 vq (intV (qaa .add).f x20 (.int .i64 (.ofNat 1))) H fun a16 H =>
 g14 x6 a16 H
def qu4 (call : Ev.Call) (g14 : AV → AV → Hp → R1) (x4 x6 x18 x20 : AV) (H : Hp) : R1 :=
 vq (idxS 3 x18 x20) H fun a18 H =>
 vq (qbo 3 H a18) H fun a19 H =>
 vq (.new (.ptr H.nx 0) (qab 0 [.int .i64 (.ofNat 0), .int .i64 (.ofNat 0), .bool false])) H fun a20 H =>
 ve (qch 3 H a20 a19) fun _ H =>
 vl (qak 2 a20) fun a22 =>
 vl (qae H a22) fun a23 =>
 vlg (qad true a23) (qak 1 x4) fun a24 =>
 vlg (qad true a23) (qae H a24) fun a25 =>
 vlg (qad true a23) (qak 0 a20) fun a26 =>
 vlg (qad true a23) (qae H a26) fun a27 =>
 vlg (qad true a23) (idxS 1 a25 a27) fun a28 =>
 vlg (qad true a23) (qae H a28) fun a29 =>
 vlg (qad true a23) (qak 1 x4) fun a30 =>
 vlg (qad true a23) (qae H a30) fun a31 =>
 vlg (qad true a23) (qak 1 a20) fun a32 =>
 vlg (qad true a23) (qae H a32) fun a33 =>
 vlg (qad true a23) (idxS 1 a31 a33) fun a34 =>
 vlg (qad true a23) (qae H a34) fun a35 =>
 vlg (qad true a23) (intV (qaa .eql).f a29 a35) fun a36 =>
 vl (qbm a23 a36 (.bool false)) fun a37 =>
 cd a37 (
 vq (qak 1 x4) H fun a38 H =>
 vq (qae H a38) H fun a39 H =>
 vq (qak 0 a20) H fun a40 H =>
 vq (qae H a40) H fun a41 H =>
 vq (idxS 1 a39 a41) H fun a42 H =>
 vq (qae H a42) H fun a43 H =>
 vq (qgu 1 H.nx (qax (reps [.int .i64 (.ofNat 0)] 1) [(0, 1, a43)])) H fun a44 H =>
 ve (qa8 1 8 H x6 (qb7 1 H a44)) fun a45 H =>
 qio call g14 a45 x20 H) (
 qio call g14 x6 x20 H)
def qu5 (call : Ev.Call) (q14e0 : AV → Hp → R1) (x4 x18 x19 : AV) (g14 : AV → AV → Hp → R1) (x6 x20 : AV) (H : Hp) : R1 :=
 vq (intV (qaa .lss).f x20 x19) H fun a15 H =>
 cd a15 (
 qu4 call g14 x4 x6 x18 x20 H) (
 q14e0 x6 H)
def qin (call : Ev.Call) (q14e0 : AV → Hp → R1) (x4 x18 x19 : AV) (n : Nat) : AV → AV → Hp → R1 :=
 Nat.rec (motive := fun _ => AV → AV → Hp → R1) (fun _ _ _ => .bad) (fun _ ih => qu5 call q14e0 x4 x18 x19 ih) n
def qu6 (call : Ev.Call) (q14e0 : AV → Hp → R1) (x4 x18 x19 : AV) : AV → AV → Hp → R1 := qin call q14e0 x4 x18 x19 qa6
def qey (call : Ev.Call) (x1 x4 : AV) (H : Hp) : R1 :=
 vq (qak 1 x1) H fun a11 H =>
 vq (qae H a11) H fun a12 H =>
 vq (qa5 a12) H fun a13 H =>
 qu6 call (fun x6 H => qg5 call x6 H) x4 a12 a13 (.nilsl) (.int .i64 (.ofNat 0)) H
def qu3 : Ev.Call → AV → AV → Hp → R1 := Classical.choose (⟨qey, rfl⟩ : ∃ f, f = qey)
theorem qqy : qu3 = qey := Classical.choose_spec (⟨qey, rfl⟩ : ∃ f, f = qey)
def zaj (call : Ev.Call) (x0 : AV) (H : Hp) : R1 :=
 vq (boxA 2 H.nx x0) H fun a0 H =>
 vq (qbo 2 H a0) H fun a1 H =>
 ve (call (.f q2o) [a1] H) fun a2 H =>
 vq (extr 0 a2) H fun a3 H =>
 vq (extr 1 a2) H fun a4 H =>
 vq (.new (.ptr H.nx 0) (qab 0 [.nilsl, .nilsl])) H fun a5 H =>
 ve (qch 2 H a5 a3) fun _ H =>
 vq (intV (qaa .neq).f a4 (.int .i64 (.ofNat 0))) H fun a48 H =>
 cd a48 (
 .ok (.tup [(.nilsl), a4]) H) (
 qu3 call a0 a5 H)
def cMix (call : Ev.Call) (x0 : AV) (H : Hp) : R1 := zaj call x0 H
def qdz (call : Ev.Call) (x5 : AV) (H : Hp) : R1 :=
 .ok x5 H
def qkd (call : Ev.Call) (g8 : AV → AV → Hp → R1) (x5 x7 : AV) (H : Hp) : R1 :=
 vq (intV (qaa .add).f x7 (.int .i64 (.ofNat 1))) H fun a9 H =>
 g8 x5 a9 H
def qgn (call : Ev.Call) (g8 : AV → AV → Hp → R1) (x5 x7 x8 : AV) (H : Hp) : R1 :=
 cd x8 (
 vq (qgu 1 H.nx (qax (reps [.int .i64 (.ofNat 0)] 1) [(0, 1, x7)])) H fun a11 H =>
 ve (qa8 1 8 H x5 (qb7 1 H a11)) fun a12 H =>
 qkd call g8 a12 x7 H) (
 qkd call g8 x5 x7 H)
def qgm (call : Ev.Call) (g14 : AV → AV → Hp → R1) (x8 x9 : AV) (H : Hp) : R1 :=
 vq (intV (qaa .add).f x9 (.int .i64 (.ofNat 1))) H fun a15 H =>
 g14 x8 a15 H
def qta (call : Ev.Call) (g14 : AV → AV → Hp → R1) (x4 x6 x7 x8 x9 : AV) (H : Hp) : R1 :=
 vg (qad false x8) (.val x6) H fun a17 H =>
 vg (qad false x8) (.val x9) H fun a18 H =>
 vg (qad false x8) (idxS 3 a17 a18) H fun a19 H =>
 vg (qad false x8) (idxA 3 1 a19 (.int .i64 (.ofNat 2))) H fun a20 H =>
 vg (qad false x8) (qae H a20) H fun a21 H =>
 vg (qad false x8) (intV (qaa .eql).f a21 (.int .i64 (.ofNat 1))) H fun a22 H =>
 vg (qad false x8) (.val a22) H fun a23 H =>
 vg (qad true a23) (.val x4) H fun a24 H =>
 vg (qad true a23) (.val x6) H fun a25 H =>
 vg (qad true a23) (.val x9) H fun a26 H =>
 vg (qad true a23) (idxS 3 a25 a26) H fun a27 H =>
 vg (qad true a23) (idxA 3 1 a27 (.int .i64 (.ofNat 0))) H fun a28 H =>
 vg (qad true a23) (qae H a28) H fun a29 H =>
 vg (qad true a23) (idxS 1 a24 a29) H fun a30 H =>
 vg (qad true a23) (qae H a30) H fun a31 H =>
 vg (qad true a23) (.val x7) H fun a32 H =>
 vg (qad true a23) (intV (qaa .eql).f a31 a32) H fun a33 H =>
 vg (qad false x8) (qbm a23 a33 (.bool false)) H fun a34 H =>
 vg (qad false x8) (.val a34) H fun a35 H =>
 vg (qad true a35) (.val x4) H fun a36 H =>
 vg (qad true a35) (.val x6) H fun a37 H =>
 vg (qad true a35) (.val x9) H fun a38 H =>
 vg (qad true a35) (idxS 3 a37 a38) H fun a39 H =>
 vg (qad true a35) (idxA 3 1 a39 (.int .i64 (.ofNat 1))) H fun a40 H =>
 vg (qad true a35) (qae H a40) H fun a41 H =>
 vg (qad true a35) (idxS 1 a36 a41) H fun a42 H =>
 vg (qad true a35) (qae H a42) H fun a43 H =>
 vg (qad true a35) (.val x7) H fun a44 H =>
 vg (qad true a35) (intV (qaa .eql).f a43 a44) H fun a45 H =>
 vg (qad false x8) (qbm a35 a45 (.bool false)) H fun a46 H =>
 vq (qbm x8 (.bool true) a46) H fun a47 H =>
 qgm call g14 a47 x9 H
def qtb (call : Ev.Call) (q14e2 : AV → Hp → R1) (x4 x6 x7 : AV) (g14 : AV → AV → Hp → R1) (x8 x9 : AV) (H : Hp) : R1 :=
 vq (qa5 x6) H fun a49 H =>
 vq (intV (qaa .lss).f x9 a49) H fun a50 H =>
 cd a50 (
 qta call g14 x4 x6 x7 x8 x9 H) (
 q14e2 x8 H)
def qic (call : Ev.Call) (q14e2 : AV → Hp → R1) (x4 x6 x7 : AV) (n : Nat) : AV → AV → Hp → R1 :=
 Nat.rec (motive := fun _ => AV → AV → Hp → R1) (fun _ _ _ => .bad) (fun _ ih => qtb call q14e2 x4 x6 x7 ih) n
def qtc (call : Ev.Call) (q14e2 : AV → Hp → R1) (x4 x6 x7 : AV) : AV → AV → Hp → R1 := qic call q14e2 x4 x6 x7 qa6
def qs9 (call : Ev.Call) (g8 : AV → AV → Hp → R1) (x4 x5 x6 x7 : AV) (H : Hp) : R1 :=
 qtc call (fun x8 H => qgn call g8 x5 x7 x8 H) x4 x6 x7 (.bool false) (.int .i64 (.ofNat 0)) H
def qyl (call : Ev.Call) (q8e0 : AV → Hp → R1) (x3 x4 x6 : AV) (g8 : AV → AV → Hp → R1) (x5 x7 : AV) (H : Hp) : R1 :=
 vq (qa5 x3) H fun a52 H =>
 vq (intV (qaa .lss).f x7 a52) H fun a53 H =>
 cd a53 (
 qs9 call g8 x4 x5 x6 x7 H) (
 q8e0 x5 H)
def qeh (call : Ev.Call) (q8e0 : AV → Hp → R1) (x3 x4 x6 : AV) (n : Nat) : AV → AV → Hp → R1 :=
 Nat.rec (motive := fun _ => AV → AV → Hp → R1) (fun _ _ _ => .bad) (fun _ ih => qyl call q8e0 x3 x4 x6 ih) n
def qym (call : Ev.Call) (q8e0 : AV → Hp → R1) (x3 x4 x6 : AV) : AV → AV → Hp → R1 := qeh call q8e0 x3 x4 x6 qa6
def q7c (call : Ev.Call) (x0 : AV) (H : Hp) : R1 :=
 vq (boxA 2 H.nx x0) H fun a0 H =>
 vq (qbo 2 H a0) H fun a1 H =>
 ve (call (.f qwq) [a1] H) fun a2 H =>
 vq (extr 0 a2) H fun a3 H =>
 vq (extr 1 a2) H fun a4 H =>
 vq (qbo 2 H a0) H fun a5 H =>
 ve (call (.f qqb) [a5] H) fun a6 H =>
 qym call (fun x5 H => qdz call x5 H) a3 a4 a6 (.nilsl) (.int .i64 (.ofNat 0)) H
def rMix (call : Ev.Call) (x0 : AV) (H : Hp) : R1 := q7c call x0 H
def qp3 (call : Ev.Call) (H : Hp) : R1 :=
 .ok (.bool true) H
def q74 (call : Ev.Call) (g1 : AV → Hp → R1) (x9 : AV) (H : Hp) : R1 :=
 vq (intV (qaa .add).f x9 (.int .i64 (.ofNat 1))) H fun a2 H =>
 g1 a2 H
def q73 (call : Ev.Call) (q1r : AV → Hp → R1) (g1 : AV → Hp → R1) (x0 x2 x9 : AV) (H : Hp) : R1 :=
 vl (idxS 1 x0 x9) fun a4 =>
 vl (qae H a4) fun a5 =>
 vl (idxS 1 x2 x9) fun a6 =>
 vl (qae H a6) fun a7 =>
 vl (intV (qaa .neq).f a5 a7) fun a8 =>
 cd a8 (
 q1r (.bool false) H) (
 q74 call g1 x9 H)
def q75 (call : Ev.Call) (q1r : AV → Hp → R1) (q1e0 : Hp → R1) (x0 x2 : AV) (g1 : AV → Hp → R1) (x9 : AV) (H : Hp) : R1 :=
 vq (qa5 x2) H fun a10 H =>
 vq (intV (qaa .lss).f x9 a10) H fun a11 H =>
 cd a11 (
 q73 call q1r g1 x0 x2 x9 H) (
 q1e0 H)
def qrx (call : Ev.Call) (q1r : AV → Hp → R1) (q1e0 : Hp → R1) (x0 x2 : AV) (n : Nat) : AV → Hp → R1 :=
 Nat.rec (motive := fun _ => AV → Hp → R1) (fun _ _ => .bad) (fun _ ih => q75 call q1r q1e0 x0 x2 ih) n
def q76 (call : Ev.Call) (q1r : AV → Hp → R1) (q1e0 : Hp → R1) (x0 x2 : AV) : AV → Hp → R1 := qrx call q1r q1e0 x0 x2 qa6
def qzs (call : Ev.Call) (x0 x2 : AV) (H : Hp) : R1 :=
 q76 call (fun x8 H => .ok x8 H) (fun H => qp3 call H) x0 x2 (.int .i64 (.ofNat 0)) H
def zfz (call : Ev.Call) (x0 x1 x2 x3 : AV) (H : Hp) : R1 :=
 vq (intV (qaa .neq).f x1 x3) H fun a13 H =>
 vg (qad false a13) (.val x0) H fun a14 H =>
 vg (qad false a13) (qa5 a14) H fun a15 H =>
 vg (qad false a13) (.val x2) H fun a16 H =>
 vg (qad false a13) (qa5 a16) H fun a17 H =>
 vg (qad false a13) (intV (qaa .neq).f a15 a17) H fun a18 H =>
 vq (qbm a13 (.bool true) a18) H fun a19 H =>
 vg (qad false a19) (.val x0) H fun a20 H =>
 vg (qad false a19) (capV a20) H fun a21 H =>
 vg (qad false a19) (.val x0) H fun a22 H =>
 vg (qad false a19) (qa5 a22) H fun a23 H =>
 vg (qad false a19) (intV (qaa .neq).f a21 a23) H fun a24 H =>
 vq (qbm a19 (.bool true) a24) H fun a25 H =>
 cd a25 (
 .ok (.bool false) H) (
 qzs call x0 x2 H)
def lwL (call : Ev.Call) (x0 x1 x2 x3 : AV) (H : Hp) : R1 := zfz call x0 x1 x2 x3 H
def qbz (call : Ev.Call) (x3 : AV) (H : Hp) : R1 :=
 .ok x3 H
def qca (call : Ev.Call) (g8 : AV → Hp → R1) (x6 : AV) (H : Hp) : R1 :=
 vq (intV (qaa .add).f x6 (.int .i64 (.ofNat 1))) H fun a9 H =>
 g8 a9 H
def qem (call : Ev.Call) (g11 : AV → Hp → R1) (x7 : AV) (H : Hp) : R1 :=
 vq (intV (qaa .add).f x7 (.int .i64 (.ofNat 1))) H fun a12 H =>
 g11 a12 H
def qel (call : Ev.Call) (g14 : AV → Hp → R1) (x8 : AV) (H : Hp) : R1 :=
 vq (intV (qaa .add).f x8 (.int .i64 (.ofNat 1))) H fun a15 H =>
 g14 a15 H
def qot (call : Ev.Call) (g14 : AV → Hp → R1) (x1 x3 x6 x7 x8 : AV) (H : Hp) : R1 :=
 vl (qak 0 x1) fun a17 =>
 vl (qae H a17) fun a18 =>
 vl (intV (qaa .mul).f x7 a18) fun a19 =>
 vl (intV (qaa .add).f a19 x6) fun a20 =>
 vl (idxS 1 x3 a20) fun a21 =>
 vl (qae H a21) fun a22 =>
 vl (qak 0 x1) fun a23 =>
 vl (qae H a23) fun a24 =>
 vl (intV (qaa .mul).f x6 a24) fun a25 =>
 vl (intV (qaa .add).f a25 x8) fun a26 =>
 vl (idxS 1 x3 a26) fun a27 =>
 vl (qae H a27) fun a28 =>
 vq (intV (qaa .geq).f a22 (.int .i64 (.ofNat 0))) H fun a29 H =>
 vg (qad true a29) (.val a28) H fun a30 H =>
 vg (qad true a29) (intV (qaa .geq).f a30 (.int .i64 (.ofNat 0))) H fun a31 H =>
 vq (qbm a29 a31 (.bool false)) H fun a32 H =>
 vg (qad true a32) (.val x3) H fun a33 H =>
 vg (qad true a32) (.val x7) H fun a34 H =>
 vg (qad true a32) (qak 0 x1) H fun a35 H =>
 vg (qad true a32) (qae H a35) H fun a36 H =>
 vg (qad true a32) (intV (qaa .mul).f a34 a36) H fun a37 H =>
 vg (qad true a32) (.val x8) H fun a38 H =>
 vg (qad true a32) (intV (qaa .add).f a37 a38) H fun a39 H =>
 vg (qad true a32) (idxS 1 a33 a39) H fun a40 H =>
 vg (qad true a32) (qae H a40) H fun a41 H =>
 vg (qad true a32) (intV (qaa .lss).f a41 (.int .i64 (.ofNat 0))) H fun a42 H =>
 vg (qad true a32) (.val a42) H fun a43 H =>
 vg (qad false a43) (.val a22) H fun a44 H =>
 vg (qad false a43) (.val a28) H fun a45 H =>
 vg (qad false a43) (intV (qaa .add).f a44 a45) H fun a46 H =>
 vg (qad false a43) (.val x3) H fun a47 H =>
 vg (qad false a43) (.val x7) H fun a48 H =>
 vg (qad false a43) (qak 0 x1) H fun a49 H =>
 vg (qad false a43) (qae H a49) H fun a50 H =>
 vg (qad false a43) (intV (qaa .mul).f a48 a50) H fun a51 H =>
 vg (qad false a43) (.val x8) H fun a52 H =>
 vg (qad false a43) (intV (qaa .add).f a51 a52) H fun a53 H =>
 vg (qad false a43) (idxS 1 a47 a53) H fun a54 H =>
 vg (qad false a43) (qae H a54) H fun a55 H =>
 vg (qad false a43) (intV (qaa .lss).f a46 a55) H fun a56 H =>
 vg (qad true a32) (qbm a43 (.bool true) a56) H fun a57 H =>
 vq (qbm a32 a57 (.bool false)) H fun a58 H =>
 cd a58 (
 vq (qak 0 x1) H fun a59 H =>
 vq (qae H a59) H fun a60 H =>
 vq (intV (qaa .mul).f x7 a60) H fun a61 H =>
 vq (intV (qaa .add).f a61 x8) H fun a62 H =>
 vq (intV (qaa .add).f a22 a28) H fun a63 H =>
 vq (idxS 1 x3 a62) H fun a64 H =>
 ve (qat H a64 a63) fun _ H =>
 qel call g14 x8 H) (
 qel call g14 x8 H)
def qow (call : Ev.Call) (q14e8 : Hp → R1) (x1 x3 x6 x7 : AV) (g14 : AV → Hp → R1) (x8 : AV) (H : Hp) : R1 :=
 vq (qak 0 x1) H fun a67 H =>
 vq (qae H a67) H fun a68 H =>
 vq (intV (qaa .lss).f x8 a68) H fun a69 H =>
 cd a69 (
 qot call g14 x1 x3 x6 x7 x8 H) (
 q14e8 H)
def qdr (call : Ev.Call) (q14e8 : Hp → R1) (x1 x3 x6 x7 : AV) (n : Nat) : AV → Hp → R1 :=
 Nat.rec (motive := fun _ => AV → Hp → R1) (fun _ _ => .bad) (fun _ ih => qow call q14e8 x1 x3 x6 x7 ih) n
def qo0 (call : Ev.Call) (q14e8 : Hp → R1) (x1 x3 x6 x7 : AV) : AV → Hp → R1 := qdr call q14e8 x1 x3 x6 x7 qa6
def qor (call : Ev.Call) (g11 : AV → Hp → R1) (x1 x3 x6 x7 : AV) (H : Hp) : R1 :=
 qo0 call (fun H => qem call g11 x7 H) x1 x3 x6 x7 (.int .i64 (.ofNat 0)) H
def qox (call : Ev.Call) (q11e6 : Hp → R1) (x1 x3 x6 : AV) (g11 : AV → Hp → R1) (x7 : AV) (H : Hp) : R1 :=
 vq (qak 0 x1) H fun a71 H =>
 vq (qae H a71) H fun a72 H =>
 vq (intV (qaa .lss).f x7 a72) H fun a73 H =>
 cd a73 (
 qor call g11 x1 x3 x6 x7 H) (
 q11e6 H)
def qcj (call : Ev.Call) (q11e6 : Hp → R1) (x1 x3 x6 : AV) (n : Nat) : AV → Hp → R1 :=
 Nat.rec (motive := fun _ => AV → Hp → R1) (fun _ _ => .bad) (fun _ ih => qox call q11e6 x1 x3 x6 ih) n
def qo1 (call : Ev.Call) (q11e6 : Hp → R1) (x1 x3 x6 : AV) : AV → Hp → R1 := qcj call q11e6 x1 x3 x6 qa6
def qoq (call : Ev.Call) (g8 : AV → Hp → R1) (x1 x3 x6 : AV) (H : Hp) : R1 :=
 qo1 call (fun H => qca call g8 x6 H) x1 x3 x6 (.int .i64 (.ofNat 0)) H
def qtg (call : Ev.Call) (q8e4 : Hp → R1) (x1 x3 : AV) (g8 : AV → Hp → R1) (x6 : AV) (H : Hp) : R1 :=
 vq (qak 0 x1) H fun a75 H =>
 vq (qae H a75) H fun a76 H =>
 vq (intV (qaa .lss).f x6 a76) H fun a77 H =>
 cd a77 (
 qoq call g8 x1 x3 x6 H) (
 q8e4 H)
def qb8 (call : Ev.Call) (q8e4 : Hp → R1) (x1 x3 : AV) (n : Nat) : AV → Hp → R1 :=
 Nat.rec (motive := fun _ => AV → Hp → R1) (fun _ _ => .bad) (fun _ ih => qtg call q8e4 x1 x3 ih) n
def qth (call : Ev.Call) (q8e4 : Hp → R1) (x1 x3 : AV) : AV → Hp → R1 := qb8 call q8e4 x1 x3 qa6
def qek (call : Ev.Call) (x1 x3 : AV) (H : Hp) : R1 :=
 qth call (fun H => qbz call x3 H) x1 x3 (.int .i64 (.ofNat 0)) H
def qop (call : Ev.Call) (g79 : AV → Hp → R1) (x5 : AV) (H : Hp) : R1 :=
 vq (intV (qaa .add).f x5 (.int .i64 (.ofNat 1))) H fun a80 H =>
 g79 a80 H
def qoo (call : Ev.Call) (g79 : AV → Hp → R1) (x1 x3 x5 : AV) (H : Hp) : R1 :=
 vq (qak 0 x1) H fun a82 H =>
 vq (qae H a82) H fun a83 H =>
 vq (intV (qaa .mul).f x5 a83) H fun a84 H =>
 vq (intV (qaa .add).f a84 x5) H fun a85 H =>
 vq (idxS 1 x3 a85) H fun a86 H =>
 ve (qat H a86 (.int .i64 (.ofNat 0))) fun _ H =>
 qop call g79 x5 H
def qov (call : Ev.Call) (q79e2 : Hp → R1) (x1 x3 : AV) (g79 : AV → Hp → R1) (x5 : AV) (H : Hp) : R1 :=
 vq (qak 0 x1) H fun a89 H =>
 vq (qae H a89) H fun a90 H =>
 vq (intV (qaa .lss).f x5 a90) H fun a91 H =>
 cd a91 (
 qoo call g79 x1 x3 x5 H) (
 q79e2 H)
def qfv (call : Ev.Call) (q79e2 : Hp → R1) (x1 x3 : AV) (n : Nat) : AV → Hp → R1 :=
 Nat.rec (motive := fun _ => AV → Hp → R1) (fun _ _ => .bad) (fun _ ih => qov call q79e2 x1 x3 ih) n
def qoz (call : Ev.Call) (q79e2 : Hp → R1) (x1 x3 : AV) : AV → Hp → R1 := qfv call q79e2 x1 x3 qa6
def qej (call : Ev.Call) (x1 x3 : AV) (H : Hp) : R1 :=
 qoz call (fun H => qek call x1 x3 H) x1 x3 (.int .i64 (.ofNat 0)) H
def qhd (call : Ev.Call) (g93 : AV → Hp → R1) (x4 : AV) (H : Hp) : R1 :=
 vq (intV (qaa .add).f x4 (.int .i64 (.ofNat 1))) H fun a94 H =>
 g93 a94 H
def qlr (call : Ev.Call) (g93 : AV → Hp → R1) (x1 x3 x4 : AV) (H : Hp) : R1 :=
 vq (idxS 1 x3 x4) H fun a96 H =>
 ve (qat H a96 (.int .i64 (.negSucc 0))) fun _ H =>
 vq (qak 1 x1) H fun a98 H =>
 vq (qae H a98) H fun a99 H =>
 vq (idxS 1 a99 x4) H fun a100 H =>
 vq (qae H a100) H fun a101 H =>
 vq (intV (qaa .gtr).f a101 (.int .i64 (.ofNat 0))) H fun a102 H =>
 cd a102 (
 vq (idxS 1 x3 x4) H fun a103 H =>
 ve (qat H a103 (.int .i64 (.ofNat 1))) fun _ H =>
 qhd call g93 x4 H) (
 qhd call g93 x4 H)
def qou (call : Ev.Call) (q93e0 : Hp → R1) (x1 x3 : AV) (g93 : AV → Hp → R1) (x4 : AV) (H : Hp) : R1 :=
 vq (qa5 x3) H fun a106 H =>
 vq (intV (qaa .lss).f x4 a106) H fun a107 H =>
 cd a107 (
 qlr call g93 x1 x3 x4 H) (
 q93e0 H)
def qfu (call : Ev.Call) (q93e0 : Hp → R1) (x1 x3 : AV) (n : Nat) : AV → Hp → R1 :=
 Nat.rec (motive := fun _ => AV → Hp → R1) (fun _ _ => .bad) (fun _ ih => qou call q93e0 x1 x3 ih) n
def qoy (call : Ev.Call) (q93e0 : Hp → R1) (x1 x3 : AV) : AV → Hp → R1 := qfu call q93e0 x1 x3 qa6
def qyu (call : Ev.Call) (x0 : AV) (H : Hp) : R1 :=
 vq (boxA 2 H.nx x0) H fun a0 H =>
 vq (qak 0 a0) H fun a1 H =>
 vq (qae H a1) H fun a2 H =>
 vq (qak 0 a0) H fun a3 H =>
 vq (qae H a3) H fun a4 H =>
 vq (intV (qaa .mul).f a2 a4) H fun a5 H =>
 vq (qg6 [.int .i64 (.ofNat 0)] 8 H.nx a5 a5) H fun a6 H =>
 qoy call (fun H => qej call a0 a6 H) a0 a6 (.int .i64 (.ofNat 0)) H
def rDist (call : Ev.Call) (x0 : AV) (H : Hp) : R1 := qyu call x0 H
def qbr (call : Ev.Call) (x6 x8 : AV) (H : Hp) : R1 :=
 .ok (.tup [x8, x6]) H
def qye (call : Ev.Call) (g8 : AV → AV → AV → Hp → R1) (x8 x9 x10 : AV) (H : Hp) : R1 :=
 vq (intV (qaa .add).f x10 (.int .i64 (.ofNat 1))) H fun a9 H =>
 g8 x8 x9 a9 H
def qi4 (call : Ev.Call) (q8e4 : AV → AV → Hp → R1) (x8 x9 x13 : AV) (H : Hp) : R1 :=
 vq (qa5 x13) H fun a14 H =>
 vq (intV (qaa .add).f x9 a14) H fun a15 H =>
 vq (qgu 1 H.nx (qax (reps [.nilsl] 1) [(0, 1, x13)])) H fun a16 H =>
 ve (qa8 1 24 H x8 (qb7 1 H a16)) fun a17 H =>
 q8e4 a17 a15 H
def qlp (call : Ev.Call) (g19 : AV → AV → Hp → R1) (x13 x14 : AV) (H : Hp) : R1 :=
 vq (intV (qaa .add).f x14 (.int .i64 (.ofNat 1))) H fun a20 H =>
 g19 x13 a20 H
def qyd (call : Ev.Call) (g19 : AV → AV → Hp → R1) (x4 x5 x6 x8 x10 x13 x14 : AV) (H : Hp) : R1 :=
 vq (intV (qaa .mul).f x10 x4) H fun a22 H =>
 vq (intV (qaa .add).f a22 x14) H fun a23 H =>
 vq (idxS 1 x5 a23) H fun a24 H =>
 vq (qae H a24) H fun a25 H =>
 vq (intV (qaa .geq).f a25 (.int .i64 (.ofNat 0))) H fun a26 H =>
 vg (qad true a26) (.val x5) H fun a27 H =>
 vg (qad true a26) (.val x14) H fun a28 H =>
 vg (qad true a26) (.val x4) H fun a29 H =>
 vg (qad true a26) (intV (qaa .mul).f a28 a29) H fun a30 H =>
 vg (qad true a26) (.val x10) H fun a31 H =>
 vg (qad true a26) (intV (qaa .add).f a30 a31) H fun a32 H =>
 vg (qad true a26) (idxS 1 a27 a32) H fun a33 H =>
 vg (qad true a26) (qae H a33) H fun a34 H =>
 vg (qad true a26) (intV (qaa .geq).f a34 (.int .i64 (.ofNat 0))) H fun a35 H =>
 vq (qbm a26 a35 (.bool false)) H fun a36 H =>
 cd a36 (
 vq (qgu 1 H.nx (qax (reps [.int .i64 (.ofNat 0)] 1) [(0, 1, x14)])) H fun a37 H =>
 ve (qa8 1 8 H x13 (qb7 1 H a37)) fun a38 H =>
 vq (qa5 x8) H fun a39 H =>
 vq (idxS 1 x6 x14) H fun a40 H =>
 ve (qat H a40 a39) fun _ H =>
 qlp call g19 a38 x14 H) (
 qlp call g19 x13 x14 H)
def qyh (call : Ev.Call) (q19e8 : AV → Hp → R1) (x4 x5 x6 x8 x10 : AV) (g19 : AV → AV → Hp → R1) (x13 x14 : AV) (H : Hp) : R1 :=
 vq (intV (qaa .lss).f x14 x4) H fun a43 H =>
 cd a43 (
 qyd call g19 x4 x5 x6 x8 x10 x13 x14 H) (
 q19e8 x13 H)
def qlo (call : Ev.Call) (q19e8 : AV → Hp → R1) (x4 x5 x6 x8 x10 : AV) (n : Nat) : AV → AV → Hp → R1 :=
 Nat.rec (motive := fun _ => AV → AV → Hp → R1) (fun _ _ _ => .bad) (fun _ ih => qyh call q19e8 x4 x5 x6 x8 x10 ih) n
def qyk (call : Ev.Call) (q19e8 : AV → Hp → R1) (x4 x5 x6 x8 x10 : AV) : AV → AV → Hp → R1 := qlo call q19e8 x4 x5 x6 x8 x10 qa6
def qyc (call : Ev.Call) (q8e4 : AV → AV → Hp → R1) (x4 x5 x6 x8 x9 x10 : AV) (H : Hp) : R1 :=
 qyk call (fun x13 H => qi4 call q8e4 x8 x9 x13 H) x4 x5 x6 x8 x10 (.nilsl) (.int .i64 (.ofNat 0)) H
def qi3 (call : Ev.Call) (g8 : AV → AV → AV → Hp → R1) (q8e4 : AV → AV → Hp → R1) (x4 x5 x6 x8 x9 x10 x11 : AV) (H : Hp) : R1 :=
 vq ((unS .not).f x11) H fun a45 H =>
 cd a45 (
 qye call g8 x8 x9 x10 H) (
 qyc call q8e4 x4 x5 x6 x8 x9 x10 H)
def qs8 (call : Ev.Call) (g47 : AV → AV → Hp → R1) (x11 x12 : AV) (H : Hp) : R1 :=
 vq (intV (qaa .add).f x12 (.int .i64 (.ofNat 1))) H fun a48 H =>
 g47 x11 a48 H
def qyb (call : Ev.Call) (g47 : AV → AV → Hp → R1) (x4 x5 x6 x10 x12 : AV) (H : Hp) : R1 :=
 vq (intV (qaa .mul).f x10 x4) H fun a50 H =>
 vq (intV (qaa .add).f a50 x12) H fun a51 H =>
 vq (idxS 1 x5 a51) H fun a52 H =>
 vq (qae H a52) H fun a53 H =>
 vq (intV (qaa .lss).f a53 (.int .i64 (.ofNat 0))) H fun a54 H =>
 vg (qad false a54) (.val x6) H fun a55 H =>
 vg (qad false a54) (.val x12) H fun a56 H =>
 vg (qad false a54) (idxS 1 a55 a56) H fun a57 H =>
 vg (qad false a54) (qae H a57) H fun a58 H =>
 vg (qad false a54) (intV (qaa .geq).f a58 (.int .i64 (.ofNat 0))) H fun a59 H =>
 vq (qbm a54 (.bool true) a59) H fun a60 H =>
 vg (qad false a60) (.val x5) H fun a61 H =>
 vg (qad false a60) (.val x12) H fun a62 H =>
 vg (qad false a60) (.val x4) H fun a63 H =>
 vg (qad false a60) (intV (qaa .mul).f a62 a63) H fun a64 H =>
 vg (qad false a60) (.val x10) H fun a65 H =>
 vg (qad false a60) (intV (qaa .add).f a64 a65) H fun a66 H =>
 vg (qad false a60) (idxS 1 a61 a66) H fun a67 H =>
 vg (qad false a60) (qae H a67) H fun a68 H =>
 vg (qad false a60) (intV (qaa .geq).f a68 (.int .i64 (.ofNat 0))) H fun a69 H =>
 vq (qbm a60 (.bool true) a69) H fun a70 H =>
 qs8 call g47 a70 x12 H
def qyg (call : Ev.Call) (q47e6 : AV → Hp → R1) (x4 x5 x6 x10 : AV) (g47 : AV → AV → Hp → R1) (x11 x12 : AV) (H : Hp) : R1 :=
 vq (intV (qaa .lss).f x12 x4) H fun a72 H =>
 vg (qad true a72) (.val x11) H fun a73 H =>
 vq (qbm a72 a73 (.bool false)) H fun a74 H =>
 cd a74 (
 qyb call g47 x4 x5 x6 x10 x12 H) (
 q47e6 x11 H)
def qi1 (call : Ev.Call) (q47e6 : AV → Hp → R1) (x4 x5 x6 x10 : AV) (n : Nat) : AV → AV → Hp → R1 :=
 Nat.rec (motive := fun _ => AV → AV → Hp → R1) (fun _ _ _ => .bad) (fun _ ih => qyg call q47e6 x4 x5 x6 x10 ih) n
def qyj (call : Ev.Call) (q47e6 : AV → Hp → R1) (x4 x5 x6 x10 : AV) : AV → AV → Hp → R1 := qi1 call q47e6 x4 x5 x6 x10 qa6
def qya (call : Ev.Call) (g8 : AV → AV → AV → Hp → R1) (q8e4 : AV → AV → Hp → R1) (x4 x5 x6 x8 x9 x10 : AV) (H : Hp) : R1 :=
 vq (idxS 1 x6 x10) H fun a11 H =>
 vq (qae H a11) H fun a12 H =>
 vq (intV (qaa .lss).f a12 (.int .i64 (.ofNat 0))) H fun a13 H =>
 qyj call (fun x11 H => qi3 call g8 q8e4 x4 x5 x6 x8 x9 x10 x11 H) x4 x5 x6 x10 a13 (.int .i64 (.ofNat 0)) H
def q65 (call : Ev.Call) (q8e4 : AV → AV → Hp → R1) (x4 x5 x6 : AV) (g8 : AV → AV → AV → Hp → R1) (x8 x9 x10 : AV) (H : Hp) : R1 :=
 vq (intV (qaa .lss).f x10 x4) H fun a76 H =>
 cd a76 (
 qya call g8 q8e4 x4 x5 x6 x8 x9 x10 H) (
 q8e4 x8 x9 H)
def qha (call : Ev.Call) (q8e4 : AV → AV → Hp → R1) (x4 x5 x6 : AV) (n : Nat) : AV → AV → AV → Hp → R1 :=
 Nat.rec (motive := fun _ => AV → AV → AV → Hp → R1) (fun _ _ _ _ => .bad) (fun _ ih => q65 call q8e4 x4 x5 x6 ih) n
def q67 (call : Ev.Call) (q8e4 : AV → AV → Hp → R1) (x4 x5 x6 : AV) : AV → AV → AV → Hp → R1 := qha call q8e4 x4 x5 x6 qa6
def qx9 (call : Ev.Call) (g7 : AV → AV → Hp → R1) (x4 x5 x6 x8 x9 : AV) (H : Hp) : R1 :=
 q67 call (fun x8 x9 H => g7 x8 x9 H) x4 x5 x6 x8 x9 (.int .i64 (.ofNat 0)) H
def q66 (call : Ev.Call) (q7e2 : AV → Hp → R1) (x4 x5 x6 : AV) (g7 : AV → AV → Hp → R1) (x8 x9 : AV) (H : Hp) : R1 :=
 vq (intV (qaa .lss).f x9 x4) H fun a78 H =>
 cd a78 (
 qx9 call g7 x4 x5 x6 x8 x9 H) (
 q7e2 x8 H)
def qbw (call : Ev.Call) (q7e2 : AV → Hp → R1) (x4 x5 x6 : AV) (n : Nat) : AV → AV → Hp → R1 :=
 Nat.rec (motive := fun _ => AV → AV → Hp → R1) (fun _ _ _ => .bad) (fun _ ih => q66 call q7e2 x4 x5 x6 ih) n
def q68 (call : Ev.Call) (q7e2 : AV → Hp → R1) (x4 x5 x6 : AV) : AV → AV → Hp → R1 := qbw call q7e2 x4 x5 x6 qa6
def qi2 (call : Ev.Call) (x4 x5 x6 : AV) (H : Hp) : R1 :=
 q68 call (fun x8 H => qbr call x6 x8 H) x4 x5 x6 (.nilsl) (.int .i64 (.ofNat 0)) H
def qx8 (call : Ev.Call) (g80 : AV → Hp → R1) (x7 : AV) (H : Hp) : R1 :=
 vq (intV (qaa .add).f x7 (.int .i64 (.ofNat 1))) H fun a81 H =>
 g80 a81 H
def qx7 (call : Ev.Call) (g80 : AV → Hp → R1) (x6 x7 : AV) (H : Hp) : R1 :=
 vq (idxS 1 x6 x7) H fun a83 H =>
 ve (qat H a83 (.int .i64 (.negSucc 0))) fun _ H =>
 qx8 call g80 x7 H
def qyf (call : Ev.Call) (q80e0 : Hp → R1) (x4 x6 : AV) (g80 : AV → Hp → R1) (x7 : AV) (H : Hp) : R1 :=
 vq (intV (qaa .lss).f x7 x4) H fun a86 H =>
 cd a86 (
 qx7 call g80 x6 x7 H) (
 q80e0 H)
def qln (call : Ev.Call) (q80e0 : Hp → R1) (x4 x6 : AV) (n : Nat) : AV → Hp → R1 :=
 Nat.rec (motive := fun _ => AV → Hp → R1) (fun _ _ => .bad) (fun _ ih => qyf call q80e0 x4 x6 ih) n
def qyi (call : Ev.Call) (q80e0 : Hp → R1) (x4 x6 : AV) : AV → Hp → R1 := qln call q80e0 x4 x6 qa6
def zfd (call : Ev.Call) (x0 : AV) (H : Hp) : R1 :=
 vq (boxA 2 H.nx x0) H fun a0 H =>
 vq (qak 0 a0) H fun a1 H =>
 vq (qae H a1) H fun a2 H =>
 vq (qbo 2 H a0) H fun a3 H =>
 ve (call (.f qkt) [a3] H) fun a4 H =>
 vq (qg6 [.int .i64 (.ofNat 0)] 8 H.nx a2 a2) H fun a5 H =>
 qyi call (fun H => qi2 call a2 a4 a5 H) a2 a5 (.int .i64 (.ofNat 0)) H
def rOf (call : Ev.Call) (x0 : AV) (H : Hp) : R1 := zfd call x0 H
def qi5 (call : Ev.Call) (x4 x5 : AV) (H : Hp) : R1 :=
 vq (qbo 2 H x5) H fun a4 H =>
 ve (qch 2 H x4 a4) fun _ H =>
 finR (rV (qbo 2 H x4)) H
def qyn (call : Ev.Call) (g7 : AV → Hp → R1) (x6 : AV) (H : Hp) : R1 :=
 vq (intV (qaa .add).f x6 (.int .i64 (.ofNat 1))) H fun a8 H =>
 g7 a8 H
def qtd (call : Ev.Call) (g7 : AV → Hp → R1) (x1 x5 x6 : AV) (H : Hp) : R1 :=
 dz 0 H fun b10 H =>
 dq true false 0 0 (b10 + 0) H [] [] (fun H => qbo 2 H x5) (some true) fun a11 H p w =>
 dq false false 1 0 (b10 + 1) H p w (fun _ => .val x1) (some true) fun a12 H p w =>
 dq false false 2 0 (b10 + 2) H p w (fun _ => .val x6) (some true) fun a13 H p w =>
 dq false false 3 6 (b10 + 3) H p w (fun _ => idxS 3 a12 a13) (some true) fun a14 H p w =>
 dq false false 4 14 (b10 + 4) H p w (fun _ => idxA 3 1 a14 (.int .i64 (.ofNat 0))) (some true) fun a15 H p w =>
 dq true false 5 30 (b10 + 5) H p w (fun H => qae H a15) (some true) fun a16 H p w =>
 dq false false 6 0 (b10 + 6) H p w (fun _ => .val x1) (some true) fun a17 H p w =>
 dq false false 7 0 (b10 + 7) H p w (fun _ => .val x6) (some true) fun a18 H p w =>
 dq false false 8 192 (b10 + 8) H p w (fun _ => idxS 3 a17 a18) (some true) fun a19 H p w =>
 dq false false 9 448 (b10 + 9) H p w (fun _ => idxA 3 1 a19 (.int .i64 (.ofNat 1))) (some true) fun a20 H p w =>
 dq true false 10 960 (b10 + 10) H p w (fun H => qae H a20) (some true) fun a21 H p w =>
 dq false false 11 0 (b10 + 11) H p w (fun _ => .val x1) (some true) fun a22 H p w =>
 dq false false 12 0 (b10 + 12) H p w (fun _ => .val x6) (some true) fun a23 H p w =>
 dq false false 13 6144 (b10 + 13) H p w (fun _ => idxS 3 a22 a23) (some true) fun a24 H p w =>
 dq false false 14 14336 (b10 + 14) H p w (fun _ => idxA 3 1 a24 (.int .i64 (.ofNat 2))) (some true) fun a25 H p w =>
 dq true false 15 30720 (b10 + 15) H p w (fun H => qae H a25) (some true) fun a26 H p w =>
 dq false false 16 63488 (b10 + 16) H p w (fun _ => intV (qaa .eql).f a26 (.int .i64 (.ofNat 1))) (some true) fun a27 H p w =>
 de 131071 H p w (call (.f qt7) [a11, a16, a21, a27] (qaw 131071 p H)) (some true) fun a28 H p w =>
 dz2 p H fun H =>
 qyn call g7 x6 H
def qyo (call : Ev.Call) (q7e0 : Hp → R1) (x1 x5 : AV) (g7 : AV → Hp → R1) (x6 : AV) (H : Hp) : R1 :=
 vq (qa5 x1) H fun a30 H =>
 vq (intV (qaa .lss).f x6 a30) H fun a31 H =>
 cd a31 (
 qtd call g7 x1 x5 x6 H) (
 q7e0 H)
def qlq (call : Ev.Call) (q7e0 : Hp → R1) (x1 x5 : AV) (n : Nat) : AV → Hp → R1 :=
 Nat.rec (motive := fun _ => AV → Hp → R1) (fun _ _ => .bad) (fun _ ih => qyo call q7e0 x1 x5 ih) n
def qyp (call : Ev.Call) (q7e0 : Hp → R1) (x1 x5 : AV) : AV → Hp → R1 := qlq call q7e0 x1 x5 qa6
def q7e (call : Ev.Call) (x0 x1 : AV) (H : Hp) : R1 :=
 vq (.new (.ptr H.nx 0) (qab 0 [.int .i64 (.ofNat 0), .nilsl])) H fun a0 H =>
 ve (call (.f qt8) [x0] H) fun a1 H =>
 vq (.new (.ptr H.nx 0) (qab 0 [.int .i64 (.ofNat 0), .nilsl])) H fun a2 H =>
 ve (qch 2 H a2 a1) fun _ H =>
 qyp call (fun H => qi5 call a0 a2 H) x1 a2 (.int .i64 (.ofNat 0)) H
def rMat (call : Ev.Call) (x0 x1 : AV) (H : Hp) : R1 := q7e call x0 x1 H
def qd0 (call : Ev.Call) (x3 : AV) (H : Hp) : R1 :=
 .ok x3 H
def qhc (call : Ev.Call) (g2 : AV → AV → Hp → R1) (x3 x4 : AV) (H : Hp) : R1 :=
 vq (intV (qaa .add).f x4 (.int .i64 (.ofNat 1))) H fun a3 H =>
 g2 x3 a3 H
def qon (call : Ev.Call) (g5 : AV → AV → Hp → R1) (x3 x5 : AV) (H : Hp) : R1 :=
 vq (intV (qaa .add).f x5 (.int .i64 (.ofNat 1))) H fun a6 H =>
 g5 x3 a6 H
def qke (call : Ev.Call) (g5 : AV → AV → Hp → R1) (x1 x3 x4 x5 : AV) (H : Hp) : R1 :=
 vq (qak 1 x1) H fun a8 H =>
 vq (qae H a8) H fun a9 H =>
 vq (qak 0 x1) H fun a10 H =>
 vq (qae H a10) H fun a11 H =>
 vq (intV (qaa .mul).f x4 a11) H fun a12 H =>
 vq (intV (qaa .add).f a12 x5) H fun a13 H =>
 vq (idxS 1 a9 a13) H fun a14 H =>
 vq (qae H a14) H fun a15 H =>
 vq (intV (qaa .gtr).f a15 (.int .i64 (.ofNat 1))) H fun a16 H =>
 cd a16 (
 vq (aggN (qax [.int .i64 (.ofNat 0), .int .i64 (.ofNat 0), .int .i64 (.ofNat 0)] [(0, 1, x4), (1, 1, x5), (2, 1, (.int .i64 (.ofNat 1)))])) H fun a17 H =>
 vq (qgu 1 H.nx (qax (reps [.int .i64 (.ofNat 0), .int .i64 (.ofNat 0), .int .i64 (.ofNat 0)] 1) [(0, 3, a17)])) H fun a18 H =>
 ve (qa8 3 24 H x3 (qb7 3 H a18)) fun a19 H =>
 qon call g5 a19 x5 H) (
 qon call g5 x3 x5 H)
def qtf (call : Ev.Call) (g5 : AV → AV → Hp → R1) (x1 x3 x4 x5 : AV) (H : Hp) : R1 :=
 vq (qak 1 x1) H fun a21 H =>
 vq (qae H a21) H fun a22 H =>
 vq (qak 0 x1) H fun a23 H =>
 vq (qae H a23) H fun a24 H =>
 vq (intV (qaa .mul).f x4 a24) H fun a25 H =>
 vq (intV (qaa .add).f a25 x5) H fun a26 H =>
 vq (idxS 1 a22 a26) H fun a27 H =>
 vq (qae H a27) H fun a28 H =>
 vq (intV (qaa .rem).f a28 (.int .i64 (.ofNat 2))) H fun a29 H =>
 vq (intV (qaa .eql).f a29 (.int .i64 (.ofNat 1))) H fun a30 H =>
 cd a30 (
 vq (aggN (qax [.int .i64 (.ofNat 0), .int .i64 (.ofNat 0), .int .i64 (.ofNat 0)] [(0, 1, x4), (1, 1, x5), (2, 1, (.int .i64 (.ofNat 0)))])) H fun a31 H =>
 vq (qgu 1 H.nx (qax (reps [.int .i64 (.ofNat 0), .int .i64 (.ofNat 0), .int .i64 (.ofNat 0)] 1) [(0, 3, a31)])) H fun a32 H =>
 ve (qa8 3 24 H x3 (qb7 3 H a32)) fun a33 H =>
 qke call g5 x1 a33 x4 x5 H) (
 qke call g5 x1 x3 x4 x5 H)
def qyq (call : Ev.Call) (q5e2 : AV → Hp → R1) (x1 x4 : AV) (g5 : AV → AV → Hp → R1) (x3 x5 : AV) (H : Hp) : R1 :=
 vq (qak 0 x1) H fun a35 H =>
 vq (qae H a35) H fun a36 H =>
 vq (intV (qaa .lss).f x5 a36) H fun a37 H =>
 cd a37 (
 qtf call g5 x1 x3 x4 x5 H) (
 q5e2 x3 H)
def qhb (call : Ev.Call) (q5e2 : AV → Hp → R1) (x1 x4 : AV) (n : Nat) : AV → AV → Hp → R1 :=
 Nat.rec (motive := fun _ => AV → AV → Hp → R1) (fun _ _ _ => .bad) (fun _ ih => qyq call q5e2 x1 x4 ih) n
def qys (call : Ev.Call) (q5e2 : AV → Hp → R1) (x1 x4 : AV) : AV → AV → Hp → R1 := qhb call q5e2 x1 x4 qa6
def qte (call : Ev.Call) (g2 : AV → AV → Hp → R1) (x1 x3 x4 : AV) (H : Hp) : R1 :=
 qys call (fun x3 H => qhc call g2 x3 x4 H) x1 x4 x3 (.int .i64 (.ofNat 0)) H
def qyr (call : Ev.Call) (q2e0 : AV → Hp → R1) (x1 : AV) (g2 : AV → AV → Hp → R1) (x3 x4 : AV) (H : Hp) : R1 :=
 vq (qak 0 x1) H fun a39 H =>
 vq (qae H a39) H fun a40 H =>
 vq (intV (qaa .lss).f x4 a40) H fun a41 H =>
 cd a41 (
 qte call g2 x1 x3 x4 H) (
 q2e0 x3 H)
def qei (call : Ev.Call) (q2e0 : AV → Hp → R1) (x1 : AV) (n : Nat) : AV → AV → Hp → R1 :=
 Nat.rec (motive := fun _ => AV → AV → Hp → R1) (fun _ _ _ => .bad) (fun _ ih => qyr call q2e0 x1 ih) n
def qyt (call : Ev.Call) (q2e0 : AV → Hp → R1) (x1 : AV) : AV → AV → Hp → R1 := qei call q2e0 x1 qa6
def q7g (call : Ev.Call) (x0 : AV) (H : Hp) : R1 :=
 vq (boxA 2 H.nx x0) H fun a0 H =>
 qyt call (fun x3 H => qd0 call x3 H) a0 (.nilsl) (.int .i64 (.ofNat 0)) H
def rEdg (call : Ev.Call) (x0 : AV) (H : Hp) : R1 := q7g call x0 H
def q1l (call : Ev.Call) (x0 : AV) (H : Hp) : R1 :=
 vq (qa5 x0) H fun a0 H =>
 vq (qa5 x0) H fun a1 H =>
 vq (qbq 1 x0 none (some a0) (some a1)) H fun a2 H =>
 .ok a2 H
def sClp (call : Ev.Call) (x0 : AV) (H : Hp) : R1 := q1l call x0 H
def q7a (call : Ev.Call) (x0 : AV) (H : Hp) : R1 :=
 vq (.new (.ptr H.nx 0) (qab 0 [.int .i64 (.ofNat 0), .nilsl])) H fun a0 H =>
 vq (intV (qaa .mul).f x0 x0) H fun a1 H =>
 vq (qg6 [.int .i64 (.ofNat 0)] 8 H.nx a1 a1) H fun a2 H =>
 vq (aggN (qax [.int .i64 (.ofNat 0), .nilsl] [(0, 1, x0), (1, 1, a2)])) H fun a3 H =>
 ve (qch 2 H a0 a3) fun _ H =>
 finR (rV (qbo 2 H a0)) H
def rNew (call : Ev.Call) (x0 : AV) (H : Hp) : R1 := q7a call x0 H
def qkc (call : Ev.Call) (x1 x2 x4 x8 : AV) (H : Hp) : R1 :=
 vq (qak 1 x4) H fun a1 H =>
 vq (qae H a1) H fun a2 H =>
 vq (qak 0 x4) H fun a3 H =>
 vq (qae H a3) H fun a4 H =>
 vq (intV (qaa .mul).f x1 a4) H fun a5 H =>
 vq (intV (qaa .add).f a5 x2) H fun a6 H =>
 vq (idxS 1 a2 a6) H fun a7 H =>
 vq (qae H a7) H fun a8 H =>
 vq (intV (qaa .quo).f a8 x8) H fun a9 H =>
 vq (intV (qaa .rem).f a9 (.int .i64 (.ofNat 2))) H fun a10 H =>
 vq (intV (qaa .eql).f a10 (.int .i64 (.ofNat 0))) H fun a11 H =>
 cd a11 (
 vq (qak 1 x4) H fun a12 H =>
 vq (qae H a12) H fun a13 H =>
 vq (qak 0 x4) H fun a14 H =>
 vq (qae H a14) H fun a15 H =>
 vq (intV (qaa .mul).f x1 a15) H fun a16 H =>
 vq (intV (qaa .add).f a16 x2) H fun a17 H =>
 vq (idxS 1 a13 a17) H fun a18 H =>
 vq (qae H a18) H fun a19 H =>
 vq (intV (qaa .add).f a19 x8) H fun a20 H =>
 vq (idxS 1 a13 a17) H fun a21 H =>
 ve (qat H a21 a20) fun _ H =>
 .ok (.tup []) H) (
 .ok (.tup []) H)
def q64 (call : Ev.Call) (x0 x1 x2 x3 : AV) (H : Hp) : R1 :=
 vq (boxA 2 H.nx x0) H fun a0 H =>
 cd x3 (
 qkc call x1 x2 a0 (.int .i64 (.ofNat 2)) H) (
 qkc call x1 x2 a0 (.int .i64 (.ofNat 1)) H)
def rPut (call : Ev.Call) (x0 x1 x2 x3 : AV) (H : Hp) : R1 := q64 call x0 x1 x2 x3 H
def qjx (call : Ev.Call) (H : Hp) : R1 :=
 .ok (.int .i64 (.ofNat 0)) H
def quk (call : Ev.Call) (g5 : AV → Hp → R1) (x16 : AV) (H : Hp) : R1 :=
 vq (intV (qaa .add).f x16 (.int .i64 (.ofNat 1))) H fun a7 H =>
 g5 a7 H
def q86 (call : Ev.Call) (q5r : AV → Hp → R1) (g5 : AV → Hp → R1) (x1 x3 x4 x16 : AV) (H : Hp) : R1 :=
 vq (qak 0 x4) H fun a13 H =>
 vq (qae H a13) H fun a14 H =>
 vq (qak 1 x4) H fun a15 H =>
 vq (qae H a15) H fun a16 H =>
 vq (qgz minV a14 [a16]) H fun a17 H =>
 vq (intV (qaa .lss).f a17 (.int .i64 (.ofNat 0))) H fun a18 H =>
 vg (qad false a18) (qak 0 x4) H fun a19 H =>
 vg (qad false a18) (qae H a19) H fun a20 H =>
 vg (qad false a18) (qak 1 x4) H fun a21 H =>
 vg (qad false a18) (qae H a21) H fun a22 H =>
 vg (qad false a18) (qgz maxV a20 [a22]) H fun a23 H =>
 vg (qad false a18) (qak 0 x1) H fun a24 H =>
 vg (qad false a18) (qae H a24) H fun a25 H =>
 vg (qad false a18) (intV (qaa .geq).f a23 a25) H fun a26 H =>
 vq (qbm a18 (.bool true) a26) H fun a27 H =>
 cd a27 (
 q5r (.int .i64 (.ofNat 4)) H) (
 dz 0 H fun b28 H =>
 dq false false 0 0 (b28 + 0) H [] [] (fun _ => .val x3) (some true) fun a29 H p w =>
 dq false false 1 1 (b28 + 1) H p w (fun _ => intV (qaa .gtr).f a29 (.int .i64 (.ofNat 0))) (some true) fun a30 H p w =>
 dq false false 2 3 (b28 + 2) H p w (fun _ => .val a30) (some true) fun a31 H p w =>
 dq false false 3 7 (b28 + 3) H p w (fun _ => qak 1 x1) (qad true a31) fun a32 H p w =>
 dq true false 4 15 (b28 + 4) H p w (fun H => qae H a32) (qad true a31) fun a33 H p w =>
 dq false false 5 7 (b28 + 5) H p w (fun _ => .val x3) (qad true a31) fun a34 H p w =>
 dq false false 6 39 (b28 + 6) H p w (fun _ => intV (qaa .sub).f a34 (.int .i64 (.ofNat 1))) (qad true a31) fun a35 H p w =>
 dq false false 7 127 (b28 + 7) H p w (fun _ => idxS 3 a33 a35) (qad true a31) fun a36 H p w =>
 dq true false 8 255 (b28 + 8) H p w (fun H => qbo 3 H a36) (qad true a31) fun a37 H p w =>
 dq true false 9 7 (b28 + 9) H p w (fun H => qbo 3 H x4) (qad true a31) fun a38 H p w =>
 de 1023 H p w (call (.f quc) [a37, a38] (qaw 1023 p H)) (qad true a31) fun a39 H p w =>
 dq false false 11 2047 (b28 + 11) H p w (fun _ => intV (qaa .geq).f a39 (.int .i64 (.ofNat 0))) (qad true a31) fun a40 H p w =>
 dq false false 12 4095 (b28 + 12) H p w (fun _ => qbm a31 a40 (.bool false)) (some true) fun a41 H p w =>
 dq false false 13 8191 (b28 + 13) H p w (fun _ => .val a41) (some true) fun a42 H p w =>
 dz2 p H fun H =>
 cd a42 (
 q5r (.int .i64 (.ofNat 18)) H) (
 quk call g5 x16 H))
def qum (call : Ev.Call) (q5r : AV → Hp → R1) (g5 : AV → Hp → R1) (x1 x14 x16 : AV) (H : Hp) : R1 :=
 vq (idxS 3 x14 x16) H fun a9 H =>
 vq (qbo 3 H a9) H fun a10 H =>
 vq (.new (.ptr H.nx 0) (qab 0 [.int .i64 (.ofNat 0), .int .i64 (.ofNat 0), .bool false])) H fun a11 H =>
 ve (qch 3 H a11 a10) fun _ H =>
 q86 call q5r g5 x1 x16 a11 x16 H
def qz6 (call : Ev.Call) (q5r : AV → Hp → R1) (q5e0 : Hp → R1) (x1 x14 x15 : AV) (g5 : AV → Hp → R1) (x16 : AV) (H : Hp) : R1 :=
 vq (intV (qaa .lss).f x16 x15) H fun a6 H =>
 cd a6 (
 qum call q5r g5 x1 x14 x16 H) (
 q5e0 H)
def qjw (call : Ev.Call) (q5r : AV → Hp → R1) (q5e0 : Hp → R1) (x1 x14 x15 : AV) (n : Nat) : AV → Hp → R1 :=
 Nat.rec (motive := fun _ => AV → Hp → R1) (fun _ _ => .bad) (fun _ ih => qz6 call q5r q5e0 x1 x14 x15 ih) n
def qz7 (call : Ev.Call) (q5r : AV → Hp → R1) (q5e0 : Hp → R1) (x1 x14 x15 : AV) : AV → Hp → R1 := qjw call q5r q5e0 x1 x14 x15 qa6
def qul (call : Ev.Call) (x1 : AV) (H : Hp) : R1 :=
 vq (qak 1 x1) H fun a2 H =>
 vq (qae H a2) H fun a3 H =>
 vq (qa5 a3) H fun a4 H =>
 qz7 call (fun x2 H => .ok x2 H) (fun H => qjx call H) x1 a3 a4 (.int .i64 (.ofNat 0)) H
def q88 (call : Ev.Call) (x0 : AV) (H : Hp) : R1 :=
 vq (boxA 2 H.nx x0) H fun a0 H =>
 vq (qak 0 a0) H fun a45 H =>
 vq (qae H a45) H fun a46 H =>
 vq (intV (qaa .lss).f a46 (.int .i64 (.ofNat 0))) H fun a47 H =>
 vg (qad false a47) (qak 0 a0) H fun a48 H =>
 vg (qad false a47) (qae H a48) H fun a49 H =>
 vg (qad false a47) (intV (qaa .gtr).f a49 (.int .i64 (.ofNat 256))) H fun a50 H =>
 vq (qbm a47 (.bool true) a50) H fun a51 H =>
 cd a51 (
 .ok (.int .i64 (.ofNat 3)) H) (
 qul call a0 H)
def gChk (call : Ev.Call) (x0 : AV) (H : Hp) : R1 := q88 call x0 H
def qex (call : Ev.Call) (x3 : AV) (H : Hp) : R1 :=
 vq (qak 1026 x3) H fun a2 H =>
 vq (qae H a2) H fun a3 H =>
 .ok a3 H
def qgb (call : Ev.Call) (g7 : AV → Hp → R1) (x30 : AV) (H : Hp) : R1 :=
 vq (intV (qaa .add).f x30 (.int .i64 (.ofNat 1))) H fun a9 H =>
 g7 a9 H
def qmz (call : Ev.Call) (g7 : AV → Hp → R1) (x3 x30 : AV) (H : Hp) : R1 :=
 vq (qak 256 x3) H fun a11 H =>
 vq (idxA 256 1 a11 x30) H fun a12 H =>
 vq (qae H a12) H fun a13 H =>
 vq (intV (qaa .eql).f a13 (.int .i64 (.ofNat 0))) H fun a14 H =>
 cd a14 (
 ve (call (.f qnz) [x3, x30] H) fun a15 H =>
 qgb call g7 x30 H) (
 qgb call g7 x30 H)
def qqu (call : Ev.Call) (q7e2 : Hp → R1) (x3 x29 : AV) (g7 : AV → Hp → R1) (x30 : AV) (H : Hp) : R1 :=
 vq (intV (qaa .lss).f x30 x29) H fun a8 H =>
 cd a8 (
 qmz call g7 x3 x30 H) (
 q7e2 H)
def qga (call : Ev.Call) (q7e2 : Hp → R1) (x3 x29 : AV) (n : Nat) : AV → Hp → R1 :=
 Nat.rec (motive := fun _ => AV → Hp → R1) (fun _ _ => .bad) (fun _ ih => qqu call q7e2 x3 x29 ih) n
def qqv (call : Ev.Call) (q7e2 : Hp → R1) (x3 x29 : AV) : AV → Hp → R1 := qga call q7e2 x3 x29 qa6
def qdl (call : Ev.Call) (x1 x3 : AV) (H : Hp) : R1 :=
 vq (qak 0 x1) H fun a5 H =>
 vq (qae H a5) H fun a6 H =>
 qqv call (fun H => qex call x3 H) x3 a6 (.int .i64 (.ofNat 0)) H
def qmy (call : Ev.Call) (g21 : AV → Hp → R1) (x10 : AV) (H : Hp) : R1 :=
 vq (intV (qaa .add).f x10 (.int .i64 (.ofNat 1))) H fun a23 H =>
 g21 a23 H
def qmx (call : Ev.Call) (g21 : AV → Hp → R1) (x3 x8 x10 : AV) (H : Hp) : R1 :=
 vq (idxS 3 x8 x10) H fun a25 H =>
 vq (qbo 3 H a25) H fun a26 H =>
 vq (.new (.ptr H.nx 0) (qab 0 [.int .i64 (.ofNat 0), .int .i64 (.ofNat 0), .bool false])) H fun a27 H =>
 ve (qch 3 H a27 a26) fun _ H =>
 dz 14 H fun b29 H =>
 dq false false 0 0 (b29 + 0) H [] [] (fun _ => qak 0 a27) (some true) fun a30 H p w =>
 dq true false 1 1 (b29 + 1) H p w (fun H => qae H a30) (some true) fun a31 H p w =>
 dq false false 2 0 (b29 + 2) H p w (fun _ => qak 0 a27) (some true) fun a32 H p w =>
 dq true false 3 4 (b29 + 3) H p w (fun H => qae H a32) (some true) fun a33 H p w =>
 dq false false 4 0 (b29 + 4) H p w (fun _ => qak 0 x3) (some true) fun a34 H p w =>
 dq false false 5 28 (b29 + 5) H p w (fun _ => idxA 256 1 a34 a33) (some true) fun a35 H p w =>
 dq true false 6 60 (b29 + 6) H p w (fun H => qae H a35) (some true) fun a36 H p w =>
 dq false false 7 0 (b29 + 7) H p w (fun _ => qak 1 a27) (some true) fun a37 H p w =>
 dq true false 8 128 (b29 + 8) H p w (fun H => qae H a37) (some true) fun a38 H p w =>
 dq false true 9 384 (b29 + 9) H p w (fun _ => qgu 1 (b29 + 9) (qax (reps [.int .i64 (.ofNat 0)] 1) [(0, 1, a38)])) (some true) fun a39 H p w =>
 dq false false 11 0 (b29 + 11) H p w (fun _ => qak 0 x3) (some true) fun a40 H p w =>
 de 1020 H p w (qa8 1 8 (qaw 1020 p H) a36 (qb7 1 (qaw 1020 p H) a39)) (some true) fun a41 H p w =>
 dq false false 12 4095 (b29 + 12) H p w (fun _ => idxA 256 1 a40 a31) (some true) fun a42 H p w =>
 de 8191 H p w (qat (qaw 8191 p H) a42 a41) (some true) fun _ H p w =>
 dz2 p H fun H =>
 qmy call g21 x10 H
def qm0 (call : Ev.Call) (q21e0 : Hp → R1) (x3 x8 x9 : AV) (g21 : AV → Hp → R1) (x10 : AV) (H : Hp) : R1 :=
 vq (intV (qaa .lss).f x10 x9) H fun a22 H =>
 cd a22 (
 qmx call g21 x3 x8 x10 H) (
 q21e0 H)
def qec (call : Ev.Call) (q21e0 : Hp → R1) (x3 x8 x9 : AV) (n : Nat) : AV → Hp → R1 :=
 Nat.rec (motive := fun _ => AV → Hp → R1) (fun _ _ => .bad) (fun _ ih => qm0 call q21e0 x3 x8 x9 ih) n
def qm1 (call : Ev.Call) (q21e0 : Hp → R1) (x3 x8 x9 : AV) : AV → Hp → R1 := qec call q21e0 x3 x8 x9 qa6
def qu2 (call : Ev.Call) (x0 : AV) (H : Hp) : R1 :=
 vq (boxA 2 H.nx x0) H fun a0 H =>
 vq (.new (.ptr H.nx 0) (qab 0 (List.replicate 256 (.nilsl) ++ List.replicate 512 (.int .i64 (.ofNat 0)) ++ List.replicate 256 (.bool false) ++ [.nilsl] ++ [.int .i64 (.ofNat 0)] ++ [.nilsl]))) H fun a1 H =>
 vq (qak 1 a0) H fun a18 H =>
 vq (qae H a18) H fun a19 H =>
 vq (qa5 a19) H fun a20 H =>
 qm1 call (fun H => qdl call a0 a1 H) a1 a19 a20 (.int .i64 (.ofNat 0)) H
def cParts (call : Ev.Call) (x0 : AV) (H : Hp) : R1 := qu2 call x0 H
def qew (call : Ev.Call) (x2 x3 x5 : AV) (H : Hp) : R1 :=
 .ok (.fn qhv [] [x3, x2, x5]) H
def qg4 (call : Ev.Call) (g12 : AV → Hp → R1) (x17 : AV) (H : Hp) : R1 :=
 vq (intV (qaa .add).f x17 (.int .i64 (.ofNat 1))) H fun a14 H =>
 g12 a14 H
def qux (call : Ev.Call) (g19 : AV → Hp → R1) (x24 : AV) (H : Hp) : R1 :=
 vq (intV (qaa .add).f x24 (.int .i64 (.ofNat 1))) H fun a21 H =>
 g19 a21 H
def quw (call : Ev.Call) (g19 : AV → Hp → R1) (x5 x6 x22 x24 : AV) (H : Hp) : R1 :=
 vq (idxS 1 x22 x24) H fun a23 H =>
 vq (qae H a23) H fun a24 H =>
 vq (qae H x5) H fun a25 H =>
 vq (idxS 1 a25 a24) H fun a26 H =>
 ve (qat H a26 x6) fun _ H =>
 qux call g19 x24 H
def quy (call : Ev.Call) (q19e2 : Hp → R1) (x5 x6 x22 x23 : AV) (g19 : AV → Hp → R1) (x24 : AV) (H : Hp) : R1 :=
 vq (intV (qaa .lss).f x24 x23) H fun a20 H =>
 cd a20 (
 quw call g19 x5 x6 x22 x24 H) (
 q19e2 H)
def qim (call : Ev.Call) (q19e2 : Hp → R1) (x5 x6 x22 x23 : AV) (n : Nat) : AV → Hp → R1 :=
 Nat.rec (motive := fun _ => AV → Hp → R1) (fun _ _ => .bad) (fun _ ih => quy call q19e2 x5 x6 x22 x23 ih) n
def qu0 (call : Ev.Call) (q19e2 : Hp → R1) (x5 x6 x22 x23 : AV) : AV → Hp → R1 := qim call q19e2 x5 x6 x22 x23 qa6
def quv (call : Ev.Call) (g12 : AV → Hp → R1) (x5 x15 x17 : AV) (H : Hp) : R1 :=
 vq (idxS 1 x15 x17) H fun a16 H =>
 vq (qae H a16) H fun a17 H =>
 vq (qa5 a17) H fun a18 H =>
 qu0 call (fun H => qg4 call g12 x17 H) x5 x17 a17 a18 (.int .i64 (.ofNat 0)) H
def quz (call : Ev.Call) (q12e0 : Hp → R1) (x5 x15 x16 : AV) (g12 : AV → Hp → R1) (x17 : AV) (H : Hp) : R1 :=
 vq (intV (qaa .lss).f x17 x16) H fun a13 H =>
 cd a13 (
 quv call g12 x5 x15 x17 H) (
 q12e0 H)
def qdp (call : Ev.Call) (q12e0 : Hp → R1) (x5 x15 x16 : AV) (n : Nat) : AV → Hp → R1 :=
 Nat.rec (motive := fun _ => AV → Hp → R1) (fun _ _ => .bad) (fun _ ih => quz call q12e0 x5 x15 x16 ih) n
def qu1 (call : Ev.Call) (q12e0 : Hp → R1) (x5 x15 x16 : AV) : AV → Hp → R1 := qdp call q12e0 x5 x15 x16 qa6
def q99 (call : Ev.Call) (x0 x1 : AV) (H : Hp) : R1 :=
 vq (boxA 2 H.nx x0) H fun a0 H =>
 vq (box1 H.nx x1) H fun a1 H =>
 vq (qae H a1) H fun a2 H =>
 ve (call (.f qb1) [a2, (.fn qjt [] [])] H) fun a3 H =>
 vq (qak 0 a0) H fun a4 H =>
 vq (qae H a4) H fun a5 H =>
 vq (qg6 [.int .i64 (.ofNat 0)] 8 H.nx a5 a5) H fun a6 H =>
 vq (.new (.ptr H.nx 0) (qab 0 [.nilsl])) H fun a7 H =>
 ve (qat H a7 a6) fun _ H =>
 vq (qae H a1) H fun a10 H =>
 vq (qa5 a10) H fun a11 H =>
 qu1 call (fun H => qew call a0 a1 a7 H) a7 a10 a11 (.int .i64 (.ofNat 0)) H
def cRdy (call : Ev.Call) (x0 x1 : AV) (H : Hp) : R1 := q99 call x0 x1 H
def qx1 (call : Ev.Call) (x0 : AV) (H : Hp) : R1 :=
 vq (qa5 x0) H fun a0 H =>
 vq (qa5 x0) H fun a1 H =>
 vq (qbq 1 x0 none (some a0) (some a1)) H fun a2 H =>
 .ok a2 H
def sClpS (call : Ev.Call) (x0 : AV) (H : Hp) : R1 := qx1 call x0 H
def q85 (call : Ev.Call) (x0 x1 : AV) (H : Hp) : R1 :=
 vq (boxA 3 H.nx x0) H fun a0 H =>
 vq (boxA 3 H.nx x1) H fun a1 H =>
 dz 18 H fun b2 H =>
 dq false false 0 0 (b2 + 0) H [] [] (fun _ => qak 0 a0) (some true) fun a3 H p w =>
 dq true false 1 1 (b2 + 1) H p w (fun H => qae H a3) (some true) fun a4 H p w =>
 dq false false 2 0 (b2 + 2) H p w (fun _ => qak 0 a1) (some true) fun a5 H p w =>
 dq true false 3 4 (b2 + 3) H p w (fun H => qae H a5) (some true) fun a6 H p w =>
 dq false false 5 0 (b2 + 5) H p w (fun _ => qak 1 a0) (some true) fun a7 H p w =>
 dq true false 6 32 (b2 + 6) H p w (fun H => qae H a7) (some true) fun a8 H p w =>
 dq false false 7 0 (b2 + 7) H p w (fun _ => qak 1 a1) (some true) fun a9 H p w =>
 dq true false 8 128 (b2 + 8) H p w (fun H => qae H a9) (some true) fun a10 H p w =>
 dq true false 10 0 (b2 + 10) H p w (fun H => qbo 3 H a0) (some true) fun a11 H p w =>
 dq true false 12 0 (b2 + 12) H p w (fun H => qbo 3 H a1) (some true) fun a12 H p w =>
 de 15 H p w (call (.f qmo) [a4, a6] (qaw 15 p H)) (some true) fun a13 H p w =>
 de 511 H p w (call (.f qmo) [a8, a10] (qaw 511 p H)) (some true) fun a14 H p w =>
 de 2047 H p w (call (.f qqc) [a11] (qaw 2047 p H)) (some true) fun a15 H p w =>
 de 8191 H p w (call (.f qqc) [a12] (qaw 8191 p H)) (some true) fun a16 H p w =>
 de 16383 H p w (call (.f qmo) [a15, a16] (qaw 16383 p H)) (some true) fun a17 H p w =>
 dq false true 15 32767 (b2 + 15) H p w (fun _ => qgu 3 (b2 + 15) (qax (reps [.int .i64 (.ofNat 0)] 3) [(0, 1, a13), (1, 1, a14), (2, 1, a17)])) (some true) fun a18 H p w =>
 de 65535 H p w (call (.f q2n) [a18] (qaw 65535 p H)) (some true) fun a19 H p w =>
 dq false false 17 131071 (b2 + 17) H p w (fun _ => .val a19) (some true) fun a20 H p w =>
 dz2 p H fun H =>
 .ok a20 H
def gCmp (call : Ev.Call) (x0 x1 : AV) (H : Hp) : R1 := q85 call x0 x1 H
def qdx (call : Ev.Call) (g3 : AV → Hp → R1) (x0 x4 x5 : AV) (H : Hp) : R1 :=
 vq (nilC x5) H fun a7 H =>
 vq (qak 0 a7) H fun a8 H =>
 vq (qae H a8) H fun a9 H =>
 ve (call (.f qf8) [x0, a9] H) fun a10 H =>
 vq (qa5 x4) H fun a11 H =>
 vq (intV (qaa .sub).f a11 (.int .i64 (.ofNat 1))) H fun a12 H =>
 vq (qbq 2 x4 none (some a12) none) H fun a13 H =>
 vq (qa5 a13) H fun a14 H =>
 vq (intV (qaa .gtr).f a14 (.int .i64 (.ofNat 0))) H fun a15 H =>
 cd a15 (
 vq (qa5 a13) H fun a16 H =>
 vq (intV (qaa .sub).f a16 (.int .i64 (.ofNat 1))) H fun a17 H =>
 vq (idxS 2 a13 a17) H fun a18 H =>
 vq (qak 0 a18) H fun a19 H =>
 vq (qae H a19) H fun a20 H =>
 dz 0 H fun b21 H =>
 dq false false 0 0 (b21 + 0) H [] [] (fun _ => .val x0) (some true) fun a22 H p w =>
 dq false false 1 0 (b21 + 1) H p w (fun _ => .val a20) (some true) fun a23 H p w =>
 dq false false 2 0 (b21 + 2) H p w (fun _ => .val x0) (some true) fun a24 H p w =>
 dq false false 3 0 (b21 + 3) H p w (fun _ => .val a20) (some true) fun a25 H p w =>
 dq false false 4 4 (b21 + 4) H p w (fun _ => nilC a24) (some true) fun a26 H p w =>
 dq false false 5 20 (b21 + 5) H p w (fun _ => qak 512 a26) (some true) fun a27 H p w =>
 dq false false 6 60 (b21 + 6) H p w (fun _ => idxA 256 1 a27 a25) (some true) fun a28 H p w =>
 dq true false 7 124 (b21 + 7) H p w (fun H => qae H a28) (some true) fun a29 H p w =>
 dq false false 8 0 (b21 + 8) H p w (fun _ => .val x0) (some true) fun a30 H p w =>
 dq false false 9 0 (b21 + 9) H p w (fun _ => .val a9) (some true) fun a31 H p w =>
 dq false false 10 256 (b21 + 10) H p w (fun _ => nilC a30) (some true) fun a32 H p w =>
 dq false false 11 1280 (b21 + 11) H p w (fun _ => qak 512 a32) (some true) fun a33 H p w =>
 dq false false 12 3840 (b21 + 12) H p w (fun _ => idxA 256 1 a33 a31) (some true) fun a34 H p w =>
 dq true false 13 7936 (b21 + 13) H p w (fun H => qae H a34) (some true) fun a35 H p w =>
 dq false false 14 16380 (b21 + 14) H p w (fun _ => qgz minV a29 [a35]) (some true) fun a36 H p w =>
 dq false false 15 1 (b21 + 15) H p w (fun _ => nilC a22) (some true) fun a37 H p w =>
 dq false false 16 32769 (b21 + 16) H p w (fun _ => qak 512 a37) (some true) fun a38 H p w =>
 dq false false 17 131071 (b21 + 17) H p w (fun _ => idxA 256 1 a38 a23) (some true) fun a39 H p w =>
 de 262143 H p w (qat (qaw 262143 p H) a39 a36) (some true) fun _ H p w =>
 dz2 p H fun H =>
 g3 a13 H) (
 g3 a13 H)
def qqr (call : Ev.Call) (g42 : AV → Hp → R1) (x0 x4 x5 x6 : AV) (H : Hp) : R1 :=
 vq (nilC x0) H fun a62 H =>
 vq (qak 768 a62) H fun a63 H =>
 vq (idxA 256 1 a63 x6) H fun a64 H =>
 vq (qae H a64) H fun a65 H =>
 cd a65 (
 dz 0 H fun b66 H =>
 dq false false 0 0 (b66 + 0) H [] [] (fun _ => .val x0) (some true) fun a67 H p w =>
 dq false false 1 0 (b66 + 1) H p w (fun _ => .val x5) (some true) fun a68 H p w =>
 dq false false 2 2 (b66 + 2) H p w (fun _ => nilC a68) (some true) fun a69 H p w =>
 dq false false 3 6 (b66 + 3) H p w (fun _ => qak 0 a69) (some true) fun a70 H p w =>
 dq true false 4 14 (b66 + 4) H p w (fun H => qae H a70) (some true) fun a71 H p w =>
 dq false false 5 0 (b66 + 5) H p w (fun _ => .val x0) (some true) fun a72 H p w =>
 dq false false 6 0 (b66 + 6) H p w (fun _ => .val x5) (some true) fun a73 H p w =>
 dq false false 7 64 (b66 + 7) H p w (fun _ => nilC a73) (some true) fun a74 H p w =>
 dq false false 8 192 (b66 + 8) H p w (fun _ => qak 0 a74) (some true) fun a75 H p w =>
 dq true false 9 448 (b66 + 9) H p w (fun H => qae H a75) (some true) fun a76 H p w =>
 dq false false 10 32 (b66 + 10) H p w (fun _ => nilC a72) (some true) fun a77 H p w =>
 dq false false 11 1056 (b66 + 11) H p w (fun _ => qak 512 a77) (some true) fun a78 H p w =>
 dq false false 12 4064 (b66 + 12) H p w (fun _ => idxA 256 1 a78 a76) (some true) fun a79 H p w =>
 dq true false 13 8160 (b66 + 13) H p w (fun H => qae H a79) (some true) fun a80 H p w =>
 dq false false 14 0 (b66 + 14) H p w (fun _ => .val x0) (some true) fun a81 H p w =>
 dq false false 15 0 (b66 + 15) H p w (fun _ => .val x6) (some true) fun a82 H p w =>
 dq false false 16 16384 (b66 + 16) H p w (fun _ => nilC a81) (some true) fun a83 H p w =>
 dq false false 17 81920 (b66 + 17) H p w (fun _ => qak 256 a83) (some true) fun a84 H p w =>
 dq false false 18 245760 (b66 + 18) H p w (fun _ => idxA 256 1 a84 a82) (some true) fun a85 H p w =>
 dq true false 19 507904 (b66 + 19) H p w (fun H => qae H a85) (some true) fun a86 H p w =>
 dq false false 20 1048544 (b66 + 20) H p w (fun _ => qgz minV a80 [a86]) (some true) fun a87 H p w =>
 dq false false 21 1 (b66 + 21) H p w (fun _ => nilC a67) (some true) fun a88 H p w =>
 dq false false 22 2097153 (b66 + 22) H p w (fun _ => qak 512 a88) (some true) fun a89 H p w =>
 dq false false 23 8388607 (b66 + 23) H p w (fun _ => idxA 256 1 a89 a71) (some true) fun a90 H p w =>
 de 16777215 H p w (qat (qaw 16777215 p H) a90 a87) (some true) fun _ H p w =>
 dz2 p H fun H =>
 g42 x4 H) (
 g42 x4 H)
def qmw (call : Ev.Call) (q42e1 : AV → Hp → R1) (g42 : AV → Hp → R1) (x0 x4 x5 : AV) (H : Hp) : R1 :=
 vl (nilC x5) fun a43 =>
 vl (qak 0 a43) fun a44 =>
 vl (qae H a44) fun a45 =>
 vl (nilC x0) fun a46 =>
 vl (qak 0 a46) fun a47 =>
 vl (idxA 256 1 a47 a45) fun a48 =>
 vl (qae H a48) fun a49 =>
 vl (nilC x5) fun a50 =>
 vl (qak 1 a50) fun a51 =>
 vl (qae H a51) fun a52 =>
 vl (idxS 1 a49 a52) fun a53 =>
 vl (qae H a53) fun a54 =>
 vq (nilC x5) H fun a55 H =>
 vq (qak 1 a55) H fun a56 H =>
 vq (qae H a56) H fun a57 H =>
 vq (intV (qaa .add).f a57 (.int .i64 (.ofNat 1))) H fun a58 H =>
 vq (nilC x5) H fun a59 H =>
 vq (qak 1 a59) H fun a60 H =>
 ve (qat H a60 a58) fun _ H =>
 vq (nilC x0) H fun a93 H =>
 vq (qak 256 a93) H fun a94 H =>
 vq (idxA 256 1 a94 a54) H fun a95 H =>
 vq (qae H a95) H fun a96 H =>
 vq (intV (qaa .eql).f a96 (.int .i64 (.ofNat 0))) H fun a97 H =>
 cd a97 (
 ve (call (.f qhy) [x0, a54] H) fun a98 H =>
 vq (aggN (qax [.int .i64 (.ofNat 0), .int .i64 (.ofNat 0)] [(0, 1, a54), (1, 1, (.int .i64 (.ofNat 0)))])) H fun a99 H =>
 vq (qgu 1 H.nx (qax (reps [.int .i64 (.ofNat 0), .int .i64 (.ofNat 0)] 1) [(0, 2, a99)])) H fun a100 H =>
 ve (qa8 2 16 H x4 (qb7 2 H a100)) fun a101 H =>
 q42e1 a101 H) (
 qqr call g42 x0 x4 x5 a54 H)
def qqs (call : Ev.Call) (q42e1 : AV → Hp → R1) (q42e2 : AV → Hp → R1) (x0 x5 : AV) (g42 : AV → Hp → R1) (x4 : AV) (H : Hp) : R1 :=
 vl (nilC x5) fun a103 =>
 vl (qak 1 a103) fun a104 =>
 vl (qae H a104) fun a105 =>
 vl (nilC x5) fun a106 =>
 vl (qak 0 a106) fun a107 =>
 vl (qae H a107) fun a108 =>
 vl (nilC x0) fun a109 =>
 vl (qak 0 a109) fun a110 =>
 vl (idxA 256 1 a110 a108) fun a111 =>
 vl (qae H a111) fun a112 =>
 vl (qa5 a112) fun a113 =>
 vl (intV (qaa .lss).f a105 a113) fun a114 =>
 cd a114 (
 qmw call q42e1 g42 x0 x4 x5 H) (
 q42e2 x4 H)
def qf9 (call : Ev.Call) (q42e1 : AV → Hp → R1) (q42e2 : AV → Hp → R1) (x0 x5 : AV) (n : Nat) : AV → Hp → R1 :=
 Nat.rec (motive := fun _ => AV → Hp → R1) (fun _ _ => .bad) (fun _ ih => qqs call q42e1 q42e2 x0 x5 ih) n
def qqt (call : Ev.Call) (q42e1 : AV → Hp → R1) (q42e2 : AV → Hp → R1) (x0 x5 : AV) : AV → Hp → R1 := qf9 call q42e1 q42e2 x0 x5 qa6
def qmv (call : Ev.Call) (g3 : AV → Hp → R1) (x0 x4 : AV) (H : Hp) : R1 :=
 vq (qa5 x4) H fun a4 H =>
 vq (intV (qaa .sub).f a4 (.int .i64 (.ofNat 1))) H fun a5 H =>
 vq (idxS 2 x4 a5) H fun a6 H =>
 qqt call (fun x4 H => g3 x4 H) (fun x4 H => qdx call g3 x0 x4 a6 H) x0 a6 x4 H
def qut (call : Ev.Call) (q3e0 : Hp → R1) (x0 : AV) (g3 : AV → Hp → R1) (x4 : AV) (H : Hp) : R1 :=
 vq (qa5 x4) H fun a116 H =>
 vq (intV (qaa .gtr).f a116 (.int .i64 (.ofNat 0))) H fun a117 H =>
 cd a117 (
 qmv call g3 x0 x4 H) (
 q3e0 H)
def qb2 (call : Ev.Call) (q3e0 : Hp → R1) (x0 : AV) (n : Nat) : AV → Hp → R1 :=
 Nat.rec (motive := fun _ => AV → Hp → R1) (fun _ _ => .bad) (fun _ ih => qut call q3e0 x0 ih) n
def quu (call : Ev.Call) (q3e0 : Hp → R1) (x0 : AV) : AV → Hp → R1 := qb2 call q3e0 x0 qa6
def qmu (call : Ev.Call) (x0 x4 : AV) (H : Hp) : R1 :=
 quu call (fun H => .ok (.tup []) H) x0 x4 H
def q0j (call : Ev.Call) (x0 x1 : AV) (H : Hp) : R1 :=
 ve (call (.f qhy) [x0, x1] H) fun a0 H =>
 vq (aggN (qax [.int .i64 (.ofNat 0), .int .i64 (.ofNat 0)] [(0, 1, x1), (1, 1, (.int .i64 (.ofNat 0)))])) H fun a1 H =>
 vq (qgu 1 H.nx (qax (reps [.int .i64 (.ofNat 0), .int .i64 (.ofNat 0)] 1) [(0, 2, a1)])) H fun a2 H =>
 qmu call x0 a2 H
def cWalk (call : Ev.Call) (x0 x1 : AV) (H : Hp) : R1 := q0j call x0 x1 H
def q6y (call : Ev.Call) (x0 x1 : AV) (H : Hp) : R1 :=
 vl (idxS 1 x0 (.int .i64 (.ofNat 0))) fun a0 =>
 vl (qae H a0) fun a1 =>
 vl (idxS 1 x1 (.int .i64 (.ofNat 0))) fun a2 =>
 vl (qae H a2) fun a3 =>
 vl (intV (qaa .sub).f a1 a3) fun a4 =>
 .ok a4 H
def rdyA (call : Ev.Call) (x0 x1 : AV) (H : Hp) : R1 := q6y call x0 x1 H
def qgk (call : Ev.Call) (g5 : AV → Hp → R1) (x17 : AV) (H : Hp) : R1 :=
 vq (intV (qaa .add).f x17 (.int .i64 (.ofNat 1))) H fun a7 H =>
 g5 a7 H
def qno (call : Ev.Call) (g14 : AV → Hp → R1) (x55 : AV) (H : Hp) : R1 :=
 vq (intV (qaa .add).f x55 (.int .i64 (.ofNat 1))) H fun a16 H =>
 g14 a16 H
def qs1 (call : Ev.Call) (q14r : Hp → R1) (q14e4 : Hp → R1) (g14 : AV → Hp → R1) (x0 x1 x5 x6 x55 : AV) (H : Hp) : R1 :=
 vq (idxS 1 x5 x55) H fun a18 H =>
 vq (qae H a18) H fun a19 H =>
 vq ((unS .not).f a19) H fun a20 H =>
 vg (qad true a20) (.val x6) H fun a21 H =>
 vg (qad true a20) (.val x55) H fun a22 H =>
 vg (qad true a20) (idxS 1 a21 a22) H fun a23 H =>
 vg (qad true a20) (qae H a23) H fun a24 H =>
 vg (qad true a20) ((unS .not).f a24) H fun a25 H =>
 vq (qbm a20 a25 (.bool false)) H fun a26 H =>
 cd a26 (
 vq (idxS 1 x5 x55) H fun a27 H =>
 ve (qat H a27 (.bool true)) fun _ H =>
 vq (qae H x1) H fun a29 H =>
 vq (idxS 1 a29 x55) H fun a30 H =>
 vq (qae H a30) H fun a31 H =>
 ve (qrd call x0 [a31] H) fun a32 H =>
 vq ((unS .not).f a32) H fun a33 H =>
 cd a33 (
 q14r H) (
 q14e4 H)) (
 qno call g14 x55 H)
def qs3 (call : Ev.Call) (q14r : Hp → R1) (q14e4 : Hp → R1) (x0 x1 x5 x6 x54 : AV) (g14 : AV → Hp → R1) (x55 : AV) (H : Hp) : R1 :=
 vq (intV (qaa .lss).f x55 x54) H fun a15 H =>
 cd a15 (
 qs1 call q14r q14e4 g14 x0 x1 x5 x6 x55 H) (
 q14e4 H)
def qgj (call : Ev.Call) (q14r : Hp → R1) (q14e4 : Hp → R1) (x0 x1 x5 x6 x54 : AV) (n : Nat) : AV → Hp → R1 :=
 Nat.rec (motive := fun _ => AV → Hp → R1) (fun _ _ => .bad) (fun _ ih => qs3 call q14r q14e4 x0 x1 x5 x6 x54 ih) n
def qs5 (call : Ev.Call) (q14r : Hp → R1) (q14e4 : Hp → R1) (x0 x1 x5 x6 x54 : AV) : AV → Hp → R1 := qgj call q14r q14e4 x0 x1 x5 x6 x54 qa6
def qgl (call : Ev.Call) (q5r : Hp → R1) (g5 : AV → Hp → R1) (x0 x1 x5 x6 x17 : AV) (H : Hp) : R1 :=
 vq (qae H x1) H fun a12 H =>
 vq (qa5 a12) H fun a13 H =>
 qs5 call (fun H => q5r H) (fun H => qgk call g5 x17 H) x0 x1 x5 x6 a13 (.int .i64 (.ofNat 0)) H
def qkb (call : Ev.Call) (g39 : AV → Hp → R1) (x25 : AV) (H : Hp) : R1 :=
 vq (intV (qaa .add).f x25 (.int .i64 (.ofNat 1))) H fun a41 H =>
 g39 a41 H
def qs0 (call : Ev.Call) (g39 : AV → Hp → R1) (x3 x5 x6 x23 x25 : AV) (H : Hp) : R1 :=
 vq (idxS 3 x23 x25) H fun a43 H =>
 vq (qbo 3 H a43) H fun a44 H =>
 vq (.new (.ptr H.nx 0) (qab 0 [.int .i64 (.ofNat 0), .int .i64 (.ofNat 0), .bool false])) H fun a45 H =>
 ve (qch 3 H a45 a44) fun _ H =>
 vl (qae H x3) fun a47 =>
 vl (qak 0 a45) fun a48 =>
 vl (qae H a48) fun a49 =>
 vl (idxS 1 a47 a49) fun a50 =>
 vl (qae H a50) fun a51 =>
 vl (qae H x3) fun a52 =>
 vl (qak 1 a45) fun a53 =>
 vl (qae H a53) fun a54 =>
 vl (idxS 1 a52 a54) fun a55 =>
 vl (qae H a55) fun a56 =>
 vq (intV (qaa .neq).f a51 a56) H fun a57 H =>
 vg (qad true a57) (.val x5) H fun a58 H =>
 vg (qad true a57) (.val a56) H fun a59 H =>
 vg (qad true a57) (idxS 1 a58 a59) H fun a60 H =>
 vg (qad true a57) (qae H a60) H fun a61 H =>
 vg (qad true a57) ((unS .not).f a61) H fun a62 H =>
 vq (qbm a57 a62 (.bool false)) H fun a63 H =>
 cd a63 (
 vq (idxS 1 x6 a51) H fun a64 H =>
 ve (qat H a64 (.bool true)) fun _ H =>
 qkb call g39 x25 H) (
 qkb call g39 x25 H)
def qs2 (call : Ev.Call) (q39e2 : Hp → R1) (x3 x5 x6 x23 x24 : AV) (g39 : AV → Hp → R1) (x25 : AV) (H : Hp) : R1 :=
 vq (intV (qaa .lss).f x25 x24) H fun a40 H =>
 cd a40 (
 qs0 call g39 x3 x5 x6 x23 x25 H) (
 q39e2 H)
def qgi (call : Ev.Call) (q39e2 : Hp → R1) (x3 x5 x6 x23 x24 : AV) (n : Nat) : AV → Hp → R1 :=
 Nat.rec (motive := fun _ => AV → Hp → R1) (fun _ _ => .bad) (fun _ ih => qs2 call q39e2 x3 x5 x6 x23 x24 ih) n
def qs4 (call : Ev.Call) (q39e2 : Hp → R1) (x3 x5 x6 x23 x24 : AV) : AV → Hp → R1 := qgi call q39e2 x3 x5 x6 x23 x24 qa6
def qsz (call : Ev.Call) (q5r : Hp → R1) (g5 : AV → Hp → R1) (x0 x1 x2 x3 x5 x17 : AV) (H : Hp) : R1 :=
 vq (qae H x1) H fun a9 H =>
 vq (qa5 a9) H fun a10 H =>
 vq (qg6 [.bool false] 1 H.nx a10 a10) H fun a11 H =>
 vq (qak 1 x2) H fun a36 H =>
 vq (qae H a36) H fun a37 H =>
 vq (qa5 a37) H fun a38 H =>
 qs4 call (fun H => qgl call q5r g5 x0 x1 x5 a11 x17 H) x3 x5 a11 a37 a38 (.int .i64 (.ofNat 0)) H
def qx4 (call : Ev.Call) (q5r : Hp → R1) (q5e0 : Hp → R1) (x0 x1 x2 x3 x5 x16 : AV) (g5 : AV → Hp → R1) (x17 : AV) (H : Hp) : R1 :=
 vq (intV (qaa .lss).f x17 x16) H fun a6 H =>
 cd a6 (
 qsz call q5r g5 x0 x1 x2 x3 x5 x17 H) (
 q5e0 H)
def qcg (call : Ev.Call) (q5r : Hp → R1) (q5e0 : Hp → R1) (x0 x1 x2 x3 x5 x16 : AV) (n : Nat) : AV → Hp → R1 :=
 Nat.rec (motive := fun _ => AV → Hp → R1) (fun _ _ => .bad) (fun _ ih => qx4 call q5r q5e0 x0 x1 x2 x3 x5 x16 ih) n
def qx5 (call : Ev.Call) (q5r : Hp → R1) (q5e0 : Hp → R1) (x0 x1 x2 x3 x5 x16 : AV) : AV → Hp → R1 := qcg call q5r q5e0 x0 x1 x2 x3 x5 x16 qa6
def q6w (call : Ev.Call) (x0 x1 x2 x3 : AV) (H : Hp) : R1 :=
 vq (qae H x1) H fun a0 H =>
 vq (qa5 a0) H fun a1 H =>
 vq (qg6 [.bool false] 1 H.nx a1 a1) H fun a2 H =>
 vq (qae H x1) H fun a3 H =>
 vq (qa5 a3) H fun a4 H =>
 qx5 call (fun H => .ok (.tup []) H) (fun H => .ok (.tup []) H) x0 x1 x2 x3 a2 a4 (.int .i64 (.ofNat 0)) H
def rdyB (call : Ev.Call) (x0 x1 x2 x3 : AV) (H : Hp) : R1 := q6w call x0 x1 x2 x3 H
def q0x (call : Ev.Call) (H : Hp) : R1 :=
 .ok (.int .i64 (.ofNat 0)) H
def q0w (call : Ev.Call) (x0 x1 : AV) (H : Hp) : R1 :=
 vq (intV (qaa .gtr).f x0 x1) H fun a3 H =>
 cd a3 (
 .ok (.int .i64 (.ofNat 1)) H) (
 q0x call H)
def q0v (call : Ev.Call) (x0 x1 : AV) (H : Hp) : R1 :=
 vq (intV (qaa .lss).f x0 x1) H fun a5 H =>
 cd a5 (
 .ok (.int .i64 (.negSucc 0)) H) (
 q0w call x0 x1 H)
def q0u (call : Ev.Call) (x0 x1 x6 : AV) (H : Hp) : R1 :=
 cd x6 (
 .ok (.int .i64 (.ofNat 1)) H) (
 q0v call x0 x1 H)
def zal (call : Ev.Call) (H : Hp) : R1 :=
 .ok (.int .i64 (.negSucc 0)) H
def zam (call : Ev.Call) (x0 x1 : AV) (H : Hp) : R1 :=
 ve (call (.f qju) [x0] H) fun a0 H =>
 ve (call (.f qju) [x1] H) fun a1 H =>
 cd a0 (
 cd a1 (
 .ok (.int .i64 (.ofNat 0)) H) (
 zal call H)) (
 q0u call x0 x1 a1 H)
def cCmp (call : Ev.Call) (x0 x1 : AV) (H : Hp) : R1 := zam call x0 x1 H
def qz5 (call : Ev.Call) (H : Hp) : R1 :=
 .ok (.int .i64 (.ofNat 0)) H
def q83 (call : Ev.Call) (x0 : AV) (H : Hp) : R1 :=
 vq (boxA 3 H.nx x0) H fun a0 H =>
 vq (qak 2 a0) H fun a2 H =>
 vq (qae H a2) H fun a3 H =>
 cd a3 (
 .ok (.int .i64 (.ofNat 1)) H) (
 qz5 call H)
def gSgn (call : Ev.Call) (x0 : AV) (H : Hp) : R1 := q83 call x0 H
def qqw (call : Ev.Call) (x3 : AV) (H : Hp) : R1 :=
 .ok x3 H
def zab (call : Ev.Call) (g2 : AV → Hp → R1) (x8 : AV) (H : Hp) : R1 :=
 vq (intV (qaa .add).f x8 (.int .i64 (.ofNat 1))) H fun a4 H =>
 g2 a4 H
def zaa (call : Ev.Call) (q2r : AV → Hp → R1) (g2 : AV → Hp → R1) (x3 x6 x8 : AV) (H : Hp) : R1 :=
 vq (idxS 1 x6 x8) H fun a6 H =>
 vq (qae H a6) H fun a7 H =>
 vq (intV (qaa .neq).f a7 x3) H fun a8 H =>
 cd a8 (
 q2r a7 H) (
 zab call g2 x8 H)
def zac (call : Ev.Call) (q2r : AV → Hp → R1) (q2e0 : Hp → R1) (x3 x6 x7 : AV) (g2 : AV → Hp → R1) (x8 : AV) (H : Hp) : R1 :=
 vq (intV (qaa .lss).f x8 x7) H fun a3 H =>
 cd a3 (
 zaa call q2r g2 x3 x6 x8 H) (
 q2e0 H)
def qr5 (call : Ev.Call) (q2r : AV → Hp → R1) (q2e0 : Hp → R1) (x3 x6 x7 : AV) (n : Nat) : AV → Hp → R1 :=
 Nat.rec (motive := fun _ => AV → Hp → R1) (fun _ _ => .bad) (fun _ ih => zac call q2r q2e0 x3 x6 x7 ih) n
def zad (call : Ev.Call) (q2r : AV → Hp → R1) (q2e0 : Hp → R1) (x3 x6 x7 : AV) : AV → Hp → R1 := qr5 call q2r q2e0 x3 x6 x7 qa6
def zgz (call : Ev.Call) (x0 : AV) (H : Hp) : R1 :=
 vq (qa5 x0) H fun a1 H =>
 zad call (fun x2 H => .ok x2 H) (fun H => qqw call (.int .i64 (.ofNat 0)) H) (.int .i64 (.ofNat 0)) x0 a1 (.int .i64 (.ofNat 0)) H
def cOr (call : Ev.Call) (x0 : AV) (H : Hp) : R1 := zgz call x0 H
def qu7 (call : Ev.Call) (x0 x1 : AV) (H : Hp) : R1 :=
 vq (nilC x0) H fun a0 H =>
 vq (qak 1025 a0) H fun a1 H =>
 vq (qae H a1) H fun a2 H =>
 vq (intV (qaa .add).f a2 (.int .i64 (.ofNat 1))) H fun a3 H =>
 vq (nilC x0) H fun a4 H =>
 vq (qak 1025 a4) H fun a5 H =>
 ve (qat H a5 a3) fun _ H =>
 dz 0 H fun b7 H =>
 dq false false 0 0 (b7 + 0) H [] [] (fun _ => .val x0) (some true) fun a8 H p w =>
 dq false false 1 0 (b7 + 1) H p w (fun _ => .val x1) (some true) fun a9 H p w =>
 dq false false 2 0 (b7 + 2) H p w (fun _ => .val x0) (some true) fun a10 H p w =>
 dq false false 3 0 (b7 + 3) H p w (fun _ => .val x1) (some true) fun a11 H p w =>
 dq false false 4 0 (b7 + 4) H p w (fun _ => .val x0) (some true) fun a12 H p w =>
 dq false false 5 0 (b7 + 5) H p w (fun _ => .val x1) (some true) fun a13 H p w =>
 dq false false 6 0 (b7 + 6) H p w (fun _ => .val x0) (some true) fun a14 H p w =>
 dq false false 7 64 (b7 + 7) H p w (fun _ => nilC a14) (some true) fun a15 H p w =>
 dq false false 8 192 (b7 + 8) H p w (fun _ => qak 1025 a15) (some true) fun a16 H p w =>
 dq true false 9 448 (b7 + 9) H p w (fun H => qae H a16) (some true) fun a17 H p w =>
 dq false false 10 0 (b7 + 10) H p w (fun _ => .val x0) (some true) fun a18 H p w =>
 dq false false 11 1024 (b7 + 11) H p w (fun _ => nilC a18) (some true) fun a19 H p w =>
 dq false false 12 3072 (b7 + 12) H p w (fun _ => qak 1025 a19) (some true) fun a20 H p w =>
 dq true false 13 7168 (b7 + 13) H p w (fun H => qae H a20) (some true) fun a21 H p w =>
 dq false false 14 1 (b7 + 14) H p w (fun _ => nilC a8) (some true) fun a22 H p w =>
 dq false false 15 16385 (b7 + 15) H p w (fun _ => qak 256 a22) (some true) fun a23 H p w =>
 dq false false 16 65475 (b7 + 16) H p w (fun _ => idxA 256 1 a23 a9) (some true) fun a24 H p w =>
 dq false false 18 4 (b7 + 18) H p w (fun _ => nilC a10) (some true) fun a25 H p w =>
 dq false false 19 262148 (b7 + 19) H p w (fun _ => qak 512 a25) (some true) fun a26 H p w =>
 dq false false 22 16 (b7 + 22) H p w (fun _ => nilC a12) (some true) fun a27 H p w =>
 dq false false 23 4194320 (b7 + 23) H p w (fun _ => qak 768 a27) (some true) fun a28 H p w =>
 de 131011 H p w (qat (qaw 131011 p H) a24 a17) (some true) fun _ H p w =>
 dq false false 20 1048527 (b7 + 20) H p w (fun _ => idxA 256 1 a26 a11) (some true) fun a30 H p w =>
 de 2097103 H p w (qat (qaw 2097103 p H) a30 a21) (some true) fun _ H p w =>
 dq false false 24 16777215 (b7 + 24) H p w (fun _ => idxA 256 1 a28 a13) (some true) fun a32 H p w =>
 de 33554431 H p w (qat (qaw 33554431 p H) a32 (.bool true)) (some true) fun _ H p w =>
 dz2 p H fun H =>
 vq (nilC x0) H fun a34 H =>
 vq (qak 1024 a34) H fun a35 H =>
 vq (qae H a35) H fun a36 H =>
 vq (qgu 1 H.nx (qax (reps [.int .i64 (.ofNat 0)] 1) [(0, 1, x1)])) H fun a37 H =>
 ve (qa8 1 8 H a36 (qb7 1 H a37)) fun a38 H =>
 vq (nilC x0) H fun a39 H =>
 vq (qak 1024 a39) H fun a40 H =>
 ve (qat H a40 a38) fun _ H =>
 .ok (.tup []) H
def cEnter (call : Ev.Call) (x0 x1 : AV) (H : Hp) : R1 := qu7 call x0 x1 H
def qdm (call : Ev.Call) (x0 x4 x5 : AV) (H : Hp) : R1 :=
 vq (nilC x0) H fun a10 H =>
 vq (qak 1024 a10) H fun a11 H =>
 vq (qae H a11) H fun a12 H =>
 vq (qbq 1 a12 none (some x4) none) H fun a13 H =>
 vq (nilC x0) H fun a14 H =>
 vq (qak 1024 a14) H fun a15 H =>
 ve (qat H a15 a13) fun _ H =>
 vq (nilC x0) H fun a17 H =>
 vq (qak 1026 a17) H fun a18 H =>
 vq (qae H a18) H fun a19 H =>
 vq (qgu 1 H.nx (qax (reps [.nilsl] 1) [(0, 1, x5)])) H fun a20 H =>
 ve (qa8 1 24 H a19 (qb7 1 H a20)) fun a21 H =>
 vq (nilC x0) H fun a22 H =>
 vq (qak 1026 a22) H fun a23 H =>
 ve (qat H a23 a21) fun _ H =>
 .ok (.tup []) H
def qm5 (call : Ev.Call) (g27 : AV → Hp → R1) (x37 : AV) (H : Hp) : R1 :=
 vq (intV (qaa .add).f x37 (.int .i64 (.ofNat 1))) H fun a29 H =>
 g27 a29 H
def qm4 (call : Ev.Call) (g27 : AV → Hp → R1) (x0 x35 x37 : AV) (H : Hp) : R1 :=
 vq (idxS 1 x35 x37) H fun a31 H =>
 vq (qae H a31) H fun a32 H =>
 vq (nilC x0) H fun a33 H =>
 vq (qak 768 a33) H fun a34 H =>
 vq (idxA 256 1 a34 a32) H fun a35 H =>
 ve (qat H a35 (.bool false)) fun _ H =>
 qm5 call g27 x37 H
def qm6 (call : Ev.Call) (q27e0 : Hp → R1) (x0 x35 x36 : AV) (g27 : AV → Hp → R1) (x37 : AV) (H : Hp) : R1 :=
 vq (intV (qaa .lss).f x37 x36) H fun a28 H =>
 cd a28 (
 qm4 call g27 x0 x35 x37 H) (
 q27e0 H)
def qed (call : Ev.Call) (q27e0 : Hp → R1) (x0 x35 x36 : AV) (n : Nat) : AV → Hp → R1 :=
 Nat.rec (motive := fun _ => AV → Hp → R1) (fun _ _ => .bad) (fun _ ih => qm6 call q27e0 x0 x35 x36 ih) n
def qm7 (call : Ev.Call) (q27e0 : Hp → R1) (x0 x35 x36 : AV) : AV → Hp → R1 := qed call q27e0 x0 x35 x36 qa6
def qm3 (call : Ev.Call) (x0 x1 : AV) (H : Hp) : R1 :=
 vq (nilC x0) H fun a0 H =>
 vq (qak 1024 a0) H fun a1 H =>
 vq (qae H a1) H fun a2 H =>
 ve (call (.f qt4) [a2, x1] H) fun a3 H =>
 vq (nilC x0) H fun a4 H =>
 vq (qak 1024 a4) H fun a5 H =>
 vq (qae H a5) H fun a6 H =>
 vq (qbq 1 a6 (some a3) none none) H fun a7 H =>
 ve (call (.f qz0) [a7] H) fun a8 H =>
 ve (call (.f qt3) [a8] H) fun a9 H =>
 vq (qa5 a9) H fun a26 H =>
 qm7 call (fun H => qdm call x0 a3 a9 H) x0 a9 a26 (.int .i64 (.ofNat 0)) H
def qn1 (call : Ev.Call) (x0 x1 : AV) (H : Hp) : R1 :=
 vl (nilC x0) fun a39 =>
 vl (qak 512 a39) fun a40 =>
 vl (idxA 256 1 a40 x1) fun a41 =>
 vl (qae H a41) fun a42 =>
 vl (nilC x0) fun a43 =>
 vl (qak 256 a43) fun a44 =>
 vl (idxA 256 1 a44 x1) fun a45 =>
 vl (qae H a45) fun a46 =>
 vl (intV (qaa .lss).f a42 a46) fun a47 =>
 cd a47 (
 .ok (.tup []) H) (
 qm3 call x0 x1 H)
def cLeave (call : Ev.Call) (x0 x1 : AV) (H : Hp) : R1 := qn1 call x0 x1 H
def zah (call : Ev.Call) (x0 : AV) (H : Hp) : R1 :=
 vq (intV (qaa .neq).f x0 x0) H fun a0 H =>
 .ok a0 H
def cNaN (call : Ev.Call) (x0 : AV) (H : Hp) : R1 := zah call x0 H
def qli (call : Ev.Call) (H : Hp) : R1 :=
 .ok (.int .i64 (.negSucc 0)) H
def qxy (call : Ev.Call) (g2 : AV → Hp → R1) (x8 : AV) (H : Hp) : R1 :=
 vq (intV (qaa .add).f x8 (.int .i64 (.ofNat 1))) H fun a4 H =>
 g2 a4 H
def qxx (call : Ev.Call) (q2r : AV → Hp → R1) (g2 : AV → Hp → R1) (x0 x1 x8 : AV) (H : Hp) : R1 :=
 vq (idxS 1 x0 x8) H fun a6 H =>
 vq (qae H a6) H fun a7 H =>
 vq (intV (qaa .eql).f x1 a7) H fun a8 H =>
 cd a8 (
 q2r x8 H) (
 qxy call g2 x8 H)
def qxz (call : Ev.Call) (q2r : AV → Hp → R1) (q2e0 : Hp → R1) (x0 x1 x7 : AV) (g2 : AV → Hp → R1) (x8 : AV) (H : Hp) : R1 :=
 vq (intV (qaa .lss).f x8 x7) H fun a3 H =>
 cd a3 (
 qxx call q2r g2 x0 x1 x8 H) (
 q2e0 H)
def qlh (call : Ev.Call) (q2r : AV → Hp → R1) (q2e0 : Hp → R1) (x0 x1 x7 : AV) (n : Nat) : AV → Hp → R1 :=
 Nat.rec (motive := fun _ => AV → Hp → R1) (fun _ _ => .bad) (fun _ ih => qxz call q2r q2e0 x0 x1 x7 ih) n
def qx0 (call : Ev.Call) (q2r : AV → Hp → R1) (q2e0 : Hp → R1) (x0 x1 x7 : AV) : AV → Hp → R1 := qlh call q2r q2e0 x0 x1 x7 qa6
def q6h (call : Ev.Call) (x0 x1 : AV) (H : Hp) : R1 :=
 vq (qa5 x0) H fun a1 H =>
 qx0 call (fun x4 H => .ok x4 H) (fun H => qli call H) x0 x1 a1 (.int .i64 (.ofNat 0)) H
def sIdx (call : Ev.Call) (x0 x1 : AV) (H : Hp) : R1 := q6h call x0 x1 H
def q6c (call : Ev.Call) (x0 : AV) (H : Hp) : R1 :=
 vq (box1 H.nx x0) H fun a0 H =>
 .ok (.fn qcz [] [a0]) H
def sVal (call : Ev.Call) (x0 : AV) (H : Hp) : R1 := q6c call x0 H
def q6e (call : Ev.Call) (x0 : AV) (H : Hp) : R1 :=
 ve (call (.f qt5) [x0] H) fun a0 H =>
 ve (call (.f qdv) [a0] H) fun a1 H =>
 .ok a0 H
def sSrt (call : Ev.Call) (x0 : AV) (H : Hp) : R1 := q6e call x0 H
def qsr (call : Ev.Call) (g2 : AV → Hp → R1) (x7 : AV) (H : Hp) : R1 :=
 vq (intV (qaa .add).f x7 (.int .i64 (.ofNat 1))) H fun a4 H =>
 g2 a4 H
def qog (call : Ev.Call) (q2r : Hp → R1) (g2 : AV → Hp → R1) (x0 x5 x7 : AV) (H : Hp) : R1 :=
 vq (idxS 1 x5 x7) H fun a6 H =>
 vq (qae H a6) H fun a7 H =>
 ve (qrd call x0 [a7] H) fun a8 H =>
 vq ((unS .not).f a8) H fun a9 H =>
 cd a9 (
 q2r H) (
 qsr call g2 x7 H)
def qss (call : Ev.Call) (q2r : Hp → R1) (q2e0 : Hp → R1) (x0 x5 x6 : AV) (g2 : AV → Hp → R1) (x7 : AV) (H : Hp) : R1 :=
 vq (intV (qaa .lss).f x7 x6) H fun a3 H =>
 cd a3 (
 qog call q2r g2 x0 x5 x7 H) (
 q2e0 H)
def qia (call : Ev.Call) (q2r : Hp → R1) (q2e0 : Hp → R1) (x0 x5 x6 : AV) (n : Nat) : AV → Hp → R1 :=
 Nat.rec (motive := fun _ => AV → Hp → R1) (fun _ _ => .bad) (fun _ ih => qss call q2r q2e0 x0 x5 x6 ih) n
def qst (call : Ev.Call) (q2r : Hp → R1) (q2e0 : Hp → R1) (x0 x5 x6 : AV) : AV → Hp → R1 := qia call q2r q2e0 x0 x5 x6 qa6
def qxw (call : Ev.Call) (x0 x1 : AV) (H : Hp) : R1 :=
 vq (qae H x1) H fun a0 H =>
 vq (qa5 a0) H fun a1 H =>
 qst call (fun H => .ok (.tup []) H) (fun H => .ok (.tup []) H) x0 a0 a1 (.int .i64 (.ofNat 0)) H
def sValA (call : Ev.Call) (x0 x1 : AV) (H : Hp) : R1 := qxw call x0 x1 H
def q6j (call : Ev.Call) (x0 : AV) (H : Hp) : R1 :=
 ve (call (.f qt6) [(.nilsl), x0] H) fun a0 H =>
 .ok a0 H
def sCol (call : Ev.Call) (x0 : AV) (H : Hp) : R1 := q6j call x0 H
end Go.Di
end
noncomputable section
namespace Go.Di
open Go.Ev
structure Lnk (c d : Ev.Call) : Prop where
 lwM : ∀ (x0 : AV) (H : Hp), c (.f zea) [x0] H = Di.lwM d x0 H
 hMat : ∀ (x0 : AV) (H : Hp), c (.f qub) [x0] H = Di.hMat d x0 H
 lGr : ∀ (x0 : AV) (H : Hp), c (.f q2m) [x0] H = Di.lGr d x0 H
 cMix : ∀ (x0 : AV) (H : Hp), c (.f quf) [x0] H = Di.cMix d x0 H
 rMix : ∀ (x0 : AV) (H : Hp), c (.f qt9) [x0] H = Di.rMix d x0 H
 lwL : ∀ (x0 x1 x2 x3 : AV) (H : Hp), c (.f q2l) [x0, x1, x2, x3] H = Di.lwL d x0 x1 x2 x3 H
 rDist : ∀ (x0 : AV) (H : Hp), c (.f qkt) [x0] H = Di.rDist d x0 H
 rOf : ∀ (x0 : AV) (H : Hp), c (.f qwq) [x0] H = Di.rOf d x0 H
 rMat : ∀ (x0 x1 : AV) (H : Hp), c (.f qua) [x0, x1] H = Di.rMat d x0 x1 H
 rEdg : ∀ (x0 : AV) (H : Hp), c (.f qqb) [x0] H = Di.rEdg d x0 H
 sClp : ∀ (x0 : AV) (H : Hp), c (.f qmn) [x0] H = Di.sClp d x0 H
 rNew : ∀ (x0 : AV) (H : Hp), c (.f qt8) [x0] H = Di.rNew d x0 H
 rPut : ∀ (x0 x1 x2 x3 : AV) (H : Hp), c (.f qt7) [x0, x1, x2, x3] H = Di.rPut d x0 x1 x2 x3 H
 gChk : ∀ (x0 : AV) (H : Hp), c (.f qud) [x0] H = Di.gChk d x0 H
 cParts : ∀ (x0 : AV) (H : Hp), c (.f qky) [x0] H = Di.cParts d x0 H
 cRdy : ∀ (x0 x1 : AV) (H : Hp), c (.f que) [x0, x1] H = Di.cRdy d x0 x1 H
 sClpS : ∀ (x0 : AV) (H : Hp), c (.f qks) [x0] H = Di.sClpS d x0 H
 gCmp : ∀ (x0 x1 : AV) (H : Hp), c (.f quc) [x0, x1] H = Di.gCmp d x0 x1 H
 cWalk : ∀ (x0 x1 : AV) (H : Hp), c (.f qnz) [x0, x1] H = Di.cWalk d x0 x1 H
 rdyA : ∀ (x0 x1 : AV) (H : Hp), c (.f qjt) [x0, x1] H = Di.rdyA d x0 x1 H
 rdyB : ∀ (x0 x1 x2 x3 : AV) (H : Hp), c (.f qhv) [x0, x1, x2, x3] H = Di.rdyB d x0 x1 x2 x3 H
 cCmp : ∀ (x0 x1 : AV) (H : Hp), c (.f qmo) [x0, x1] H = Di.cCmp d x0 x1 H
 gSgn : ∀ (x0 : AV) (H : Hp), c (.f qqc) [x0] H = Di.gSgn d x0 H
 cOr : ∀ (x0 : AV) (H : Hp), c (.f q2n) [x0] H = Di.cOr d x0 H
 cEnter : ∀ (x0 x1 : AV) (H : Hp), c (.f qhy) [x0, x1] H = Di.cEnter d x0 x1 H
 cLeave : ∀ (x0 x1 : AV) (H : Hp), c (.f qf8) [x0, x1] H = Di.cLeave d x0 x1 H
 cNaN : ∀ (x0 : AV) (H : Hp), c (.f qju) [x0] H = Di.cNaN d x0 H
 sIdx : ∀ (x0 x1 : AV) (H : Hp), c (.f qt4) [x0, x1] H = Di.sIdx d x0 x1 H
 sVal : ∀ (x0 : AV) (H : Hp), c (.f qz0) [x0] H = Di.sVal d x0 H
 sSrt : ∀ (x0 : AV) (H : Hp), c (.f qt3) [x0] H = Di.sSrt d x0 H
 sValA : ∀ (x0 x1 : AV) (H : Hp), c (.f qcz) [x0, x1] H = Di.sValA d x0 x1 H
 sCol : ∀ (x0 : AV) (H : Hp), c (.f qt5) [x0] H = Di.sCol d x0 H
end Go.Di
end
noncomputable section
namespace Go.Di
open Go.Ev
set_option linter.unusedVariables false
def qsq (call : Ev.Call) (x0 : AV) (H : Hp) : R1 :=
 ve (call (.f qml) [x0] H) fun a0 H =>
 .ok a0 H
def qxv (call : Ev.Call) (x0 : AV) (H : Hp) : R1 :=
 cd (.bool false) (
 vq (qfl .u32 x0) H fun a2 H =>
 ve (call (.f qmm) [a2] H) fun a3 H =>
 .ok a3 H) (
 qsq call x0 H)
def s_Len (call : Ev.Call) (x0 : AV) (H : Hp) : R1 := qxv call x0 H
def qe5 (call : Ev.Call) (x0 x1 : AV) (H : Hp) : R1 :=
 vq (qa5 x0) H fun a0 H =>
 vq (qfl .u64 a0) H fun a1 H =>
 ve (call (.f qig) [a1] H) fun a2 H =>
 ve (call (.f qgx) [x0, (.int .i64 (.ofNat 0)), a0, a2, x1] H) fun a3 H =>
 .ok (.tup []) H
def s_SortFunc (call : Ev.Call) (x0 x1 : AV) (H : Hp) : R1 := qe5 call x0 x1 H
def qlg (call : Ev.Call) (x0 x2 : AV) (H : Hp) : R1 :=
 vq (qfl .u8 x0) H fun a0 H =>
 vq (qqa (.str 256 1013866857139168856493015739252390649739422828853819106890363778118420553376247557433637691341895324351018602695588957474325319502760499485336098898398377509666851054660423406800006203933793007272033180812049178612605246075062580585469430410618860250057463399279570354286669047577758927328864388992123306212451509403152394148136105363817402562688186708175358218852349079190158732807302672745370040257219644697201681238697346923541678507645485296520536209706771857694240900605172937619415410180424934769249448772944216470541052485265558808433676546390051204254346932932316488017972311616136051587427851453983453479168) a0) H fun a1 H =>
 vq (qfl .i64 a1) H fun a2 H =>
 vq (intV (qaa .add).f x2 a2) H fun a3 H =>
 .ok a3 H
def qlf (call : Ev.Call) (x0 x2 : AV) (H : Hp) : R1 :=
 vq (intV (qaa .geq).f x0 (.int .u32 (.ofNat 256))) H fun a5 H =>
 cd a5 (
 vq (qef (qbx .shr).f x0 (.int .u64 (.ofNat 8))) H fun a6 H =>
 vq (intV (qaa .add).f x2 (.int .i64 (.ofNat 8))) H fun a7 H =>
 qlg call a6 a7 H) (
 qlg call x0 x2 H)
def qvx (call : Ev.Call) (x0 : AV) (H : Hp) : R1 :=
 vq (intV (qaa .geq).f x0 (.int .u32 (.ofNat 65536))) H fun a9 H =>
 cd a9 (
 vq (qef (qbx .shr).f x0 (.int .u64 (.ofNat 16))) H fun a10 H =>
 qlf call a10 (.int .i64 (.ofNat 16)) H) (
 qlf call x0 (.int .i64 (.ofNat 0)) H)
def s_Len32 (call : Ev.Call) (x0 : AV) (H : Hp) : R1 := qvx call x0 H
def qfq (call : Ev.Call) (x0 x2 : AV) (H : Hp) : R1 :=
 vq (qfl .u8 x0) H fun a0 H =>
 vq (qqa (.str 256 1013866857139168856493015739252390649739422828853819106890363778118420553376247557433637691341895324351018602695588957474325319502760499485336098898398377509666851054660423406800006203933793007272033180812049178612605246075062580585469430410618860250057463399279570354286669047577758927328864388992123306212451509403152394148136105363817402562688186708175358218852349079190158732807302672745370040257219644697201681238697346923541678507645485296520536209706771857694240900605172937619415410180424934769249448772944216470541052485265558808433676546390051204254346932932316488017972311616136051587427851453983453479168) a0) H fun a1 H =>
 vq (qfl .i64 a1) H fun a2 H =>
 vq (intV (qaa .add).f x2 a2) H fun a3 H =>
 .ok a3 H
def qfp (call : Ev.Call) (x0 x2 : AV) (H : Hp) : R1 :=
 vq (intV (qaa .geq).f x0 (.int .u64 (.ofNat 256))) H fun a5 H =>
 cd a5 (
 vq (qef (qbx .shr).f x0 (.int .u64 (.ofNat 8))) H fun a6 H =>
 vq (intV (qaa .add).f x2 (.int .i64 (.ofNat 8))) H fun a7 H =>
 qfq call a6 a7 H) (
 qfq call x0 x2 H)
def qeg (call : Ev.Call) (x0 x2 : AV) (H : Hp) : R1 :=
 vq (intV (qaa .geq).f x0 (.int .u64 (.ofNat 65536))) H fun a9 H =>
 cd a9 (
 vq (qef (qbx .shr).f x0 (.int .u64 (.ofNat 16))) H fun a10 H =>
 vq (intV (qaa .add).f x2 (.int .i64 (.ofNat 16))) H fun a11 H =>
 qfp call a10 a11 H) (
 qfp call x0 x2 H)
def qof (call : Ev.Call) (x0 : AV) (H : Hp) : R1 :=
 vq (intV (qaa .geq).f x0 (.int .u64 (.ofNat 4294967296))) H fun a13 H =>
 cd a13 (
 vq (qef (qbx .shr).f x0 (.int .u64 (.ofNat 32))) H fun a14 H =>
 qeg call a14 (.int .i64 (.ofNat 32)) H) (
 qeg call x0 (.int .i64 (.ofNat 0)) H)
def s_Len64 (call : Ev.Call) (x0 : AV) (H : Hp) : R1 := qof call x0 H
def qvu (call : Ev.Call) (g0 : AV → AV → AV → AV → AV → Hp → R1) (x0 x1 x2 x3 x4 x12 x13 : AV) (H : Hp) : R1 :=
 ve (call (.f q8v) [x0, x1, x2, x13, x4] H) fun a5 H =>
 vq (extr 0 a5) H fun a6 H =>
 vq (extr 1 a5) H fun a7 H =>
 vq (intV (qaa .sub).f a6 x1) H fun a8 H =>
 vq (intV (qaa .sub).f x2 a6) H fun a9 H =>
 vq (intV (qaa .quo).f x12 (.int .i64 (.ofNat 8))) H fun a10 H =>
 vq (intV (qaa .lss).f a8 a9) H fun a11 H =>
 cd a11 (
 vq (intV (qaa .geq).f a8 a10) H fun a12 H =>
 ve (call (.f qgx) [x0, x1, a6, x3, x4] H) fun a13 H =>
 vq (intV (qaa .add).f a6 (.int .i64 (.ofNat 1))) H fun a14 H =>
 g0 a14 x2 x3 a12 a7 H) (
 vq (intV (qaa .geq).f a9 a10) H fun a15 H =>
 vq (intV (qaa .add).f a6 (.int .i64 (.ofNat 1))) H fun a16 H =>
 ve (call (.f qgx) [x0, a16, x2, x3, x4] H) fun a17 H =>
 g0 x1 a6 x3 a15 a7 H)
def qob (call : Ev.Call) (g0 : AV → AV → AV → AV → AV → Hp → R1) (x0 x1 x2 x3 x4 x10 x11 x12 x13 : AV) (H : Hp) : R1 :=
 dz 0 H fun b19 H =>
 dq false false 0 0 (b19 + 0) H [] [] (fun _ => .val x1) (some true) fun a20 H p w =>
 dq false false 1 1 (b19 + 1) H p w (fun _ => intV (qaa .gtr).f a20 (.int .i64 (.ofNat 0))) (some true) fun a21 H p w =>
 dq false false 2 3 (b19 + 2) H p w (fun _ => .val a21) (some true) fun a22 H p w =>
 dq false false 3 7 (b19 + 3) H p w (fun _ => .val x4) (qad true a22) fun a23 H p w =>
 dq false false 4 7 (b19 + 4) H p w (fun _ => .val x0) (qad true a22) fun a24 H p w =>
 dq false false 5 7 (b19 + 5) H p w (fun _ => .val x1) (qad true a22) fun a25 H p w =>
 dq false false 6 39 (b19 + 6) H p w (fun _ => intV (qaa .sub).f a25 (.int .i64 (.ofNat 1))) (qad true a22) fun a26 H p w =>
 dq false false 7 119 (b19 + 7) H p w (fun _ => idxS 1 a24 a26) (qad true a22) fun a27 H p w =>
 dq true false 8 247 (b19 + 8) H p w (fun H => qae H a27) (qad true a22) fun a28 H p w =>
 dq false false 9 7 (b19 + 9) H p w (fun _ => .val x0) (qad true a22) fun a29 H p w =>
 dq false false 10 7 (b19 + 10) H p w (fun _ => .val x13) (qad true a22) fun a30 H p w =>
 dq false false 11 1543 (b19 + 11) H p w (fun _ => idxS 1 a29 a30) (qad true a22) fun a31 H p w =>
 dq true false 12 3591 (b19 + 12) H p w (fun H => qae H a31) (qad true a22) fun a32 H p w =>
 de 8191 H p w (qrd call a23 [a28, a32] (qaw 8191 p H)) (qad true a22) fun a33 H p w =>
 dq false false 14 16383 (b19 + 14) H p w (fun _ => intV (qaa .lss).f a33 (.int .i64 (.ofNat 0))) (qad true a22) fun a34 H p w =>
 dq false false 15 32767 (b19 + 15) H p w (fun _ => (unS .not).f a34) (qad true a22) fun a35 H p w =>
 dq false false 16 65535 (b19 + 16) H p w (fun _ => qbm a22 a35 (.bool false)) (some true) fun a36 H p w =>
 dz2 p H fun H =>
 cd a36 (
 ve (call (.f zck) [x0, x1, x2, x13, x4] H) fun a37 H =>
 g0 a37 x2 x3 x10 x11 H) (
 qvu call g0 x0 x1 x2 x3 x4 x12 x13 H)
def qoa (call : Ev.Call) (q0r : Hp → R1) (g0 : AV → AV → AV → AV → AV → Hp → R1) (x0 x1 x2 x3 x4 x10 x11 x12 x13 x14 : AV) (H : Hp) : R1 :=
 vg (qad true x10) (.val x11) H fun a39 H =>
 vq (qbm x10 a39 (.bool false)) H fun a40 H =>
 vg (qad true a40) (.val x14) H fun a41 H =>
 vg (qad true a40) (intV (qaa .eql).f a41 (.int .i64 (.ofNat 1))) H fun a42 H =>
 vq (qbm a40 a42 (.bool false)) H fun a43 H =>
 cd a43 (
 ve (call (.f q8u) [x0, x1, x2, x4] H) fun a44 H =>
 cd a44 (
 q0r H) (
 qob call g0 x0 x1 x2 x3 x4 x10 x11 x12 x13 H)) (
 qob call g0 x0 x1 x2 x3 x4 x10 x11 x12 x13 H)
def qn9 (call : Ev.Call) (q0r : Hp → R1) (g0 : AV → AV → AV → AV → AV → Hp → R1) (x0 x1 x2 x3 x4 x10 x11 x12 : AV) (H : Hp) : R1 :=
 ve (call (.f zcj) [x0, x1, x2, x4] H) fun a2 H =>
 vq (extr 0 a2) H fun a3 H =>
 vq (extr 1 a2) H fun a4 H =>
 vq (intV (qaa .eql).f a4 (.int .i64 (.ofNat 2))) H fun a46 H =>
 cd a46 (
 ve (call (.f zci) [x0, x1, x2, x4] H) fun a47 H =>
 vq (intV (qaa .sub).f x2 (.int .i64 (.ofNat 1))) H fun a48 H =>
 vq (intV (qaa .sub).f a3 x1) H fun a49 H =>
 vq (intV (qaa .sub).f a48 a49) H fun a50 H =>
 qoa call q0r g0 x0 x1 x2 x3 x4 x10 x11 x12 a50 (.int .i64 (.ofNat 1)) H) (
 qoa call q0r g0 x0 x1 x2 x3 x4 x10 x11 x12 a3 a4 H)
def qvt (call : Ev.Call) (q0r : Hp → R1) (g0 : AV → AV → AV → AV → AV → Hp → R1) (x0 x1 x2 x3 x4 x10 x11 x12 : AV) (H : Hp) : R1 :=
 vq ((unS .not).f x10) H fun a52 H =>
 cd a52 (
 ve (call (.f zcl) [x0, x1, x2, x4] H) fun a53 H =>
 vq (intV (qaa .sub).f x3 (.int .i64 (.ofNat 1))) H fun a54 H =>
 qn9 call q0r g0 x0 x1 x2 a54 x4 x10 x11 x12 H) (
 qn9 call q0r g0 x0 x1 x2 x3 x4 x10 x11 x12 H)
def qvs (call : Ev.Call) (q0r : Hp → R1) (g0 : AV → AV → AV → AV → AV → Hp → R1) (x0 x1 x2 x3 x4 x10 x11 x12 : AV) (H : Hp) : R1 :=
 vq (intV (qaa .eql).f x3 (.int .i64 (.ofNat 0))) H fun a56 H =>
 cd a56 (
 ve (call (.f q8w) [x0, x1, x2, x4] H) fun a57 H =>
 q0r H) (
 qvt call q0r g0 x0 x1 x2 x3 x4 x10 x11 x12 H)
def qj5 (call : Ev.Call) (q0r : Hp → R1) (x0 x4 : AV) (g0 : AV → AV → AV → AV → AV → Hp → R1) (x1 x2 x3 x10 x11 : AV) (H : Hp) : R1 :=
 vq (intV (qaa .sub).f x2 x1) H fun a1 H =>
 vq (intV (qaa .leq).f a1 (.int .i64 (.ofNat 12))) H fun a59 H =>
 cd a59 (
 ve (call (.f qkr) [x0, x1, x2, x4] H) fun a60 H =>
 q0r H) (
 qvs call q0r g0 x0 x1 x2 x3 x4 x10 x11 a1 H)
def qdn (call : Ev.Call) (q0r : Hp → R1) (x0 x4 : AV) (n : Nat) : AV → AV → AV → AV → AV → Hp → R1 :=
 Nat.rec (motive := fun _ => AV → AV → AV → AV → AV → Hp → R1) (fun _ _ _ _ _ _ => .bad) (fun _ ih => qj5 call q0r x0 x4 ih) n
def qnk (call : Ev.Call) (q0r : Hp → R1) (x0 x4 : AV) : AV → AV → AV → AV → AV → Hp → R1 := qdn call q0r x0 x4 qa6
def qsk (call : Ev.Call) (x0 x1 x2 x3 x4 : AV) (H : Hp) : R1 :=
 qnk call (fun H => .ok (.tup []) H) x0 x4 x1 x2 x3 (.bool true) (.bool true) H
def s_pdq (call : Ev.Call) (x0 x1 x2 x3 x4 : AV) (H : Hp) : R1 := qsk call x0 x1 x2 x3 x4 H
def qsl (call : Ev.Call) (x0 : AV) (H : Hp) : R1 :=
 vq (qfl .u64 x0) H fun a0 H =>
 ve (call (.f qig) [a0] H) fun a1 H =>
 vq (qef (qbx .shl).f (.int .u64 (.ofNat 1)) a1) H fun a2 H =>
 .ok a2 H
def s_npow (call : Ev.Call) (x0 : AV) (H : Hp) : R1 := qsl call x0 H
def qiz (call : Ev.Call) (x0 : AV) (H : Hp) : R1 :=
 dz 0 H fun b0 H =>
 dq false false 0 0 (b0 + 0) H [] [] (fun _ => .val x0) (some true) fun a1 H p w =>
 dq false false 1 1 (b0 + 1) H p w (fun _ => nilC a1) (some true) fun a2 H p w =>
 dq true false 2 3 (b0 + 2) H p w (fun H => qae H a2) (some true) fun a3 H p w =>
 dq false false 3 0 (b0 + 3) H p w (fun _ => .val x0) (some true) fun a4 H p w =>
 dq false false 4 8 (b0 + 4) H p w (fun _ => nilC a4) (some true) fun a5 H p w =>
 dq true false 5 24 (b0 + 5) H p w (fun H => qae H a5) (some true) fun a6 H p w =>
 dq false false 6 56 (b0 + 6) H p w (fun _ => qef (qbx .shl).f a6 (.int .u64 (.ofNat 13))) (some true) fun a7 H p w =>
 dq false false 7 127 (b0 + 7) H p w (fun _ => intV (qaa .xor).f a3 a7) (some true) fun a8 H p w =>
 dq false false 8 255 (b0 + 8) H p w (fun _ => nilC a1) (some true) fun a9 H p w =>
 de 511 H p w (qat (qaw 511 p H) a9 a8) (some true) fun _ H p w =>
 dz2 p H fun H =>
 dz 0 H fun b11 H =>
 dq false false 0 0 (b11 + 0) H [] [] (fun _ => .val x0) (some true) fun a12 H p w =>
 dq false false 1 1 (b11 + 1) H p w (fun _ => nilC a12) (some true) fun a13 H p w =>
 dq true false 2 3 (b11 + 2) H p w (fun H => qae H a13) (some true) fun a14 H p w =>
 dq false false 3 0 (b11 + 3) H p w (fun _ => .val x0) (some true) fun a15 H p w =>
 dq false false 4 8 (b11 + 4) H p w (fun _ => nilC a15) (some true) fun a16 H p w =>
 dq true false 5 24 (b11 + 5) H p w (fun H => qae H a16) (some true) fun a17 H p w =>
 dq false false 6 56 (b11 + 6) H p w (fun _ => qef (qbx .shr).f a17 (.int .u64 (.ofNat 7))) (some true) fun a18 H p w =>
 dq false false 7 127 (b11 + 7) H p w (fun _ => intV (qaa .xor).f a14 a18) (some true) fun a19 H p w =>
 dq false false 8 255 (b11 + 8) H p w (fun _ => nilC a12) (some true) fun a20 H p w =>
 de 511 H p w (qat (qaw 511 p H) a20 a19) (some true) fun _ H p w =>
 dz2 p H fun H =>
 dz 0 H fun b22 H =>
 dq false false 0 0 (b22 + 0) H [] [] (fun _ => .val x0) (some true) fun a23 H p w =>
 dq false false 1 1 (b22 + 1) H p w (fun _ => nilC a23) (some true) fun a24 H p w =>
 dq true false 2 3 (b22 + 2) H p w (fun H => qae H a24) (some true) fun a25 H p w =>
 dq false false 3 0 (b22 + 3) H p w (fun _ => .val x0) (some true) fun a26 H p w =>
 dq false false 4 8 (b22 + 4) H p w (fun _ => nilC a26) (some true) fun a27 H p w =>
 dq true false 5 24 (b22 + 5) H p w (fun H => qae H a27) (some true) fun a28 H p w =>
 dq false false 6 56 (b22 + 6) H p w (fun _ => qef (qbx .shl).f a28 (.int .u64 (.ofNat 17))) (some true) fun a29 H p w =>
 dq false false 7 127 (b22 + 7) H p w (fun _ => intV (qaa .xor).f a25 a29) (some true) fun a30 H p w =>
 dq false false 8 255 (b22 + 8) H p w (fun _ => nilC a23) (some true) fun a31 H p w =>
 de 511 H p w (qat (qaw 511 p H) a31 a30) (some true) fun _ H p w =>
 dz2 p H fun H =>
 vq (nilC x0) H fun a33 H =>
 vq (qae H a33) H fun a34 H =>
 .ok a34 H
def s_xorNext (call : Ev.Call) (x0 : AV) (H : Hp) : R1 := qiz call x0 H
def qgf (call : Ev.Call) (g1 : AV → Hp → R1) (x8 : AV) (H : Hp) : R1 :=
 vq (intV (qaa .add).f x8 (.int .i64 (.ofNat 1))) H fun a2 H =>
 g1 a2 H
def qsm (call : Ev.Call) (g4 : AV → Hp → R1) (x9 : AV) (H : Hp) : R1 :=
 vq (intV (qaa .sub).f x9 (.int .i64 (.ofNat 1))) H fun a5 H =>
 g4 a5 H
def qod (call : Ev.Call) (g4 : AV → Hp → R1) (x0 x9 : AV) (H : Hp) : R1 :=
 dz 0 H fun b7 H =>
 dq false false 0 0 (b7 + 0) H [] [] (fun _ => .val x0) (some true) fun a8 H p w =>
 dq false false 1 0 (b7 + 1) H p w (fun _ => .val x9) (some true) fun a9 H p w =>
 dq false false 2 0 (b7 + 2) H p w (fun _ => .val x0) (some true) fun a10 H p w =>
 dq false false 3 0 (b7 + 3) H p w (fun _ => .val x9) (some true) fun a11 H p w =>
 dq false false 4 8 (b7 + 4) H p w (fun _ => intV (qaa .sub).f a11 (.int .i64 (.ofNat 1))) (some true) fun a12 H p w =>
 dq false false 5 0 (b7 + 5) H p w (fun _ => .val x0) (some true) fun a13 H p w =>
 dq false false 6 0 (b7 + 6) H p w (fun _ => .val x9) (some true) fun a14 H p w =>
 dq false false 7 64 (b7 + 7) H p w (fun _ => intV (qaa .sub).f a14 (.int .i64 (.ofNat 1))) (some true) fun a15 H p w =>
 dq false false 8 224 (b7 + 8) H p w (fun _ => idxS 1 a13 a15) (some true) fun a16 H p w =>
 dq true false 9 480 (b7 + 9) H p w (fun H => qae H a16) (some true) fun a17 H p w =>
 dq false false 10 0 (b7 + 10) H p w (fun _ => .val x0) (some true) fun a18 H p w =>
 dq false false 11 0 (b7 + 11) H p w (fun _ => .val x9) (some true) fun a19 H p w =>
 dq false false 12 3072 (b7 + 12) H p w (fun _ => idxS 1 a18 a19) (some true) fun a20 H p w =>
 dq true false 13 7168 (b7 + 13) H p w (fun H => qae H a20) (some true) fun a21 H p w =>
 dq false false 14 16355 (b7 + 14) H p w (fun _ => idxS 1 a8 a9) (some true) fun a22 H p w =>
 de 32739 H p w (qat (qaw 32739 p H) a22 a17) (some true) fun _ H p w =>
 dq false false 16 65535 (b7 + 16) H p w (fun _ => idxS 1 a10 a12) (some true) fun a24 H p w =>
 de 131071 H p w (qat (qaw 131071 p H) a24 a21) (some true) fun _ H p w =>
 dz2 p H fun H =>
 qsm call g4 x9 H
def qso (call : Ev.Call) (q4e2 : Hp → R1) (x0 x1 x3 : AV) (g4 : AV → Hp → R1) (x9 : AV) (H : Hp) : R1 :=
 dz 0 H fun b27 H =>
 dq false false 0 0 (b27 + 0) H [] [] (fun _ => .val x9) (some true) fun a28 H p w =>
 dq false false 1 0 (b27 + 1) H p w (fun _ => .val x1) (some true) fun a29 H p w =>
 dq false false 2 3 (b27 + 2) H p w (fun _ => intV (qaa .gtr).f a28 a29) (some true) fun a30 H p w =>
 dq false false 3 7 (b27 + 3) H p w (fun _ => .val a30) (some true) fun a31 H p w =>
 dq false false 4 15 (b27 + 4) H p w (fun _ => .val x3) (qad true a31) fun a32 H p w =>
 dq false false 5 15 (b27 + 5) H p w (fun _ => .val x0) (qad true a31) fun a33 H p w =>
 dq false false 6 15 (b27 + 6) H p w (fun _ => .val x9) (qad true a31) fun a34 H p w =>
 dq false false 7 111 (b27 + 7) H p w (fun _ => idxS 1 a33 a34) (qad true a31) fun a35 H p w =>
 dq true false 8 239 (b27 + 8) H p w (fun H => qae H a35) (qad true a31) fun a36 H p w =>
 dq false false 9 15 (b27 + 9) H p w (fun _ => .val x0) (qad true a31) fun a37 H p w =>
 dq false false 10 15 (b27 + 10) H p w (fun _ => .val x9) (qad true a31) fun a38 H p w =>
 dq false false 11 1039 (b27 + 11) H p w (fun _ => intV (qaa .sub).f a38 (.int .i64 (.ofNat 1))) (qad true a31) fun a39 H p w =>
 dq false false 12 3599 (b27 + 12) H p w (fun _ => idxS 1 a37 a39) (qad true a31) fun a40 H p w =>
 dq true false 13 7695 (b27 + 13) H p w (fun H => qae H a40) (qad true a31) fun a41 H p w =>
 de 16383 H p w (qrd call a32 [a36, a41] (qaw 16383 p H)) (qad true a31) fun a42 H p w =>
 dq false false 15 32767 (b27 + 15) H p w (fun _ => intV (qaa .lss).f a42 (.int .i64 (.ofNat 0))) (qad true a31) fun a43 H p w =>
 dq false false 16 65535 (b27 + 16) H p w (fun _ => qbm a31 a43 (.bool false)) (some true) fun a44 H p w =>
 dz2 p H fun H =>
 cd a44 (
 qod call g4 x0 x9 H) (
 q4e2 H)
def qh9 (call : Ev.Call) (q4e2 : Hp → R1) (x0 x1 x3 : AV) (n : Nat) : AV → Hp → R1 :=
 Nat.rec (motive := fun _ => AV → Hp → R1) (fun _ _ => .bad) (fun _ ih => qso call q4e2 x0 x1 x3 ih) n
def qsp (call : Ev.Call) (q4e2 : Hp → R1) (x0 x1 x3 : AV) : AV → Hp → R1 := qh9 call q4e2 x0 x1 x3 qa6
def qoc (call : Ev.Call) (g1 : AV → Hp → R1) (x0 x1 x3 x8 : AV) (H : Hp) : R1 :=
 qsp call (fun H => qgf call g1 x8 H) x0 x1 x3 x8 H
def qj6 (call : Ev.Call) (q1e0 : Hp → R1) (x0 x1 x2 x3 : AV) (g1 : AV → Hp → R1) (x8 : AV) (H : Hp) : R1 :=
 vq (intV (qaa .lss).f x8 x2) H fun a46 H =>
 cd a46 (
 qoc call g1 x0 x1 x3 x8 H) (
 q1e0 H)
def qcu (call : Ev.Call) (q1e0 : Hp → R1) (x0 x1 x2 x3 : AV) (n : Nat) : AV → Hp → R1 :=
 Nat.rec (motive := fun _ => AV → Hp → R1) (fun _ _ => .bad) (fun _ ih => qj6 call q1e0 x0 x1 x2 x3 ih) n
def qnl (call : Ev.Call) (q1e0 : Hp → R1) (x0 x1 x2 x3 : AV) : AV → Hp → R1 := qcu call q1e0 x0 x1 x2 x3 qa6
def qsn (call : Ev.Call) (x0 x1 x2 x3 : AV) (H : Hp) : R1 :=
 vq (intV (qaa .add).f x1 (.int .i64 (.ofNat 1))) H fun a0 H =>
 qnl call (fun H => .ok (.tup []) H) x0 x1 x2 x3 a0 H
def s_ins (call : Ev.Call) (x0 x1 x2 x3 : AV) (H : Hp) : R1 := qsn call x0 x1 x2 x3 H
end Go.Di
end
noncomputable section
namespace Go.Di
open Go.Ev
structure LnkS (c d : Ev.Call) : Prop where
 s_Len : ∀ (x0 : AV) (H : Hp), c (.f qig) [x0] H = Di.s_Len d x0 H
 s_SortFunc : ∀ (x0 x1 : AV) (H : Hp), c (.f qb1) [x0, x1] H = Di.s_SortFunc d x0 x1 H
 s_Len32 : ∀ (x0 : AV) (H : Hp), c (.f qmm) [x0] H = Di.s_Len32 d x0 H
 s_Len64 : ∀ (x0 : AV) (H : Hp), c (.f qml) [x0] H = Di.s_Len64 d x0 H
 s_pdq : ∀ (x0 x1 x2 x3 x4 : AV) (H : Hp), c (.f qgx) [x0, x1, x2, x3, x4] H = Di.s_pdq d x0 x1 x2 x3 x4 H
 s_npow : ∀ (x0 : AV) (H : Hp), c (.f qkq) [x0] H = Di.s_npow d x0 H
 s_xorNext : ∀ (x0 : AV) (H : Hp), c (.f qe7) [x0] H = Di.s_xorNext d x0 H
 s_ins : ∀ (x0 x1 x2 x3 : AV) (H : Hp), c (.f qkr) [x0, x1, x2, x3] H = Di.s_ins d x0 x1 x2 x3 H
abbrev qb4 (C : Nat → Ev.Call) : Prop := ∀ k, LnkS (C (k + 1)) (C k)
end Go.Di
end
noncomputable section
namespace Go.Di
open Go.Ev
set_option linter.unusedVariables false
def qns (call : Ev.Call) (x0 : AV) (H : Hp) : R1 :=
 vq (qa5 x0) H fun a0 H =>
 vq (qfl .u64 a0) H fun a1 H =>
 ve (call (.f qig) [a1] H) fun a2 H =>
 ve (call (.f qgy) [x0, (.int .i64 (.ofNat 0)), a0, a2] H) fun a3 H =>
 .ok (.tup []) H
def o_Sort (call : Ev.Call) (x0 : AV) (H : Hp) : R1 := qns call x0 H
def qcc (call : Ev.Call) (x0 : AV) (H : Hp) : R1 :=
 .ok x0 H
def qhq (call : Ev.Call) (g1 : AV → Hp → R1) (x3 : AV) (H : Hp) : R1 :=
 vq (intV (qaa .add).f x3 (.int .i64 (.ofNat 1))) H fun a2 H =>
 g1 a2 H
def qb0 (call : Ev.Call) (q1r : AV → Hp → R1) (x0 x3 : AV) (H : Hp) : R1 :=
 vq (qbq 1 x0 (some x3) none none) H fun a11 H =>
 ve (qqp [.int .i64 (.ofNat 0)] H a11) fun _ H =>
 vq (qbq 1 x0 none (some x3) none) H fun a13 H =>
 q1r a13 H
def qcy (call : Ev.Call) (g15 : AV → AV → Hp → R1) (x3 x5 : AV) (H : Hp) : R1 :=
 vq (intV (qaa .add).f x5 (.int .i64 (.ofNat 1))) H fun a16 H =>
 g15 x3 a16 H
def qgr (call : Ev.Call) (g15 : AV → AV → Hp → R1) (x0 x3 x4 x5 : AV) (H : Hp) : R1 :=
 vl (idxS 1 x4 x5) fun a18 =>
 vl (qae H a18) fun a19 =>
 vl (intV (qaa .sub).f x5 (.int .i64 (.ofNat 1))) fun a20 =>
 vl (idxS 1 x4 a20) fun a21 =>
 vl (qae H a21) fun a22 =>
 vl (intV (qaa .neq).f a19 a22) fun a23 =>
 cd a23 (
 vq (idxS 1 x4 x5) H fun a24 H =>
 vq (qae H a24) H fun a25 H =>
 vq (idxS 1 x0 x3) H fun a26 H =>
 ve (qat H a26 a25) fun _ H =>
 vq (intV (qaa .add).f x3 (.int .i64 (.ofNat 1))) H fun a28 H =>
 qcy call g15 a28 x5 H) (
 qcy call g15 x3 x5 H)
def qgs (call : Ev.Call) (q15e2 : AV → Hp → R1) (x0 x4 : AV) (g15 : AV → AV → Hp → R1) (x3 x5 : AV) (H : Hp) : R1 :=
 vq (qa5 x4) H fun a30 H =>
 vq (intV (qaa .lss).f x5 a30) H fun a31 H =>
 cd a31 (
 qgr call g15 x0 x3 x4 x5 H) (
 q15e2 x3 H)
def qcf (call : Ev.Call) (q15e2 : AV → Hp → R1) (x0 x4 : AV) (n : Nat) : AV → AV → Hp → R1 :=
 Nat.rec (motive := fun _ => AV → AV → Hp → R1) (fun _ _ _ => .bad) (fun _ ih => qgs call q15e2 x0 x4 ih) n
def qgt (call : Ev.Call) (q15e2 : AV → Hp → R1) (x0 x4 : AV) : AV → AV → Hp → R1 := qcf call q15e2 x0 x4 qa6
def qgq (call : Ev.Call) (q1r : AV → Hp → R1) (g1 : AV → Hp → R1) (x0 x3 : AV) (H : Hp) : R1 :=
 vl (idxS 1 x0 x3) fun a4 =>
 vl (qae H a4) fun a5 =>
 vl (intV (qaa .sub).f x3 (.int .i64 (.ofNat 1))) fun a6 =>
 vl (idxS 1 x0 a6) fun a7 =>
 vl (qae H a7) fun a8 =>
 vl (intV (qaa .eql).f a5 a8) fun a9 =>
 cd a9 (
 vq (qbq 1 x0 (some x3) none none) H fun a10 H =>
 qgt call (fun x3 H => qb0 call q1r x0 x3 H) x0 a10 x3 (.int .i64 (.ofNat 1)) H) (
 qhq call g1 x3 H)
def qhr (call : Ev.Call) (q1r : AV → Hp → R1) (q1e0 : Hp → R1) (x0 : AV) (g1 : AV → Hp → R1) (x3 : AV) (H : Hp) : R1 :=
 vq (qa5 x0) H fun a33 H =>
 vq (intV (qaa .lss).f x3 a33) H fun a34 H =>
 cd a34 (
 qgq call q1r g1 x0 x3 H) (
 q1e0 H)
def qcr (call : Ev.Call) (q1r : AV → Hp → R1) (q1e0 : Hp → R1) (x0 : AV) (n : Nat) : AV → Hp → R1 :=
 Nat.rec (motive := fun _ => AV → Hp → R1) (fun _ _ => .bad) (fun _ ih => qhr call q1r q1e0 x0 ih) n
def qhs (call : Ev.Call) (q1r : AV → Hp → R1) (q1e0 : Hp → R1) (x0 : AV) : AV → Hp → R1 := qcr call q1r q1e0 x0 qa6
def qgp (call : Ev.Call) (x0 : AV) (H : Hp) : R1 :=
 qhs call (fun x2 H => .ok x2 H) (fun H => qcc call x0 H) x0 (.int .i64 (.ofNat 1)) H
def qjn (call : Ev.Call) (x0 : AV) (H : Hp) : R1 :=
 vq (qa5 x0) H fun a36 H =>
 vq (intV (qaa .lss).f a36 (.int .i64 (.ofNat 2))) H fun a37 H =>
 cd a37 (
 .ok x0 H) (
 qgp call x0 H)
def o_Compact (call : Ev.Call) (x0 : AV) (H : Hp) : R1 := qjn call x0 H
def qkk (call : Ev.Call) (g0 : AV → AV → AV → AV → AV → Hp → R1) (x0 x1 x2 x3 x10 x11 : AV) (H : Hp) : R1 :=
 ve (call (.f qku) [x0, x1, x2, x11] H) fun a5 H =>
 vq (extr 0 a5) H fun a6 H =>
 vq (extr 1 a5) H fun a7 H =>
 vq (intV (qaa .sub).f a6 x1) H fun a8 H =>
 vq (intV (qaa .sub).f x2 a6) H fun a9 H =>
 vq (intV (qaa .quo).f x10 (.int .i64 (.ofNat 8))) H fun a10 H =>
 vq (intV (qaa .lss).f a8 a9) H fun a11 H =>
 cd a11 (
 vq (intV (qaa .geq).f a8 a10) H fun a12 H =>
 ve (call (.f qgy) [x0, x1, a6, x3] H) fun a13 H =>
 vq (intV (qaa .add).f a6 (.int .i64 (.ofNat 1))) H fun a14 H =>
 g0 a14 x2 x3 a12 a7 H) (
 vq (intV (qaa .geq).f a9 a10) H fun a15 H =>
 vq (intV (qaa .add).f a6 (.int .i64 (.ofNat 1))) H fun a16 H =>
 ve (call (.f qgy) [x0, a16, x2, x3] H) fun a17 H =>
 g0 x1 a6 x3 a15 a7 H)
def qep (call : Ev.Call) (g0 : AV → AV → AV → AV → AV → Hp → R1) (x0 x1 x2 x3 x8 x9 x10 x11 : AV) (H : Hp) : R1 :=
 dz 0 H fun b19 H =>
 dq false false 0 0 (b19 + 0) H [] [] (fun _ => .val x1) (some true) fun a20 H p w =>
 dq false false 1 1 (b19 + 1) H p w (fun _ => intV (qaa .gtr).f a20 (.int .i64 (.ofNat 0))) (some true) fun a21 H p w =>
 dq false false 2 3 (b19 + 2) H p w (fun _ => .val a21) (some true) fun a22 H p w =>
 dq false false 3 7 (b19 + 3) H p w (fun _ => .val x0) (qad true a22) fun a23 H p w =>
 dq false false 4 7 (b19 + 4) H p w (fun _ => .val x1) (qad true a22) fun a24 H p w =>
 dq false false 5 23 (b19 + 5) H p w (fun _ => intV (qaa .sub).f a24 (.int .i64 (.ofNat 1))) (qad true a22) fun a25 H p w =>
 dq false false 6 63 (b19 + 6) H p w (fun _ => idxS 1 a23 a25) (qad true a22) fun a26 H p w =>
 dq true false 7 127 (b19 + 7) H p w (fun H => qae H a26) (qad true a22) fun a27 H p w =>
 dq false false 8 7 (b19 + 8) H p w (fun _ => .val x0) (qad true a22) fun a28 H p w =>
 dq false false 9 7 (b19 + 9) H p w (fun _ => .val x11) (qad true a22) fun a29 H p w =>
 dq false false 10 775 (b19 + 10) H p w (fun _ => idxS 1 a28 a29) (qad true a22) fun a30 H p w =>
 dq true false 11 1799 (b19 + 11) H p w (fun H => qae H a30) (qad true a22) fun a31 H p w =>
 de 4095 H p w (call (.f qbe) [a27, a31] (qaw 4095 p H)) (qad true a22) fun a32 H p w =>
 dq false false 13 8191 (b19 + 13) H p w (fun _ => (unS .not).f a32) (qad true a22) fun a33 H p w =>
 dq false false 14 16383 (b19 + 14) H p w (fun _ => qbm a22 a33 (.bool false)) (some true) fun a34 H p w =>
 dz2 p H fun H =>
 cd a34 (
 ve (call (.f qnx) [x0, x1, x2, x11] H) fun a35 H =>
 g0 a35 x2 x3 x8 x9 H) (
 qkk call g0 x0 x1 x2 x3 x10 x11 H)
def qhn (call : Ev.Call) (q0r : Hp → R1) (g0 : AV → AV → AV → AV → AV → Hp → R1) (x0 x1 x2 x3 x8 x9 x10 x11 x12 : AV) (H : Hp) : R1 :=
 vg (qad true x8) (.val x9) H fun a37 H =>
 vq (qbm x8 a37 (.bool false)) H fun a38 H =>
 vg (qad true a38) (.val x12) H fun a39 H =>
 vg (qad true a38) (intV (qaa .eql).f a39 (.int .i64 (.ofNat 1))) H fun a40 H =>
 vq (qbm a38 a40 (.bool false)) H fun a41 H =>
 cd a41 (
 ve (call (.f qhx) [x0, x1, x2] H) fun a42 H =>
 cd a42 (
 q0r H) (
 qep call g0 x0 x1 x2 x3 x8 x9 x10 x11 H)) (
 qep call g0 x0 x1 x2 x3 x8 x9 x10 x11 H)
def qhm (call : Ev.Call) (q0r : Hp → R1) (g0 : AV → AV → AV → AV → AV → Hp → R1) (x0 x1 x2 x3 x8 x9 x10 : AV) (H : Hp) : R1 :=
 ve (call (.f qnw) [x0, x1, x2] H) fun a2 H =>
 vq (extr 0 a2) H fun a3 H =>
 vq (extr 1 a2) H fun a4 H =>
 vq (intV (qaa .eql).f a4 (.int .i64 (.ofNat 2))) H fun a44 H =>
 cd a44 (
 ve (call (.f qnv) [x0, x1, x2] H) fun a45 H =>
 vq (intV (qaa .sub).f x2 (.int .i64 (.ofNat 1))) H fun a46 H =>
 vq (intV (qaa .sub).f a3 x1) H fun a47 H =>
 vq (intV (qaa .sub).f a46 a47) H fun a48 H =>
 qhn call q0r g0 x0 x1 x2 x3 x8 x9 x10 a48 (.int .i64 (.ofNat 1)) H) (
 qhn call q0r g0 x0 x1 x2 x3 x8 x9 x10 a3 a4 H)
def qpq (call : Ev.Call) (q0r : Hp → R1) (g0 : AV → AV → AV → AV → AV → Hp → R1) (x0 x1 x2 x3 x8 x9 x10 : AV) (H : Hp) : R1 :=
 vq ((unS .not).f x8) H fun a50 H =>
 cd a50 (
 ve (call (.f qny) [x0, x1, x2] H) fun a51 H =>
 vq (intV (qaa .sub).f x3 (.int .i64 (.ofNat 1))) H fun a52 H =>
 qhm call q0r g0 x0 x1 x2 a52 x8 x9 x10 H) (
 qhm call q0r g0 x0 x1 x2 x3 x8 x9 x10 H)
def qpp (call : Ev.Call) (q0r : Hp → R1) (g0 : AV → AV → AV → AV → AV → Hp → R1) (x0 x1 x2 x3 x8 x9 x10 : AV) (H : Hp) : R1 :=
 vq (intV (qaa .eql).f x3 (.int .i64 (.ofNat 0))) H fun a54 H =>
 cd a54 (
 ve (call (.f qkx) [x0, x1, x2] H) fun a55 H =>
 q0r H) (
 qpq call q0r g0 x0 x1 x2 x3 x8 x9 x10 H)
def qkl (call : Ev.Call) (q0r : Hp → R1) (x0 : AV) (g0 : AV → AV → AV → AV → AV → Hp → R1) (x1 x2 x3 x8 x9 : AV) (H : Hp) : R1 :=
 vq (intV (qaa .sub).f x2 x1) H fun a1 H =>
 vq (intV (qaa .leq).f a1 (.int .i64 (.ofNat 12))) H fun a57 H =>
 cd a57 (
 ve (call (.f qkw) [x0, x1, x2] H) fun a58 H =>
 q0r H) (
 qpp call q0r g0 x0 x1 x2 x3 x8 x9 a1 H)
def qbn (call : Ev.Call) (q0r : Hp → R1) (x0 : AV) (n : Nat) : AV → AV → AV → AV → AV → Hp → R1 :=
 Nat.rec (motive := fun _ => AV → AV → AV → AV → AV → Hp → R1) (fun _ _ _ _ _ _ => .bad) (fun _ ih => qkl call q0r x0 ih) n
def qnq (call : Ev.Call) (q0r : Hp → R1) (x0 : AV) : AV → AV → AV → AV → AV → Hp → R1 := qbn call q0r x0 qa6
def qto (call : Ev.Call) (x0 x1 x2 x3 : AV) (H : Hp) : R1 :=
 qnq call (fun H => .ok (.tup []) H) x0 x1 x2 x3 (.bool true) (.bool true) H
def o_pdq (call : Ev.Call) (x0 x1 x2 x3 : AV) (H : Hp) : R1 := qto call x0 x1 x2 x3 H
def qgo (call : Ev.Call) (g1 : AV → Hp → R1) (x6 : AV) (H : Hp) : R1 :=
 vq (intV (qaa .add).f x6 (.int .i64 (.ofNat 1))) H fun a2 H =>
 g1 a2 H
def qtt (call : Ev.Call) (g4 : AV → Hp → R1) (x7 : AV) (H : Hp) : R1 :=
 vq (intV (qaa .sub).f x7 (.int .i64 (.ofNat 1))) H fun a5 H =>
 g4 a5 H
def qpt (call : Ev.Call) (g4 : AV → Hp → R1) (x0 x7 : AV) (H : Hp) : R1 :=
 dz 0 H fun b7 H =>
 dq false false 0 0 (b7 + 0) H [] [] (fun _ => .val x0) (some true) fun a8 H p w =>
 dq false false 1 0 (b7 + 1) H p w (fun _ => .val x7) (some true) fun a9 H p w =>
 dq false false 2 0 (b7 + 2) H p w (fun _ => .val x0) (some true) fun a10 H p w =>
 dq false false 3 0 (b7 + 3) H p w (fun _ => .val x7) (some true) fun a11 H p w =>
 dq false false 4 8 (b7 + 4) H p w (fun _ => intV (qaa .sub).f a11 (.int .i64 (.ofNat 1))) (some true) fun a12 H p w =>
 dq false false 5 0 (b7 + 5) H p w (fun _ => .val x0) (some true) fun a13 H p w =>
 dq false false 6 0 (b7 + 6) H p w (fun _ => .val x7) (some true) fun a14 H p w =>
 dq false false 7 64 (b7 + 7) H p w (fun _ => intV (qaa .sub).f a14 (.int .i64 (.ofNat 1))) (some true) fun a15 H p w =>
 dq false false 8 224 (b7 + 8) H p w (fun _ => idxS 1 a13 a15) (some true) fun a16 H p w =>
 dq true false 9 480 (b7 + 9) H p w (fun H => qae H a16) (some true) fun a17 H p w =>
 dq false false 10 0 (b7 + 10) H p w (fun _ => .val x0) (some true) fun a18 H p w =>
 dq false false 11 0 (b7 + 11) H p w (fun _ => .val x7) (some true) fun a19 H p w =>
 dq false false 12 3072 (b7 + 12) H p w (fun _ => idxS 1 a18 a19) (some true) fun a20 H p w =>
 dq true false 13 7168 (b7 + 13) H p w (fun H => qae H a20) (some true) fun a21 H p w =>
 dq false false 14 16355 (b7 + 14) H p w (fun _ => idxS 1 a8 a9) (some true) fun a22 H p w =>
 de 32739 H p w (qat (qaw 32739 p H) a22 a17) (some true) fun _ H p w =>
 dq false false 16 65535 (b7 + 16) H p w (fun _ => idxS 1 a10 a12) (some true) fun a24 H p w =>
 de 131071 H p w (qat (qaw 131071 p H) a24 a21) (some true) fun _ H p w =>
 dz2 p H fun H =>
 qtt call g4 x7 H
def qtv (call : Ev.Call) (q4e2 : Hp → R1) (x0 x1 : AV) (g4 : AV → Hp → R1) (x7 : AV) (H : Hp) : R1 :=
 dz 0 H fun b27 H =>
 dq false false 0 0 (b27 + 0) H [] [] (fun _ => .val x7) (some true) fun a28 H p w =>
 dq false false 1 0 (b27 + 1) H p w (fun _ => .val x1) (some true) fun a29 H p w =>
 dq false false 2 3 (b27 + 2) H p w (fun _ => intV (qaa .gtr).f a28 a29) (some true) fun a30 H p w =>
 dq false false 3 7 (b27 + 3) H p w (fun _ => .val a30) (some true) fun a31 H p w =>
 dq false false 4 15 (b27 + 4) H p w (fun _ => .val x0) (qad true a31) fun a32 H p w =>
 dq false false 5 15 (b27 + 5) H p w (fun _ => .val x7) (qad true a31) fun a33 H p w =>
 dq false false 6 63 (b27 + 6) H p w (fun _ => idxS 1 a32 a33) (qad true a31) fun a34 H p w =>
 dq true false 7 127 (b27 + 7) H p w (fun H => qae H a34) (qad true a31) fun a35 H p w =>
 dq false false 8 15 (b27 + 8) H p w (fun _ => .val x0) (qad true a31) fun a36 H p w =>
 dq false false 9 15 (b27 + 9) H p w (fun _ => .val x7) (qad true a31) fun a37 H p w =>
 dq false false 10 527 (b27 + 10) H p w (fun _ => intV (qaa .sub).f a37 (.int .i64 (.ofNat 1))) (qad true a31) fun a38 H p w =>
 dq false false 11 1807 (b27 + 11) H p w (fun _ => idxS 1 a36 a38) (qad true a31) fun a39 H p w =>
 dq true false 12 3855 (b27 + 12) H p w (fun H => qae H a39) (qad true a31) fun a40 H p w =>
 de 8191 H p w (call (.f qbe) [a35, a40] (qaw 8191 p H)) (qad true a31) fun a41 H p w =>
 dq false false 14 16383 (b27 + 14) H p w (fun _ => qbm a31 a41 (.bool false)) (some true) fun a42 H p w =>
 dz2 p H fun H =>
 cd a42 (
 qpt call g4 x0 x7 H) (
 q4e2 H)
def qie (call : Ev.Call) (q4e2 : Hp → R1) (x0 x1 : AV) (n : Nat) : AV → Hp → R1 :=
 Nat.rec (motive := fun _ => AV → Hp → R1) (fun _ _ => .bad) (fun _ ih => qtv call q4e2 x0 x1 ih) n
def qtw (call : Ev.Call) (q4e2 : Hp → R1) (x0 x1 : AV) : AV → Hp → R1 := qie call q4e2 x0 x1 qa6
def qps (call : Ev.Call) (g1 : AV → Hp → R1) (x0 x1 x6 : AV) (H : Hp) : R1 :=
 qtw call (fun H => qgo call g1 x6 H) x0 x1 x6 H
def qkm (call : Ev.Call) (q1e0 : Hp → R1) (x0 x1 x2 : AV) (g1 : AV → Hp → R1) (x6 : AV) (H : Hp) : R1 :=
 vq (intV (qaa .lss).f x6 x2) H fun a44 H =>
 cd a44 (
 qps call g1 x0 x1 x6 H) (
 q1e0 H)
def qcx (call : Ev.Call) (q1e0 : Hp → R1) (x0 x1 x2 : AV) (n : Nat) : AV → Hp → R1 :=
 Nat.rec (motive := fun _ => AV → Hp → R1) (fun _ _ => .bad) (fun _ ih => qkm call q1e0 x0 x1 x2 ih) n
def qnr (call : Ev.Call) (q1e0 : Hp → R1) (x0 x1 x2 : AV) : AV → Hp → R1 := qcx call q1e0 x0 x1 x2 qa6
def qtu (call : Ev.Call) (x0 x1 x2 : AV) (H : Hp) : R1 :=
 vq (intV (qaa .add).f x1 (.int .i64 (.ofNat 1))) H fun a0 H =>
 qnr call (fun H => .ok (.tup []) H) x0 x1 x2 a0 H
def o_ins (call : Ev.Call) (x0 x1 x2 : AV) (H : Hp) : R1 := qtu call x0 x1 x2 H
def qpu (call : Ev.Call) (g2 : AV → Hp → R1) (x10 : AV) (H : Hp) : R1 :=
 vq (intV (qaa .sub).f x10 (.int .i64 (.ofNat 1))) H fun a3 H =>
 g2 a3 H
def qme (call : Ev.Call) (g2 : AV → Hp → R1) (x0 x6 x7 x10 : AV) (H : Hp) : R1 :=
 dz 0 H fun b5 H =>
 dq false false 0 0 (b5 + 0) H [] [] (fun _ => .val x0) (some true) fun a6 H p w =>
 dq false false 1 0 (b5 + 1) H p w (fun _ => .val x6) (some true) fun a7 H p w =>
 dq false false 2 0 (b5 + 2) H p w (fun _ => .val x0) (some true) fun a8 H p w =>
 dq false false 3 0 (b5 + 3) H p w (fun _ => .val x6) (some true) fun a9 H p w =>
 dq false false 4 0 (b5 + 4) H p w (fun _ => .val x10) (some true) fun a10 H p w =>
 dq false false 5 24 (b5 + 5) H p w (fun _ => intV (qaa .add).f a9 a10) (some true) fun a11 H p w =>
 dq false false 6 0 (b5 + 6) H p w (fun _ => .val x0) (some true) fun a12 H p w =>
 dq false false 7 0 (b5 + 7) H p w (fun _ => .val x6) (some true) fun a13 H p w =>
 dq false false 8 0 (b5 + 8) H p w (fun _ => .val x10) (some true) fun a14 H p w =>
 dq false false 9 384 (b5 + 9) H p w (fun _ => intV (qaa .add).f a13 a14) (some true) fun a15 H p w =>
 dq false false 10 960 (b5 + 10) H p w (fun _ => idxS 1 a12 a15) (some true) fun a16 H p w =>
 dq true false 11 1984 (b5 + 11) H p w (fun H => qae H a16) (some true) fun a17 H p w =>
 dq false false 12 0 (b5 + 12) H p w (fun _ => .val x0) (some true) fun a18 H p w =>
 dq false false 13 0 (b5 + 13) H p w (fun _ => .val x6) (some true) fun a19 H p w =>
 dq false false 14 12288 (b5 + 14) H p w (fun _ => idxS 1 a18 a19) (some true) fun a20 H p w =>
 dq true false 15 28672 (b5 + 15) H p w (fun H => qae H a20) (some true) fun a21 H p w =>
 dq false false 16 65475 (b5 + 16) H p w (fun _ => idxS 1 a6 a7) (some true) fun a22 H p w =>
 de 131011 H p w (qat (qaw 131011 p H) a22 a17) (some true) fun _ H p w =>
 dq false false 18 262143 (b5 + 18) H p w (fun _ => idxS 1 a8 a11) (some true) fun a24 H p w =>
 de 524287 H p w (qat (qaw 524287 p H) a24 a21) (some true) fun _ H p w =>
 dz2 p H fun H =>
 ve (call (.f qhw) [x0, x7, x10, x6] H) fun a26 H =>
 qpu call g2 x10 H
def qho (call : Ev.Call) (q2e2 : Hp → R1) (x0 x6 x7 : AV) (g2 : AV → Hp → R1) (x10 : AV) (H : Hp) : R1 :=
 vq (intV (qaa .geq).f x10 (.int .i64 (.ofNat 0))) H fun a28 H =>
 cd a28 (
 qme call g2 x0 x6 x7 x10 H) (
 q2e2 H)
def qes (call : Ev.Call) (q2e2 : Hp → R1) (x0 x6 x7 : AV) (n : Nat) : AV → Hp → R1 :=
 Nat.rec (motive := fun _ => AV → Hp → R1) (fun _ _ => .bad) (fun _ ih => qho call q2e2 x0 x6 x7 ih) n
def qpv (call : Ev.Call) (q2e2 : Hp → R1) (x0 x6 x7 : AV) : AV → Hp → R1 := qes call q2e2 x0 x6 x7 qa6
def qdh (call : Ev.Call) (x0 x6 x7 x8 : AV) (H : Hp) : R1 :=
 vq (intV (qaa .sub).f x8 (.int .i64 (.ofNat 1))) H fun a1 H =>
 qpv call (fun H => .ok (.tup []) H) x0 x6 x7 a1 H
def qmd (call : Ev.Call) (g32 : AV → Hp → R1) (x9 : AV) (H : Hp) : R1 :=
 vq (intV (qaa .sub).f x9 (.int .i64 (.ofNat 1))) H fun a33 H =>
 g32 a33 H
def qmc (call : Ev.Call) (g32 : AV → Hp → R1) (x0 x6 x8 x9 : AV) (H : Hp) : R1 :=
 ve (call (.f qhw) [x0, x9, x8, x6] H) fun a35 H =>
 qmd call g32 x9 H
def qf5 (call : Ev.Call) (q32e0 : Hp → R1) (x0 x6 x8 : AV) (g32 : AV → Hp → R1) (x9 : AV) (H : Hp) : R1 :=
 vq (intV (qaa .geq).f x9 (.int .i64 (.ofNat 0))) H fun a37 H =>
 cd a37 (
 qmc call g32 x0 x6 x8 x9 H) (
 q32e0 H)
def qdg (call : Ev.Call) (q32e0 : Hp → R1) (x0 x6 x8 : AV) (n : Nat) : AV → Hp → R1 :=
 Nat.rec (motive := fun _ => AV → Hp → R1) (fun _ _ => .bad) (fun _ ih => qf5 call q32e0 x0 x6 x8 ih) n
def qmf (call : Ev.Call) (q32e0 : Hp → R1) (x0 x6 x8 : AV) : AV → Hp → R1 := qdg call q32e0 x0 x6 x8 qa6
def qtx (call : Ev.Call) (x0 x1 x2 : AV) (H : Hp) : R1 :=
 vq (intV (qaa .sub).f x2 x1) H fun a0 H =>
 vq (intV (qaa .sub).f a0 (.int .i64 (.ofNat 1))) H fun a30 H =>
 vq (intV (qaa .quo).f a30 (.int .i64 (.ofNat 2))) H fun a31 H =>
 qmf call (fun H => qdh call x0 x1 (.int .i64 (.ofNat 0)) a0 H) x0 x1 a0 a31 H
def o_heap (call : Ev.Call) (x0 x1 x2 : AV) (H : Hp) : R1 := qtx call x0 x1 x2 H
def qpx (call : Ev.Call) (g10 : AV → Hp → R1) (x9 : AV) (H : Hp) : R1 :=
 vq (intV (qaa .add).f x9 (.int .i64 (.ofNat 1))) H fun a11 H =>
 g10 a11 H
def qhp (call : Ev.Call) (g10 : AV → Hp → R1) (x0 x1 x9 x10 : AV) (H : Hp) : R1 :=
 dz 0 H fun b17 H =>
 dq false false 0 0 (b17 + 0) H [] [] (fun _ => .val x0) (some true) fun a18 H p w =>
 dq false false 1 0 (b17 + 1) H p w (fun _ => .val x9) (some true) fun a19 H p w =>
 dq false false 2 0 (b17 + 2) H p w (fun _ => .val x0) (some true) fun a20 H p w =>
 dq false false 3 0 (b17 + 3) H p w (fun _ => .val x1) (some true) fun a21 H p w =>
 dq false false 4 0 (b17 + 4) H p w (fun _ => .val x10) (some true) fun a22 H p w =>
 dq false false 5 24 (b17 + 5) H p w (fun _ => intV (qaa .add).f a21 a22) (some true) fun a23 H p w =>
 dq false false 6 0 (b17 + 6) H p w (fun _ => .val x0) (some true) fun a24 H p w =>
 dq false false 7 0 (b17 + 7) H p w (fun _ => .val x1) (some true) fun a25 H p w =>
 dq false false 8 0 (b17 + 8) H p w (fun _ => .val x10) (some true) fun a26 H p w =>
 dq false false 9 384 (b17 + 9) H p w (fun _ => intV (qaa .add).f a25 a26) (some true) fun a27 H p w =>
 dq false false 10 960 (b17 + 10) H p w (fun _ => idxS 1 a24 a27) (some true) fun a28 H p w =>
 dq true false 11 1984 (b17 + 11) H p w (fun H => qae H a28) (some true) fun a29 H p w =>
 dq false false 12 0 (b17 + 12) H p w (fun _ => .val x0) (some true) fun a30 H p w =>
 dq false false 13 0 (b17 + 13) H p w (fun _ => .val x9) (some true) fun a31 H p w =>
 dq false false 14 12288 (b17 + 14) H p w (fun _ => idxS 1 a30 a31) (some true) fun a32 H p w =>
 dq true false 15 28672 (b17 + 15) H p w (fun H => qae H a32) (some true) fun a33 H p w =>
 dq false false 16 65475 (b17 + 16) H p w (fun _ => idxS 1 a18 a19) (some true) fun a34 H p w =>
 de 131011 H p w (qat (qaw 131011 p H) a34 a29) (some true) fun _ H p w =>
 dq false false 18 262143 (b17 + 18) H p w (fun _ => idxS 1 a20 a23) (some true) fun a36 H p w =>
 de 524287 H p w (qat (qaw 524287 p H) a36 a33) (some true) fun _ H p w =>
 dz2 p H fun H =>
 qpx call g10 x9 H
def qpw (call : Ev.Call) (g10 : AV → Hp → R1) (x0 x1 x6 x7 x8 x9 : AV) (H : Hp) : R1 :=
 ve (call (.f qe7) [x7] H) fun a13 H =>
 vq (intV (qaa .sub).f x8 (.int .u64 (.ofNat 1))) H fun a14 H =>
 vq (intV (qaa .and).f a13 a14) H fun a15 H =>
 vq (qfl .i64 a15) H fun a16 H =>
 vq (intV (qaa .geq).f a16 x6) H fun a39 H =>
 cd a39 (
 vq (intV (qaa .sub).f a16 x6) H fun a40 H =>
 qhp call g10 x0 x1 x9 a40 H) (
 qhp call g10 x0 x1 x9 a16 H)
def qpy (call : Ev.Call) (q10e0 : Hp → R1) (x0 x1 x6 x7 x8 : AV) (g10 : AV → Hp → R1) (x9 : AV) (H : Hp) : R1 :=
 vq (intV (qaa .quo).f x6 (.int .i64 (.ofNat 4))) H fun a42 H =>
 vq (intV (qaa .mul).f a42 (.int .i64 (.ofNat 2))) H fun a43 H =>
 vq (intV (qaa .add).f x1 a43) H fun a44 H =>
 vq (intV (qaa .add).f a44 (.int .i64 (.ofNat 1))) H fun a45 H =>
 vq (intV (qaa .leq).f x9 a45) H fun a46 H =>
 cd a46 (
 qpw call g10 x0 x1 x6 x7 x8 x9 H) (
 q10e0 H)
def qdt (call : Ev.Call) (q10e0 : Hp → R1) (x0 x1 x6 x7 x8 : AV) (n : Nat) : AV → Hp → R1 :=
 Nat.rec (motive := fun _ => AV → Hp → R1) (fun _ _ => .bad) (fun _ ih => qpy call q10e0 x0 x1 x6 x7 x8 ih) n
def qpz (call : Ev.Call) (q10e0 : Hp → R1) (x0 x1 x6 x7 x8 : AV) : AV → Hp → R1 := qdt call q10e0 x0 x1 x6 x7 x8 qa6
def qza (call : Ev.Call) (x0 x1 x2 : AV) (H : Hp) : R1 :=
 vq (intV (qaa .sub).f x2 x1) H fun a0 H =>
 vq (intV (qaa .geq).f a0 (.int .i64 (.ofNat 8))) H fun a1 H =>
 cd a1 (
 vq (qfl .u64 a0) H fun a2 H =>
 vq (.new (.ptr H.nx 0) (qab 0 [.int .u64 (.ofNat 0)])) H fun a3 H =>
 ve (qat H a3 a2) fun _ H =>
 ve (call (.f qkq) [a0] H) fun a5 H =>
 vq (intV (qaa .quo).f a0 (.int .i64 (.ofNat 4))) H fun a6 H =>
 vq (intV (qaa .mul).f a6 (.int .i64 (.ofNat 2))) H fun a7 H =>
 vq (intV (qaa .add).f x1 a7) H fun a8 H =>
 vq (intV (qaa .sub).f a8 (.int .i64 (.ofNat 1))) H fun a9 H =>
 qpz call (fun H => .ok (.tup []) H) x0 x1 a0 a3 a5 a9 H) (
 .ok (.tup []) H)
def o_brk (call : Ev.Call) (x0 x1 x2 : AV) (H : Hp) : R1 := qza call x0 x1 x2 H
def qhi (call : Ev.Call) (x9 x11 : AV) (H : Hp) : R1 :=
 vq (qae H x9) H fun a11 H =>
 vq (intV (qaa .eql).f a11 (.int .i64 (.ofNat 0))) H fun a12 H =>
 cd a12 (
 .ok (.tup [x11, (.int .i64 (.ofNat 1))]) H) (
 vq (intV (qaa .eql).f a11 (.int .i64 (.ofNat 12))) H fun a13 H =>
 cd a13 (
 .ok (.tup [x11, (.int .i64 (.ofNat 2))]) H) (
 .ok (.tup [x11, (.int .i64 (.ofNat 0))]) H))
def qhh (call : Ev.Call) (x0 x9 x10 x11 x12 : AV) (H : Hp) : R1 :=
 ve (call (.f qkv) [x0, x10, x11, x12, x9] H) fun a16 H =>
 qhi call x9 a16 H
def qy2 (call : Ev.Call) (x0 x1 x2 : AV) (H : Hp) : R1 :=
 vq (intV (qaa .sub).f x2 x1) H fun a0 H =>
 vq (.new (.ptr H.nx 0) (qab 0 [.int .i64 (.ofNat 0)])) H fun a1 H =>
 vq (intV (qaa .quo).f a0 (.int .i64 (.ofNat 4))) H fun a2 H =>
 vq (intV (qaa .mul).f a2 (.int .i64 (.ofNat 1))) H fun a3 H =>
 vq (intV (qaa .add).f x1 a3) H fun a4 H =>
 vq (intV (qaa .quo).f a0 (.int .i64 (.ofNat 4))) H fun a5 H =>
 vq (intV (qaa .mul).f a5 (.int .i64 (.ofNat 2))) H fun a6 H =>
 vq (intV (qaa .add).f x1 a6) H fun a7 H =>
 vq (intV (qaa .quo).f a0 (.int .i64 (.ofNat 4))) H fun a8 H =>
 vq (intV (qaa .mul).f a8 (.int .i64 (.ofNat 3))) H fun a9 H =>
 vq (intV (qaa .add).f x1 a9) H fun a10 H =>
 vq (intV (qaa .geq).f a0 (.int .i64 (.ofNat 8))) H fun a15 H =>
 cd a15 (
 vq (intV (qaa .geq).f a0 (.int .i64 (.ofNat 50))) H fun a18 H =>
 cd a18 (
 ve (call (.f qdi) [x0, a4, a1] H) fun a19 H =>
 ve (call (.f qdi) [x0, a7, a1] H) fun a20 H =>
 ve (call (.f qdi) [x0, a10, a1] H) fun a21 H =>
 qhh call x0 a1 a19 a20 a21 H) (
 qhh call x0 a1 a4 a7 a10 H)) (
 qhi call a1 a7 H)
def o_piv (call : Ev.Call) (x0 x1 x2 : AV) (H : Hp) : R1 := qy2 call x0 x1 x2 H
def qpf (call : Ev.Call) (g1 : AV → AV → Hp → R1) (x0 x6 x7 : AV) (H : Hp) : R1 :=
 dz 0 H fun b2 H =>
 dq false false 0 0 (b2 + 0) H [] [] (fun _ => .val x0) (some true) fun a3 H p w =>
 dq false false 1 0 (b2 + 1) H p w (fun _ => .val x6) (some true) fun a4 H p w =>
 dq false false 2 0 (b2 + 2) H p w (fun _ => .val x0) (some true) fun a5 H p w =>
 dq false false 3 0 (b2 + 3) H p w (fun _ => .val x7) (some true) fun a6 H p w =>
 dq false false 4 0 (b2 + 4) H p w (fun _ => .val x0) (some true) fun a7 H p w =>
 dq false false 5 0 (b2 + 5) H p w (fun _ => .val x7) (some true) fun a8 H p w =>
 dq false false 6 48 (b2 + 6) H p w (fun _ => idxS 1 a7 a8) (some true) fun a9 H p w =>
 dq true false 7 112 (b2 + 7) H p w (fun H => qae H a9) (some true) fun a10 H p w =>
 dq false false 8 0 (b2 + 8) H p w (fun _ => .val x0) (some true) fun a11 H p w =>
 dq false false 9 0 (b2 + 9) H p w (fun _ => .val x6) (some true) fun a12 H p w =>
 dq false false 10 768 (b2 + 10) H p w (fun _ => idxS 1 a11 a12) (some true) fun a13 H p w =>
 dq true false 11 1792 (b2 + 11) H p w (fun H => qae H a13) (some true) fun a14 H p w =>
 dq false false 12 4083 (b2 + 12) H p w (fun _ => idxS 1 a3 a4) (some true) fun a15 H p w =>
 de 8179 H p w (qat (qaw 8179 p H) a15 a10) (some true) fun _ H p w =>
 dq false false 14 16383 (b2 + 14) H p w (fun _ => idxS 1 a5 a6) (some true) fun a17 H p w =>
 de 32767 H p w (qat (qaw 32767 p H) a17 a14) (some true) fun _ H p w =>
 dz2 p H fun H =>
 vq (intV (qaa .add).f x6 (.int .i64 (.ofNat 1))) H fun a19 H =>
 vq (intV (qaa .sub).f x7 (.int .i64 (.ofNat 1))) H fun a20 H =>
 g1 a19 a20 H
def qtl (call : Ev.Call) (q1e0 : Hp → R1) (x0 : AV) (g1 : AV → AV → Hp → R1) (x6 x7 : AV) (H : Hp) : R1 :=
 vq (intV (qaa .lss).f x6 x7) H fun a22 H =>
 cd a22 (
 qpf call g1 x0 x6 x7 H) (
 q1e0 H)
def qkj (call : Ev.Call) (q1e0 : Hp → R1) (x0 : AV) (n : Nat) : AV → AV → Hp → R1 :=
 Nat.rec (motive := fun _ => AV → AV → Hp → R1) (fun _ _ _ => .bad) (fun _ ih => qtl call q1e0 x0 ih) n
def qtm (call : Ev.Call) (q1e0 : Hp → R1) (x0 : AV) : AV → AV → Hp → R1 := qkj call q1e0 x0 qa6
def qy1 (call : Ev.Call) (x0 x1 x2 : AV) (H : Hp) : R1 :=
 vq (intV (qaa .sub).f x2 (.int .i64 (.ofNat 1))) H fun a0 H =>
 qtm call (fun H => .ok (.tup []) H) x0 x1 a0 H
def o_rev (call : Ev.Call) (x0 x1 x2 : AV) (H : Hp) : R1 := qy1 call x0 x1 x2 H
def qa0 (call : Ev.Call) (H : Hp) : R1 :=
 .ok (.bool false) H
def qcb (call : Ev.Call) (g2 : AV → AV → Hp → R1) (x7 x8 : AV) (H : Hp) : R1 :=
 vq (intV (qaa .add).f x8 (.int .i64 (.ofNat 1))) H fun a3 H =>
 g2 x7 a3 H
def ql0 (call : Ev.Call) (g27 : AV → Hp → R1) (x10 : AV) (H : Hp) : R1 :=
 vq (intV (qaa .add).f x10 (.int .i64 (.ofNat 1))) H fun a28 H =>
 g27 a28 H
def qlz (call : Ev.Call) (g27 : AV → Hp → R1) (x0 x10 : AV) (H : Hp) : R1 :=
 dz 0 H fun b30 H =>
 dq false false 0 0 (b30 + 0) H [] [] (fun _ => .val x0) (some true) fun a31 H p w =>
 dq false false 1 0 (b30 + 1) H p w (fun _ => .val x10) (some true) fun a32 H p w =>
 dq false false 2 0 (b30 + 2) H p w (fun _ => .val x0) (some true) fun a33 H p w =>
 dq false false 3 0 (b30 + 3) H p w (fun _ => .val x10) (some true) fun a34 H p w =>
 dq false false 4 8 (b30 + 4) H p w (fun _ => intV (qaa .sub).f a34 (.int .i64 (.ofNat 1))) (some true) fun a35 H p w =>
 dq false false 5 0 (b30 + 5) H p w (fun _ => .val x0) (some true) fun a36 H p w =>
 dq false false 6 0 (b30 + 6) H p w (fun _ => .val x10) (some true) fun a37 H p w =>
 dq false false 7 64 (b30 + 7) H p w (fun _ => intV (qaa .sub).f a37 (.int .i64 (.ofNat 1))) (some true) fun a38 H p w =>
 dq false false 8 224 (b30 + 8) H p w (fun _ => idxS 1 a36 a38) (some true) fun a39 H p w =>
 dq true false 9 480 (b30 + 9) H p w (fun H => qae H a39) (some true) fun a40 H p w =>
 dq false false 10 0 (b30 + 10) H p w (fun _ => .val x0) (some true) fun a41 H p w =>
 dq false false 11 0 (b30 + 11) H p w (fun _ => .val x10) (some true) fun a42 H p w =>
 dq false false 12 3072 (b30 + 12) H p w (fun _ => idxS 1 a41 a42) (some true) fun a43 H p w =>
 dq true false 13 7168 (b30 + 13) H p w (fun H => qae H a43) (some true) fun a44 H p w =>
 dq false false 14 16355 (b30 + 14) H p w (fun _ => idxS 1 a31 a32) (some true) fun a45 H p w =>
 de 32739 H p w (qat (qaw 32739 p H) a45 a40) (some true) fun _ H p w =>
 dq false false 16 65535 (b30 + 16) H p w (fun _ => idxS 1 a33 a35) (some true) fun a47 H p w =>
 de 131071 H p w (qat (qaw 131071 p H) a47 a44) (some true) fun _ H p w =>
 dz2 p H fun H =>
 ql0 call g27 x10 H
def qly (call : Ev.Call) (q27e6 : Hp → R1) (g27 : AV → Hp → R1) (x0 x10 : AV) (H : Hp) : R1 :=
 dz 0 H fun b50 H =>
 dq false false 0 0 (b50 + 0) H [] [] (fun _ => .val x0) (some true) fun a51 H p w =>
 dq false false 1 0 (b50 + 1) H p w (fun _ => .val x10) (some true) fun a52 H p w =>
 dq false false 2 3 (b50 + 2) H p w (fun _ => idxS 1 a51 a52) (some true) fun a53 H p w =>
 dq true false 3 7 (b50 + 3) H p w (fun H => qae H a53) (some true) fun a54 H p w =>
 dq false false 4 0 (b50 + 4) H p w (fun _ => .val x0) (some true) fun a55 H p w =>
 dq false false 5 0 (b50 + 5) H p w (fun _ => .val x10) (some true) fun a56 H p w =>
 dq false false 6 32 (b50 + 6) H p w (fun _ => intV (qaa .sub).f a56 (.int .i64 (.ofNat 1))) (some true) fun a57 H p w =>
 dq false false 7 112 (b50 + 7) H p w (fun _ => idxS 1 a55 a57) (some true) fun a58 H p w =>
 dq true false 8 240 (b50 + 8) H p w (fun H => qae H a58) (some true) fun a59 H p w =>
 de 511 H p w (call (.f qbe) [a54, a59] (qaw 511 p H)) (some true) fun a60 H p w =>
 dq false false 10 1023 (b50 + 10) H p w (fun _ => (unS .not).f a60) (some true) fun a61 H p w =>
 dz2 p H fun H =>
 cd a61 (
 q27e6 H) (
 qlz call g27 x0 x10 H)
def ql1 (call : Ev.Call) (q27e6 : Hp → R1) (x0 x2 : AV) (g27 : AV → Hp → R1) (x10 : AV) (H : Hp) : R1 :=
 vq (intV (qaa .lss).f x10 x2) H fun a63 H =>
 cd a63 (
 qly call q27e6 g27 x0 x10 H) (
 q27e6 H)
def qdb (call : Ev.Call) (q27e6 : Hp → R1) (x0 x2 : AV) (n : Nat) : AV → Hp → R1 :=
 Nat.rec (motive := fun _ => AV → Hp → R1) (fun _ _ => .bad) (fun _ ih => ql1 call q27e6 x0 x2 ih) n
def ql3 (call : Ev.Call) (q27e6 : Hp → R1) (x0 x2 : AV) : AV → Hp → R1 := qdb call q27e6 x0 x2 qa6
def qbt (call : Ev.Call) (g2 : AV → AV → Hp → R1) (x0 x2 x7 x8 : AV) (H : Hp) : R1 :=
 vq (intV (qaa .sub).f x2 x7) H fun a24 H =>
 vq (intV (qaa .geq).f a24 (.int .i64 (.ofNat 2))) H fun a25 H =>
 cd a25 (
 vq (intV (qaa .add).f x7 (.int .i64 (.ofNat 1))) H fun a26 H =>
 ql3 call (fun H => qcb call g2 x7 x8 H) x0 x2 a26 H) (
 qcb call g2 x7 x8 H)
def qlx (call : Ev.Call) (g68 : AV → Hp → R1) (x9 : AV) (H : Hp) : R1 :=
 vq (intV (qaa .sub).f x9 (.int .i64 (.ofNat 1))) H fun a69 H =>
 g68 a69 H
def qlw (call : Ev.Call) (g68 : AV → Hp → R1) (x0 x9 : AV) (H : Hp) : R1 :=
 dz 0 H fun b71 H =>
 dq false false 0 0 (b71 + 0) H [] [] (fun _ => .val x0) (some true) fun a72 H p w =>
 dq false false 1 0 (b71 + 1) H p w (fun _ => .val x9) (some true) fun a73 H p w =>
 dq false false 2 0 (b71 + 2) H p w (fun _ => .val x0) (some true) fun a74 H p w =>
 dq false false 3 0 (b71 + 3) H p w (fun _ => .val x9) (some true) fun a75 H p w =>
 dq false false 4 8 (b71 + 4) H p w (fun _ => intV (qaa .sub).f a75 (.int .i64 (.ofNat 1))) (some true) fun a76 H p w =>
 dq false false 5 0 (b71 + 5) H p w (fun _ => .val x0) (some true) fun a77 H p w =>
 dq false false 6 0 (b71 + 6) H p w (fun _ => .val x9) (some true) fun a78 H p w =>
 dq false false 7 64 (b71 + 7) H p w (fun _ => intV (qaa .sub).f a78 (.int .i64 (.ofNat 1))) (some true) fun a79 H p w =>
 dq false false 8 224 (b71 + 8) H p w (fun _ => idxS 1 a77 a79) (some true) fun a80 H p w =>
 dq true false 9 480 (b71 + 9) H p w (fun H => qae H a80) (some true) fun a81 H p w =>
 dq false false 10 0 (b71 + 10) H p w (fun _ => .val x0) (some true) fun a82 H p w =>
 dq false false 11 0 (b71 + 11) H p w (fun _ => .val x9) (some true) fun a83 H p w =>
 dq false false 12 3072 (b71 + 12) H p w (fun _ => idxS 1 a82 a83) (some true) fun a84 H p w =>
 dq true false 13 7168 (b71 + 13) H p w (fun H => qae H a84) (some true) fun a85 H p w =>
 dq false false 14 16355 (b71 + 14) H p w (fun _ => idxS 1 a72 a73) (some true) fun a86 H p w =>
 de 32739 H p w (qat (qaw 32739 p H) a86 a81) (some true) fun _ H p w =>
 dq false false 16 65535 (b71 + 16) H p w (fun _ => idxS 1 a74 a76) (some true) fun a88 H p w =>
 de 131071 H p w (qat (qaw 131071 p H) a88 a85) (some true) fun _ H p w =>
 dz2 p H fun H =>
 qlx call g68 x9 H
def qjd (call : Ev.Call) (q68e4 : Hp → R1) (g68 : AV → Hp → R1) (x0 x9 : AV) (H : Hp) : R1 :=
 dz 0 H fun b91 H =>
 dq false false 0 0 (b91 + 0) H [] [] (fun _ => .val x0) (some true) fun a92 H p w =>
 dq false false 1 0 (b91 + 1) H p w (fun _ => .val x9) (some true) fun a93 H p w =>
 dq false false 2 3 (b91 + 2) H p w (fun _ => idxS 1 a92 a93) (some true) fun a94 H p w =>
 dq true false 3 7 (b91 + 3) H p w (fun H => qae H a94) (some true) fun a95 H p w =>
 dq false false 4 0 (b91 + 4) H p w (fun _ => .val x0) (some true) fun a96 H p w =>
 dq false false 5 0 (b91 + 5) H p w (fun _ => .val x9) (some true) fun a97 H p w =>
 dq false false 6 32 (b91 + 6) H p w (fun _ => intV (qaa .sub).f a97 (.int .i64 (.ofNat 1))) (some true) fun a98 H p w =>
 dq false false 7 112 (b91 + 7) H p w (fun _ => idxS 1 a96 a98) (some true) fun a99 H p w =>
 dq true false 8 240 (b91 + 8) H p w (fun H => qae H a99) (some true) fun a100 H p w =>
 de 511 H p w (call (.f qbe) [a95, a100] (qaw 511 p H)) (some true) fun a101 H p w =>
 dq false false 10 1023 (b91 + 10) H p w (fun _ => (unS .not).f a101) (some true) fun a102 H p w =>
 dz2 p H fun H =>
 cd a102 (
 q68e4 H) (
 qlw call g68 x0 x9 H)
def qfz (call : Ev.Call) (q68e4 : Hp → R1) (x0 : AV) (g68 : AV → Hp → R1) (x9 : AV) (H : Hp) : R1 :=
 vq (intV (qaa .geq).f x9 (.int .i64 (.ofNat 1))) H fun a104 H =>
 cd a104 (
 qjd call q68e4 g68 x0 x9 H) (
 q68e4 H)
def qcq (call : Ev.Call) (q68e4 : Hp → R1) (x0 : AV) (n : Nat) : AV → Hp → R1 :=
 Nat.rec (motive := fun _ => AV → Hp → R1) (fun _ _ => .bad) (fun _ ih => qfz call q68e4 x0 ih) n
def ql2 (call : Ev.Call) (q68e4 : Hp → R1) (x0 : AV) : AV → Hp → R1 := qcq call q68e4 x0 qa6
def qjc (call : Ev.Call) (g2 : AV → AV → Hp → R1) (x0 x1 x2 x7 x8 : AV) (H : Hp) : R1 :=
 dz 0 H fun b5 H =>
 dq false false 0 0 (b5 + 0) H [] [] (fun _ => .val x0) (some true) fun a6 H p w =>
 dq false false 1 0 (b5 + 1) H p w (fun _ => .val x7) (some true) fun a7 H p w =>
 dq false false 2 0 (b5 + 2) H p w (fun _ => .val x0) (some true) fun a8 H p w =>
 dq false false 3 0 (b5 + 3) H p w (fun _ => .val x7) (some true) fun a9 H p w =>
 dq false false 4 8 (b5 + 4) H p w (fun _ => intV (qaa .sub).f a9 (.int .i64 (.ofNat 1))) (some true) fun a10 H p w =>
 dq false false 5 0 (b5 + 5) H p w (fun _ => .val x0) (some true) fun a11 H p w =>
 dq false false 6 0 (b5 + 6) H p w (fun _ => .val x7) (some true) fun a12 H p w =>
 dq false false 7 64 (b5 + 7) H p w (fun _ => intV (qaa .sub).f a12 (.int .i64 (.ofNat 1))) (some true) fun a13 H p w =>
 dq false false 8 224 (b5 + 8) H p w (fun _ => idxS 1 a11 a13) (some true) fun a14 H p w =>
 dq true false 9 480 (b5 + 9) H p w (fun H => qae H a14) (some true) fun a15 H p w =>
 dq false false 10 0 (b5 + 10) H p w (fun _ => .val x0) (some true) fun a16 H p w =>
 dq false false 11 0 (b5 + 11) H p w (fun _ => .val x7) (some true) fun a17 H p w =>
 dq false false 12 3072 (b5 + 12) H p w (fun _ => idxS 1 a16 a17) (some true) fun a18 H p w =>
 dq true false 13 7168 (b5 + 13) H p w (fun H => qae H a18) (some true) fun a19 H p w =>
 dq false false 14 16355 (b5 + 14) H p w (fun _ => idxS 1 a6 a7) (some true) fun a20 H p w =>
 de 32739 H p w (qat (qaw 32739 p H) a20 a15) (some true) fun _ H p w =>
 dq false false 16 65535 (b5 + 16) H p w (fun _ => idxS 1 a8 a10) (some true) fun a22 H p w =>
 de 131071 H p w (qat (qaw 131071 p H) a22 a19) (some true) fun _ H p w =>
 dz2 p H fun H =>
 vq (intV (qaa .sub).f x7 x1) H fun a65 H =>
 vq (intV (qaa .geq).f a65 (.int .i64 (.ofNat 2))) H fun a66 H =>
 cd a66 (
 vq (intV (qaa .sub).f x7 (.int .i64 (.ofNat 1))) H fun a67 H =>
 ql2 call (fun H => qbt call g2 x0 x2 x7 x8 H) x0 a67 H) (
 qbt call g2 x0 x2 x7 x8 H)
def qjb (call : Ev.Call) (q2r : AV → Hp → R1) (g2 : AV → AV → Hp → R1) (x0 x1 x2 x7 x8 : AV) (H : Hp) : R1 :=
 vq (intV (qaa .sub).f x2 x1) H fun a106 H =>
 vq (intV (qaa .lss).f a106 (.int .i64 (.ofNat 50))) H fun a107 H =>
 cd a107 (
 q2r (.bool false) H) (
 qjc call g2 x0 x1 x2 x7 x8 H)
def qdc (call : Ev.Call) (q2r : AV → Hp → R1) (g2 : AV → AV → Hp → R1) (x0 x1 x2 x7 x8 : AV) (H : Hp) : R1 :=
 vq (intV (qaa .eql).f x7 x2) H fun a109 H =>
 cd a109 (
 q2r (.bool true) H) (
 qjb call q2r g2 x0 x1 x2 x7 x8 H)
def qja (call : Ev.Call) (g111 : AV → Hp → R1) (x7 : AV) (H : Hp) : R1 :=
 vq (intV (qaa .add).f x7 (.int .i64 (.ofNat 1))) H fun a112 H =>
 g111 a112 H
def qje (call : Ev.Call) (q111e2 : AV → Hp → R1) (x0 x2 : AV) (g111 : AV → Hp → R1) (x7 : AV) (H : Hp) : R1 :=
 dz 0 H fun b114 H =>
 dq false false 0 0 (b114 + 0) H [] [] (fun _ => .val x7) (some true) fun a115 H p w =>
 dq false false 1 0 (b114 + 1) H p w (fun _ => .val x2) (some true) fun a116 H p w =>
 dq false false 2 3 (b114 + 2) H p w (fun _ => intV (qaa .lss).f a115 a116) (some true) fun a117 H p w =>
 dq false false 3 7 (b114 + 3) H p w (fun _ => .val a117) (some true) fun a118 H p w =>
 dq false false 4 15 (b114 + 4) H p w (fun _ => .val x0) (qad true a118) fun a119 H p w =>
 dq false false 5 15 (b114 + 5) H p w (fun _ => .val x7) (qad true a118) fun a120 H p w =>
 dq false false 6 63 (b114 + 6) H p w (fun _ => idxS 1 a119 a120) (qad true a118) fun a121 H p w =>
 dq true false 7 127 (b114 + 7) H p w (fun H => qae H a121) (qad true a118) fun a122 H p w =>
 dq false false 8 15 (b114 + 8) H p w (fun _ => .val x0) (qad true a118) fun a123 H p w =>
 dq false false 9 15 (b114 + 9) H p w (fun _ => .val x7) (qad true a118) fun a124 H p w =>
 dq false false 10 527 (b114 + 10) H p w (fun _ => intV (qaa .sub).f a124 (.int .i64 (.ofNat 1))) (qad true a118) fun a125 H p w =>
 dq false false 11 1807 (b114 + 11) H p w (fun _ => idxS 1 a123 a125) (qad true a118) fun a126 H p w =>
 dq true false 12 3855 (b114 + 12) H p w (fun H => qae H a126) (qad true a118) fun a127 H p w =>
 de 8191 H p w (call (.f qbe) [a122, a127] (qaw 8191 p H)) (qad true a118) fun a128 H p w =>
 dq false false 14 16383 (b114 + 14) H p w (fun _ => (unS .not).f a128) (qad true a118) fun a129 H p w =>
 dq false false 15 32767 (b114 + 15) H p w (fun _ => qbm a118 a129 (.bool false)) (some true) fun a130 H p w =>
 dz2 p H fun H =>
 cd a130 (
 qja call g111 x7 H) (
 q111e2 x7 H)
def qeo (call : Ev.Call) (q111e2 : AV → Hp → R1) (x0 x2 : AV) (n : Nat) : AV → Hp → R1 :=
 Nat.rec (motive := fun _ => AV → Hp → R1) (fun _ _ => .bad) (fun _ ih => qje call q111e2 x0 x2 ih) n
def qjf (call : Ev.Call) (q111e2 : AV → Hp → R1) (x0 x2 : AV) : AV → Hp → R1 := qeo call q111e2 x0 x2 qa6
def qi9 (call : Ev.Call) (q2r : AV → Hp → R1) (g2 : AV → AV → Hp → R1) (x0 x1 x2 x7 x8 : AV) (H : Hp) : R1 :=
 qjf call (fun x7 H => qdc call q2r g2 x0 x1 x2 x7 x8 H) x0 x2 x7 H
def qhj (call : Ev.Call) (q2r : AV → Hp → R1) (q2e0 : Hp → R1) (x0 x1 x2 : AV) (g2 : AV → AV → Hp → R1) (x7 x8 : AV) (H : Hp) : R1 :=
 vq (intV (qaa .lss).f x8 (.int .i64 (.ofNat 5))) H fun a132 H =>
 cd a132 (
 qi9 call q2r g2 x0 x1 x2 x7 x8 H) (
 q2e0 H)
def qaz (call : Ev.Call) (q2r : AV → Hp → R1) (q2e0 : Hp → R1) (x0 x1 x2 : AV) (n : Nat) : AV → AV → Hp → R1 :=
 Nat.rec (motive := fun _ => AV → AV → Hp → R1) (fun _ _ _ => .bad) (fun _ ih => qhj call q2r q2e0 x0 x1 x2 ih) n
def qpg (call : Ev.Call) (q2r : AV → Hp → R1) (q2e0 : Hp → R1) (x0 x1 x2 : AV) : AV → AV → Hp → R1 := qaz call q2r q2e0 x0 x1 x2 qa6
def qtn (call : Ev.Call) (x0 x1 x2 : AV) (H : Hp) : R1 :=
 vq (intV (qaa .add).f x1 (.int .i64 (.ofNat 1))) H fun a0 H =>
 qpg call (fun x6 H => .ok x6 H) (fun H => qa0 call H) x0 x1 x2 a0 (.int .i64 (.ofNat 0)) H
def o_pins (call : Ev.Call) (x0 x1 x2 : AV) (H : Hp) : R1 := qtn call x0 x1 x2 H
def qts (call : Ev.Call) (x0 x1 : AV) (H : Hp) : R1 :=
 ve (call (.f qju) [x0] H) fun a0 H =>
 vg (qad true a0) (.val x1) H fun a1 H =>
 veg (qad true a0) (call (.f qju) [a1] H) H fun a2 H =>
 vg (qad true a0) ((unS .not).f a2) H fun a3 H =>
 vq (qbm a0 a3 (.bool false)) H fun a4 H =>
 vg (qad false a4) (.val x0) H fun a5 H =>
 vg (qad false a4) (.val x1) H fun a6 H =>
 vg (qad false a4) (intV (qaa .lss).f a5 a6) H fun a7 H =>
 vq (qbm a4 (.bool true) a7) H fun a8 H =>
 .ok a8 H
def o_less (call : Ev.Call) (x0 x1 : AV) (H : Hp) : R1 := qts call x0 x1 H
def qa4 (call : Ev.Call) (x9 : AV) (H : Hp) : R1 :=
 .ok x9 H
def qpj (call : Ev.Call) (g20 : AV → AV → Hp → R1) (x0 x9 x10 : AV) (H : Hp) : R1 :=
 dz 0 H fun b21 H =>
 dq false false 0 0 (b21 + 0) H [] [] (fun _ => .val x0) (some true) fun a22 H p w =>
 dq false false 1 0 (b21 + 1) H p w (fun _ => .val x9) (some true) fun a23 H p w =>
 dq false false 2 0 (b21 + 2) H p w (fun _ => .val x0) (some true) fun a24 H p w =>
 dq false false 3 0 (b21 + 3) H p w (fun _ => .val x10) (some true) fun a25 H p w =>
 dq false false 4 0 (b21 + 4) H p w (fun _ => .val x0) (some true) fun a26 H p w =>
 dq false false 5 0 (b21 + 5) H p w (fun _ => .val x10) (some true) fun a27 H p w =>
 dq false false 6 48 (b21 + 6) H p w (fun _ => idxS 1 a26 a27) (some true) fun a28 H p w =>
 dq true false 7 112 (b21 + 7) H p w (fun H => qae H a28) (some true) fun a29 H p w =>
 dq false false 8 0 (b21 + 8) H p w (fun _ => .val x0) (some true) fun a30 H p w =>
 dq false false 9 0 (b21 + 9) H p w (fun _ => .val x9) (some true) fun a31 H p w =>
 dq false false 10 768 (b21 + 10) H p w (fun _ => idxS 1 a30 a31) (some true) fun a32 H p w =>
 dq true false 11 1792 (b21 + 11) H p w (fun H => qae H a32) (some true) fun a33 H p w =>
 dq false false 12 4083 (b21 + 12) H p w (fun _ => idxS 1 a22 a23) (some true) fun a34 H p w =>
 de 8179 H p w (qat (qaw 8179 p H) a34 a29) (some true) fun _ H p w =>
 dq false false 14 16383 (b21 + 14) H p w (fun _ => idxS 1 a24 a25) (some true) fun a36 H p w =>
 de 32767 H p w (qat (qaw 32767 p H) a36 a33) (some true) fun _ H p w =>
 dz2 p H fun H =>
 vq (intV (qaa .add).f x9 (.int .i64 (.ofNat 1))) H fun a38 H =>
 vq (intV (qaa .sub).f x10 (.int .i64 (.ofNat 1))) H fun a39 H =>
 g20 a38 a39 H
def qf2 (call : Ev.Call) (q20e0 : AV → Hp → R1) (g20 : AV → AV → Hp → R1) (x0 x9 x10 : AV) (H : Hp) : R1 :=
 vq (intV (qaa .gtr).f x9 x10) H fun a41 H =>
 cd a41 (
 q20e0 x9 H) (
 qpj call g20 x0 x9 x10 H)
def qpi (call : Ev.Call) (g43 : AV → Hp → R1) (x10 : AV) (H : Hp) : R1 :=
 vq (intV (qaa .sub).f x10 (.int .i64 (.ofNat 1))) H fun a44 H =>
 g43 a44 H
def qhl (call : Ev.Call) (q43e4 : AV → Hp → R1) (x0 x1 x9 : AV) (g43 : AV → Hp → R1) (x10 : AV) (H : Hp) : R1 :=
 dz 0 H fun b46 H =>
 dq false false 0 0 (b46 + 0) H [] [] (fun _ => .val x9) (some true) fun a47 H p w =>
 dq false false 1 0 (b46 + 1) H p w (fun _ => .val x10) (some true) fun a48 H p w =>
 dq false false 2 3 (b46 + 2) H p w (fun _ => intV (qaa .leq).f a47 a48) (some true) fun a49 H p w =>
 dq false false 3 7 (b46 + 3) H p w (fun _ => .val a49) (some true) fun a50 H p w =>
 dq false false 4 15 (b46 + 4) H p w (fun _ => .val x0) (qad true a50) fun a51 H p w =>
 dq false false 5 15 (b46 + 5) H p w (fun _ => .val x1) (qad true a50) fun a52 H p w =>
 dq false false 6 63 (b46 + 6) H p w (fun _ => idxS 1 a51 a52) (qad true a50) fun a53 H p w =>
 dq true false 7 127 (b46 + 7) H p w (fun H => qae H a53) (qad true a50) fun a54 H p w =>
 dq false false 8 15 (b46 + 8) H p w (fun _ => .val x0) (qad true a50) fun a55 H p w =>
 dq false false 9 15 (b46 + 9) H p w (fun _ => .val x10) (qad true a50) fun a56 H p w =>
 dq false false 10 783 (b46 + 10) H p w (fun _ => idxS 1 a55 a56) (qad true a50) fun a57 H p w =>
 dq true false 11 1807 (b46 + 11) H p w (fun H => qae H a57) (qad true a50) fun a58 H p w =>
 de 4095 H p w (call (.f qbe) [a54, a58] (qaw 4095 p H)) (qad true a50) fun a59 H p w =>
 dq false false 13 8191 (b46 + 13) H p w (fun _ => qbm a50 a59 (.bool false)) (some true) fun a60 H p w =>
 dz2 p H fun H =>
 cd a60 (
 qpi call g43 x10 H) (
 q43e4 x10 H)
def qf0 (call : Ev.Call) (q43e4 : AV → Hp → R1) (x0 x1 x9 : AV) (n : Nat) : AV → Hp → R1 :=
 Nat.rec (motive := fun _ => AV → Hp → R1) (fun _ _ => .bad) (fun _ ih => qhl call q43e4 x0 x1 x9 ih) n
def qpn (call : Ev.Call) (q43e4 : AV → Hp → R1) (x0 x1 x9 : AV) : AV → Hp → R1 := qf0 call q43e4 x0 x1 x9 qa6
def qf1 (call : Ev.Call) (q20e0 : AV → Hp → R1) (g20 : AV → AV → Hp → R1) (x0 x1 x9 x10 : AV) (H : Hp) : R1 :=
 qpn call (fun x10 H => qf2 call q20e0 g20 x0 x9 x10 H) x0 x1 x9 x10 H
def qph (call : Ev.Call) (g62 : AV → Hp → R1) (x9 : AV) (H : Hp) : R1 :=
 vq (intV (qaa .add).f x9 (.int .i64 (.ofNat 1))) H fun a63 H =>
 g62 a63 H
def qpk (call : Ev.Call) (q62e2 : AV → Hp → R1) (x0 x1 x10 : AV) (g62 : AV → Hp → R1) (x9 : AV) (H : Hp) : R1 :=
 dz 0 H fun b65 H =>
 dq false false 0 0 (b65 + 0) H [] [] (fun _ => .val x9) (some true) fun a66 H p w =>
 dq false false 1 0 (b65 + 1) H p w (fun _ => .val x10) (some true) fun a67 H p w =>
 dq false false 2 3 (b65 + 2) H p w (fun _ => intV (qaa .leq).f a66 a67) (some true) fun a68 H p w =>
 dq false false 3 7 (b65 + 3) H p w (fun _ => .val a68) (some true) fun a69 H p w =>
 dq false false 4 15 (b65 + 4) H p w (fun _ => .val x0) (qad true a69) fun a70 H p w =>
 dq false false 5 15 (b65 + 5) H p w (fun _ => .val x1) (qad true a69) fun a71 H p w =>
 dq false false 6 63 (b65 + 6) H p w (fun _ => idxS 1 a70 a71) (qad true a69) fun a72 H p w =>
 dq true false 7 127 (b65 + 7) H p w (fun H => qae H a72) (qad true a69) fun a73 H p w =>
 dq false false 8 15 (b65 + 8) H p w (fun _ => .val x0) (qad true a69) fun a74 H p w =>
 dq false false 9 15 (b65 + 9) H p w (fun _ => .val x9) (qad true a69) fun a75 H p w =>
 dq false false 10 783 (b65 + 10) H p w (fun _ => idxS 1 a74 a75) (qad true a69) fun a76 H p w =>
 dq true false 11 1807 (b65 + 11) H p w (fun H => qae H a76) (qad true a69) fun a77 H p w =>
 de 4095 H p w (call (.f qbe) [a73, a77] (qaw 4095 p H)) (qad true a69) fun a78 H p w =>
 dq false false 13 8191 (b65 + 13) H p w (fun _ => (unS .not).f a78) (qad true a69) fun a79 H p w =>
 dq false false 14 16383 (b65 + 14) H p w (fun _ => qbm a69 a79 (.bool false)) (some true) fun a80 H p w =>
 dz2 p H fun H =>
 cd a80 (
 qph call g62 x9 H) (
 q62e2 x9 H)
def qhk (call : Ev.Call) (q62e2 : AV → Hp → R1) (x0 x1 x10 : AV) (n : Nat) : AV → Hp → R1 :=
 Nat.rec (motive := fun _ => AV → Hp → R1) (fun _ _ => .bad) (fun _ ih => qpk call q62e2 x0 x1 x10 ih) n
def qpm (call : Ev.Call) (q62e2 : AV → Hp → R1) (x0 x1 x10 : AV) : AV → Hp → R1 := qhk call q62e2 x0 x1 x10 qa6
def qpl (call : Ev.Call) (q20e0 : AV → Hp → R1) (x0 x1 : AV) (g20 : AV → AV → Hp → R1) (x9 x10 : AV) (H : Hp) : R1 :=
 qpm call (fun x9 H => qf1 call q20e0 g20 x0 x1 x9 x10 H) x0 x1 x10 x9 H
def qbu (call : Ev.Call) (q20e0 : AV → Hp → R1) (x0 x1 : AV) (n : Nat) : AV → AV → Hp → R1 :=
 Nat.rec (motive := fun _ => AV → AV → Hp → R1) (fun _ _ _ => .bad) (fun _ ih => qpl call q20e0 x0 x1 ih) n
def qpo (call : Ev.Call) (q20e0 : AV → Hp → R1) (x0 x1 : AV) : AV → AV → Hp → R1 := qbu call q20e0 x0 x1 qa6
def qy4 (call : Ev.Call) (x0 x1 x2 x3 : AV) (H : Hp) : R1 :=
 dz 0 H fun b0 H =>
 dq false false 0 0 (b0 + 0) H [] [] (fun _ => .val x0) (some true) fun a1 H p w =>
 dq false false 1 0 (b0 + 1) H p w (fun _ => .val x1) (some true) fun a2 H p w =>
 dq false false 2 0 (b0 + 2) H p w (fun _ => .val x0) (some true) fun a3 H p w =>
 dq false false 3 0 (b0 + 3) H p w (fun _ => .val x3) (some true) fun a4 H p w =>
 dq false false 4 0 (b0 + 4) H p w (fun _ => .val x0) (some true) fun a5 H p w =>
 dq false false 5 0 (b0 + 5) H p w (fun _ => .val x3) (some true) fun a6 H p w =>
 dq false false 6 48 (b0 + 6) H p w (fun _ => idxS 1 a5 a6) (some true) fun a7 H p w =>
 dq true false 7 112 (b0 + 7) H p w (fun H => qae H a7) (some true) fun a8 H p w =>
 dq false false 8 0 (b0 + 8) H p w (fun _ => .val x0) (some true) fun a9 H p w =>
 dq false false 9 0 (b0 + 9) H p w (fun _ => .val x1) (some true) fun a10 H p w =>
 dq false false 10 768 (b0 + 10) H p w (fun _ => idxS 1 a9 a10) (some true) fun a11 H p w =>
 dq true false 11 1792 (b0 + 11) H p w (fun H => qae H a11) (some true) fun a12 H p w =>
 dq false false 12 4083 (b0 + 12) H p w (fun _ => idxS 1 a1 a2) (some true) fun a13 H p w =>
 de 8179 H p w (qat (qaw 8179 p H) a13 a8) (some true) fun _ H p w =>
 dq false false 14 16383 (b0 + 14) H p w (fun _ => idxS 1 a3 a4) (some true) fun a15 H p w =>
 de 32767 H p w (qat (qaw 32767 p H) a15 a12) (some true) fun _ H p w =>
 dz2 p H fun H =>
 vq (intV (qaa .add).f x1 (.int .i64 (.ofNat 1))) H fun a17 H =>
 vq (intV (qaa .sub).f x2 (.int .i64 (.ofNat 1))) H fun a18 H =>
 qpo call (fun x9 H => qa4 call x9 H) x0 x1 a17 a18 H
def o_peq (call : Ev.Call) (x0 x1 x2 x3 : AV) (H : Hp) : R1 := qy4 call x0 x1 x2 x3 H
def qa1 (call : Ev.Call) (x0 x1 x11 : AV) (H : Hp) : R1 :=
 dz 0 H fun b38 H =>
 dq false false 0 0 (b38 + 0) H [] [] (fun _ => .val x0) (some true) fun a39 H p w =>
 dq false false 1 0 (b38 + 1) H p w (fun _ => .val x11) (some true) fun a40 H p w =>
 dq false false 2 0 (b38 + 2) H p w (fun _ => .val x0) (some true) fun a41 H p w =>
 dq false false 3 0 (b38 + 3) H p w (fun _ => .val x1) (some true) fun a42 H p w =>
 dq false false 4 0 (b38 + 4) H p w (fun _ => .val x0) (some true) fun a43 H p w =>
 dq false false 5 0 (b38 + 5) H p w (fun _ => .val x1) (some true) fun a44 H p w =>
 dq false false 6 48 (b38 + 6) H p w (fun _ => idxS 1 a43 a44) (some true) fun a45 H p w =>
 dq true false 7 112 (b38 + 7) H p w (fun H => qae H a45) (some true) fun a46 H p w =>
 dq false false 8 0 (b38 + 8) H p w (fun _ => .val x0) (some true) fun a47 H p w =>
 dq false false 9 0 (b38 + 9) H p w (fun _ => .val x11) (some true) fun a48 H p w =>
 dq false false 10 768 (b38 + 10) H p w (fun _ => idxS 1 a47 a48) (some true) fun a49 H p w =>
 dq true false 11 1792 (b38 + 11) H p w (fun H => qae H a49) (some true) fun a50 H p w =>
 dq false false 12 4083 (b38 + 12) H p w (fun _ => idxS 1 a39 a40) (some true) fun a51 H p w =>
 de 8179 H p w (qat (qaw 8179 p H) a51 a46) (some true) fun _ H p w =>
 dq false false 14 16383 (b38 + 14) H p w (fun _ => idxS 1 a41 a42) (some true) fun a53 H p w =>
 de 32767 H p w (qat (qaw 32767 p H) a53 a50) (some true) fun _ H p w =>
 dz2 p H fun H =>
 .ok (.tup [x11, (.bool false)]) H
def ql5 (call : Ev.Call) (g56 : AV → AV → Hp → R1) (x0 x10 x11 : AV) (H : Hp) : R1 :=
 dz 0 H fun b57 H =>
 dq false false 0 0 (b57 + 0) H [] [] (fun _ => .val x0) (some true) fun a58 H p w =>
 dq false false 1 0 (b57 + 1) H p w (fun _ => .val x10) (some true) fun a59 H p w =>
 dq false false 2 0 (b57 + 2) H p w (fun _ => .val x0) (some true) fun a60 H p w =>
 dq false false 3 0 (b57 + 3) H p w (fun _ => .val x11) (some true) fun a61 H p w =>
 dq false false 4 0 (b57 + 4) H p w (fun _ => .val x0) (some true) fun a62 H p w =>
 dq false false 5 0 (b57 + 5) H p w (fun _ => .val x11) (some true) fun a63 H p w =>
 dq false false 6 48 (b57 + 6) H p w (fun _ => idxS 1 a62 a63) (some true) fun a64 H p w =>
 dq true false 7 112 (b57 + 7) H p w (fun H => qae H a64) (some true) fun a65 H p w =>
 dq false false 8 0 (b57 + 8) H p w (fun _ => .val x0) (some true) fun a66 H p w =>
 dq false false 9 0 (b57 + 9) H p w (fun _ => .val x10) (some true) fun a67 H p w =>
 dq false false 10 768 (b57 + 10) H p w (fun _ => idxS 1 a66 a67) (some true) fun a68 H p w =>
 dq true false 11 1792 (b57 + 11) H p w (fun H => qae H a68) (some true) fun a69 H p w =>
 dq false false 12 4083 (b57 + 12) H p w (fun _ => idxS 1 a58 a59) (some true) fun a70 H p w =>
 de 8179 H p w (qat (qaw 8179 p H) a70 a65) (some true) fun _ H p w =>
 dq false false 14 16383 (b57 + 14) H p w (fun _ => idxS 1 a60 a61) (some true) fun a72 H p w =>
 de 32767 H p w (qat (qaw 32767 p H) a72 a69) (some true) fun _ H p w =>
 dz2 p H fun H =>
 vq (intV (qaa .add).f x10 (.int .i64 (.ofNat 1))) H fun a74 H =>
 vq (intV (qaa .sub).f x11 (.int .i64 (.ofNat 1))) H fun a75 H =>
 g56 a74 a75 H
def qea (call : Ev.Call) (q56e4 : AV → Hp → R1) (g56 : AV → AV → Hp → R1) (x0 x10 x11 : AV) (H : Hp) : R1 :=
 vq (intV (qaa .gtr).f x10 x11) H fun a77 H =>
 cd a77 (
 q56e4 x11 H) (
 ql5 call g56 x0 x10 x11 H)
def ql4 (call : Ev.Call) (g79 : AV → Hp → R1) (x11 : AV) (H : Hp) : R1 :=
 vq (intV (qaa .sub).f x11 (.int .i64 (.ofNat 1))) H fun a80 H =>
 g79 a80 H
def qf4 (call : Ev.Call) (q79e8 : AV → Hp → R1) (x0 x1 x10 : AV) (g79 : AV → Hp → R1) (x11 : AV) (H : Hp) : R1 :=
 dz 0 H fun b82 H =>
 dq false false 0 0 (b82 + 0) H [] [] (fun _ => .val x10) (some true) fun a83 H p w =>
 dq false false 1 0 (b82 + 1) H p w (fun _ => .val x11) (some true) fun a84 H p w =>
 dq false false 2 3 (b82 + 2) H p w (fun _ => intV (qaa .leq).f a83 a84) (some true) fun a85 H p w =>
 dq false false 3 7 (b82 + 3) H p w (fun _ => .val a85) (some true) fun a86 H p w =>
 dq false false 4 15 (b82 + 4) H p w (fun _ => .val x0) (qad true a86) fun a87 H p w =>
 dq false false 5 15 (b82 + 5) H p w (fun _ => .val x11) (qad true a86) fun a88 H p w =>
 dq false false 6 63 (b82 + 6) H p w (fun _ => idxS 1 a87 a88) (qad true a86) fun a89 H p w =>
 dq true false 7 127 (b82 + 7) H p w (fun H => qae H a89) (qad true a86) fun a90 H p w =>
 dq false false 8 15 (b82 + 8) H p w (fun _ => .val x0) (qad true a86) fun a91 H p w =>
 dq false false 9 15 (b82 + 9) H p w (fun _ => .val x1) (qad true a86) fun a92 H p w =>
 dq false false 10 783 (b82 + 10) H p w (fun _ => idxS 1 a91 a92) (qad true a86) fun a93 H p w =>
 dq true false 11 1807 (b82 + 11) H p w (fun H => qae H a93) (qad true a86) fun a94 H p w =>
 de 4095 H p w (call (.f qbe) [a90, a94] (qaw 4095 p H)) (qad true a86) fun a95 H p w =>
 dq false false 13 8191 (b82 + 13) H p w (fun _ => (unS .not).f a95) (qad true a86) fun a96 H p w =>
 dq false false 14 16383 (b82 + 14) H p w (fun _ => qbm a86 a96 (.bool false)) (some true) fun a97 H p w =>
 dz2 p H fun H =>
 cd a97 (
 ql4 call g79 x11 H) (
 q79e8 x11 H)
def qd8 (call : Ev.Call) (q79e8 : AV → Hp → R1) (x0 x1 x10 : AV) (n : Nat) : AV → Hp → R1 :=
 Nat.rec (motive := fun _ => AV → Hp → R1) (fun _ _ => .bad) (fun _ ih => qf4 call q79e8 x0 x1 x10 ih) n
def ql9 (call : Ev.Call) (q79e8 : AV → Hp → R1) (x0 x1 x10 : AV) : AV → Hp → R1 := qd8 call q79e8 x0 x1 x10 qa6
def qd9 (call : Ev.Call) (q56e4 : AV → Hp → R1) (g56 : AV → AV → Hp → R1) (x0 x1 x10 x11 : AV) (H : Hp) : R1 :=
 ql9 call (fun x11 H => qea call q56e4 g56 x0 x10 x11 H) x0 x1 x10 x11 H
def qjj (call : Ev.Call) (g99 : AV → Hp → R1) (x10 : AV) (H : Hp) : R1 :=
 vq (intV (qaa .add).f x10 (.int .i64 (.ofNat 1))) H fun a100 H =>
 g99 a100 H
def ql6 (call : Ev.Call) (q99e6 : AV → Hp → R1) (x0 x1 x11 : AV) (g99 : AV → Hp → R1) (x10 : AV) (H : Hp) : R1 :=
 dz 0 H fun b102 H =>
 dq false false 0 0 (b102 + 0) H [] [] (fun _ => .val x10) (some true) fun a103 H p w =>
 dq false false 1 0 (b102 + 1) H p w (fun _ => .val x11) (some true) fun a104 H p w =>
 dq false false 2 3 (b102 + 2) H p w (fun _ => intV (qaa .leq).f a103 a104) (some true) fun a105 H p w =>
 dq false false 3 7 (b102 + 3) H p w (fun _ => .val a105) (some true) fun a106 H p w =>
 dq false false 4 15 (b102 + 4) H p w (fun _ => .val x0) (qad true a106) fun a107 H p w =>
 dq false false 5 15 (b102 + 5) H p w (fun _ => .val x10) (qad true a106) fun a108 H p w =>
 dq false false 6 63 (b102 + 6) H p w (fun _ => idxS 1 a107 a108) (qad true a106) fun a109 H p w =>
 dq true false 7 127 (b102 + 7) H p w (fun H => qae H a109) (qad true a106) fun a110 H p w =>
 dq false false 8 15 (b102 + 8) H p w (fun _ => .val x0) (qad true a106) fun a111 H p w =>
 dq false false 9 15 (b102 + 9) H p w (fun _ => .val x1) (qad true a106) fun a112 H p w =>
 dq false false 10 783 (b102 + 10) H p w (fun _ => idxS 1 a111 a112) (qad true a106) fun a113 H p w =>
 dq true false 11 1807 (b102 + 11) H p w (fun H => qae H a113) (qad true a106) fun a114 H p w =>
 de 4095 H p w (call (.f qbe) [a110, a114] (qaw 4095 p H)) (qad true a106) fun a115 H p w =>
 dq false false 13 8191 (b102 + 13) H p w (fun _ => qbm a106 a115 (.bool false)) (some true) fun a116 H p w =>
 dz2 p H fun H =>
 cd a116 (
 qjj call g99 x10 H) (
 q99e6 x10 H)
def qf3 (call : Ev.Call) (q99e6 : AV → Hp → R1) (x0 x1 x11 : AV) (n : Nat) : AV → Hp → R1 :=
 Nat.rec (motive := fun _ => AV → Hp → R1) (fun _ _ => .bad) (fun _ ih => ql6 call q99e6 x0 x1 x11 ih) n
def ql8 (call : Ev.Call) (q99e6 : AV → Hp → R1) (x0 x1 x11 : AV) : AV → Hp → R1 := qf3 call q99e6 x0 x1 x11 qa6
def ql7 (call : Ev.Call) (q56e4 : AV → Hp → R1) (x0 x1 : AV) (g56 : AV → AV → Hp → R1) (x10 x11 : AV) (H : Hp) : R1 :=
 ql8 call (fun x10 H => qd9 call q56e4 g56 x0 x1 x10 x11 H) x0 x1 x11 x10 H
def qbh (call : Ev.Call) (q56e4 : AV → Hp → R1) (x0 x1 : AV) (n : Nat) : AV → AV → Hp → R1 :=
 Nat.rec (motive := fun _ => AV → AV → Hp → R1) (fun _ _ _ => .bad) (fun _ ih => ql7 call q56e4 x0 x1 ih) n
def qma (call : Ev.Call) (q56e4 : AV → Hp → R1) (x0 x1 : AV) : AV → AV → Hp → R1 := qbh call q56e4 x0 x1 qa6
def qji (call : Ev.Call) (x0 x1 x10 x11 : AV) (H : Hp) : R1 :=
 dz 0 H fun b19 H =>
 dq false false 0 0 (b19 + 0) H [] [] (fun _ => .val x0) (some true) fun a20 H p w =>
 dq false false 1 0 (b19 + 1) H p w (fun _ => .val x10) (some true) fun a21 H p w =>
 dq false false 2 0 (b19 + 2) H p w (fun _ => .val x0) (some true) fun a22 H p w =>
 dq false false 3 0 (b19 + 3) H p w (fun _ => .val x11) (some true) fun a23 H p w =>
 dq false false 4 0 (b19 + 4) H p w (fun _ => .val x0) (some true) fun a24 H p w =>
 dq false false 5 0 (b19 + 5) H p w (fun _ => .val x11) (some true) fun a25 H p w =>
 dq false false 6 48 (b19 + 6) H p w (fun _ => idxS 1 a24 a25) (some true) fun a26 H p w =>
 dq true false 7 112 (b19 + 7) H p w (fun H => qae H a26) (some true) fun a27 H p w =>
 dq false false 8 0 (b19 + 8) H p w (fun _ => .val x0) (some true) fun a28 H p w =>
 dq false false 9 0 (b19 + 9) H p w (fun _ => .val x10) (some true) fun a29 H p w =>
 dq false false 10 768 (b19 + 10) H p w (fun _ => idxS 1 a28 a29) (some true) fun a30 H p w =>
 dq true false 11 1792 (b19 + 11) H p w (fun H => qae H a30) (some true) fun a31 H p w =>
 dq false false 12 4083 (b19 + 12) H p w (fun _ => idxS 1 a20 a21) (some true) fun a32 H p w =>
 de 8179 H p w (qat (qaw 8179 p H) a32 a27) (some true) fun _ H p w =>
 dq false false 14 16383 (b19 + 14) H p w (fun _ => idxS 1 a22 a23) (some true) fun a34 H p w =>
 de 32767 H p w (qat (qaw 32767 p H) a34 a31) (some true) fun _ H p w =>
 dz2 p H fun H =>
 vq (intV (qaa .add).f x10 (.int .i64 (.ofNat 1))) H fun a36 H =>
 vq (intV (qaa .sub).f x11 (.int .i64 (.ofNat 1))) H fun a37 H =>
 qma call (fun x11 H => qa1 call x0 x1 x11 H) x0 x1 a36 a37 H
def qdf (call : Ev.Call) (x0 x1 x10 x11 : AV) (H : Hp) : R1 :=
 vq (intV (qaa .gtr).f x10 x11) H fun a118 H =>
 cd a118 (
 dz 0 H fun b119 H =>
 dq false false 0 0 (b119 + 0) H [] [] (fun _ => .val x0) (some true) fun a120 H p w =>
 dq false false 1 0 (b119 + 1) H p w (fun _ => .val x11) (some true) fun a121 H p w =>
 dq false false 2 0 (b119 + 2) H p w (fun _ => .val x0) (some true) fun a122 H p w =>
 dq false false 3 0 (b119 + 3) H p w (fun _ => .val x1) (some true) fun a123 H p w =>
 dq false false 4 0 (b119 + 4) H p w (fun _ => .val x0) (some true) fun a124 H p w =>
 dq false false 5 0 (b119 + 5) H p w (fun _ => .val x1) (some true) fun a125 H p w =>
 dq false false 6 48 (b119 + 6) H p w (fun _ => idxS 1 a124 a125) (some true) fun a126 H p w =>
 dq true false 7 112 (b119 + 7) H p w (fun H => qae H a126) (some true) fun a127 H p w =>
 dq false false 8 0 (b119 + 8) H p w (fun _ => .val x0) (some true) fun a128 H p w =>
 dq false false 9 0 (b119 + 9) H p w (fun _ => .val x11) (some true) fun a129 H p w =>
 dq false false 10 768 (b119 + 10) H p w (fun _ => idxS 1 a128 a129) (some true) fun a130 H p w =>
 dq true false 11 1792 (b119 + 11) H p w (fun H => qae H a130) (some true) fun a131 H p w =>
 dq false false 12 4083 (b119 + 12) H p w (fun _ => idxS 1 a120 a121) (some true) fun a132 H p w =>
 de 8179 H p w (qat (qaw 8179 p H) a132 a127) (some true) fun _ H p w =>
 dq false false 14 16383 (b119 + 14) H p w (fun _ => idxS 1 a122 a123) (some true) fun a134 H p w =>
 de 32767 H p w (qat (qaw 32767 p H) a134 a131) (some true) fun _ H p w =>
 dz2 p H fun H =>
 .ok (.tup [x11, (.bool true)]) H) (
 qji call x0 x1 x10 x11 H)
def qjh (call : Ev.Call) (g137 : AV → Hp → R1) (x11 : AV) (H : Hp) : R1 :=
 vq (intV (qaa .sub).f x11 (.int .i64 (.ofNat 1))) H fun a138 H =>
 g137 a138 H
def qer (call : Ev.Call) (q137e2 : AV → Hp → R1) (x0 x1 x10 : AV) (g137 : AV → Hp → R1) (x11 : AV) (H : Hp) : R1 :=
 dz 0 H fun b140 H =>
 dq false false 0 0 (b140 + 0) H [] [] (fun _ => .val x10) (some true) fun a141 H p w =>
 dq false false 1 0 (b140 + 1) H p w (fun _ => .val x11) (some true) fun a142 H p w =>
 dq false false 2 3 (b140 + 2) H p w (fun _ => intV (qaa .leq).f a141 a142) (some true) fun a143 H p w =>
 dq false false 3 7 (b140 + 3) H p w (fun _ => .val a143) (some true) fun a144 H p w =>
 dq false false 4 15 (b140 + 4) H p w (fun _ => .val x0) (qad true a144) fun a145 H p w =>
 dq false false 5 15 (b140 + 5) H p w (fun _ => .val x11) (qad true a144) fun a146 H p w =>
 dq false false 6 63 (b140 + 6) H p w (fun _ => idxS 1 a145 a146) (qad true a144) fun a147 H p w =>
 dq true false 7 127 (b140 + 7) H p w (fun H => qae H a147) (qad true a144) fun a148 H p w =>
 dq false false 8 15 (b140 + 8) H p w (fun _ => .val x0) (qad true a144) fun a149 H p w =>
 dq false false 9 15 (b140 + 9) H p w (fun _ => .val x1) (qad true a144) fun a150 H p w =>
 dq false false 10 783 (b140 + 10) H p w (fun _ => idxS 1 a149 a150) (qad true a144) fun a151 H p w =>
 dq true false 11 1807 (b140 + 11) H p w (fun H => qae H a151) (qad true a144) fun a152 H p w =>
 de 4095 H p w (call (.f qbe) [a148, a152] (qaw 4095 p H)) (qad true a144) fun a153 H p w =>
 dq false false 13 8191 (b140 + 13) H p w (fun _ => (unS .not).f a153) (qad true a144) fun a154 H p w =>
 dq false false 14 16383 (b140 + 14) H p w (fun _ => qbm a144 a154 (.bool false)) (some true) fun a155 H p w =>
 dz2 p H fun H =>
 cd a155 (
 qjh call g137 x11 H) (
 q137e2 x11 H)
def qdd (call : Ev.Call) (q137e2 : AV → Hp → R1) (x0 x1 x10 : AV) (n : Nat) : AV → Hp → R1 :=
 Nat.rec (motive := fun _ => AV → Hp → R1) (fun _ _ => .bad) (fun _ ih => qer call q137e2 x0 x1 x10 ih) n
def qjm (call : Ev.Call) (q137e2 : AV → Hp → R1) (x0 x1 x10 : AV) : AV → Hp → R1 := qdd call q137e2 x0 x1 x10 qa6
def qde (call : Ev.Call) (x0 x1 x10 x11 : AV) (H : Hp) : R1 :=
 qjm call (fun x11 H => qdf call x0 x1 x10 x11 H) x0 x1 x10 x11 H
def qjg (call : Ev.Call) (g157 : AV → Hp → R1) (x10 : AV) (H : Hp) : R1 :=
 vq (intV (qaa .add).f x10 (.int .i64 (.ofNat 1))) H fun a158 H =>
 g157 a158 H
def qjk (call : Ev.Call) (q157e0 : AV → Hp → R1) (x0 x1 x11 : AV) (g157 : AV → Hp → R1) (x10 : AV) (H : Hp) : R1 :=
 dz 0 H fun b160 H =>
 dq false false 0 0 (b160 + 0) H [] [] (fun _ => .val x10) (some true) fun a161 H p w =>
 dq false false 1 0 (b160 + 1) H p w (fun _ => .val x11) (some true) fun a162 H p w =>
 dq false false 2 3 (b160 + 2) H p w (fun _ => intV (qaa .leq).f a161 a162) (some true) fun a163 H p w =>
 dq false false 3 7 (b160 + 3) H p w (fun _ => .val a163) (some true) fun a164 H p w =>
 dq false false 4 15 (b160 + 4) H p w (fun _ => .val x0) (qad true a164) fun a165 H p w =>
 dq false false 5 15 (b160 + 5) H p w (fun _ => .val x10) (qad true a164) fun a166 H p w =>
 dq false false 6 63 (b160 + 6) H p w (fun _ => idxS 1 a165 a166) (qad true a164) fun a167 H p w =>
 dq true false 7 127 (b160 + 7) H p w (fun H => qae H a167) (qad true a164) fun a168 H p w =>
 dq false false 8 15 (b160 + 8) H p w (fun _ => .val x0) (qad true a164) fun a169 H p w =>
 dq false false 9 15 (b160 + 9) H p w (fun _ => .val x1) (qad true a164) fun a170 H p w =>
 dq false false 10 783 (b160 + 10) H p w (fun _ => idxS 1 a169 a170) (qad true a164) fun a171 H p w =>
 dq true false 11 1807 (b160 + 11) H p w (fun H => qae H a171) (qad true a164) fun a172 H p w =>
 de 4095 H p w (call (.f qbe) [a168, a172] (qaw 4095 p H)) (qad true a164) fun a173 H p w =>
 dq false false 13 8191 (b160 + 13) H p w (fun _ => qbm a164 a173 (.bool false)) (some true) fun a174 H p w =>
 dz2 p H fun H =>
 cd a174 (
 qjg call g157 x10 H) (
 q157e0 x10 H)
def qeq (call : Ev.Call) (q157e0 : AV → Hp → R1) (x0 x1 x11 : AV) (n : Nat) : AV → Hp → R1 :=
 Nat.rec (motive := fun _ => AV → Hp → R1) (fun _ _ => .bad) (fun _ ih => qjk call q157e0 x0 x1 x11 ih) n
def qjl (call : Ev.Call) (q157e0 : AV → Hp → R1) (x0 x1 x11 : AV) : AV → Hp → R1 := qeq call q157e0 x0 x1 x11 qa6
def qtp (call : Ev.Call) (x0 x1 x2 x3 : AV) (H : Hp) : R1 :=
 dz 0 H fun b0 H =>
 dq false false 0 0 (b0 + 0) H [] [] (fun _ => .val x0) (some true) fun a1 H p w =>
 dq false false 1 0 (b0 + 1) H p w (fun _ => .val x1) (some true) fun a2 H p w =>
 dq false false 2 0 (b0 + 2) H p w (fun _ => .val x0) (some true) fun a3 H p w =>
 dq false false 3 0 (b0 + 3) H p w (fun _ => .val x3) (some true) fun a4 H p w =>
 dq false false 4 0 (b0 + 4) H p w (fun _ => .val x0) (some true) fun a5 H p w =>
 dq false false 5 0 (b0 + 5) H p w (fun _ => .val x3) (some true) fun a6 H p w =>
 dq false false 6 48 (b0 + 6) H p w (fun _ => idxS 1 a5 a6) (some true) fun a7 H p w =>
 dq true false 7 112 (b0 + 7) H p w (fun H => qae H a7) (some true) fun a8 H p w =>
 dq false false 8 0 (b0 + 8) H p w (fun _ => .val x0) (some true) fun a9 H p w =>
 dq false false 9 0 (b0 + 9) H p w (fun _ => .val x1) (some true) fun a10 H p w =>
 dq false false 10 768 (b0 + 10) H p w (fun _ => idxS 1 a9 a10) (some true) fun a11 H p w =>
 dq true false 11 1792 (b0 + 11) H p w (fun H => qae H a11) (some true) fun a12 H p w =>
 dq false false 12 4083 (b0 + 12) H p w (fun _ => idxS 1 a1 a2) (some true) fun a13 H p w =>
 de 8179 H p w (qat (qaw 8179 p H) a13 a8) (some true) fun _ H p w =>
 dq false false 14 16383 (b0 + 14) H p w (fun _ => idxS 1 a3 a4) (some true) fun a15 H p w =>
 de 32767 H p w (qat (qaw 32767 p H) a15 a12) (some true) fun _ H p w =>
 dz2 p H fun H =>
 vq (intV (qaa .add).f x1 (.int .i64 (.ofNat 1))) H fun a17 H =>
 vq (intV (qaa .sub).f x2 (.int .i64 (.ofNat 1))) H fun a18 H =>
 qjl call (fun x10 H => qde call x0 x1 x10 a18 H) x0 x1 a18 a17 H
def o_part (call : Ev.Call) (x0 x1 x2 x3 : AV) (H : Hp) : R1 := qtp call x0 x1 x2 x3 H
def qlv (call : Ev.Call) (g0 : AV → Hp → R1) (x0 x3 x8 x9 : AV) (H : Hp) : R1 :=
 dz 0 H fun b3 H =>
 dq false false 0 0 (b3 + 0) H [] [] (fun _ => .val x0) (some true) fun a4 H p w =>
 dq false false 1 0 (b3 + 1) H p w (fun _ => .val x3) (some true) fun a5 H p w =>
 dq false false 2 0 (b3 + 2) H p w (fun _ => .val x8) (some true) fun a6 H p w =>
 dq false false 3 6 (b3 + 3) H p w (fun _ => intV (qaa .add).f a5 a6) (some true) fun a7 H p w =>
 dq false false 4 0 (b3 + 4) H p w (fun _ => .val x0) (some true) fun a8 H p w =>
 dq false false 5 0 (b3 + 5) H p w (fun _ => .val x3) (some true) fun a9 H p w =>
 dq false false 6 0 (b3 + 6) H p w (fun _ => .val x9) (some true) fun a10 H p w =>
 dq false false 7 96 (b3 + 7) H p w (fun _ => intV (qaa .add).f a9 a10) (some true) fun a11 H p w =>
 dq false false 8 0 (b3 + 8) H p w (fun _ => .val x0) (some true) fun a12 H p w =>
 dq false false 9 0 (b3 + 9) H p w (fun _ => .val x3) (some true) fun a13 H p w =>
 dq false false 10 0 (b3 + 10) H p w (fun _ => .val x9) (some true) fun a14 H p w =>
 dq false false 11 1536 (b3 + 11) H p w (fun _ => intV (qaa .add).f a13 a14) (some true) fun a15 H p w =>
 dq false false 12 3840 (b3 + 12) H p w (fun _ => idxS 1 a12 a15) (some true) fun a16 H p w =>
 dq true false 13 7936 (b3 + 13) H p w (fun H => qae H a16) (some true) fun a17 H p w =>
 dq false false 14 0 (b3 + 14) H p w (fun _ => .val x0) (some true) fun a18 H p w =>
 dq false false 15 0 (b3 + 15) H p w (fun _ => .val x3) (some true) fun a19 H p w =>
 dq false false 16 0 (b3 + 16) H p w (fun _ => .val x8) (some true) fun a20 H p w =>
 dq false false 17 98304 (b3 + 17) H p w (fun _ => intV (qaa .add).f a19 a20) (some true) fun a21 H p w =>
 dq false false 18 245760 (b3 + 18) H p w (fun _ => idxS 1 a18 a21) (some true) fun a22 H p w =>
 dq true false 19 507904 (b3 + 19) H p w (fun H => qae H a22) (some true) fun a23 H p w =>
 dq false false 20 1048335 (b3 + 20) H p w (fun _ => idxS 1 a4 a7) (some true) fun a24 H p w =>
 de 2096911 H p w (qat (qaw 2096911 p H) a24 a17) (some true) fun _ H p w =>
 dq false false 22 4194303 (b3 + 22) H p w (fun _ => idxS 1 a8 a11) (some true) fun a26 H p w =>
 de 8388607 H p w (qat (qaw 8388607 p H) a26 a23) (some true) fun _ H p w =>
 dz2 p H fun H =>
 g0 x9 H
def qfy (call : Ev.Call) (q0r : Hp → R1) (g0 : AV → Hp → R1) (x0 x3 x8 x9 : AV) (H : Hp) : R1 :=
 dz 0 H fun b29 H =>
 dq false false 0 0 (b29 + 0) H [] [] (fun _ => .val x0) (some true) fun a30 H p w =>
 dq false false 1 0 (b29 + 1) H p w (fun _ => .val x3) (some true) fun a31 H p w =>
 dq false false 2 0 (b29 + 2) H p w (fun _ => .val x8) (some true) fun a32 H p w =>
 dq false false 3 6 (b29 + 3) H p w (fun _ => intV (qaa .add).f a31 a32) (some true) fun a33 H p w =>
 dq false false 4 15 (b29 + 4) H p w (fun _ => idxS 1 a30 a33) (some true) fun a34 H p w =>
 dq true false 5 31 (b29 + 5) H p w (fun H => qae H a34) (some true) fun a35 H p w =>
 dq false false 6 0 (b29 + 6) H p w (fun _ => .val x0) (some true) fun a36 H p w =>
 dq false false 7 0 (b29 + 7) H p w (fun _ => .val x3) (some true) fun a37 H p w =>
 dq false false 8 0 (b29 + 8) H p w (fun _ => .val x9) (some true) fun a38 H p w =>
 dq false false 9 384 (b29 + 9) H p w (fun _ => intV (qaa .add).f a37 a38) (some true) fun a39 H p w =>
 dq false false 10 960 (b29 + 10) H p w (fun _ => idxS 1 a36 a39) (some true) fun a40 H p w =>
 dq true false 11 1984 (b29 + 11) H p w (fun H => qae H a40) (some true) fun a41 H p w =>
 de 4095 H p w (call (.f qbe) [a35, a41] (qaw 4095 p H)) (some true) fun a42 H p w =>
 dq false false 13 8191 (b29 + 13) H p w (fun _ => (unS .not).f a42) (some true) fun a43 H p w =>
 dz2 p H fun H =>
 cd a43 (
 q0r H) (
 qlv call g0 x0 x3 x8 x9 H)
def qlu (call : Ev.Call) (q0r : Hp → R1) (g0 : AV → Hp → R1) (x0 x2 x3 x8 x9 : AV) (H : Hp) : R1 :=
 dz 0 H fun b45 H =>
 dq false false 0 0 (b45 + 0) H [] [] (fun _ => .val x9) (some true) fun a46 H p w =>
 dq false false 1 1 (b45 + 1) H p w (fun _ => intV (qaa .add).f a46 (.int .i64 (.ofNat 1))) (some true) fun a47 H p w =>
 dq false false 2 0 (b45 + 2) H p w (fun _ => .val x2) (some true) fun a48 H p w =>
 dq false false 3 7 (b45 + 3) H p w (fun _ => intV (qaa .lss).f a47 a48) (some true) fun a49 H p w =>
 dq false false 4 15 (b45 + 4) H p w (fun _ => .val a49) (some true) fun a50 H p w =>
 dq false false 5 31 (b45 + 5) H p w (fun _ => .val x0) (qad true a50) fun a51 H p w =>
 dq false false 6 31 (b45 + 6) H p w (fun _ => .val x3) (qad true a50) fun a52 H p w =>
 dq false false 7 31 (b45 + 7) H p w (fun _ => .val x9) (qad true a50) fun a53 H p w =>
 dq false false 8 223 (b45 + 8) H p w (fun _ => intV (qaa .add).f a52 a53) (qad true a50) fun a54 H p w =>
 dq false false 9 511 (b45 + 9) H p w (fun _ => idxS 1 a51 a54) (qad true a50) fun a55 H p w =>
 dq true false 10 1023 (b45 + 10) H p w (fun H => qae H a55) (qad true a50) fun a56 H p w =>
 dq false false 11 31 (b45 + 11) H p w (fun _ => .val x0) (qad true a50) fun a57 H p w =>
 dq false false 12 31 (b45 + 12) H p w (fun _ => .val x3) (qad true a50) fun a58 H p w =>
 dq false false 13 31 (b45 + 13) H p w (fun _ => .val x9) (qad true a50) fun a59 H p w =>
 dq false false 14 12319 (b45 + 14) H p w (fun _ => intV (qaa .add).f a58 a59) (qad true a50) fun a60 H p w =>
 dq false false 15 28703 (b45 + 15) H p w (fun _ => intV (qaa .add).f a60 (.int .i64 (.ofNat 1))) (qad true a50) fun a61 H p w =>
 dq false false 16 63519 (b45 + 16) H p w (fun _ => idxS 1 a57 a61) (qad true a50) fun a62 H p w =>
 dq true false 17 129055 (b45 + 17) H p w (fun H => qae H a62) (qad true a50) fun a63 H p w =>
 de 262143 H p w (call (.f qbe) [a56, a63] (qaw 262143 p H)) (qad true a50) fun a64 H p w =>
 dq false false 19 524287 (b45 + 19) H p w (fun _ => qbm a50 a64 (.bool false)) (some true) fun a65 H p w =>
 dz2 p H fun H =>
 cd a65 (
 vq (intV (qaa .add).f x9 (.int .i64 (.ofNat 1))) H fun a66 H =>
 qfy call q0r g0 x0 x3 x8 a66 H) (
 qfy call q0r g0 x0 x3 x8 x9 H)
def qpd (call : Ev.Call) (q0e0 : Hp → R1) (q0r : Hp → R1) (x0 x2 x3 : AV) (g0 : AV → Hp → R1) (x8 : AV) (H : Hp) : R1 :=
 vq (intV (qaa .mul).f (.int .i64 (.ofNat 2)) x8) H fun a1 H =>
 vq (intV (qaa .add).f a1 (.int .i64 (.ofNat 1))) H fun a2 H =>
 vq (intV (qaa .geq).f a2 x2) H fun a68 H =>
 cd a68 (
 q0e0 H) (
 qlu call q0r g0 x0 x2 x3 x8 a2 H)
def qen (call : Ev.Call) (q0e0 : Hp → R1) (q0r : Hp → R1) (x0 x2 x3 : AV) (n : Nat) : AV → Hp → R1 :=
 Nat.rec (motive := fun _ => AV → Hp → R1) (fun _ _ => .bad) (fun _ ih => qpd call q0e0 q0r x0 x2 x3 ih) n
def qpe (call : Ev.Call) (q0e0 : Hp → R1) (q0r : Hp → R1) (x0 x2 x3 : AV) : AV → Hp → R1 := qen call q0e0 q0r x0 x2 x3 qa6
def qtk (call : Ev.Call) (x0 x1 x2 x3 : AV) (H : Hp) : R1 :=
 qpe call (fun H => .ok (.tup []) H) (fun H => .ok (.tup []) H) x0 x2 x3 x1 H
def o_sift (call : Ev.Call) (x0 x1 x2 x3 : AV) (H : Hp) : R1 := qtk call x0 x1 x2 x3 H
def qmb (call : Ev.Call) (x0 x1 x2 : AV) (H : Hp) : R1 :=
 vq (intV (qaa .sub).f x1 (.int .i64 (.ofNat 1))) H fun a0 H =>
 vq (intV (qaa .add).f x1 (.int .i64 (.ofNat 1))) H fun a1 H =>
 ve (call (.f qkv) [x0, a0, x1, a1, x2] H) fun a2 H =>
 .ok a2 H
def o_medadj (call : Ev.Call) (x0 x1 x2 : AV) (H : Hp) : R1 := qmb call x0 x1 x2 H
def qy7 (call : Ev.Call) (x0 x1 x2 x3 x4 : AV) (H : Hp) : R1 :=
 ve (call (.f qf7) [x0, x1, x2, x4] H) fun a0 H =>
 vq (extr 0 a0) H fun a1 H =>
 vq (extr 1 a0) H fun a2 H =>
 ve (call (.f qf7) [x0, a2, x3, x4] H) fun a3 H =>
 vq (extr 0 a3) H fun a4 H =>
 vq (extr 1 a3) H fun a5 H =>
 ve (call (.f qf7) [x0, a1, a4, x4] H) fun a6 H =>
 vq (extr 0 a6) H fun a7 H =>
 vq (extr 1 a6) H fun a8 H =>
 .ok a8 H
def o_med (call : Ev.Call) (x0 x1 x2 x3 x4 : AV) (H : Hp) : R1 := qy7 call x0 x1 x2 x3 x4 H
def qpr (call : Ev.Call) (x1 x2 : AV) (H : Hp) : R1 :=
 .ok (.tup [x1, x2]) H
def qtq (call : Ev.Call) (x0 x1 x2 x3 : AV) (H : Hp) : R1 :=
 dz 0 H fun b1 H =>
 dq false false 0 0 (b1 + 0) H [] [] (fun _ => .val x0) (some true) fun a2 H p w =>
 dq false false 1 0 (b1 + 1) H p w (fun _ => .val x2) (some true) fun a3 H p w =>
 dq false false 2 3 (b1 + 2) H p w (fun _ => idxS 1 a2 a3) (some true) fun a4 H p w =>
 dq true false 3 7 (b1 + 3) H p w (fun H => qae H a4) (some true) fun a5 H p w =>
 dq false false 4 0 (b1 + 4) H p w (fun _ => .val x0) (some true) fun a6 H p w =>
 dq false false 5 0 (b1 + 5) H p w (fun _ => .val x1) (some true) fun a7 H p w =>
 dq false false 6 48 (b1 + 6) H p w (fun _ => idxS 1 a6 a7) (some true) fun a8 H p w =>
 dq true false 7 112 (b1 + 7) H p w (fun H => qae H a8) (some true) fun a9 H p w =>
 de 255 H p w (call (.f qbe) [a5, a9] (qaw 255 p H)) (some true) fun a10 H p w =>
 dz2 p H fun H =>
 cd a10 (
 vq (nilC x3) H fun a11 H =>
 vq (qae H a11) H fun a12 H =>
 vq (intV (qaa .add).f a12 (.int .i64 (.ofNat 1))) H fun a13 H =>
 vq (nilC x3) H fun a14 H =>
 ve (qat H a14 a13) fun _ H =>
 .ok (.tup [x2, x1]) H) (
 qpr call x1 x2 H)
def o_ord2 (call : Ev.Call) (x0 x1 x2 x3 : AV) (H : Hp) : R1 := qtq call x0 x1 x2 x3 H
end Go.Di
end
noncomputable section
namespace Go.Di
open Go.Ev
structure LnkO (c d : Ev.Call) : Prop where
 o_Sort : ∀ (x0 : AV) (H : Hp), c (.f qdv) [x0] H = Di.o_Sort d x0 H
 o_Compact : ∀ (x0 : AV) (H : Hp), c (.f qe8) [x0] H = Di.o_Compact d x0 H
 o_pdq : ∀ (x0 x1 x2 x3 : AV) (H : Hp), c (.f qgy) [x0, x1, x2, x3] H = Di.o_pdq d x0 x1 x2 x3 H
 o_ins : ∀ (x0 x1 x2 : AV) (H : Hp), c (.f qkw) [x0, x1, x2] H = Di.o_ins d x0 x1 x2 H
 o_heap : ∀ (x0 x1 x2 : AV) (H : Hp), c (.f qkx) [x0, x1, x2] H = Di.o_heap d x0 x1 x2 H
 o_brk : ∀ (x0 x1 x2 : AV) (H : Hp), c (.f qny) [x0, x1, x2] H = Di.o_brk d x0 x1 x2 H
 o_piv : ∀ (x0 x1 x2 : AV) (H : Hp), c (.f qnw) [x0, x1, x2] H = Di.o_piv d x0 x1 x2 H
 o_rev : ∀ (x0 x1 x2 : AV) (H : Hp), c (.f qnv) [x0, x1, x2] H = Di.o_rev d x0 x1 x2 H
 o_pins : ∀ (x0 x1 x2 : AV) (H : Hp), c (.f qhx) [x0, x1, x2] H = Di.o_pins d x0 x1 x2 H
 o_less : ∀ (x0 x1 : AV) (H : Hp), c (.f qbe) [x0, x1] H = Di.o_less d x0 x1 H
 o_peq : ∀ (x0 x1 x2 x3 : AV) (H : Hp), c (.f qnx) [x0, x1, x2, x3] H = Di.o_peq d x0 x1 x2 x3 H
 o_part : ∀ (x0 x1 x2 x3 : AV) (H : Hp), c (.f qku) [x0, x1, x2, x3] H = Di.o_part d x0 x1 x2 x3 H
 o_sift : ∀ (x0 x1 x2 x3 : AV) (H : Hp), c (.f qhw) [x0, x1, x2, x3] H = Di.o_sift d x0 x1 x2 x3 H
 o_medadj : ∀ (x0 x1 x2 : AV) (H : Hp), c (.f qdi) [x0, x1, x2] H = Di.o_medadj d x0 x1 x2 H
 o_med : ∀ (x0 x1 x2 x3 x4 : AV) (H : Hp), c (.f qkv) [x0, x1, x2, x3, x4] H = Di.o_med d x0 x1 x2 x3 x4 H
 o_ord2 : ∀ (x0 x1 x2 x3 : AV) (H : Hp), c (.f qf7) [x0, x1, x2, x3] H = Di.o_ord2 d x0 x1 x2 x3 H
abbrev qc7 (C : Nat → Ev.Call) : Prop := ∀ k, LnkO (C (k + 1)) (C k)
end Go.Di
end
