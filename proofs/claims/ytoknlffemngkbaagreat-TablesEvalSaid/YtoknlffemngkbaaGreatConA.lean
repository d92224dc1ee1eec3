/-
 For TablesEval: functions in direct style, their contracts, and the plain mathematics, part 1 of 5. No conditions beyond those that each theorem states.
-/
import Derived.Test.YtoknlffemngkbaaGreatEv4
set_option linter.unusedSimpArgs false
set_option linter.unusedVariables false
noncomputable section
namespace Go.Di
open Go.Ev
def qjw : FuncId := 4
def qil : FuncId := 5
def qh0 : FuncId := 6
def qfq : FuncId := 7
def qd7 : FuncId := 8
def qju : FuncId := 10
def qhe : FuncId := 9
def qgg : FuncId := 11
def qft : FuncId := 12
def qff : FuncId := 13
def qmd : FuncId := 14
def qg7 : FuncId := 15
def qh1 : FuncId := 17
def qd8 : FuncId := 16
def qgf : FuncId := 18
def qfp : FuncId := 19
def qd9 : FuncId := 20
def qer : FuncId := 22
def qcu : FuncId := 23
def qct : FuncId := 24
def qdt : FuncId := 25
def qbo : FuncId := 21
def qbe : FuncId := 27
def qbh : FuncId := 26
def qlb : FuncId := 28
def qdw : FuncId := 30
def qdv : FuncId := 31
def qdu : FuncId := 32
def qde : FuncId := 29
def qgm : FuncId := 38
def qge : FuncId := 39
def qfu : FuncId := 40
def qjt : FuncId := 41
def qjs : FuncId := 42
def qhd : FuncId := 43
def qci : FuncId := 45
def qjx : FuncId := 44
def qb6 : FuncId := 46
def qjv : FuncId := 47
def qbd : FuncId := 51
def qgl : FuncId := 52
def qhz : FuncId := 53
def qam : FuncId := 54
def qe8 : FuncId := 55
def qbu : FuncId := 56
def qbx : FuncId := 57
def qdj : FuncId := 77
def qbg : FuncId := 79
def qdx : FuncId := 80
def qik : FuncId := 78
def qej : FuncId := 75
def qm2 : FuncId := 97
def qa1 (call : Ev.Call) (x6 x7 x8 : AV) (H : Hp) : R1 := .ok (.tup [x6, x7, x8]) H
def qfx (call : Ev.Call) (x6 x7 x8 : AV) (H : Hp) : R1 :=
 vq (qis 1 H.nx (qal (reps [.nilsl] 1) [(0, 1, (.nilsl))])) H fun a13 H =>
 ve (qbb 1 24 H x8 (qd3 1 H a13)) fun a14 H =>
 ve (call (.f qd7) [x6, a14] H) fun a15 H =>
 vq (extr 0 a15) H fun a16 H =>
 vq (extr 1 a15) H fun a17 H =>
 vq (intV (qad .add).f x7 (.int .i64 (.ofNat 1))) H fun a18 H =>
 vq (qry [.bool false] 1 H.nx a18 a18) H fun a19 H =>
 ve (call (.f qft) [x6, a19] H) fun a20 H =>
 vq (extr 0 a20) H fun a21 H =>
 vq (extr 1 a20) H fun a22 H =>
 vq (intV (qad .sub).f x7 (.int .i64 (.ofNat 1))) H fun a23 H =>
 vq (aggN (qal [.str 0 0, .str 0 0] [(0, 1, (.str 1 98))])) H fun a24 H =>
 vq (aggN (qal [.str 0 0, .str 0 0] [(0, 1, (.str 1 97)), (1, 1, (.str 1 120))])) H fun a25 H =>
 vq (qis 2 H.nx (qal (reps [.str 0 0, .str 0 0] 2) [(0, 2, a24), (2, 2, a25)])) H fun a26 H =>
 vq (idxS 1 x8 a23) H fun a27 H =>
 ve (qcr H a27 a26) fun _ H =>
 ve (call (.f qd7) [x6, x8] H) fun a29 H =>
 vq (extr 0 a29) H fun a30 H =>
 vq (extr 1 a29) H fun a31 H =>
 vq (intV (qad .eql).f a17 (.int .i64 (.ofNat 4))) H fun a32 H =>
 vg (qai true a32) (.val a22) H fun a33 H =>
 vg (qai true a32) (intV (qad .eql).f a33 (.int .i64 (.ofNat 4))) H fun a34 H =>
 vq (qd2 a32 a34 (.bool false)) H fun a35 H =>
 vg (qai true a35) (.val a31) H fun a36 H =>
 vg (qai true a35) (intV (qad .eql).f a36 (.int .i64 (.ofNat 18))) H fun a37 H =>
 vq (qd2 a35 a37 (.bool false)) H fun a38 H =>
 veg (qai true a38) (call (.f qmd) [] H) H fun a39 H =>
 vq (qd2 a38 a39 (.bool false)) H fun a40 H =>
 .ok a40 H
def qgv (call : Ev.Call) (g42 : AV → Hp → R1) (x14 : AV) (H : Hp) : R1 :=
 vq (intV (qad .add).f x14 (.int .i64 (.ofNat 1))) H fun a43 H =>
 g42 a43 H
def qb4 (call : Ev.Call) (q42r : AV → Hp → R1) (g42 : AV → Hp → R1) (x5 x6 x11 x13 x14 x15 : AV) (H : Hp) : R1 :=
 ve (call (.f qft) [x6, x15] H) fun a46 H =>
 vq (extr 0 a46) H fun a47 H =>
 vq (extr 1 a46) H fun a48 H =>
 vq (qa7 4 H x5) H fun a49 H =>
 ve (call (.f qff) [a49, x15, (.int .i64 (.ofNat 0))] H) fun a50 H =>
 vq (extr 0 a50) H fun a51 H =>
 vq (extr 1 a50) H fun a52 H =>
 vq (intV (qad .neq).f a48 (.int .i64 (.ofNat 0))) H fun a53 H =>
 vg (qai false a53) (.val a47) H fun a54 H =>
 vg (qai false a53) (.val a51) H fun a55 H =>
 vg (qai false a53) (qjn true ((⟨E2.f ⟨qml⟩⟩ : E2).f a54 a55)) H fun a56 H =>
 vq (qd2 a53 (.bool true) a56) H fun a57 H =>
 vg (qai false a57) (.val a47) H fun a58 H =>
 vg (qai false a57) (.val x11) H fun a59 H =>
 vg (qai false a57) (.val x13) H fun a60 H =>
 vg (qai false a57) (.val x14) H fun a61 H =>
 vg (qai false a57) (idxS 2 a60 a61) H fun a62 H =>
 vg (qai false a57) (qa7 2 H a62) H fun a63 H =>
 veg (qai false a57) (call (.f qgg) [a59, a63] H) H fun a64 H =>
 vg (qai false a57) (qjn true ((⟨E2.f ⟨qml⟩⟩ : E2).f a58 a64)) H fun a65 H =>
 vq (qd2 a57 (.bool true) a65) H fun a66 H =>
 cd a66 (
 q42r (.bool false) H) (
 qgv call g42 x14 H)
def qgu (call : Ev.Call) (g68 : AV → Hp → R1) (x16 : AV) (H : Hp) : R1 :=
 vq (intV (qad .add).f x16 (.int .i64 (.ofNat 1))) H fun a69 H =>
 g68 a69 H
def qgt (call : Ev.Call) (g68 : AV → Hp → R1) (x8 x13 x14 x15 x16 : AV) (H : Hp) : R1 :=
 dz 0 H fun b71 H =>
 dq false false 0 0 (b71 + 0) H [] [] (fun _ => .val x15) (some true) fun a72 H p w =>
 dq false false 1 0 (b71 + 1) H p w (fun _ => .val x16) (some true) fun a73 H p w =>
 dq false false 2 0 (b71 + 2) H p w (fun _ => .val x8) (some true) fun a74 H p w =>
 dq false false 3 0 (b71 + 3) H p w (fun _ => .val x16) (some true) fun a75 H p w =>
 dq false false 4 12 (b71 + 4) H p w (fun _ => idxS 1 a74 a75) (some true) fun a76 H p w =>
 dq true false 5 28 (b71 + 5) H p w (fun H => qao H a76) (some true) fun a77 H p w =>
 dq false false 6 0 (b71 + 6) H p w (fun _ => .val x13) (some true) fun a78 H p w =>
 dq false false 7 0 (b71 + 7) H p w (fun _ => .val x14) (some true) fun a79 H p w =>
 dq false false 8 192 (b71 + 8) H p w (fun _ => idxS 2 a78 a79) (some true) fun a80 H p w =>
 dq true false 9 448 (b71 + 9) H p w (fun H => qa7 2 H a80) (some true) fun a81 H p w =>
 de 1020 H p w (call (.f qgg) [a77, a81] (qck 1020 p H)) (some true) fun a82 H p w =>
 dq false false 11 2047 (b71 + 11) H p w (fun _ => idxS 1 a72 a73) (some true) fun a83 H p w =>
 de 4095 H p w (qcr (qck 4095 p H) a83 a82) (some true) fun _ H p w =>
 dz2 p H fun H =>
 qgu call g68 x16 H
def qgw (call : Ev.Call) (q68e4 : Hp → R1) (x7 x8 x13 x14 x15 : AV) (g68 : AV → Hp → R1) (x16 : AV) (H : Hp) : R1 :=
 vq (intV (qad .lss).f x16 x7) H fun a86 H =>
 cd a86 (
 qgt call g68 x8 x13 x14 x15 x16 H) (
 q68e4 H)
def qcq (call : Ev.Call) (q68e4 : Hp → R1) (x7 x8 x13 x14 x15 : AV) (n : Nat) : AV → Hp → R1 :=
 Nat.rec (motive := fun _ => AV → Hp → R1) (fun _ _ => .bad) (fun _ ih => qgw call q68e4 x7 x8 x13 x14 x15 ih) n
def qgy (call : Ev.Call) (q68e4 : Hp → R1) (x7 x8 x13 x14 x15 : AV) : AV → Hp → R1 := qcq call q68e4 x7 x8 x13 x14 x15 qg0
def qgs (call : Ev.Call) (q42r : AV → Hp → R1) (g42 : AV → Hp → R1) (x5 x6 x7 x8 x11 x13 x14 : AV) (H : Hp) : R1 :=
 vq (qry [.bool false] 1 H.nx x7 x7) H fun a45 H =>
 qgy call (fun H => qb4 call q42r g42 x5 x6 x11 x13 x14 a45 H) x7 x8 x13 x14 a45 (.int .i64 (.ofNat 0)) H
def qgx (call : Ev.Call) (q42r : AV → Hp → R1) (q42e2 : Hp → R1) (x5 x6 x7 x8 x11 x13 : AV) (g42 : AV → Hp → R1) (x14 : AV) (H : Hp) : R1 :=
 vq (lenSl x13) H fun a88 H =>
 vq (intV (qad .lss).f x14 a88) H fun a89 H =>
 cd a89 (
 qgs call q42r g42 x5 x6 x7 x8 x11 x13 x14 H) (
 q42e2 H)
def qa5 (call : Ev.Call) (q42r : AV → Hp → R1) (q42e2 : Hp → R1) (x5 x6 x7 x8 x11 x13 : AV) (n : Nat) : AV → Hp → R1 :=
 Nat.rec (motive := fun _ => AV → Hp → R1) (fun _ _ => .bad) (fun _ ih => qgx call q42r q42e2 x5 x6 x7 x8 x11 x13 ih) n
def qgz (call : Ev.Call) (q42r : AV → Hp → R1) (q42e2 : Hp → R1) (x5 x6 x7 x8 x11 x13 : AV) : AV → Hp → R1 := qa5 call q42r q42e2 x5 x6 x7 x8 x11 x13 qg0
def qgr (call : Ev.Call) (x5 x6 x7 x8 x11 : AV) (H : Hp) : R1 :=
 ve (call (.f qfq) [(.int .u8 (.ofNat 255))] H) fun a12 H =>
 qgz call (fun x4 H => .bad) (fun H => qa1 call x6 x7 x8 H) x5 x6 x7 x8 x11 a12 (.int .i64 (.ofNat 0)) H
def qbq (call : Ev.Call) (x5 x6 x7 x8 : AV) (H : Hp) : R1 :=
 ve (call (.f qd7) [x6, x8] H) fun a9 H =>
 vq (extr 0 a9) H fun a10 H =>
 vq (extr 1 a9) H fun a11 H =>
 vq (intV (qad .neq).f a11 (.int .i64 (.ofNat 0))) H fun a91 H =>
 vg (qai false a91) (.val a10) H fun a92 H =>
 vg (qai false a91) (qa7 4 H x5) H fun a93 H =>
 vg (qai false a91) (.val x8) H fun a94 H =>
 veg (qai false a91) (call (.f qju) [a93, a94] H) H fun a95 H =>
 veg (qai false a91) (call (.f qhe) [a92, a95] H) H fun a96 H =>
 vg (qai false a91) ((unS .not).f a96) H fun a97 H =>
 vq (qd2 a91 (.bool true) a97) H fun a98 H =>
 cd a98 (
 .bad) (
 qgr call x5 x6 x7 x8 a10 H)
def qf9 (call : Ev.Call) (g100 : AV → AV → Hp → R1) (x8 x9 : AV) (H : Hp) : R1 :=
 vq (intV (qad .add).f x9 (.int .i64 (.ofNat 1))) H fun a101 H =>
 g100 x8 a101 H
def qdi (call : Ev.Call) (g100 : AV → AV → Hp → R1) (x8 x9 x10 : AV) (H : Hp) : R1 :=
 ve (call (.f qfq) [x10] H) fun a103 H =>
 vq (qis 1 H.nx (qal (reps [.nilsl] 1) [(0, 1, a103)])) H fun a104 H =>
 ve (qbb 1 24 H x8 (qd3 1 H a104)) fun a105 H =>
 qf9 call g100 a105 x9 H
def qf8 (call : Ev.Call) (g100 : AV → AV → Hp → R1) (x1 x8 x9 : AV) (H : Hp) : R1 :=
 vq (lenSl x1) H fun a107 H =>
 vq (intV (qad .gtr).f a107 (.int .i64 (.ofNat 0))) H fun a108 H =>
 cd a108 (
 vq (lenSl x1) H fun a109 H =>
 vq (intV (qad .rem).f x9 a109) H fun a110 H =>
 vq (idxS 1 x1 a110) H fun a111 H =>
 vq (qao H a111) H fun a112 H =>
 qdi call g100 x8 x9 a112 H) (
 qdi call g100 x8 x9 (.int .u8 (.ofNat 0)) H)
def qga (call : Ev.Call) (q100e0 : AV → Hp → R1) (x1 x7 : AV) (g100 : AV → AV → Hp → R1) (x8 x9 : AV) (H : Hp) : R1 :=
 vq (intV (qad .lss).f x9 x7) H fun a114 H =>
 cd a114 (
 qf8 call g100 x1 x8 x9 H) (
 q100e0 x8 H)
def qbj (call : Ev.Call) (q100e0 : AV → Hp → R1) (x1 x7 : AV) (n : Nat) : AV → AV → Hp → R1 :=
 Nat.rec (motive := fun _ => AV → AV → Hp → R1) (fun _ _ _ => .bad) (fun _ ih => qga call q100e0 x1 x7 ih) n
def qgb (call : Ev.Call) (q100e0 : AV → Hp → R1) (x1 x7 : AV) : AV → AV → Hp → R1 := qbj call q100e0 x1 x7 qg0
def qhy (call : Ev.Call) (x0 x1 : AV) (H : Hp) : R1 :=
 vq (boxA 1 H.nx x0) H fun a0 H =>
 vq (qa7 1 H a0) H fun a1 H =>
 ve (call (.f qjw) [a1] H) fun a2 H =>
 vq (.new (.ptr H.nx 0) (qac 0 [.int .u8 (.ofNat 0), .str 0 0, .str 0 0, .nilsl])) H fun a3 H =>
 ve (qb5 4 H a3 a2) fun _ H =>
 vq (qa7 4 H a3) H fun a5 H =>
 ve (call (.f qil) [a5] H) fun a6 H =>
 vq (qa7 4 H a3) H fun a7 H =>
 ve (call (.f qh0) [a7] H) fun a8 H =>
 qgb call (fun x8 H => qbq call a3 a6 a8 x8 H) x1 a8 (.nilsl) (.int .i64 (.ofNat 0)) H
def qjk (call : Ev.Call) (x0 x1 : AV) (H : Hp) : R1 := qhy call x0 x1 H
def qn3 (call : Ev.Call) (x0 : AV) (H : Hp) : R1 :=
 vq (boxA 1 H.nx x0) H fun a0 H =>
 vq (.new (.ptr H.nx 0) (qac 0 [.int .u8 (.ofNat 0), .str 0 0, .str 0 0, .nilsl])) H fun a1 H =>
 vq (qaj 0 a0) H fun a2 H =>
 vq (qao H a2) H fun a3 H =>
 ve (call (.f qg7) [a3, (.int .i64 (.ofNat 0)), (.int .i64 (.ofNat 1))] H) fun a4 H =>
 vq (extr 0 a4) H fun a5 H =>
 vq (extr 1 a4) H fun a6 H =>
 vq (.new (.ptr H.nx 0) (qac 0 [.int .u8 (.ofNat 0), .str 0 0, .str 0 0, .nilsl])) H fun a7 H =>
 ve (qb5 4 H a7 a5) fun _ H =>
 vq (qa7 4 H a7) H fun a9 H =>
 ve (qb5 4 H a1 a9) fun _ H =>
 finR (rV (qa7 4 H a1)) H
def law13_R_Of (call : Ev.Call) (x0 : AV) (H : Hp) : R1 := qn3 call x0 H
def qdf (call : Ev.Call) (x4 : AV) (H : Hp) : R1 :=
 .ok x4 H
def qma (call : Ev.Call) (g5 : AV → AV → AV → Hp → R1) (x4 x5 x6 : AV) (H : Hp) : R1 :=
 vq (intV (qad .add).f x6 (.int .i64 (.ofNat 1))) H fun a6 H =>
 g5 x4 x5 a6 H
def qgd (call : Ev.Call) (g5 : AV → AV → AV → Hp → R1) (x4 x5 x6 x7 : AV) (H : Hp) : R1 :=
 vq (qa7 6 H x7) H fun a32 H =>
 vq (qis 1 H.nx (qal (reps [.int .u8 (.ofNat 0), .str 0 0, .str 0 0, .nilsl, .nilsl, .int .i64 (.ofNat 0)] 1) [(0, 6, a32)])) H fun a33 H =>
 ve (qbb 6 96 H x4 (qd3 6 H a33)) fun a34 H =>
 qma call g5 a34 x5 x6 H
def qgc (call : Ev.Call) (g5 : AV → AV → AV → Hp → R1) (x4 x5 x6 x7 : AV) (H : Hp) : R1 :=
 vq (qaj 0 x7) H fun a36 H =>
 vq (qao H a36) H fun a37 H =>
 vq (intV (qad .eql).f a37 (.int .u8 (.ofNat 3))) H fun a38 H =>
 cd a38 (
 vq (qis 1 H.nx (qal (reps [.str 0 0] 1) [(0, 1, (.str 1 98))])) H fun a39 H =>
 vq (qaj 3 x7) H fun a40 H =>
 ve (qcr H a40 a39) fun _ H =>
 qgd call g5 x4 x5 x6 x7 H) (
 qgd call g5 x4 x5 x6 x7 H)
def qky (call : Ev.Call) (g5 : AV → AV → AV → Hp → R1) (x3 x4 x5 x6 : AV) (H : Hp) : R1 :=
 dz 23 H fun b8 H =>
 dq false false 0 0 (b8 + 0) H [] [] (fun _ => .val x3) (some true) fun a9 H p w =>
 dq false false 1 0 (b8 + 1) H p w (fun _ => .val x6) (some true) fun a10 H p w =>
 dq false false 2 3 (b8 + 2) H p w (fun _ => idxS 5 a9 a10) (some true) fun a11 H p w =>
 dq false false 3 7 (b8 + 3) H p w (fun _ => qaj 0 a11) (some true) fun a12 H p w =>
 dq true false 4 15 (b8 + 4) H p w (fun H => qao H a12) (some true) fun a13 H p w =>
 dq false false 5 0 (b8 + 5) H p w (fun _ => .val x3) (some true) fun a14 H p w =>
 dq false false 6 0 (b8 + 6) H p w (fun _ => .val x6) (some true) fun a15 H p w =>
 dq false false 7 96 (b8 + 7) H p w (fun _ => idxS 5 a14 a15) (some true) fun a16 H p w =>
 dq false false 8 224 (b8 + 8) H p w (fun _ => qaj 1 a16) (some true) fun a17 H p w =>
 dq true false 9 480 (b8 + 9) H p w (fun H => qao H a17) (some true) fun a18 H p w =>
 dq false false 10 0 (b8 + 10) H p w (fun _ => .val x3) (some true) fun a19 H p w =>
 dq false false 11 0 (b8 + 11) H p w (fun _ => .val x6) (some true) fun a20 H p w =>
 dq false false 12 3072 (b8 + 12) H p w (fun _ => idxS 5 a19 a20) (some true) fun a21 H p w =>
 dq false false 13 7168 (b8 + 13) H p w (fun _ => qaj 2 a21) (some true) fun a22 H p w =>
 dq true false 14 15360 (b8 + 14) H p w (fun H => qao H a22) (some true) fun a23 H p w =>
 dq false false 15 0 (b8 + 15) H p w (fun _ => .val x3) (some true) fun a24 H p w =>
 dq false false 16 0 (b8 + 16) H p w (fun _ => .val x6) (some true) fun a25 H p w =>
 dq false false 17 98304 (b8 + 17) H p w (fun _ => idxS 5 a24 a25) (some true) fun a26 H p w =>
 dq false false 18 229376 (b8 + 18) H p w (fun _ => qaj 3 a26) (some true) fun a27 H p w =>
 dq true false 19 491520 (b8 + 19) H p w (fun H => qao H a27) (some true) fun a28 H p w =>
 dq false false 20 1048575 (b8 + 20) H p w (fun _ => aggN (qal [.int .u8 (.ofNat 0), .str 0 0, .str 0 0, .nilsl, .nilsl, .int .i64 (.ofNat 0)] [(0, 1, a13), (1, 1, a18), (2, 1, a23), (4, 1, a28), (5, 1, (.int .i64 (.negSucc 0)))])) (some true) fun a29 H p w =>
 dq false true 21 0 (b8 + 21) H p w (fun _ => .new (.ptr (b8 + 21) 0) (qac 0 [.int .u8 (.ofNat 0), .str 0 0, .str 0 0, .nilsl, .nilsl, .int .i64 (.ofNat 0)])) (some true) fun a30 H p w =>
 de 4194303 H p w (qb5 6 (qck 4194303 p H) a30 a29) (some true) fun _ H p w =>
 dz2 p H fun H =>
 vq (qaj 0 a30) H fun a43 H =>
 vq (qao H a43) H fun a44 H =>
 vq (intV (qad .lss).f a44 (.int .u8 (.ofNat 4))) H fun a45 H =>
 cd a45 (
 vq (qaj 5 a30) H fun a46 H =>
 ve (qcr H a46 x5) fun _ H =>
 vq (intV (qad .add).f x5 (.int .i64 (.ofNat 1))) H fun a48 H =>
 qgc call g5 x4 a48 x6 a30 H) (
 qgc call g5 x4 x5 x6 a30 H)
def qmb (call : Ev.Call) (q5e0 : AV → Hp → R1) (x3 : AV) (g5 : AV → AV → AV → Hp → R1) (x4 x5 x6 : AV) (H : Hp) : R1 :=
 vq (lenSl x3) H fun a50 H =>
 vq (intV (qad .lss).f x6 a50) H fun a51 H =>
 cd a51 (
 qky call g5 x3 x4 x5 x6 H) (
 q5e0 x4 H)
def qcn (call : Ev.Call) (q5e0 : AV → Hp → R1) (x3 : AV) (n : Nat) : AV → AV → AV → Hp → R1 :=
 Nat.rec (motive := fun _ => AV → AV → AV → Hp → R1) (fun _ _ _ _ => .bad) (fun _ ih => qmb call q5e0 x3 ih) n
def qmc (call : Ev.Call) (q5e0 : AV → Hp → R1) (x3 : AV) : AV → AV → AV → Hp → R1 := qcn call q5e0 x3 qg0
def qm1 (call : Ev.Call) (x0 : AV) (H : Hp) : R1 :=
 vq (boxA 4 H.nx x0) H fun a0 H =>
 vq (qa7 4 H a0) H fun a1 H =>
 ve (call (.f qh1) [a1] H) fun a2 H =>
 ve (call (.f qd8) [(.nilsl), a2, (.bool false)] H) fun a3 H =>
 qmc call (fun x4 H => qdf call x4 H) a3 (.nilsl) (.int .i64 (.ofNat 0)) (.int .i64 (.ofNat 0)) H
def law19_Nodes (call : Ev.Call) (x0 : AV) (H : Hp) : R1 := qm1 call x0 H
def qee (call : Ev.Call) (x4 : AV) (H : Hp) : R1 :=
 .ok x4 H
def qf5 (call : Ev.Call) (g4 : AV → AV → Hp → R1) (x4 x5 : AV) (H : Hp) : R1 :=
 vq (intV (qad .add).f x5 (.int .i64 (.ofNat 1))) H fun a5 H =>
 g4 x4 a5 H
def qjf (call : Ev.Call) (g4 : AV → AV → Hp → R1) (x3 x4 x5 : AV) (H : Hp) : R1 :=
 vq (idxS 5 x3 x5) H fun a7 H =>
 vq (qaj 0 a7) H fun a8 H =>
 vq (qao H a8) H fun a9 H =>
 vq (intV (qad .lss).f a9 (.int .u8 (.ofNat 4))) H fun a10 H =>
 cd a10 (
 vq (intV (qad .add).f x4 (.int .i64 (.ofNat 1))) H fun a11 H =>
 qf5 call g4 a11 x5 H) (
 qf5 call g4 x4 x5 H)
def qkr (call : Ev.Call) (q4e0 : AV → Hp → R1) (x3 : AV) (g4 : AV → AV → Hp → R1) (x4 x5 : AV) (H : Hp) : R1 :=
 vq (lenSl x3) H fun a13 H =>
 vq (intV (qad .lss).f x5 a13) H fun a14 H =>
 cd a14 (
 qjf call g4 x3 x4 x5 H) (
 q4e0 x4 H)
def qe5 (call : Ev.Call) (q4e0 : AV → Hp → R1) (x3 : AV) (n : Nat) : AV → AV → Hp → R1 :=
 Nat.rec (motive := fun _ => AV → AV → Hp → R1) (fun _ _ _ => .bad) (fun _ ih => qkr call q4e0 x3 ih) n
def qks (call : Ev.Call) (q4e0 : AV → Hp → R1) (x3 : AV) : AV → AV → Hp → R1 := qe5 call q4e0 x3 qg0
def ql2 (call : Ev.Call) (x0 : AV) (H : Hp) : R1 :=
 vq (boxA 4 H.nx x0) H fun a0 H =>
 vq (qa7 4 H a0) H fun a1 H =>
 ve (call (.f qd8) [(.nilsl), a1, (.bool false)] H) fun a2 H =>
 qks call (fun x4 H => qee call x4 H) a2 (.int .i64 (.ofNat 0)) (.int .i64 (.ofNat 0)) H
def ref19_Leaves (call : Ev.Call) (x0 : AV) (H : Hp) : R1 := ql2 call x0 H
def qds (call : Ev.Call) (x3 : AV) (H : Hp) : R1 :=
 .ok x3 H
def qfn (call : Ev.Call) (g2 : AV → AV → Hp → R1) (x3 x5 : AV) (H : Hp) : R1 :=
 vq (intV (qad .add).f x5 (.int .i64 (.ofNat 1))) H fun a3 H =>
 g2 x3 a3 H
def qic (call : Ev.Call) (g2 : AV → AV → Hp → R1) (x0 x3 x4 x5 : AV) (H : Hp) : R1 :=
 vq (qud (qpe .shr).f x0 x5) H fun a5 H =>
 vq (intV (qad .rem).f a5 (.int .u8 (.ofNat 2))) H fun a6 H =>
 vq (intV (qad .eql).f a6 (.int .u8 (.ofNat 1))) H fun a7 H =>
 cd a7 (
 dz 15 H fun b8 H =>
 dq false false 0 0 (b8 + 0) H [] [] (fun _ => .val x3) (some true) fun a9 H p w =>
 dq false false 1 0 (b8 + 1) H p w (fun _ => .val x4) (some true) fun a10 H p w =>
 dq false false 2 0 (b8 + 2) H p w (fun _ => .val x5) (some true) fun a11 H p w =>
 dq false false 3 4 (b8 + 3) H p w (fun _ => intV (qad .quo).f a11 (.int .i64 (.ofNat 4))) (some true) fun a12 H p w =>
 dq false false 4 14 (b8 + 4) H p w (fun _ => idxS 1 a10 a12) (some true) fun a13 H p w =>
 dq true false 5 30 (b8 + 5) H p w (fun H => qao H a13) (some true) fun a14 H p w =>
 dq false false 6 0 (b8 + 6) H p w (fun _ => .val x4) (some true) fun a15 H p w =>
 dq false false 7 0 (b8 + 7) H p w (fun _ => .val x5) (some true) fun a16 H p w =>
 dq false false 8 128 (b8 + 8) H p w (fun _ => intV (qad .rem).f a16 (.int .i64 (.ofNat 4))) (some true) fun a17 H p w =>
 dq false false 9 448 (b8 + 9) H p w (fun _ => idxS 1 a15 a17) (some true) fun a18 H p w =>
 dq true false 10 960 (b8 + 10) H p w (fun H => qao H a18) (some true) fun a19 H p w =>
 dq false false 11 2046 (b8 + 11) H p w (fun _ => aggN (qal [.str 0 0, .str 0 0] [(0, 1, a14), (1, 1, a19)])) (some true) fun a20 H p w =>
 dq false true 12 4094 (b8 + 12) H p w (fun _ => qis 1 (b8 + 12) (qal (reps [.str 0 0, .str 0 0] 1) [(0, 2, a20)])) (some true) fun a21 H p w =>
 de 8191 H p w (qbb 2 32 (qck 8191 p H) a9 (qd3 2 (qck 8191 p H) a21)) (some true) fun a22 H p w =>
 dq false false 14 16383 (b8 + 14) H p w (fun _ => .val a22) (some true) fun a23 H p w =>
 dz2 p H fun H =>
 qfn call g2 a23 x5 H) (
 qfn call g2 x3 x5 H)
def qjl (call : Ev.Call) (q2e0 : AV → Hp → R1) (x0 x4 : AV) (g2 : AV → AV → Hp → R1) (x3 x5 : AV) (H : Hp) : R1 :=
 vq (intV (qad .lss).f x5 (.int .i64 (.ofNat 8))) H fun a25 H =>
 cd a25 (
 qic call g2 x0 x3 x4 x5 H) (
 q2e0 x3 H)
def qeq (call : Ev.Call) (q2e0 : AV → Hp → R1) (x0 x4 : AV) (n : Nat) : AV → AV → Hp → R1 :=
 Nat.rec (motive := fun _ => AV → AV → Hp → R1) (fun _ _ _ => .bad) (fun _ ih => qjl call q2e0 x0 x4 ih) n
def qjm (call : Ev.Call) (q2e0 : AV → Hp → R1) (x0 x4 : AV) : AV → AV → Hp → R1 := qeq call q2e0 x0 x4 qg0
def qkx (call : Ev.Call) (x0 : AV) (H : Hp) : R1 :=
 vq (qis 4 H.nx (qal (reps [.str 0 0] 4) [(0, 1, (.str 1 97)), (1, 1, (.str 1 98)), (2, 1, (.str 1 99)), (3, 1, (.str 1 100))])) H fun a0 H =>
 qjm call (fun x3 H => qds call x3 H) x0 a0 (.nilsl) (.int .i64 (.ofNat 0)) H
def law19_Objects (call : Ev.Call) (x0 : AV) (H : Hp) : R1 := qkx call x0 H
def qb7 (call : Ev.Call) (x0 x1 : AV) (H : Hp) : R1 :=
 ve (call (.f qer) [(.fn qcu [] [])] H) fun a0 H =>
 ve (call (.f qer) [(.fn qct [] [])] H) fun a1 H =>
 ve (call (.f qer) [(.fn qdt [] [])] H) fun a2 H =>
 vq (aggN (qal [.nilfn, .nilfn, .nilfn] [(0, 1, a0), (1, 1, a1), (2, 1, a2)])) H fun a3 H =>
 ve (call (.f qbo) [x0, (.int .i64 (.ofNat 0)), x1, a3] H) fun a4 H =>
 ve (call (.f qbe) [a4] H) fun a5 H =>
 ve (call (.f qbh) [a5] H) fun a6 H =>
 .ok (.tup [a6, (.int .i64 (.ofNat 0))]) H
def qec (call : Ev.Call) (g9 : AV → Hp → R1) (x23 : AV) (H : Hp) : R1 :=
 vq (intV (qad .add).f x23 (.int .i64 (.ofNat 1))) H fun a11 H =>
 g9 a11 H
def qj6 (call : Ev.Call) (g15 : AV → Hp → R1) (x9 : AV) (H : Hp) : R1 :=
 vq (intV (qad .add).f x9 (.int .i64 (.ofNat 1))) H fun a16 H =>
 g15 a16 H
def qhs (call : Ev.Call) (q15r : AV → AV → Hp → R1) (g15 : AV → Hp → R1) (x8 x9 : AV) (H : Hp) : R1 :=
 dz 0 H fun b18 H =>
 dq false false 0 0 (b18 + 0) H [] [] (fun _ => .val x8) (some true) fun a19 H p w =>
 dq false false 1 0 (b18 + 1) H p w (fun _ => .val x9) (some true) fun a20 H p w =>
 dq false false 2 2 (b18 + 2) H p w (fun _ => intV (qad .sub).f a20 (.int .i64 (.ofNat 1))) (some true) fun a21 H p w =>
 dq false false 3 7 (b18 + 3) H p w (fun _ => idxS 2 a19 a21) (some true) fun a22 H p w =>
 dq true false 4 15 (b18 + 4) H p w (fun H => qa7 2 H a22) (some true) fun a23 H p w =>
 dq false false 5 0 (b18 + 5) H p w (fun _ => .val x8) (some true) fun a24 H p w =>
 dq false false 6 0 (b18 + 6) H p w (fun _ => .val x9) (some true) fun a25 H p w =>
 dq false false 7 96 (b18 + 7) H p w (fun _ => idxS 2 a24 a25) (some true) fun a26 H p w =>
 dq true false 8 224 (b18 + 8) H p w (fun H => qa7 2 H a26) (some true) fun a27 H p w =>
 de 511 H p w (call (.f qd9) [a23, a27] (qck 511 p H)) (some true) fun a28 H p w =>
 dq false false 10 1023 (b18 + 10) H p w (fun _ => intV (qad .geq).f a28 (.int .i64 (.ofNat 0))) (some true) fun a29 H p w =>
 dz2 p H fun H =>
 cd a29 (
 q15r (.nilsl) (.int .i64 (.ofNat 18)) H) (
 qj6 call g15 x9 H)
def qf0 (call : Ev.Call) (q15r : AV → AV → Hp → R1) (q15e2 : Hp → R1) (x8 : AV) (g15 : AV → Hp → R1) (x9 : AV) (H : Hp) : R1 :=
 vq (lenSl x8) H fun a31 H =>
 vq (intV (qad .lss).f x9 a31) H fun a32 H =>
 cd a32 (
 qhs call q15r g15 x8 x9 H) (
 q15e2 H)
def qeb (call : Ev.Call) (q15r : AV → AV → Hp → R1) (q15e2 : Hp → R1) (x8 : AV) (n : Nat) : AV → Hp → R1 :=
 Nat.rec (motive := fun _ => AV → Hp → R1) (fun _ _ => .bad) (fun _ ih => qf0 call q15r q15e2 x8 ih) n
def qhu (call : Ev.Call) (q15r : AV → AV → Hp → R1) (q15e2 : Hp → R1) (x8 : AV) : AV → Hp → R1 := qeb call q15r q15e2 x8 qg0
def qhr (call : Ev.Call) (q9r : AV → AV → Hp → R1) (g9 : AV → Hp → R1) (x21 x23 : AV) (H : Hp) : R1 :=
 vq (idxS 1 x21 x23) H fun a13 H =>
 vq (qao H a13) H fun a14 H =>
 qhu call (fun x4 x5 H => q9r x4 x5 H) (fun H => qec call g9 x23 H) a14 (.int .i64 (.ofNat 1)) H
def qew (call : Ev.Call) (q9r : AV → AV → Hp → R1) (q9e0 : Hp → R1) (x21 x22 : AV) (g9 : AV → Hp → R1) (x23 : AV) (H : Hp) : R1 :=
 vq (intV (qad .lss).f x23 x22) H fun a10 H =>
 cd a10 (
 qhr call q9r g9 x21 x23 H) (
 q9e0 H)
def qbn (call : Ev.Call) (q9r : AV → AV → Hp → R1) (q9e0 : Hp → R1) (x21 x22 : AV) (n : Nat) : AV → Hp → R1 :=
 Nat.rec (motive := fun _ => AV → Hp → R1) (fun _ _ => .bad) (fun _ ih => qew call q9r q9e0 x21 x22 ih) n
def qig (call : Ev.Call) (q9r : AV → AV → Hp → R1) (q9e0 : Hp → R1) (x21 x22 : AV) : AV → Hp → R1 := qbn call q9r q9e0 x21 x22 qg0
def qhq (call : Ev.Call) (x0 x1 : AV) (H : Hp) : R1 :=
 vq (lenSl x1) H fun a8 H =>
 qig call (fun x4 x5 H => .ok (.tup [x4, x5]) H) (fun H => qb7 call x0 x1 H) x1 a8 (.int .i64 (.ofNat 0)) H
def qfz (call : Ev.Call) (x0 x1 : AV) (H : Hp) : R1 :=
 vq (lenSl x1) H fun a35 H =>
 ve (call (.f qfp) [x0] H) fun a36 H =>
 vq (intV (qad .neq).f a35 a36) H fun a37 H =>
 cd a37 (
 .ok (.tup [(.nilsl), (.int .i64 (.ofNat 4))]) H) (
 qhq call x0 x1 H)
def qht (call : Ev.Call) (x0 x1 : AV) (H : Hp) : R1 :=
 ve (call (.f qgf) [x0] H) fun a39 H =>
 vq (intV (qad .neq).f a39 (.int .i64 (.ofNat 0))) H fun a40 H =>
 cd a40 (
 .ok (.tup [(.nilsl), a39]) H) (
 qfz call x0 x1 H)
def tables_Sets (call : Ev.Call) (x0 x1 : AV) (H : Hp) : R1 := qht call x0 x1 H
def qce (call : Ev.Call) (x6 : AV) (H : Hp) : R1 :=
 .ok x6 H
def qhv (call : Ev.Call) (g2 : AV → AV → Hp → R1) (x6 x9 : AV) (H : Hp) : R1 :=
 vq (intV (qad .add).f x9 (.int .i64 (.ofNat 1))) H fun a3 H =>
 g2 x6 a3 H
def qey (call : Ev.Call) (g2 : AV → AV → Hp → R1) (x2 x5 x6 x9 x10 : AV) (H : Hp) : R1 :=
 vq (qa7 4 H x2) H fun a7 H =>
 ve (call (.f qff) [a7, x10, (.int .i64 (.ofNat 0))] H) fun a8 H =>
 vq (extr 0 a8) H fun a9 H =>
 vq (extr 1 a8) H fun a10 H =>
 cd a9 (
 vq (idxS 2 x5 x9) H fun a11 H =>
 vq (qa7 2 H a11) H fun a12 H =>
 vq (qis 1 H.nx (qal (reps [.str 0 0, .str 0 0] 1) [(0, 2, a12)])) H fun a13 H =>
 ve (qbb 2 32 H x6 (qd3 2 H a13)) fun a14 H =>
 qhv call g2 a14 x9 H) (
 qhv call g2 x6 x9 H)
def qlv (call : Ev.Call) (g16 : AV → Hp → R1) (x11 : AV) (H : Hp) : R1 :=
 vq (intV (qad .add).f x11 (.int .i64 (.ofNat 1))) H fun a17 H =>
 g16 a17 H
def qlu (call : Ev.Call) (g16 : AV → Hp → R1) (x1 x5 x9 x10 x11 : AV) (H : Hp) : R1 :=
 dz 0 H fun b19 H =>
 dq false false 0 0 (b19 + 0) H [] [] (fun _ => .val x10) (some true) fun a20 H p w =>
 dq false false 1 0 (b19 + 1) H p w (fun _ => .val x11) (some true) fun a21 H p w =>
 dq false false 2 0 (b19 + 2) H p w (fun _ => .val x1) (some true) fun a22 H p w =>
 dq false false 3 0 (b19 + 3) H p w (fun _ => .val x11) (some true) fun a23 H p w =>
 dq false false 4 12 (b19 + 4) H p w (fun _ => idxS 1 a22 a23) (some true) fun a24 H p w =>
 dq true false 5 28 (b19 + 5) H p w (fun H => qao H a24) (some true) fun a25 H p w =>
 dq false false 6 0 (b19 + 6) H p w (fun _ => .val x5) (some true) fun a26 H p w =>
 dq false false 7 0 (b19 + 7) H p w (fun _ => .val x9) (some true) fun a27 H p w =>
 dq false false 8 192 (b19 + 8) H p w (fun _ => idxS 2 a26 a27) (some true) fun a28 H p w =>
 dq true false 9 448 (b19 + 9) H p w (fun H => qa7 2 H a28) (some true) fun a29 H p w =>
 de 1020 H p w (call (.f qgg) [a25, a29] (qck 1020 p H)) (some true) fun a30 H p w =>
 dq false false 11 2047 (b19 + 11) H p w (fun _ => idxS 1 a20 a21) (some true) fun a31 H p w =>
 de 4095 H p w (qcr (qck 4095 p H) a31 a30) (some true) fun _ H p w =>
 dz2 p H fun H =>
 qlv call g16 x11 H
def qly (call : Ev.Call) (q16e6 : Hp → R1) (x1 x5 x9 x10 : AV) (g16 : AV → Hp → R1) (x11 : AV) (H : Hp) : R1 :=
 vq (lenSl x1) H fun a34 H =>
 vq (intV (qad .lss).f x11 a34) H fun a35 H =>
 cd a35 (
 qlu call g16 x1 x5 x9 x10 x11 H) (
 q16e6 H)
def qfs (call : Ev.Call) (q16e6 : Hp → R1) (x1 x5 x9 x10 : AV) (n : Nat) : AV → Hp → R1 :=
 Nat.rec (motive := fun _ => AV → Hp → R1) (fun _ _ => .bad) (fun _ ih => qly call q16e6 x1 x5 x9 x10 ih) n
def ql1 (call : Ev.Call) (q16e6 : Hp → R1) (x1 x5 x9 x10 : AV) : AV → Hp → R1 := qfs call q16e6 x1 x5 x9 x10 qg0
def qlt (call : Ev.Call) (g2 : AV → AV → Hp → R1) (x1 x2 x5 x6 x9 : AV) (H : Hp) : R1 :=
 vq (lenSl x1) H fun a5 H =>
 vq (qry [.bool false] 1 H.nx a5 a5) H fun a6 H =>
 ql1 call (fun H => qey call g2 x2 x5 x6 x9 a6 H) x1 x5 x9 a6 (.int .i64 (.ofNat 0)) H
def qmv (call : Ev.Call) (q2e4 : AV → Hp → R1) (x1 x2 x5 : AV) (g2 : AV → AV → Hp → R1) (x6 x9 : AV) (H : Hp) : R1 :=
 vq (lenSl x5) H fun a37 H =>
 vq (intV (qad .lss).f x9 a37) H fun a38 H =>
 cd a38 (
 qlt call g2 x1 x2 x5 x6 x9 H) (
 q2e4 x6 H)
def qco (call : Ev.Call) (q2e4 : AV → Hp → R1) (x1 x2 x5 : AV) (n : Nat) : AV → AV → Hp → R1 :=
 Nat.rec (motive := fun _ => AV → AV → Hp → R1) (fun _ _ _ => .bad) (fun _ ih => qmv call q2e4 x1 x2 x5 ih) n
def qmw (call : Ev.Call) (q2e4 : AV → Hp → R1) (x1 x2 x5 : AV) : AV → AV → Hp → R1 := qco call q2e4 x1 x2 x5 qg0
def qb9 (call : Ev.Call) (x1 x2 x5 x6 : AV) (H : Hp) : R1 :=
 qmw call (fun x6 H => qce call x6 H) x1 x2 x5 x6 (.int .i64 (.ofNat 0)) H
def qex (call : Ev.Call) (g40 : AV → AV → Hp → R1) (x5 x7 : AV) (H : Hp) : R1 :=
 vq (intV (qad .add).f x7 (.int .i64 (.ofNat 1))) H fun a41 H =>
 g40 x5 a41 H
def qls (call : Ev.Call) (g43 : AV → AV → Hp → R1) (x5 x8 : AV) (H : Hp) : R1 :=
 vq (intV (qad .add).f x8 (.int .i64 (.ofNat 1))) H fun a44 H =>
 g43 x5 a44 H
def qlr (call : Ev.Call) (g43 : AV → AV → Hp → R1) (x1 x5 x7 x8 : AV) (H : Hp) : R1 :=
 vq (idxS 1 x1 x7) H fun a46 H =>
 vq (qao H a46) H fun a47 H =>
 vq (idxS 2 a47 x8) H fun a48 H =>
 vq (qa7 2 H a48) H fun a49 H =>
 ve (call (.f qlb) [x5, a49] H) fun a50 H =>
 qls call g43 a50 x8 H
def qlw (call : Ev.Call) (q43e2 : AV → Hp → R1) (x1 x7 : AV) (g43 : AV → AV → Hp → R1) (x5 x8 : AV) (H : Hp) : R1 :=
 vq (idxS 1 x1 x7) H fun a52 H =>
 vq (qao H a52) H fun a53 H =>
 vq (lenSl a53) H fun a54 H =>
 vq (intV (qad .lss).f x8 a54) H fun a55 H =>
 cd a55 (
 qlr call g43 x1 x5 x7 x8 H) (
 q43e2 x5 H)
def qfr (call : Ev.Call) (q43e2 : AV → Hp → R1) (x1 x7 : AV) (n : Nat) : AV → AV → Hp → R1 :=
 Nat.rec (motive := fun _ => AV → AV → Hp → R1) (fun _ _ _ => .bad) (fun _ ih => qlw call q43e2 x1 x7 ih) n
def qlz (call : Ev.Call) (q43e2 : AV → Hp → R1) (x1 x7 : AV) : AV → AV → Hp → R1 := qfr call q43e2 x1 x7 qg0
def qlq (call : Ev.Call) (g40 : AV → AV → Hp → R1) (x1 x5 x7 : AV) (H : Hp) : R1 :=
 qlz call (fun x5 H => qex call g40 x5 x7 H) x1 x7 x5 (.int .i64 (.ofNat 0)) H
def qlx (call : Ev.Call) (q40e0 : AV → Hp → R1) (x1 : AV) (g40 : AV → AV → Hp → R1) (x5 x7 : AV) (H : Hp) : R1 :=
 vq (lenSl x1) H fun a57 H =>
 vq (intV (qad .lss).f x7 a57) H fun a58 H =>
 cd a58 (
 qlq call g40 x1 x5 x7 H) (
 q40e0 x5 H)
def qcm (call : Ev.Call) (q40e0 : AV → Hp → R1) (x1 : AV) (n : Nat) : AV → AV → Hp → R1 :=
 Nat.rec (motive := fun _ => AV → AV → Hp → R1) (fun _ _ _ => .bad) (fun _ ih => qlx call q40e0 x1 ih) n
def ql0 (call : Ev.Call) (q40e0 : AV → Hp → R1) (x1 : AV) : AV → AV → Hp → R1 := qcm call q40e0 x1 qg0
def qnl (call : Ev.Call) (x0 x1 : AV) (H : Hp) : R1 :=
 vq (boxA 4 H.nx x0) H fun a0 H =>
 ql0 call (fun x5 H => qb9 call x1 a0 x5 (.nilsl) H) x1 (.nilsl) (.int .i64 (.ofNat 0)) H
def ref19_Sets (call : Ev.Call) (x0 x1 : AV) (H : Hp) : R1 := qnl call x0 x1 H
def qdr (call : Ev.Call) (H : Hp) : R1 :=
 .ok (.bool true) H
def qjh (call : Ev.Call) (g1 : AV → Hp → R1) (x5 : AV) (H : Hp) : R1 :=
 vq (intV (qad .add).f x5 (.int .i64 (.ofNat 1))) H fun a2 H =>
 g1 a2 H
def qjg (call : Ev.Call) (q1r : AV → Hp → R1) (g1 : AV → Hp → R1) (x0 x1 x5 : AV) (H : Hp) : R1 :=
 vl (idxS 2 x0 x5) fun a4 =>
 vl (qa7 2 H a4) fun a5 =>
 vl (idxS 2 x1 x5) fun a6 =>
 vl (qa7 2 H a6) fun a7 =>
 vl (qjn true ((⟨E2.f ⟨qol (eqFields [(p1, ⟨qjy⟩, 0), (p1, ⟨qjy⟩, 1)])⟩⟩ : E2).f a5 a7)) fun a8 =>
 cd a8 (
 q1r (.bool false) H) (
 qjh call g1 x5 H)
def qji (call : Ev.Call) (q1r : AV → Hp → R1) (q1e0 : Hp → R1) (x0 x1 : AV) (g1 : AV → Hp → R1) (x5 : AV) (H : Hp) : R1 :=
 vq (lenSl x1) H fun a10 H =>
 vq (intV (qad .lss).f x5 a10) H fun a11 H =>
 cd a11 (
 qjg call q1r g1 x0 x1 x5 H) (
 q1e0 H)
def qep (call : Ev.Call) (q1r : AV → Hp → R1) (q1e0 : Hp → R1) (x0 x1 : AV) (n : Nat) : AV → Hp → R1 :=
 Nat.rec (motive := fun _ => AV → Hp → R1) (fun _ _ => .bad) (fun _ ih => qji call q1r q1e0 x0 x1 ih) n
def qjj (call : Ev.Call) (q1r : AV → Hp → R1) (q1e0 : Hp → R1) (x0 x1 : AV) : AV → Hp → R1 := qep call q1r q1e0 x0 x1 qg0
def qib (call : Ev.Call) (x0 x1 : AV) (H : Hp) : R1 :=
 qjj call (fun x4 H => .ok x4 H) (fun H => qdr call H) x0 x1 (.int .i64 (.ofNat 0)) H
def qkw (call : Ev.Call) (x0 x1 : AV) (H : Hp) : R1 :=
 vq (lenSl x0) H fun a13 H =>
 vq (lenSl x1) H fun a14 H =>
 vq (intV (qad .neq).f a13 a14) H fun a15 H =>
 vg (qai false a15) (.val x0) H fun a16 H =>
 vg (qai false a15) (capV a16) H fun a17 H =>
 vg (qai false a15) (.val x0) H fun a18 H =>
 vg (qai false a15) (lenSl a18) H fun a19 H =>
 vg (qai false a15) (intV (qad .neq).f a17 a19) H fun a20 H =>
 vq (qd2 a15 (.bool true) a20) H fun a21 H =>
 cd a21 (
 .ok (.bool false) H) (
 qib call x0 x1 H)
def law19_objects (call : Ev.Call) (x0 x1 : AV) (H : Hp) : R1 := qkw call x0 x1 H
def qfb (call : Ev.Call) (H : Hp) : R1 :=
 .ok (.bool false) H
def qnr (call : Ev.Call) (g2 : AV → Hp → R1) (x5 : AV) (H : Hp) : R1 :=
 vq (intV (qad .add).f x5 (.int .i64 (.ofNat 1))) H fun a3 H =>
 g2 a3 H
def qnq (call : Ev.Call) (q2r : AV → Hp → R1) (g2 : AV → Hp → R1) (x0 x3 x5 : AV) (H : Hp) : R1 :=
 vl (idxS 2 x0 x5) fun a5 =>
 vl (qa7 2 H a5) fun a6 =>
 vl (qa7 2 H x3) fun a7 =>
 vl (qjn false ((⟨E2.f ⟨qol (eqFields [(p1, ⟨qjy⟩, 0), (p1, ⟨qjy⟩, 1)])⟩⟩ : E2).f a6 a7)) fun a8 =>
 cd a8 (
 q2r (.bool true) H) (
 qnr call g2 x5 H)
def qns (call : Ev.Call) (q2r : AV → Hp → R1) (q2e0 : Hp → R1) (x0 x3 : AV) (g2 : AV → Hp → R1) (x5 : AV) (H : Hp) : R1 :=
 vq (lenSl x0) H fun a10 H =>
 vq (intV (qad .lss).f x5 a10) H fun a11 H =>
 cd a11 (
 qnq call q2r g2 x0 x3 x5 H) (
 q2e0 H)
def qhh (call : Ev.Call) (q2r : AV → Hp → R1) (q2e0 : Hp → R1) (x0 x3 : AV) (n : Nat) : AV → Hp → R1 :=
 Nat.rec (motive := fun _ => AV → Hp → R1) (fun _ _ => .bad) (fun _ ih => qns call q2r q2e0 x0 x3 ih) n
def qnt (call : Ev.Call) (q2r : AV → Hp → R1) (q2e0 : Hp → R1) (x0 x3 : AV) : AV → Hp → R1 := qhh call q2r q2e0 x0 x3 qg0
def qox (call : Ev.Call) (x0 x1 : AV) (H : Hp) : R1 :=
 vq (boxA 2 H.nx x1) H fun a0 H =>
 qnt call (fun x4 H => .ok x4 H) (fun H => qfb call H) x0 a0 (.int .i64 (.ofNat 0)) H
def ref19_Has (call : Ev.Call) (x0 x1 : AV) (H : Hp) : R1 := qox call x0 x1 H
def qlh (call : Ev.Call) (x0 x1 : AV) (H : Hp) : R1 :=
 vq (aggN (qal [.nilfn, .nilfn, .nilfn] [(0, 1, (.fn qdw [] [])), (1, 1, (.fn qdv [] [])), (2, 1, (.fn qdu [] []))])) H fun a0 H =>
 ve (call (.f qde) [x0, (.int .i64 (.ofNat 0)), x1, a0] H) fun a1 H =>
 .ok (.tup [a1, (.int .i64 (.ofNat 0))]) H
def qih (call : Ev.Call) (x0 x1 : AV) (H : Hp) : R1 :=
 vq (lenSl x1) H fun a3 H =>
 ve (call (.f qfp) [x0] H) fun a4 H =>
 vq (intV (qad .neq).f a3 a4) H fun a5 H =>
 cd a5 (
 .ok (.tup [(.bool false), (.int .i64 (.ofNat 4))]) H) (
 qlh call x0 x1 H)
def qjp (call : Ev.Call) (x0 x1 : AV) (H : Hp) : R1 :=
 ve (call (.f qgf) [x0] H) fun a7 H =>
 vq (intV (qad .neq).f a7 (.int .i64 (.ofNat 0))) H fun a8 H =>
 cd a8 (
 .ok (.tup [(.bool false), a7]) H) (
 qih call x0 x1 H)
def tables_Eval (call : Ev.Call) (x0 x1 : AV) (H : Hp) : R1 := qjp call x0 x1 H
def qm0 (call : Ev.Call) (x2 x10 x11 : AV) (H : Hp) : R1 :=
 vg (qai true x11) (.val x10) H fun a1 H =>
 vg (qai true x11) ((unS .not).f a1) H fun a2 H =>
 vq (qd2 x11 a2 (.bool false)) H fun a3 H =>
 .ok (.tup [a3, x2]) H
def qjq (call : Ev.Call) (x2 x3 x9 x10 x11 : AV) (H : Hp) : R1 :=
 vq (qaj 0 x3) H fun a5 H =>
 vq (qao H a5) H fun a6 H =>
 vq (intV (qad .eql).f a6 (.int .u8 (.ofNat 5))) H fun a7 H =>
 cd a7 (
 .ok (.tup [x9, x2]) H) (
 qm0 call x2 x10 x11 H)
def qe1 (call : Ev.Call) (x2 x3 x8 x9 x10 x11 : AV) (H : Hp) : R1 :=
 vq (qaj 0 x3) H fun a9 H =>
 vq (qao H a9) H fun a10 H =>
 vq (intV (qad .eql).f a10 (.int .u8 (.ofNat 4))) H fun a11 H =>
 cd a11 (
 .ok (.tup [x8, x2]) H) (
 qjq call x2 x3 x9 x10 x11 H)
def qg5 (call : Ev.Call) (g13 : AV → AV → AV → AV → AV → AV → Hp → R1) (x2 x8 x9 x10 x11 x12 : AV) (H : Hp) : R1 :=
 vq (intV (qad .add).f x12 (.int .i64 (.ofNat 1))) H fun a14 H =>
 g13 x2 x8 x9 x10 x11 a14 H
def ql6 (call : Ev.Call) (g13 : AV → AV → AV → AV → AV → AV → Hp → R1) (x1 x2 x3 x8 x9 x11 x12 : AV) (H : Hp) : R1 :=
 vq (qaj 3 x3) H fun a16 H =>
 vq (qao H a16) H fun a17 H =>
 vq (idxS 4 a17 x12) H fun a18 H =>
 vq (qa7 4 H a18) H fun a19 H =>
 ve (call (.f qff) [a19, x1, x2] H) fun a20 H =>
 vq (extr 0 a20) H fun a21 H =>
 vq (extr 1 a20) H fun a22 H =>
 vg (qai false x8) (.val a21) H fun a23 H =>
 vq (qd2 x8 (.bool true) a23) H fun a24 H =>
 vg (qai true x9) (.val a21) H fun a25 H =>
 vq (qd2 x9 a25 (.bool false)) H fun a26 H =>
 vq (intV (qad .eql).f x12 (.int .i64 (.ofNat 0))) H fun a27 H =>
 cd a27 (
 qg5 call g13 a22 a24 a26 a21 a21 x12 H) (
 qg5 call g13 a22 a24 a26 a21 x11 x12 H)
def qg6 (call : Ev.Call) (q13e0 : AV → AV → AV → AV → AV → Hp → R1) (x1 x3 : AV) (g13 : AV → AV → AV → AV → AV → AV → Hp → R1) (x2 x8 x9 x10 x11 x12 : AV) (H : Hp) : R1 :=
 vq (qaj 3 x3) H fun a29 H =>
 vq (qao H a29) H fun a30 H =>
 vq (lenSl a30) H fun a31 H =>
 vq (intV (qad .lss).f x12 a31) H fun a32 H =>
 cd a32 (
 ql6 call g13 x1 x2 x3 x8 x9 x11 x12 H) (
 q13e0 x2 x8 x9 x10 x11 H)
def qe0 (call : Ev.Call) (q13e0 : AV → AV → AV → AV → AV → Hp → R1) (x1 x3 : AV) (n : Nat) : AV → AV → AV → AV → AV → AV → Hp → R1 :=
 Nat.rec (motive := fun _ => AV → AV → AV → AV → AV → AV → Hp → R1) (fun _ _ _ _ _ _ _ => .bad) (fun _ ih => qg6 call q13e0 x1 x3 ih) n
def ql7 (call : Ev.Call) (q13e0 : AV → AV → AV → AV → AV → Hp → R1) (x1 x3 : AV) : AV → AV → AV → AV → AV → AV → Hp → R1 := qe0 call q13e0 x1 x3 qg0
def ql5 (call : Ev.Call) (x1 x2 x3 : AV) (H : Hp) : R1 :=
 ql7 call (fun x2 x8 x9 x10 x11 H => qe1 call x2 x3 x8 x9 x10 x11 H) x1 x3 x2 (.bool false) (.bool true) (.bool false) (.bool false) (.int .i64 (.ofNat 0)) H
def qnv (call : Ev.Call) (x0 x1 x2 : AV) (H : Hp) : R1 :=
 vq (boxA 4 H.nx x0) H fun a0 H =>
 vq (qaj 0 a0) H fun a34 H =>
 vq (qao H a34) H fun a35 H =>
 vq (intV (qad .lss).f a35 (.int .u8 (.ofNat 4))) H fun a36 H =>
 cd a36 (
 vq (idxS 1 x1 x2) H fun a37 H =>
 vq (qao H a37) H fun a38 H =>
 vq (intV (qad .add).f x2 (.int .i64 (.ofNat 1))) H fun a39 H =>
 .ok (.tup [a38, a39]) H) (
 ql5 call x1 x2 a0 H)
def ref13_Eval (call : Ev.Call) (x0 x1 x2 : AV) (H : Hp) : R1 := qnv call x0 x1 x2 H
def qe2 (call : Ev.Call) (x1 x6 x10 : AV) (H : Hp) : R1 :=
 vq (qa7 4 H x10) H fun a7 H =>
 ve (qb5 4 H x6 a7) fun _ H =>
 finR (tupO (qd0 (rV (qa7 4 H x6)) (qd0 (some x1) (some [])))) H
def qk1 (call : Ev.Call) (g10 : AV → AV → Hp → R1) (x1 x11 : AV) (H : Hp) : R1 :=
 vq (intV (qad .add).f x11 (.int .i64 (.ofNat 1))) H fun a11 H =>
 g10 x1 a11 H
def qk0 (call : Ev.Call) (g10 : AV → AV → Hp → R1) (x0 x1 x2 x10 x11 : AV) (H : Hp) : R1 :=
 vq (.new (.ptr H.nx 0) (qac 0 [.int .u8 (.ofNat 0), .str 0 0, .str 0 0, .nilsl])) H fun a13 H =>
 vq (intV (qad .add).f x2 (.int .i64 (.ofNat 1))) H fun a14 H =>
 ve (call (.f qg7) [x0, x1, a14] H) fun a15 H =>
 vq (extr 0 a15) H fun a16 H =>
 vq (extr 1 a15) H fun a17 H =>
 ve (qb5 4 H a13 a16) fun _ H =>
 vq (qaj 3 x10) H fun a19 H =>
 vq (qao H a19) H fun a20 H =>
 vq (qa7 4 H a13) H fun a21 H =>
 vq (qis 1 H.nx (qal (reps [.int .u8 (.ofNat 0), .str 0 0, .str 0 0, .nilsl] 1) [(0, 4, a21)])) H fun a22 H =>
 ve (qbb 4 64 H a20 (qd3 4 H a22)) fun a23 H =>
 vq (qaj 3 x10) H fun a24 H =>
 ve (qcr H a24 a23) fun _ H =>
 qk1 call g10 a17 x11 H
def qk2 (call : Ev.Call) (q10e1 : AV → Hp → R1) (x0 x2 x9 x10 : AV) (g10 : AV → AV → Hp → R1) (x1 x11 : AV) (H : Hp) : R1 :=
 vq (intV (qad .lss).f x11 x9) H fun a27 H =>
 cd a27 (
 qk0 call g10 x0 x1 x2 x10 x11 H) (
 q10e1 x1 H)
def qe7 (call : Ev.Call) (q10e1 : AV → Hp → R1) (x0 x2 x9 x10 : AV) (n : Nat) : AV → AV → Hp → R1 :=
 Nat.rec (motive := fun _ => AV → AV → Hp → R1) (fun _ _ _ => .bad) (fun _ ih => qk2 call q10e1 x0 x2 x9 x10 ih) n
def qk3 (call : Ev.Call) (q10e1 : AV → Hp → R1) (x0 x2 x9 x10 : AV) : AV → AV → Hp → R1 := qe7 call q10e1 x0 x2 x9 x10 qg0
def qcp (call : Ev.Call) (x0 x1 x2 x6 x9 x10 : AV) (H : Hp) : R1 :=
 qk3 call (fun x1 H => qe2 call x1 x6 x10 H) x0 x2 x9 x10 x1 (.int .i64 (.ofNat 0)) H
def qca (call : Ev.Call) (x0 x1 x2 x6 x8 x9 x10 x35 x52 : AV) (H : Hp) : R1 :=
 cd x52 (
 vq (qaj 0 x10) H fun a41 H =>
 ve (qcr H a41 (.int .u8 (.ofNat 4))) fun _ H =>
 vq (intV (qad .quo).f x8 (.int .u8 (.ofNat 10))) H fun a43 H =>
 vq (intV (qad .rem).f a43 (.int .u8 (.ofNat 2))) H fun a44 H =>
 vq (qy7 .i64 a44) H fun a45 H =>
 vq (intV (qad .add).f (.int .i64 (.ofNat 2)) a45) H fun a46 H =>
 qcp call x0 x1 x2 x6 a46 x10 H) (
 vq (intV (qad .eql).f x35 (.int .u8 (.ofNat 8))) H fun a47 H =>
 cd a47 (
 vq (qaj 0 x10) H fun a48 H =>
 ve (qcr H a48 (.int .u8 (.ofNat 5))) fun _ H =>
 vq (intV (qad .quo).f x8 (.int .u8 (.ofNat 10))) H fun a50 H =>
 vq (intV (qad .rem).f a50 (.int .u8 (.ofNat 2))) H fun a51 H =>
 vq (qy7 .i64 a51) H fun a52 H =>
 vq (intV (qad .add).f (.int .i64 (.ofNat 2)) a52) H fun a53 H =>
 qcp call x0 x1 x2 x6 a53 x10 H) (
 vq (intV (qad .eql).f x35 (.int .u8 (.ofNat 9))) H fun a54 H =>
 cd a54 (
 vq (qaj 0 x10) H fun a55 H =>
 ve (qcr H a55 (.int .u8 (.ofNat 6))) fun _ H =>
 qcp call x0 x1 x2 x6 (.int .i64 (.ofNat 2)) x10 H) (
 qcp call x0 x1 x2 x6 x9 x10 H)))
def qbf (call : Ev.Call) (x0 x1 x2 x6 x8 x9 x10 x35 x36 : AV) (H : Hp) : R1 :=
 cd x36 (
 vq (intV (qad .quo).f x8 (.int .u8 (.ofNat 10))) H fun a30 H =>
 ve (call (.f qgm) [a30] H) fun a31 H =>
 vq (aggN (qal [.int .u8 (.ofNat 0), .str 0 0, .str 0 0, .nilsl] [(0, 1, (.int .u8 (.ofNat 2))), (1, 1, a31)])) H fun a32 H =>
 ve (qb5 4 H x10 a32) fun _ H =>
 qcp call x0 x1 x2 x6 x9 x10 H) (
 vq (intV (qad .eql).f x35 (.int .u8 (.ofNat 5))) H fun a34 H =>
 cd a34 (
 vq (intV (qad .quo).f x8 (.int .u8 (.ofNat 10))) H fun a35 H =>
 ve (call (.f qgm) [a35] H) fun a36 H =>
 vq (intV (qad .quo).f x8 (.int .u8 (.ofNat 50))) H fun a37 H =>
 ve (call (.f qgm) [a37] H) fun a38 H =>
 vq (aggN (qal [.int .u8 (.ofNat 0), .str 0 0, .str 0 0, .nilsl] [(0, 1, (.int .u8 (.ofNat 3))), (1, 1, a36), (2, 1, a38)])) H fun a39 H =>
 ve (qb5 4 H x10 a39) fun _ H =>
 qcp call x0 x1 x2 x6 x9 x10 H) (
 vq (intV (qad .eql).f x35 (.int .u8 (.ofNat 6))) H fun a58 H =>
 cd a58 (
 qca call x0 x1 x2 x6 x8 x9 x10 x35 a58 H) (
 vq (intV (qad .eql).f x35 (.int .u8 (.ofNat 7))) H fun a59 H =>
 qca call x0 x1 x2 x6 x8 x9 x10 x35 a59 H)))
def qkz (call : Ev.Call) (x0 x1 x2 x6 : AV) (H : Hp) : R1 :=
 vq (idxS 1 x0 x1) H fun a1 H =>
 vq (qao H a1) H fun a2 H =>
 vq (intV (qad .add).f x1 (.int .i64 (.ofNat 1))) H fun a3 H =>
 vq (aggN (qal [.int .u8 (.ofNat 0), .str 0 0, .str 0 0, .nilsl] [(0, 1, (.int .u8 (.ofNat 1)))])) H fun a4 H =>
 vq (.new (.ptr H.nx 0) (qac 0 [.int .u8 (.ofNat 0), .str 0 0, .str 0 0, .nilsl])) H fun a5 H =>
 ve (qb5 4 H a5 a4) fun _ H =>
 vq (intV (qad .rem).f a2 (.int .u8 (.ofNat 10))) H fun a29 H =>
 vq (intV (qad .eql).f a29 (.int .u8 (.ofNat 3))) H fun a61 H =>
 cd a61 (
 qbf call x0 a3 x2 x6 a2 (.int .i64 (.ofNat 0)) a5 a29 a61 H) (
 vq (intV (qad .eql).f a29 (.int .u8 (.ofNat 4))) H fun a62 H =>
 qbf call x0 a3 x2 x6 a2 (.int .i64 (.ofNat 0)) a5 a29 a62 H)
def qjr (call : Ev.Call) (x0 x1 x2 : AV) (H : Hp) : R1 :=
 vq (.new (.ptr H.nx 0) (qac 0 [.int .u8 (.ofNat 0), .str 0 0, .str 0 0, .nilsl])) H fun a0 H =>
 vq (lenSl x0) H fun a64 H =>
 vq (intV (qad .geq).f x1 a64) H fun a65 H =>
 vg (qai false a65) (.val x1) H fun a66 H =>
 vg (qai false a65) (intV (qad .geq).f a66 (.int .i64 (.ofNat 9))) H fun a67 H =>
 vq (qd2 a65 (.bool true) a67) H fun a68 H =>
 vg (qai false a68) (.val x2) H fun a69 H =>
 vg (qai false a68) (intV (qad .gtr).f a69 (.int .i64 (.ofNat 6))) H fun a70 H =>
 vq (qd2 a68 (.bool true) a70) H fun a71 H =>
 cd a71 (
 vq (aggN (qal [.int .u8 (.ofNat 0), .str 0 0, .str 0 0, .nilsl] [(0, 1, (.int .u8 (.ofNat 1)))])) H fun a72 H =>
 ve (qb5 4 H a0 a72) fun _ H =>
 finR (tupO (qd0 (rV (qa7 4 H a0)) (qd0 (some x1) (some [])))) H) (
 qkz call x0 x1 x2 a0 H)
def law13_build (call : Ev.Call) (x0 x1 x2 : AV) (H : Hp) : R1 := qjr call x0 x1 x2 H
def qez (call : Ev.Call) (x2 x3 : AV) (H : Hp) : R1 :=
 vq (qa7 4 H x3) H fun a11 H =>
 ve (qb5 4 H x2 a11) fun _ H =>
 finR (rV (qa7 4 H x2)) H
def qg3 (call : Ev.Call) (g14 : AV → Hp → R1) (x4 : AV) (H : Hp) : R1 :=
 vq (intV (qad .add).f x4 (.int .i64 (.ofNat 1))) H fun a15 H =>
 g14 a15 H
def ql3 (call : Ev.Call) (g14 : AV → Hp → R1) (x1 x3 x4 : AV) (H : Hp) : R1 :=
 vq (qaj 3 x1) H fun a17 H =>
 vq (qao H a17) H fun a18 H =>
 vq (idxS 4 a18 x4) H fun a19 H =>
 vq (qa7 4 H a19) H fun a20 H =>
 ve (call (.f qh1) [a20] H) fun a21 H =>
 vq (.new (.ptr H.nx 0) (qac 0 [.int .u8 (.ofNat 0), .str 0 0, .str 0 0, .nilsl])) H fun a22 H =>
 ve (qb5 4 H a22 a21) fun _ H =>
 vq (qaj 0 x1) H fun a24 H =>
 vq (qao H a24) H fun a25 H =>
 vq (intV (qad .eql).f a25 (.int .u8 (.ofNat 4))) H fun a26 H =>
 vg (qai false a26) (qaj 0 x1) H fun a27 H =>
 vg (qai false a26) (qao H a27) H fun a28 H =>
 vg (qai false a26) (intV (qad .eql).f a28 (.int .u8 (.ofNat 5))) H fun a29 H =>
 vq (qd2 a26 (.bool true) a29) H fun a30 H =>
 vg (qai true a30) (qaj 0 a22) H fun a31 H =>
 vg (qai true a30) (qao H a31) H fun a32 H =>
 vg (qai true a30) (qaj 0 x1) H fun a33 H =>
 vg (qai true a30) (qao H a33) H fun a34 H =>
 vg (qai true a30) (intV (qad .eql).f a32 a34) H fun a35 H =>
 vq (qd2 a30 a35 (.bool false)) H fun a36 H =>
 cd a36 (
 vq (qaj 3 x3) H fun a37 H =>
 vq (qao H a37) H fun a38 H =>
 vq (qaj 3 a22) H fun a39 H =>
 vq (qao H a39) H fun a40 H =>
 ve (qbb 4 64 H a38 (qd3 4 H a40)) fun a41 H =>
 vq (qaj 3 x3) H fun a42 H =>
 ve (qcr H a42 a41) fun _ H =>
 qg3 call g14 x4 H) (
 vq (qaj 3 x3) H fun a44 H =>
 vq (qao H a44) H fun a45 H =>
 vq (qa7 4 H a22) H fun a46 H =>
 vq (qis 1 H.nx (qal (reps [.int .u8 (.ofNat 0), .str 0 0, .str 0 0, .nilsl] 1) [(0, 4, a46)])) H fun a47 H =>
 ve (qbb 4 64 H a45 (qd3 4 H a47)) fun a48 H =>
 vq (qaj 3 x3) H fun a49 H =>
 ve (qcr H a49 a48) fun _ H =>
 qg3 call g14 x4 H)
def qg4 (call : Ev.Call) (q14e0 : Hp → R1) (x1 x3 : AV) (g14 : AV → Hp → R1) (x4 : AV) (H : Hp) : R1 :=
 vq (qaj 3 x1) H fun a52 H =>
 vq (qao H a52) H fun a53 H =>
 vq (lenSl a53) H fun a54 H =>
 vq (intV (qad .lss).f x4 a54) H fun a55 H =>
 cd a55 (
 ql3 call g14 x1 x3 x4 H) (
 q14e0 H)
def qd5 (call : Ev.Call) (q14e0 : Hp → R1) (x1 x3 : AV) (n : Nat) : AV → Hp → R1 :=
 Nat.rec (motive := fun _ => AV → Hp → R1) (fun _ _ => .bad) (fun _ ih => qg4 call q14e0 x1 x3 ih) n
def ql4 (call : Ev.Call) (q14e0 : Hp → R1) (x1 x3 : AV) : AV → Hp → R1 := qd5 call q14e0 x1 x3 qg0
def qnu (call : Ev.Call) (x0 : AV) (H : Hp) : R1 :=
 vq (boxA 4 H.nx x0) H fun a0 H =>
 vq (.new (.ptr H.nx 0) (qac 0 [.int .u8 (.ofNat 0), .str 0 0, .str 0 0, .nilsl])) H fun a1 H =>
 vq (qaj 0 a0) H fun a2 H =>
 vq (qao H a2) H fun a3 H =>
 vq (qaj 1 a0) H fun a4 H =>
 vq (qao H a4) H fun a5 H =>
 vq (qaj 2 a0) H fun a6 H =>
 vq (qao H a6) H fun a7 H =>
 vq (aggN (qal [.int .u8 (.ofNat 0), .str 0 0, .str 0 0, .nilsl] [(0, 1, a3), (1, 1, a5), (2, 1, a7)])) H fun a8 H =>
 vq (.new (.ptr H.nx 0) (qac 0 [.int .u8 (.ofNat 0), .str 0 0, .str 0 0, .nilsl])) H fun a9 H =>
 ve (qb5 4 H a9 a8) fun _ H =>
 ql4 call (fun H => qez call a1 a9 H) a0 a9 (.int .i64 (.ofNat 0)) H
def ref19_Flat (call : Ev.Call) (x0 : AV) (H : Hp) : R1 := qnu call x0 H
def qef (call : Ev.Call) (x0 x7 x8 : AV) (H : Hp) : R1 :=
 vq (idxS 5 x0 x7) H fun a11 H =>
 vq (qaj 3 a11) H fun a12 H =>
 ve (qcr H a12 x8) fun _ H =>
 .ok x0 H
def qf6 (call : Ev.Call) (g15 : AV → AV → AV → Hp → R1) (x0 x8 x9 : AV) (H : Hp) : R1 :=
 vq (intV (qad .add).f x9 (.int .i64 (.ofNat 1))) H fun a16 H =>
 g15 x0 x8 a16 H
def qkt (call : Ev.Call) (g15 : AV → AV → AV → Hp → R1) (x0 x2 x4 x8 x9 : AV) (H : Hp) : R1 :=
 vq (lenSl x0) H fun a18 H =>
 vq (qis 1 H.nx (qal (reps [.int .i64 (.ofNat 0)] 1) [(0, 1, a18)])) H fun a19 H =>
 ve (qbb 1 8 H x8 (qd3 1 H a19)) fun a20 H =>
 dz 0 H fun b21 H =>
 dq false false 0 0 (b21 + 0) H [] [] (fun _ => .val x0) (some true) fun a22 H p w =>
 dq false false 1 0 (b21 + 1) H p w (fun _ => qaj 3 x4) (some true) fun a23 H p w =>
 dq true false 2 2 (b21 + 2) H p w (fun H => qao H a23) (some true) fun a24 H p w =>
 dq false false 3 0 (b21 + 3) H p w (fun _ => .val x9) (some true) fun a25 H p w =>
 dq false false 4 14 (b21 + 4) H p w (fun _ => idxS 4 a24 a25) (some true) fun a26 H p w =>
 dq true false 5 30 (b21 + 5) H p w (fun H => qa7 4 H a26) (some true) fun a27 H p w =>
 dq false false 6 0 (b21 + 6) H p w (fun _ => .val x2) (some true) fun a28 H p w =>
 dq false false 7 64 (b21 + 7) H p w (fun _ => .val a28) (some true) fun a29 H p w =>
 dq false false 8 192 (b21 + 8) H p w (fun _ => qaj 0 x4) (qai false a29) fun a30 H p w =>
 dq true false 9 448 (b21 + 9) H p w (fun H => qao H a30) (qai false a29) fun a31 H p w =>
 dq false false 10 960 (b21 + 10) H p w (fun _ => intV (qad .eql).f a31 (.int .u8 (.ofNat 6))) (qai false a29) fun a32 H p w =>
 dq false false 11 1984 (b21 + 11) H p w (fun _ => .val a32) (qai false a29) fun a33 H p w =>
 dq false false 12 4032 (b21 + 12) H p w (fun _ => .val x9) (qai true a33) fun a34 H p w =>
 dq false false 13 8128 (b21 + 13) H p w (fun _ => intV (qad .eql).f a34 (.int .i64 (.ofNat 1))) (qai true a33) fun a35 H p w =>
 dq false false 14 16320 (b21 + 14) H p w (fun _ => qd2 a33 a35 (.bool false)) (qai false a29) fun a36 H p w =>
 dq false false 15 32704 (b21 + 15) H p w (fun _ => qd2 a29 (.bool true) a36) (some true) fun a37 H p w =>
 de 65535 H p w (call (.f qd8) [a22, a27, a37] (qck 65535 p H)) (some true) fun a38 H p w =>
 dq false false 17 131071 (b21 + 17) H p w (fun _ => .val a38) (some true) fun a39 H p w =>
 dz2 p H fun H =>
 qf6 call g15 a39 a20 x9 H
def qf7 (call : Ev.Call) (q15e0 : AV → AV → Hp → R1) (x2 x4 : AV) (g15 : AV → AV → AV → Hp → R1) (x0 x8 x9 : AV) (H : Hp) : R1 :=
 vq (qaj 3 x4) H fun a41 H =>
 vq (qao H a41) H fun a42 H =>
 vq (lenSl a42) H fun a43 H =>
 vq (intV (qad .lss).f x9 a43) H fun a44 H =>
 cd a44 (
 qkt call g15 x0 x2 x4 x8 x9 H) (
 q15e0 x0 x8 H)
def qdh (call : Ev.Call) (q15e0 : AV → AV → Hp → R1) (x2 x4 : AV) (n : Nat) : AV → AV → AV → Hp → R1 :=
 Nat.rec (motive := fun _ => AV → AV → AV → Hp → R1) (fun _ _ _ _ => .bad) (fun _ ih => qf7 call q15e0 x2 x4 ih) n
def qku (call : Ev.Call) (q15e0 : AV → AV → Hp → R1) (x2 x4 : AV) : AV → AV → AV → Hp → R1 := qdh call q15e0 x2 x4 qg0
def qmz (call : Ev.Call) (x0 x1 x2 : AV) (H : Hp) : R1 :=
 vq (boxA 4 H.nx x1) H fun a0 H =>
 vq (lenSl x0) H fun a1 H =>
 vq (qaj 0 a0) H fun a2 H =>
 vq (qao H a2) H fun a3 H =>
 vq (qaj 1 a0) H fun a4 H =>
 vq (qao H a4) H fun a5 H =>
 vq (qaj 2 a0) H fun a6 H =>
 vq (qao H a6) H fun a7 H =>
 vq (aggN (qal [.int .u8 (.ofNat 0), .str 0 0, .str 0 0, .nilsl, .bool false] [(0, 1, a3), (1, 1, a5), (2, 1, a7), (4, 1, x2)])) H fun a8 H =>
 vq (qis 1 H.nx (qal (reps [.int .u8 (.ofNat 0), .str 0 0, .str 0 0, .nilsl, .bool false] 1) [(0, 5, a8)])) H fun a9 H =>
 ve (qbb 5 72 H x0 (qd3 5 H a9)) fun a10 H =>
 qku call (fun x0 x8 H => qef call x0 a1 x8 H) x2 a0 a10 (.nilsl) (.int .i64 (.ofNat 0)) H
def ref13_Nodes (call : Ev.Call) (x0 x1 x2 : AV) (H : Hp) : R1 := qmz call x0 x1 x2 H
def qdo (call : Ev.Call) (H : Hp) : R1 :=
 .ok (.int .i64 (.ofNat 0)) H
def qa8 : Ev.Call → Hp → R1 := Classical.choose (⟨qdo, rfl⟩ : ∃ f, f = qdo)
theorem qla : qa8 = qdo := Classical.choose_spec (⟨qdo, rfl⟩ : ∃ f, f = qdo)
def qdn (call : Ev.Call) (g2 : AV → AV → Hp → R1) (x8 x42 : AV) (H : Hp) : R1 :=
 vq (intV (qad .add).f x42 (.int .i64 (.ofNat 1))) H fun a4 H =>
 g2 x8 a4 H
def qkh : Ev.Call → (AV → AV → Hp → R1) → AV → AV → Hp → R1 := Classical.choose (⟨qdn, rfl⟩ : ∃ f, f = qdn)
theorem qk9 : qkh = qdn := Classical.choose_spec (⟨qdn, rfl⟩ : ∃ f, f = qdn)
def qdm (call : Ev.Call) (q2r : AV → Hp → R1) (g2 : AV → AV → Hp → R1) (x8 x42 x76 : AV) (H : Hp) : R1 :=
 cd x76 (
 q2r (.int .i64 (.ofNat 5)) H) (
 qkh call g2 x8 x42 H)
def qke : Ev.Call → (AV → Hp → R1) → (AV → AV → Hp → R1) → AV → AV → AV → Hp → R1 := Classical.choose (⟨qdm, rfl⟩ : ∃ f, f = qdm)
theorem qk8 : qke = qdm := Classical.choose_spec (⟨qdm, rfl⟩ : ∃ f, f = qdm)
def qdb (call : Ev.Call) (q2r : AV → Hp → R1) (g2 : AV → AV → Hp → R1) (x8 x10 x11 x42 : AV) (H : Hp) : R1 :=
 vq (qaj 5 x10) H fun a7 H =>
 vq (qao H a7) H fun a8 H =>
 vq (intV (qad .neq).f a8 x11) H fun a9 H =>
 vg (qai false a9) (qaj 0 x10) H fun a10 H =>
 vg (qai false a9) (qao H a10) H fun a11 H =>
 vg (qai false a9) (intV (qad .eql).f a11 (.int .u8 (.ofNat 3))) H fun a12 H =>
 vg (qai false a9) (qaj 3 x10) H fun a13 H =>
 vg (qai false a9) (qao H a13) H fun a14 H =>
 vg (qai false a9) (lenSl a14) H fun a15 H =>
 vg (qai false a9) (intV (qad .gtr).f a15 (.int .i64 (.ofNat 0))) H fun a16 H =>
 vg (qai false a9) (qjn true ((⟨E2.f ⟨qml⟩⟩ : E2).f a12 a16)) H fun a17 H =>
 vq (qd2 a9 (.bool true) a17) H fun a18 H =>
 vg (qai false a18) (qaj 0 x10) H fun a19 H =>
 vg (qai false a18) (qao H a19) H fun a20 H =>
 vg (qai false a18) (intV (qad .eql).f a20 (.int .u8 (.ofNat 3))) H fun a21 H =>
 vg (qai false a18) (.val a21) H fun a22 H =>
 vg (qai true a22) (qaj 3 x10) H fun a23 H =>
 vg (qai true a22) (qao H a23) H fun a24 H =>
 veg (qai true a22) (call (.f qhd) [a24] H) H fun a25 H =>
 vg (qai true a22) ((unS .not).f a25) H fun a26 H =>
 vg (qai false a18) (qd2 a22 a26 (.bool false)) H fun a27 H =>
 vq (qd2 a18 (.bool true) a27) H fun a28 H =>
 qke call q2r g2 x8 x42 a28 H
def qha : Ev.Call → (AV → Hp → R1) → (AV → AV → Hp → R1) → AV → AV → AV → AV → Hp → R1 := Classical.choose (⟨qdb, rfl⟩ : ∃ f, f = qdb)
theorem qkn : qha = qdb := Classical.choose_spec (⟨qdb, rfl⟩ : ∃ f, f = qdb)
def qda (call : Ev.Call) (q2r : AV → Hp → R1) (g2 : AV → AV → Hp → R1) (x8 x10 x42 : AV) (H : Hp) : R1 :=
 vq (qaj 0 x10) H fun a30 H =>
 vq (qao H a30) H fun a31 H =>
 vq (intV (qad .leq).f a31 (.int .u8 (.ofNat 3))) H fun a32 H =>
 cd a32 (
 vq (intV (qad .add).f x8 (.int .i64 (.ofNat 1))) H fun a33 H =>
 qha call q2r g2 a33 x10 x8 x42 H) (
 qha call q2r g2 x8 x10 (.int .i64 (.negSucc 0)) x42 H)
def qjc : Ev.Call → (AV → Hp → R1) → (AV → AV → Hp → R1) → AV → AV → AV → Hp → R1 := Classical.choose (⟨qda, rfl⟩ : ∃ f, f = qda)
theorem qkm : qjc = qda := Classical.choose_spec (⟨qda, rfl⟩ : ∃ f, f = qda)
def qc9 (call : Ev.Call) (q2r : AV → Hp → R1) (g2 : AV → AV → Hp → R1) (x8 x40 x42 : AV) (H : Hp) : R1 :=
 vq (idxS 6 x40 x42) H fun a35 H =>
 vq (qa7 6 H a35) H fun a36 H =>
 vq (.new (.ptr H.nx 0) (qac 0 [.int .u8 (.ofNat 0), .str 0 0, .str 0 0, .nilsl, .nilsl, .int .i64 (.ofNat 0)])) H fun a37 H =>
 ve (qb5 6 H a37 a36) fun _ H =>
 qjc call q2r g2 x8 a37 x42 H
def qjb : Ev.Call → (AV → Hp → R1) → (AV → AV → Hp → R1) → AV → AV → AV → Hp → R1 := Classical.choose (⟨qc9, rfl⟩ : ∃ f, f = qc9)
theorem qkl : qjb = qc9 := Classical.choose_spec (⟨qc9, rfl⟩ : ∃ f, f = qc9)
def qko (call : Ev.Call) (q2r : AV → Hp → R1) (q2e0 : Hp → R1) (x40 x41 : AV) (g2 : AV → AV → Hp → R1) (x8 x42 : AV) (H : Hp) : R1 :=
 vq (intV (qad .lss).f x42 x41) H fun a3 H =>
 cd a3 (
 qjb call q2r g2 x8 x40 x42 H) (
 q2e0 H)
def qba (call : Ev.Call) (q2r : AV → Hp → R1) (q2e0 : Hp → R1) (x40 x41 : AV) (n : Nat) : AV → AV → Hp → R1 :=
 Nat.rec (motive := fun _ => AV → AV → Hp → R1) (fun _ _ _ => .bad) (fun _ ih => qko call q2r q2e0 x40 x41 ih) n
def qkp (call : Ev.Call) (q2r : AV → Hp → R1) (q2e0 : Hp → R1) (x40 x41 : AV) : AV → AV → Hp → R1 := qba call q2r q2e0 x40 x41 qg0
def qc8 (call : Ev.Call) (x0 : AV) (H : Hp) : R1 :=
 vq (lenSl x0) H fun a1 H =>
 qkp call (fun x2 H => .ok x2 H) (fun H => qa8 call H) x0 a1 (.int .i64 (.ofNat 0)) (.int .i64 (.ofNat 0)) H
def qja : Ev.Call → AV → Hp → R1 := Classical.choose (⟨qc8, rfl⟩ : ∃ f, f = qc8)
theorem qkk : qja = qc8 := Classical.choose_spec (⟨qc8, rfl⟩ : ∃ f, f = qc8)
def qc7 (call : Ev.Call) (x0 x39 : AV) (H : Hp) : R1 :=
 cd x39 (
 .ok (.int .i64 (.ofNat 5)) H) (
 qja call x0 H)
def qi9 : Ev.Call → AV → AV → Hp → R1 := Classical.choose (⟨qc7, rfl⟩ : ∃ f, f = qc7)
theorem qkj : qi9 = qc7 := Classical.choose_spec (⟨qc7, rfl⟩ : ∃ f, f = qc7)
def qc0 (call : Ev.Call) (x0 x3 x6 : AV) (H : Hp) : R1 :=
 vq (qa7 4 H x6) H fun a42 H =>
 vq (qa7 4 H x3) H fun a43 H =>
 ve (call (.f qjs) [a42, a43] H) fun a44 H =>
 vq ((unS .not).f a44) H fun a45 H =>
 qi9 call x0 a45 H
def qi8 : Ev.Call → AV → AV → AV → Hp → R1 := Classical.choose (⟨qc0, rfl⟩ : ∃ f, f = qc0)
theorem qki : qi8 = qc0 := Classical.choose_spec (⟨qc0, rfl⟩ : ∃ f, f = qc0)
def qcz (call : Ev.Call) (x0 x3 : AV) (H : Hp) : R1 :=
 vq (qa7 4 H x3) H fun a47 H =>
 ve (call (.f qjt) [a47] H) fun a48 H =>
 vq (extr 0 a48) H fun a49 H =>
 vq (extr 1 a48) H fun a50 H =>
 vq (.new (.ptr H.nx 0) (qac 0 [.int .u8 (.ofNat 0), .str 0 0, .str 0 0, .nilsl])) H fun a51 H =>
 ve (qb5 4 H a51 a49) fun _ H =>
 qi8 call x0 x3 a51 H
def qi7 : Ev.Call → AV → AV → Hp → R1 := Classical.choose (⟨qcz, rfl⟩ : ∃ f, f = qcz)
theorem qkg : qi7 = qcz := Classical.choose_spec (⟨qcz, rfl⟩ : ∃ f, f = qcz)
def qcy (call : Ev.Call) (x0 x3 x30 : AV) (H : Hp) : R1 :=
 cd x30 (
 .ok (.int .i64 (.ofNat 5)) H) (
 qi7 call x0 x3 H)
def qi6 : Ev.Call → AV → AV → AV → Hp → R1 := Classical.choose (⟨qcy, rfl⟩ : ∃ f, f = qcy)
theorem qkf : qi6 = qcy := Classical.choose_spec (⟨qcy, rfl⟩ : ∃ f, f = qcy)
def qcx (call : Ev.Call) (x0 x3 x4 x5 : AV) (H : Hp) : R1 :=
 vq ((unS .not).f x5) H fun a55 H =>
 vg (qai false a55) (.val x4) H fun a56 H =>
 vg (qai false a55) (.val x0) H fun a57 H =>
 vg (qai false a55) (lenSl a57) H fun a58 H =>
 vg (qai false a55) (intV (qad .neq).f a56 a58) H fun a59 H =>
 vq (qd2 a55 (.bool true) a59) H fun a60 H =>
 vg (qai false a60) (qa7 4 H x3) H fun a61 H =>
 veg (qai false a60) (call (.f qfu) [a61] H) H fun a62 H =>
 vg (qai false a60) (intV (qad .neq).f a62 (.int .i64 (.ofNat 0))) H fun a63 H =>
 vq (qd2 a60 (.bool true) a63) H fun a64 H =>
 qi6 call x0 x3 a64 H
def qi5 : Ev.Call → AV → AV → AV → AV → Hp → R1 := Classical.choose (⟨qcx, rfl⟩ : ∃ f, f = qcx)
theorem qkd : qi5 = qcx := Classical.choose_spec (⟨qcx, rfl⟩ : ∃ f, f = qcx)
def qli (call : Ev.Call) (x0 : AV) (H : Hp) : R1 :=
 ve (call (.f qge) [x0, (.int .i64 (.ofNat 0))] H) fun a66 H =>
 vq (extr 0 a66) H fun a67 H =>
 vq (extr 1 a66) H fun a68 H =>
 vq (extr 2 a66) H fun a69 H =>
 vq (.new (.ptr H.nx 0) (qac 0 [.int .u8 (.ofNat 0), .str 0 0, .str 0 0, .nilsl])) H fun a70 H =>
 ve (qb5 4 H a70 a67) fun _ H =>
 qi5 call x0 a70 a68 a69 H
def tables_Check (call : Ev.Call) (x0 : AV) (H : Hp) : R1 := qli call x0 H
def qdl (call : Ev.Call) (x3 : AV) (H : Hp) : R1 :=
 .ok x3 H
def qg8 (call : Ev.Call) (g2 : AV → AV → Hp → R1) (x3 x8 : AV) (H : Hp) : R1 :=
 vq (intV (qad .add).f x8 (.int .i64 (.ofNat 1))) H fun a4 H =>
 g2 x3 a4 H
def qh5 (call : Ev.Call) (g2 : AV → AV → Hp → R1) (x3 x6 x8 : AV) (H : Hp) : R1 :=
 vq (idxS 6 x6 x8) H fun a6 H =>
 vq (qa7 6 H a6) H fun a7 H =>
 vq (.new (.ptr H.nx 0) (qac 0 [.int .u8 (.ofNat 0), .str 0 0, .str 0 0, .nilsl, .nilsl, .int .i64 (.ofNat 0)])) H fun a8 H =>
 ve (qb5 6 H a8 a7) fun _ H =>
 vq (qaj 5 a8) H fun a10 H =>
 vq (qao H a10) H fun a11 H =>
 vq (intV (qad .add).f a11 (.int .i64 (.ofNat 1))) H fun a12 H =>
 vq (qo0 maxV x3 [a12]) H fun a13 H =>
 qg8 call g2 a13 x8 H
def qix (call : Ev.Call) (q2e0 : AV → Hp → R1) (x6 x7 : AV) (g2 : AV → AV → Hp → R1) (x3 x8 : AV) (H : Hp) : R1 :=
 vq (intV (qad .lss).f x8 x7) H fun a3 H =>
 cd a3 (
 qh5 call g2 x3 x6 x8 H) (
 q2e0 x3 H)
def qeo (call : Ev.Call) (q2e0 : AV → Hp → R1) (x6 x7 : AV) (n : Nat) : AV → AV → Hp → R1 :=
 Nat.rec (motive := fun _ => AV → AV → Hp → R1) (fun _ _ _ => .bad) (fun _ ih => qix call q2e0 x6 x7 ih) n
def qiy (call : Ev.Call) (q2e0 : AV → Hp → R1) (x6 x7 : AV) : AV → AV → Hp → R1 := qeo call q2e0 x6 x7 qg0
def qj4 (call : Ev.Call) (x0 : AV) (H : Hp) : R1 :=
 vq (lenSl x0) H fun a1 H =>
 qiy call (fun x3 H => qdl call x3 H) x0 a1 (.int .i64 (.ofNat 0)) (.int .i64 (.ofNat 0)) H
def tables_leaves (call : Ev.Call) (x0 : AV) (H : Hp) : R1 := qj4 call x0 H
def qg9 (call : Ev.Call) (x0 x1 : AV) (H : Hp) : R1 :=
 vq (boxA 2 H.nx x0) H fun a0 H =>
 vq (boxA 2 H.nx x1) H fun a1 H =>
 dz 13 H fun b2 H =>
 dq false false 0 0 (b2 + 0) H [] [] (fun _ => qaj 0 a0) (some true) fun a3 H p w =>
 dq true false 1 1 (b2 + 1) H p w (fun H => qao H a3) (some true) fun a4 H p w =>
 dq false false 2 0 (b2 + 2) H p w (fun _ => qaj 0 a1) (some true) fun a5 H p w =>
 dq true false 3 4 (b2 + 3) H p w (fun H => qao H a5) (some true) fun a6 H p w =>
 dq false false 5 0 (b2 + 5) H p w (fun _ => qaj 1 a0) (some true) fun a7 H p w =>
 dq true false 6 32 (b2 + 6) H p w (fun H => qao H a7) (some true) fun a8 H p w =>
 dq false false 7 0 (b2 + 7) H p w (fun _ => qaj 1 a1) (some true) fun a9 H p w =>
 dq true false 8 128 (b2 + 8) H p w (fun H => qao H a9) (some true) fun a10 H p w =>
 de 15 H p w (call (.f qci) [a4, a6] (qck 15 p H)) (some true) fun a11 H p w =>
 de 511 H p w (call (.f qci) [a8, a10] (qck 511 p H)) (some true) fun a12 H p w =>
 dq false true 10 1023 (b2 + 10) H p w (fun _ => qis 2 (b2 + 10) (qal (reps [.int .i64 (.ofNat 0)] 2) [(0, 1, a11), (1, 1, a12)])) (some true) fun a13 H p w =>
 de 2047 H p w (call (.f qjx) [a13] (qck 2047 p H)) (some true) fun a14 H p w =>
 dq false false 12 4095 (b2 + 12) H p w (fun _ => .val a14) (some true) fun a15 H p w =>
 dz2 p H fun H =>
 .ok a15 H
def tables_compare (call : Ev.Call) (x0 x1 : AV) (H : Hp) : R1 := qg9 call x0 x1 H
def qnf (call : Ev.Call) (x0 : AV) (H : Hp) : R1 :=
 vq (box1 H.nx x0) H fun a0 H =>
 .ok (.fn qb6 [] [a0]) H
def tables_chosen (call : Ev.Call) (x0 : AV) (H : Hp) : R1 := qnf call x0 H
def qj9 (call : Ev.Call) (x0 x1 : AV) (H : Hp) : R1 :=
 vg (qai false x0) (.val x1) H fun a0 H =>
 vq (qd2 x0 (.bool true) a0) H fun a1 H =>
 .ok a1 H
def tables_Sets_1 (call : Ev.Call) (x0 x1 : AV) (H : Hp) : R1 := qj9 call x0 x1 H
def qj8 (call : Ev.Call) (x0 x1 : AV) (H : Hp) : R1 :=
 vg (qai true x0) (.val x1) H fun a0 H =>
 vq (qd2 x0 a0 (.bool false)) H fun a1 H =>
 .ok a1 H
def tables_Sets_2 (call : Ev.Call) (x0 x1 : AV) (H : Hp) : R1 := qj8 call x0 x1 H
def qj7 (call : Ev.Call) (x0 x1 : AV) (H : Hp) : R1 :=
 vg (qai true x0) (.val x1) H fun a0 H =>
 vg (qai true x0) ((unS .not).f a0) H fun a1 H =>
 vq (qd2 x0 a1 (.bool false)) H fun a2 H =>
 .ok a2 H
def tables_Sets_3 (call : Ev.Call) (x0 x1 : AV) (H : Hp) : R1 := qj7 call x0 x1 H
def qa9 (call : Ev.Call) (x10 : AV) (H : Hp) : R1 :=
 .ok x10 H
def qb0 (call : Ev.Call) (g20 : AV → AV → Hp → R1) (x10 x37 : AV) (H : Hp) : R1 :=
 vq (intV (qad .add).f x37 (.int .i64 (.ofNat 1))) H fun a22 H =>
 g20 x10 a22 H
def qel (call : Ev.Call) (g20 : AV → AV → Hp → R1) (x0 x2 x7 x9 x10 x35 x37 : AV) (H : Hp) : R1 :=
 vq (idxS 1 x35 x37) H fun a24 H =>
 vq (qao H a24) H fun a25 H =>
 dz 0 H fun b26 H =>
 dq false false 0 0 (b26 + 0) H [] [] (fun _ => qaj 0 x9) (some true) fun a27 H p w =>
 dq true false 1 1 (b26 + 1) H p w (fun H => qao H a27) (some true) fun a28 H p w =>
 dq false false 2 3 (b26 + 2) H p w (fun _ => intV (qad .sub).f a28 (.int .u8 (.ofNat 4))) (some true) fun a29 H p w =>
 dq false false 3 7 (b26 + 3) H p w (fun _ => idxA 3 1 x7 a29) (some true) fun a30 H p w =>
 dq true false 4 15 (b26 + 4) H p w (fun H => qao H a30) (some true) fun a31 H p w =>
 dq false false 5 0 (b26 + 5) H p w (fun _ => .val x10) (some true) fun a32 H p w =>
 dq false false 6 0 (b26 + 6) H p w (fun _ => .val x0) (some true) fun a33 H p w =>
 dq false false 7 0 (b26 + 7) H p w (fun _ => .val a25) (some true) fun a34 H p w =>
 dq false false 8 0 (b26 + 8) H p w (fun _ => .val x2) (some true) fun a35 H p w =>
 dq true false 9 0 (b26 + 9) H p w (fun H => qa7 3 H x7) (some true) fun a36 H p w =>
 de 960 H p w (call (.f qbo) [a33, a34, a35, a36] (qck 960 p H)) (some true) fun a37 H p w =>
 de 2047 H p w (qom call a31 [a32, a37] (qck 2047 p H)) (some true) fun a38 H p w =>
 dq false false 12 4095 (b26 + 12) H p w (fun _ => .val a38) (some true) fun a39 H p w =>
 dz2 p H fun H =>
 qb0 call g20 a39 x37 H
def qb1 (call : Ev.Call) (q20e0 : AV → Hp → R1) (x0 x2 x7 x9 x35 x36 : AV) (g20 : AV → AV → Hp → R1) (x10 x37 : AV) (H : Hp) : R1 :=
 vq (intV (qad .lss).f x37 x36) H fun a21 H =>
 cd a21 (
 qel call g20 x0 x2 x7 x9 x10 x35 x37 H) (
 q20e0 x10 H)
def qa4 (call : Ev.Call) (q20e0 : AV → Hp → R1) (x0 x2 x7 x9 x35 x36 : AV) (n : Nat) : AV → AV → Hp → R1 :=
 Nat.rec (motive := fun _ => AV → AV → Hp → R1) (fun _ _ _ => .bad) (fun _ ih => qb1 call q20e0 x0 x2 x7 x9 x35 x36 ih) n
def qem (call : Ev.Call) (q20e0 : AV → Hp → R1) (x0 x2 x7 x9 x35 x36 : AV) : AV → AV → Hp → R1 := qa4 call q20e0 x0 x2 x7 x9 x35 x36 qg0
def qek (call : Ev.Call) (x0 x2 x7 x9 : AV) (H : Hp) : R1 :=
 dz 0 H fun b5 H =>
 dq false false 0 0 (b5 + 0) H [] [] (fun _ => .val x0) (some true) fun a6 H p w =>
 dq false false 1 0 (b5 + 1) H p w (fun _ => qaj 4 x9) (some true) fun a7 H p w =>
 dq true false 2 2 (b5 + 2) H p w (fun H => qao H a7) (some true) fun a8 H p w =>
 dq false false 3 6 (b5 + 3) H p w (fun _ => idxS 1 a8 (.int .i64 (.ofNat 0))) (some true) fun a9 H p w =>
 dq true false 4 14 (b5 + 4) H p w (fun H => qao H a9) (some true) fun a10 H p w =>
 dq false false 5 0 (b5 + 5) H p w (fun _ => .val x2) (some true) fun a11 H p w =>
 dq true false 6 0 (b5 + 6) H p w (fun H => qa7 3 H x7) (some true) fun a12 H p w =>
 de 127 H p w (call (.f qbo) [a6, a10, a11, a12] (qck 127 p H)) (some true) fun a13 H p w =>
 dq false false 8 255 (b5 + 8) H p w (fun _ => .val a13) (some true) fun a14 H p w =>
 dz2 p H fun H =>
 vq (qaj 4 x9) H fun a16 H =>
 vq (qao H a16) H fun a17 H =>
 vq (qfc 1 a17 (some (.int .i64 (.ofNat 1))) none none) H fun a18 H =>
 vq (lenSl a18) H fun a19 H =>
 qem call (fun x10 H => qa9 call x10 H) x0 x2 x7 x9 a18 a19 a14 (.int .i64 (.ofNat 0)) H
def qe4 (call : Ev.Call) (x0 x1 x2 x3 : AV) (H : Hp) : R1 :=
 vq (boxA 3 H.nx x3) H fun a0 H =>
 vq (idxS 6 x0 x1) H fun a1 H =>
 vq (qa7 6 H a1) H fun a2 H =>
 vq (.new (.ptr H.nx 0) (qac 0 [.int .u8 (.ofNat 0), .str 0 0, .str 0 0, .nilsl, .nilsl, .int .i64 (.ofNat 0)])) H fun a3 H =>
 ve (qb5 6 H a3 a2) fun _ H =>
 vq (qaj 5 a3) H fun a42 H =>
 vq (qao H a42) H fun a43 H =>
 vq (intV (qad .geq).f a43 (.int .i64 (.ofNat 0))) H fun a44 H =>
 cd a44 (
 vq (qaj 5 a3) H fun a45 H =>
 vq (qao H a45) H fun a46 H =>
 vq (idxS 1 x2 a46) H fun a47 H =>
 vq (qao H a47) H fun a48 H =>
 .ok a48 H) (
 qek call x0 x2 a0 a3 H)
def tables_fold_api_Object (call : Ev.Call) (x0 x1 x2 x3 : AV) (H : Hp) : R1 := qe4 call x0 x1 x2 x3 H
def qb3 (call : Ev.Call) (x0 : AV) (H : Hp) : R1 :=
 vq (qis 0 H.nx (qal (reps [.str 0 0, .str 0 0] 0) [])) H fun a0 H =>
 ve (qbb 2 32 H a0 (qd3 2 H x0)) fun a1 H =>
 .ok a1 H
def qb8 (call : Ev.Call) (x0 : AV) (H : Hp) : R1 :=
 vq (qjn false ((⟨E2.f ⟨eqSl⟩⟩ : E2).f x0 (.nilsl))) H fun a3 H =>
 cd a3 (
 .ok (.nilsl) H) (
 qb3 call x0 H)
def slices_Clone_api_Object_api_Object (call : Ev.Call) (x0 : AV) (H : Hp) : R1 := qb8 call x0 H
def qcg (call : Ev.Call) (x0 : AV) (H : Hp) : R1 :=
 vq (lenSl x0) H fun a0 H =>
 vq (lenSl x0) H fun a1 H =>
 vq (qfc 2 x0 none (some a0) (some a1)) H fun a2 H =>
 .ok a2 H
def slices_Clip_api_Object_api_Object (call : Ev.Call) (x0 : AV) (H : Hp) : R1 := qcg call x0 H
def qip (call : Ev.Call) (x5 : AV) (H : Hp) : R1 :=
 .ok x5 H
def qfa (call : Ev.Call) (x3 x5 x6 : AV) (H : Hp) : R1 :=
 vq ((unS .not).f x6) H fun a2 H =>
 cd a2 (
 vq (qa7 2 H x3) H fun a3 H =>
 vq (qis 1 H.nx (qal (reps [.str 0 0, .str 0 0] 1) [(0, 2, a3)])) H fun a4 H =>
 ve (qbb 2 32 H x5 (qd3 2 H a4)) fun a5 H =>
 qip call a5 H) (
 qip call x5 H)
def qnm (call : Ev.Call) (g7 : AV → AV → AV → Hp → R1) (x5 x6 x7 : AV) (H : Hp) : R1 :=
 vq (intV (qad .add).f x7 (.int .i64 (.ofNat 1))) H fun a8 H =>
 g7 x5 x6 a8 H
def qhw (call : Ev.Call) (g7 : AV → AV → AV → Hp → R1) (x0 x5 x6 x7 : AV) (H : Hp) : R1 :=
 vq (idxS 2 x0 x7) H fun a10 H =>
 vq (qa7 2 H a10) H fun a11 H =>
 vq (qis 1 H.nx (qal (reps [.str 0 0, .str 0 0] 1) [(0, 2, a11)])) H fun a12 H =>
 ve (qbb 2 32 H x5 (qd3 2 H a12)) fun a13 H =>
 qnm call g7 a13 x6 x7 H
def qmy (call : Ev.Call) (g7 : AV → AV → AV → Hp → R1) (x0 x3 x5 x6 x7 : AV) (H : Hp) : R1 :=
 dz 0 H fun b15 H =>
 dq false false 0 0 (b15 + 0) H [] [] (fun _ => .val x6) (some true) fun a16 H p w =>
 dq false false 1 1 (b15 + 1) H p w (fun _ => (unS .not).f a16) (some true) fun a17 H p w =>
 dq false false 2 3 (b15 + 2) H p w (fun _ => .val a17) (some true) fun a18 H p w =>
 dq true false 3 7 (b15 + 3) H p w (fun H => qa7 2 H x3) (qai true a18) fun a19 H p w =>
 dq false false 4 7 (b15 + 4) H p w (fun _ => .val x0) (qai true a18) fun a20 H p w =>
 dq false false 5 7 (b15 + 5) H p w (fun _ => .val x7) (qai true a18) fun a21 H p w =>
 dq false false 6 55 (b15 + 6) H p w (fun _ => idxS 2 a20 a21) (qai true a18) fun a22 H p w =>
 dq true false 7 119 (b15 + 7) H p w (fun H => qa7 2 H a22) (qai true a18) fun a23 H p w =>
 de 255 H p w (call (.f qjv) [a19, a23] (qck 255 p H)) (qai true a18) fun a24 H p w =>
 dq false false 9 511 (b15 + 9) H p w (fun _ => qd2 a18 a24 (.bool false)) (some true) fun a25 H p w =>
 dz2 p H fun H =>
 cd a25 (
 vq (qa7 2 H x3) H fun a26 H =>
 vq (qis 1 H.nx (qal (reps [.str 0 0, .str 0 0] 1) [(0, 2, a26)])) H fun a27 H =>
 ve (qbb 2 32 H x5 (qd3 2 H a27)) fun a28 H =>
 qhw call g7 x0 a28 (.bool true) x7 H) (
 qhw call g7 x0 x5 x6 x7 H)
def qnn (call : Ev.Call) (q7e0 : AV → AV → Hp → R1) (x0 x3 : AV) (g7 : AV → AV → AV → Hp → R1) (x5 x6 x7 : AV) (H : Hp) : R1 :=
 vq (lenSl x0) H fun a30 H =>
 vq (intV (qad .lss).f x7 a30) H fun a31 H =>
 cd a31 (
 qmy call g7 x0 x3 x5 x6 x7 H) (
 q7e0 x5 x6 H)
def qe9 (call : Ev.Call) (q7e0 : AV → AV → Hp → R1) (x0 x3 : AV) (n : Nat) : AV → AV → AV → Hp → R1 :=
 Nat.rec (motive := fun _ => AV → AV → AV → Hp → R1) (fun _ _ _ _ => .bad) (fun _ ih => qnn call q7e0 x0 x3 ih) n
def qno (call : Ev.Call) (q7e0 : AV → AV → Hp → R1) (x0 x3 : AV) : AV → AV → AV → Hp → R1 := qe9 call q7e0 x0 x3 qg0
def qmx (call : Ev.Call) (x0 x3 : AV) (H : Hp) : R1 :=
 qno call (fun x5 x6 H => qfa call x3 x5 x6 H) x0 x3 (.nilsl) (.bool false) (.int .i64 (.ofNat 0)) H
def qow (call : Ev.Call) (x0 x1 : AV) (H : Hp) : R1 :=
 vq (boxA 2 H.nx x1) H fun a0 H =>
 vq (qa7 2 H a0) H fun a33 H =>
 ve (call (.f qgg) [x0, a33] H) fun a34 H =>
 cd a34 (
 .ok x0 H) (
 qmx call x0 a0 H)
def ref19_Put (call : Ev.Call) (x0 x1 : AV) (H : Hp) : R1 := qow call x0 x1 H
def qkc (call : Ev.Call) (x0 x1 : AV) (H : Hp) : R1 :=
 vg (qai false x0) (.val x1) H fun a0 H =>
 vq (qd2 x0 (.bool true) a0) H fun a1 H =>
 .ok a1 H
def tables_Eval_1 (call : Ev.Call) (x0 x1 : AV) (H : Hp) : R1 := qkc call x0 x1 H
def qkb (call : Ev.Call) (x0 x1 : AV) (H : Hp) : R1 :=
 vg (qai true x0) (.val x1) H fun a0 H =>
 vq (qd2 x0 a0 (.bool false)) H fun a1 H =>
 .ok a1 H
def tables_Eval_2 (call : Ev.Call) (x0 x1 : AV) (H : Hp) : R1 := qkb call x0 x1 H
def qka (call : Ev.Call) (x0 x1 : AV) (H : Hp) : R1 :=
 vg (qai true x0) (.val x1) H fun a0 H =>
 vg (qai true x0) ((unS .not).f a0) H fun a1 H =>
 vq (qd2 x0 a1 (.bool false)) H fun a2 H =>
 .ok a2 H
def tables_Eval_3 (call : Ev.Call) (x0 x1 : AV) (H : Hp) : R1 := qka call x0 x1 H
def qb2 (call : Ev.Call) (x10 : AV) (H : Hp) : R1 :=
 .ok x10 H
def qdy (call : Ev.Call) (g20 : AV → AV → Hp → R1) (x10 x37 : AV) (H : Hp) : R1 :=
 vq (intV (qad .add).f x37 (.int .i64 (.ofNat 1))) H fun a22 H =>
 g20 x10 a22 H
def qgp (call : Ev.Call) (g20 : AV → AV → Hp → R1) (x0 x2 x7 x9 x10 x35 x37 : AV) (H : Hp) : R1 :=
 vq (idxS 1 x35 x37) H fun a24 H =>
 vq (qao H a24) H fun a25 H =>
 dz 0 H fun b26 H =>
 dq false false 0 0 (b26 + 0) H [] [] (fun _ => qaj 0 x9) (some true) fun a27 H p w =>
 dq true false 1 1 (b26 + 1) H p w (fun H => qao H a27) (some true) fun a28 H p w =>
 dq false false 2 3 (b26 + 2) H p w (fun _ => intV (qad .sub).f a28 (.int .u8 (.ofNat 4))) (some true) fun a29 H p w =>
 dq false false 3 7 (b26 + 3) H p w (fun _ => idxA 3 1 x7 a29) (some true) fun a30 H p w =>
 dq true false 4 15 (b26 + 4) H p w (fun H => qao H a30) (some true) fun a31 H p w =>
 dq false false 5 0 (b26 + 5) H p w (fun _ => .val x10) (some true) fun a32 H p w =>
 dq false false 6 0 (b26 + 6) H p w (fun _ => .val x0) (some true) fun a33 H p w =>
 dq false false 7 0 (b26 + 7) H p w (fun _ => .val a25) (some true) fun a34 H p w =>
 dq false false 8 0 (b26 + 8) H p w (fun _ => .val x2) (some true) fun a35 H p w =>
 dq true false 9 0 (b26 + 9) H p w (fun H => qa7 3 H x7) (some true) fun a36 H p w =>
 de 960 H p w (call (.f qde) [a33, a34, a35, a36] (qck 960 p H)) (some true) fun a37 H p w =>
 de 2047 H p w (qom call a31 [a32, a37] (qck 2047 p H)) (some true) fun a38 H p w =>
 dq false false 12 4095 (b26 + 12) H p w (fun _ => .val a38) (some true) fun a39 H p w =>
 dz2 p H fun H =>
 qdy call g20 a39 x37 H
def qdz (call : Ev.Call) (q20e0 : AV → Hp → R1) (x0 x2 x7 x9 x35 x36 : AV) (g20 : AV → AV → Hp → R1) (x10 x37 : AV) (H : Hp) : R1 :=
 vq (intV (qad .lss).f x37 x36) H fun a21 H =>
 cd a21 (
 qgp call g20 x0 x2 x7 x9 x10 x35 x37 H) (
 q20e0 x10 H)
def qbp (call : Ev.Call) (q20e0 : AV → Hp → R1) (x0 x2 x7 x9 x35 x36 : AV) (n : Nat) : AV → AV → Hp → R1 :=
 Nat.rec (motive := fun _ => AV → AV → Hp → R1) (fun _ _ _ => .bad) (fun _ ih => qdz call q20e0 x0 x2 x7 x9 x35 x36 ih) n
def qgq (call : Ev.Call) (q20e0 : AV → Hp → R1) (x0 x2 x7 x9 x35 x36 : AV) : AV → AV → Hp → R1 := qbp call q20e0 x0 x2 x7 x9 x35 x36 qg0
def qgo (call : Ev.Call) (x0 x2 x7 x9 : AV) (H : Hp) : R1 :=
 dz 0 H fun b5 H =>
 dq false false 0 0 (b5 + 0) H [] [] (fun _ => .val x0) (some true) fun a6 H p w =>
 dq false false 1 0 (b5 + 1) H p w (fun _ => qaj 4 x9) (some true) fun a7 H p w =>
 dq true false 2 2 (b5 + 2) H p w (fun H => qao H a7) (some true) fun a8 H p w =>
 dq false false 3 6 (b5 + 3) H p w (fun _ => idxS 1 a8 (.int .i64 (.ofNat 0))) (some true) fun a9 H p w =>
 dq true false 4 14 (b5 + 4) H p w (fun H => qao H a9) (some true) fun a10 H p w =>
 dq false false 5 0 (b5 + 5) H p w (fun _ => .val x2) (some true) fun a11 H p w =>
 dq true false 6 0 (b5 + 6) H p w (fun H => qa7 3 H x7) (some true) fun a12 H p w =>
 de 127 H p w (call (.f qde) [a6, a10, a11, a12] (qck 127 p H)) (some true) fun a13 H p w =>
 dq false false 8 255 (b5 + 8) H p w (fun _ => .val a13) (some true) fun a14 H p w =>
 dz2 p H fun H =>
 vq (qaj 4 x9) H fun a16 H =>
 vq (qao H a16) H fun a17 H =>
 vq (qfc 1 a17 (some (.int .i64 (.ofNat 1))) none none) H fun a18 H =>
 vq (lenSl a18) H fun a19 H =>
 qgq call (fun x10 H => qb2 call x10 H) x0 x2 x7 x9 a18 a19 a14 (.int .i64 (.ofNat 0)) H
def qhn (call : Ev.Call) (x0 x1 x2 x3 : AV) (H : Hp) : R1 :=
 vq (boxA 3 H.nx x3) H fun a0 H =>
 vq (idxS 6 x0 x1) H fun a1 H =>
 vq (qa7 6 H a1) H fun a2 H =>
 vq (.new (.ptr H.nx 0) (qac 0 [.int .u8 (.ofNat 0), .str 0 0, .str 0 0, .nilsl, .nilsl, .int .i64 (.ofNat 0)])) H fun a3 H =>
 ve (qb5 6 H a3 a2) fun _ H =>
 vq (qaj 5 a3) H fun a42 H =>
 vq (qao H a42) H fun a43 H =>
 vq (intV (qad .geq).f a43 (.int .i64 (.ofNat 0))) H fun a44 H =>
 cd a44 (
 vq (qaj 5 a3) H fun a45 H =>
 vq (qao H a45) H fun a46 H =>
 vq (idxS 1 x2 a46) H fun a47 H =>
 vq (qao H a47) H fun a48 H =>
 .ok a48 H) (
 qgo call x0 x2 a0 a3 H)
def tables_fold_bool (call : Ev.Call) (x0 x1 x2 x3 : AV) (H : Hp) : R1 := qhn call x0 x1 x2 x3 H
def qn2 (call : Ev.Call) (x0 : AV) (H : Hp) : R1 :=
 vq (qis 5 H.nx (qal (reps [.str 0 0] 5) [(0, 1, (.str 1 97)), (1, 1, (.str 1 98)), (2, 1, (.str 1 112)), (3, 1, (.str 2 12920)), (4, 1, (.str 16 136107713667768957684761770045455085872))])) H fun a0 H =>
 vq (intV (qad .rem).f x0 (.int .u8 (.ofNat 5))) H fun a1 H =>
 vq (idxS 1 a0 a1) H fun a2 H =>
 vq (qao H a2) H fun a3 H =>
 .ok a3 H
def law13_name (call : Ev.Call) (x0 : AV) (H : Hp) : R1 := qn2 call x0 H
def qcc (call : Ev.Call) (x4 x5 : AV) (H : Hp) : R1 :=
 vq (qaj 3 x4) H fun a14 H =>
 vq (qao H a14) H fun a15 H =>
 ve (call (.f qbd) [a15] H) fun a16 H =>
 vq (qaj 3 x4) H fun a17 H =>
 ve (qcr H a17 a16) fun _ H =>
 vq (qa7 4 H x4) H fun a19 H =>
 ve (qb5 4 H x4 a19) fun _ H =>
 finR (tupO (qd0 (rV (qa7 4 H x4)) (qd0 (some x5) (qd0 (some (.bool true)) (some []))))) H
def qi3 (call : Ev.Call) (g25 : AV → AV → Hp → R1) (x5 x38 : AV) (H : Hp) : R1 :=
 vq (intV (qad .add).f x38 (.int .i64 (.ofNat 1))) H fun a27 H =>
 g25 x5 a27 H
def qi2 (call : Ev.Call) (g25 : AV → AV → Hp → R1) (x4 x5 x10 x38 : AV) (H : Hp) : R1 :=
 vq (qaj 3 x4) H fun a37 H =>
 vq (qao H a37) H fun a38 H =>
 vq (qa7 4 H x10) H fun a39 H =>
 vq (qis 1 H.nx (qal (reps [.int .u8 (.ofNat 0), .str 0 0, .str 0 0, .nilsl] 1) [(0, 4, a39)])) H fun a40 H =>
 ve (qbb 4 64 H a38 (qd3 4 H a40)) fun a41 H =>
 vq (qaj 3 x4) H fun a42 H =>
 ve (qcr H a42 a41) fun _ H =>
 qi3 call g25 x5 x38 H
def qi1 (call : Ev.Call) (q25r : AV → AV → Hp → R1) (g25 : AV → AV → Hp → R1) (x0 x4 x9 x38 : AV) (H : Hp) : R1 :=
 vq (.new (.ptr H.nx 0) (qac 0 [.int .u8 (.ofNat 0), .str 0 0, .str 0 0, .nilsl])) H fun a31 H =>
 ve (call (.f qge) [x0, x9] H) fun a32 H =>
 vq (extr 0 a32) H fun a33 H =>
 vq (extr 1 a32) H fun a34 H =>
 vq (extr 2 a32) H fun a35 H =>
 ve (qb5 4 H a31 a33) fun _ H =>
 vq ((unS .not).f a35) H fun a45 H =>
 cd a45 (
 vq (qa7 4 H x4) H fun a46 H =>
 ve (qb5 4 H x4 a46) fun _ H =>
 q25r a34 (.bool false) H) (
 qi2 call g25 x4 a34 a31 x38 H)
def qi0 (call : Ev.Call) (q25r : AV → AV → Hp → R1) (g25 : AV → AV → Hp → R1) (x0 x4 x5 x36 x38 : AV) (H : Hp) : R1 :=
 vq (idxS 1 x36 x38) H fun a29 H =>
 vq (qao H a29) H fun a30 H =>
 vq (intV (qad .neq).f a30 x5) H fun a49 H =>
 cd a49 (
 vq (qa7 4 H x4) H fun a50 H =>
 ve (qb5 4 H x4 a50) fun _ H =>
 q25r x5 (.bool false) H) (
 qi1 call q25r g25 x0 x4 a30 x38 H)
def qfi (call : Ev.Call) (q25r : AV → AV → Hp → R1) (q25e0 : AV → Hp → R1) (x0 x4 x36 x37 : AV) (g25 : AV → AV → Hp → R1) (x5 x38 : AV) (H : Hp) : R1 :=
 vq (intV (qad .lss).f x38 x37) H fun a26 H =>
 cd a26 (
 qi0 call q25r g25 x0 x4 x5 x36 x38 H) (
 q25e0 x5 H)
def qcb (call : Ev.Call) (q25r : AV → AV → Hp → R1) (q25e0 : AV → Hp → R1) (x0 x4 x36 x37 : AV) (n : Nat) : AV → AV → Hp → R1 :=
 Nat.rec (motive := fun _ => AV → AV → Hp → R1) (fun _ _ _ => .bad) (fun _ ih => qfi call q25r q25e0 x0 x4 x36 x37 ih) n
def qi4 (call : Ev.Call) (q25r : AV → AV → Hp → R1) (q25e0 : AV → Hp → R1) (x0 x4 x36 x37 : AV) : AV → AV → Hp → R1 := qcb call q25r q25e0 x0 x4 x36 x37 qg0
def qiz (call : Ev.Call) (x0 x1 x4 : AV) (H : Hp) : R1 :=
 vq (idxS 6 x0 x1) H fun a1 H =>
 vq (qa7 6 H a1) H fun a2 H =>
 vq (.new (.ptr H.nx 0) (qac 0 [.int .u8 (.ofNat 0), .str 0 0, .str 0 0, .nilsl, .nilsl, .int .i64 (.ofNat 0)])) H fun a3 H =>
 ve (qb5 6 H a3 a2) fun _ H =>
 vq (qaj 0 a3) H fun a5 H =>
 vq (qao H a5) H fun a6 H =>
 vq (qaj 1 a3) H fun a7 H =>
 vq (qao H a7) H fun a8 H =>
 vq (qaj 2 a3) H fun a9 H =>
 vq (qao H a9) H fun a10 H =>
 vq (aggN (qal [.int .u8 (.ofNat 0), .str 0 0, .str 0 0, .nilsl] [(0, 1, a6), (1, 1, a8), (2, 1, a10)])) H fun a11 H =>
 ve (qb5 4 H x4 a11) fun _ H =>
 vq (intV (qad .add).f x1 (.int .i64 (.ofNat 1))) H fun a13 H =>
 vq (qaj 4 a3) H fun a22 H =>
 vq (qao H a22) H fun a23 H =>
 vq (lenSl a23) H fun a24 H =>
 qi4 call (fun x5 x6 H => finR (tupO (qd0 (rV (qa7 4 H x4)) (qd0 (some x5) (qd0 (some x6) (some []))))) H) (fun x5 H => qcc call x4 x5 H) x0 x4 a23 a24 a13 (.int .i64 (.ofNat 0)) H
def qlg (call : Ev.Call) (x0 x1 : AV) (H : Hp) : R1 :=
 vq (.new (.ptr H.nx 0) (qac 0 [.int .u8 (.ofNat 0), .str 0 0, .str 0 0, .nilsl])) H fun a0 H =>
 vq (lenSl x0) H fun a54 H =>
 vq (intV (qad .geq).f x1 a54) H fun a55 H =>
 vg (qai false a55) (.val x0) H fun a56 H =>
 vg (qai false a55) (lenSl a56) H fun a57 H =>
 vg (qai false a55) (intV (qad .gtr).f a57 (.int .i64 (.ofNat 32))) H fun a58 H =>
 vq (qd2 a55 (.bool true) a58) H fun a59 H =>
 cd a59 (
 vq (qa7 4 H a0) H fun a60 H =>
 ve (qb5 4 H a0 a60) fun _ H =>
 finR (tupO (qd0 (rV (qa7 4 H a0)) (qd0 (some x1) (qd0 (some (.bool false)) (some []))))) H) (
 qiz call x0 x1 a0 H)
def tables_build (call : Ev.Call) (x0 x1 : AV) (H : Hp) : R1 := qlg call x0 x1 H
def qmu (call : Ev.Call) (x0 : AV) (H : Hp) : R1 :=
 vq (boxA 4 H.nx x0) H fun a0 H =>
 ve (call (.f qgl) [a0] H) fun a1 H =>
 vq (extr 0 a1) H fun a2 H =>
 vq (extr 1 a1) H fun a3 H =>
 vq (extr 2 a1) H fun a4 H =>
 .ok a4 H
def rules_Check (call : Ev.Call) (x0 : AV) (H : Hp) : R1 := qmu call x0 H
def qmt (call : Ev.Call) (x1 x2 : AV) (H : Hp) : R1 :=
 vq (qa7 4 H x1) H fun a2 H =>
 ve (call (.f qhz) [a2] H) fun a3 H =>
 ve (qb5 4 H x2 a3) fun _ H =>
 finR (tupO (qd0 (rV (qa7 4 H x2)) (qd0 (some (.int .i64 (.ofNat 0))) (some [])))) H
def qnk (call : Ev.Call) (x0 : AV) (H : Hp) : R1 :=
 vq (boxA 4 H.nx x0) H fun a0 H =>
 vq (.new (.ptr H.nx 0) (qac 0 [.int .u8 (.ofNat 0), .str 0 0, .str 0 0, .nilsl])) H fun a1 H =>
 vq (qa7 4 H a0) H fun a6 H =>
 ve (call (.f qfu) [a6] H) fun a7 H =>
 vq (intV (qad .neq).f a7 (.int .i64 (.ofNat 0))) H fun a8 H =>
 cd a8 (
 vq (aggN (qal [.int .u8 (.ofNat 0), .str 0 0, .str 0 0, .nilsl] [])) H fun a9 H =>
 ve (qb5 4 H a1 a9) fun _ H =>
 finR (tupO (qd0 (rV (qa7 4 H a1)) (qd0 (some a7) (some [])))) H) (
 qmt call a0 a1 H)
def rules_Flat (call : Ev.Call) (x0 : AV) (H : Hp) : R1 := qnk call x0 H
def qnj (call : Ev.Call) (x0 x1 : AV) (H : Hp) : R1 :=
 vq (boxA 4 H.nx x0) H fun a0 H =>
 vq (boxA 4 H.nx x1) H fun a1 H =>
 ve (call (.f qgl) [a0] H) fun a2 H =>
 vq (extr 0 a2) H fun a3 H =>
 vq (extr 1 a2) H fun a4 H =>
 vq (extr 2 a2) H fun a5 H =>
 ve (call (.f qgl) [a1] H) fun a6 H =>
 vq (extr 0 a6) H fun a7 H =>
 vq (extr 1 a6) H fun a8 H =>
 vq (extr 2 a6) H fun a9 H =>
 vq (intV (qad .eql).f a5 (.int .i64 (.ofNat 0))) H fun a10 H =>
 vg (qai true a10) (.val a9) H fun a11 H =>
 vg (qai true a10) (intV (qad .eql).f a11 (.int .i64 (.ofNat 0))) H fun a12 H =>
 vq (qd2 a10 a12 (.bool false)) H fun a13 H =>
 vg (qai true a13) (.val a3) H fun a14 H =>
 vg (qai true a13) (.val a7) H fun a15 H =>
 veg (qai true a13) (call (.f qam) [a14, a15, (.fn qe8 [] [])] H) H fun a16 H =>
 vq (qd2 a13 a16 (.bool false)) H fun a17 H =>
 .ok a17 H
def rules_Same (call : Ev.Call) (x0 x1 : AV) (H : Hp) : R1 := qnj call x0 x1 H
def qdk (call : Ev.Call) (x0 : AV) (H : Hp) : R1 :=
 vq (lenSl x0) H fun a0 H =>
 vq (intV (qad .gtr).f a0 (.int .i64 (.ofNat 0))) H fun a1 H =>
 .ok a1 H
def qiv (call : Ev.Call) (g4 : AV → Hp → R1) (x7 : AV) (H : Hp) : R1 :=
 vq (intV (qad .add).f x7 (.int .i64 (.ofNat 1))) H fun a6 H =>
 g4 a6 H
def qh4 (call : Ev.Call) (q4r : AV → Hp → R1) (g4 : AV → Hp → R1) (x0 x5 x7 : AV) (H : Hp) : R1 :=
 vq (idxS 1 x5 x7) H fun a8 H =>
 vq (qao H a8) H fun a9 H =>
 vq (aggN (qal [.int .u8 (.ofNat 0), .str 0 0, .str 0 0, .nilsl] [(0, 1, (.int .u8 (.ofNat 2))), (1, 1, a9)])) H fun a10 H =>
 ve (call (.f qfu) [a10] H) fun a11 H =>
 vq (intV (qad .neq).f a11 (.int .i64 (.ofNat 0))) H fun a12 H =>
 vg (qai false a12) (.val x0) H fun a13 H =>
 vg (qai false a12) (.val x7) H fun a14 H =>
 vg (qai false a12) (qfc 1 a13 none (some a14) none) H fun a15 H =>
 vg (qai false a12) (.val a9) H fun a16 H =>
 veg (qai false a12) (call (.f qbu) [a15, a16] H) H fun a17 H =>
 vq (qd2 a12 (.bool true) a17) H fun a18 H =>
 cd a18 (
 q4r (.bool false) H) (
 qiv call g4 x7 H)
def qfh (call : Ev.Call) (q4r : AV → Hp → R1) (q4e0 : Hp → R1) (x0 x5 x6 : AV) (g4 : AV → Hp → R1) (x7 : AV) (H : Hp) : R1 :=
 vq (intV (qad .lss).f x7 x6) H fun a5 H =>
 cd a5 (
 qh4 call q4r g4 x0 x5 x7 H) (
 q4e0 H)
def qen (call : Ev.Call) (q4r : AV → Hp → R1) (q4e0 : Hp → R1) (x0 x5 x6 : AV) (n : Nat) : AV → Hp → R1 :=
 Nat.rec (motive := fun _ => AV → Hp → R1) (fun _ _ => .bad) (fun _ ih => qfh call q4r q4e0 x0 x5 x6 ih) n
def qiw (call : Ev.Call) (q4r : AV → Hp → R1) (q4e0 : Hp → R1) (x0 x5 x6 : AV) : AV → Hp → R1 := qen call q4r q4e0 x0 x5 x6 qg0
def qj3 (call : Ev.Call) (x0 : AV) (H : Hp) : R1 :=
 vq (lenSl x0) H fun a3 H =>
 qiw call (fun x2 H => .ok x2 H) (fun H => qdk call x0 H) x0 x0 a3 (.int .i64 (.ofNat 0)) H
def tables_spaces (call : Ev.Call) (x0 : AV) (H : Hp) : R1 := qj3 call x0 H
def qev (call : Ev.Call) (H : Hp) : R1 :=
 .ok (.int .i64 (.ofNat 0)) H
def qeu (call : Ev.Call) (x0 x1 : AV) (H : Hp) : R1 :=
 vq (strV (qh3 .gtr).f x0 x1) H fun a3 H =>
 cd a3 (
 .ok (.int .i64 (.ofNat 1)) H) (
 qev call H)
def qet (call : Ev.Call) (x0 x1 : AV) (H : Hp) : R1 :=
 vq (strV (qh3 .lss).f x0 x1) H fun a5 H =>
 cd a5 (
 .ok (.int .i64 (.negSucc 0)) H) (
 qeu call x0 x1 H)
def qes (call : Ev.Call) (x0 x1 x6 : AV) (H : Hp) : R1 :=
 cd x6 (
 .ok (.int .i64 (.ofNat 1)) H) (
 qet call x0 x1 H)
def qiu (call : Ev.Call) (H : Hp) : R1 :=
 .ok (.int .i64 (.negSucc 0)) H
def qe3 (call : Ev.Call) (x0 x1 : AV) (H : Hp) : R1 :=
 ve (call (.f qbx) [x0] H) fun a0 H =>
 ve (call (.f qbx) [x1] H) fun a1 H =>
 cd a0 (
 cd a1 (
 .ok (.int .i64 (.ofNat 0)) H) (
 qiu call H)) (
 qes call x0 x1 a1 H)
def cmp_Compare_string (call : Ev.Call) (x0 x1 : AV) (H : Hp) : R1 := qe3 call x0 x1 H
def qfg (call : Ev.Call) (x3 : AV) (H : Hp) : R1 :=
 .ok x3 H
def qm7 (call : Ev.Call) (g2 : AV → Hp → R1) (x8 : AV) (H : Hp) : R1 :=
 vq (intV (qad .add).f x8 (.int .i64 (.ofNat 1))) H fun a4 H =>
 g2 a4 H
def qm6 (call : Ev.Call) (q2r : AV → Hp → R1) (g2 : AV → Hp → R1) (x3 x6 x8 : AV) (H : Hp) : R1 :=
 vq (idxS 1 x6 x8) H fun a6 H =>
 vq (qao H a6) H fun a7 H =>
 vq (intV (qad .neq).f a7 x3) H fun a8 H =>
 cd a8 (
 q2r a7 H) (
 qm7 call g2 x8 H)
def qm8 (call : Ev.Call) (q2r : AV → Hp → R1) (q2e0 : Hp → R1) (x3 x6 x7 : AV) (g2 : AV → Hp → R1) (x8 : AV) (H : Hp) : R1 :=
 vq (intV (qad .lss).f x8 x7) H fun a3 H =>
 cd a3 (
 qm6 call q2r g2 x3 x6 x8 H) (
 q2e0 H)
def qgn (call : Ev.Call) (q2r : AV → Hp → R1) (q2e0 : Hp → R1) (x3 x6 x7 : AV) (n : Nat) : AV → Hp → R1 :=
 Nat.rec (motive := fun _ => AV → Hp → R1) (fun _ _ => .bad) (fun _ ih => qm8 call q2r q2e0 x3 x6 x7 ih) n
def qm9 (call : Ev.Call) (q2r : AV → Hp → R1) (q2e0 : Hp → R1) (x3 x6 x7 : AV) : AV → Hp → R1 := qgn call q2r q2e0 x3 x6 x7 qg0
def qn7 (call : Ev.Call) (x0 : AV) (H : Hp) : R1 :=
 vq (lenSl x0) H fun a1 H =>
 qm9 call (fun x2 H => .ok x2 H) (fun H => qfg call (.int .i64 (.ofNat 0)) H) (.int .i64 (.ofNat 0)) x0 a1 (.int .i64 (.ofNat 0)) H
def cmp_Or_int (call : Ev.Call) (x0 : AV) (H : Hp) : R1 := qn7 call x0 H
def qbs (call : Ev.Call) (x6 : AV) (H : Hp) : R1 :=
 .ok x6 H
def qcw (call : Ev.Call) (g1 : AV → AV → AV → Hp → R1) (x0 x1 x2 x6 x7 x8 : AV) (H : Hp) : R1 :=
 vq (qao H x2) H fun a3 H =>
 vq (intV (qad .leq).f x7 (.int .i64 (.ofNat 0))) H fun a4 H =>
 vq (intV (qad .geq).f x7 (.int .i64 (.ofNat 0))) H fun a5 H =>
 ve (qom call a3 [a4, a5] H) fun a6 H =>
 cd a6 (
 vq (qa7 2 H x8) H fun a7 H =>
 vq (qis 1 H.nx (qal (reps [.str 0 0, .str 0 0] 1) [(0, 2, a7)])) H fun a8 H =>
 ve (qbb 2 32 H x6 (qd3 2 H a8)) fun a9 H =>
 g1 x0 x1 a9 H) (
 g1 x0 x1 x6 H)
def qbv (call : Ev.Call) (g1 : AV → AV → AV → Hp → R1) (x0 x1 x2 x6 x7 x8 : AV) (H : Hp) : R1 :=
 vq (intV (qad .geq).f x7 (.int .i64 (.ofNat 0))) H fun a11 H =>
 cd a11 (
 dz 0 H fun b12 H =>
 dq false false 0 0 (b12 + 0) H [] [] (fun _ => .val x1) (some true) fun a13 H p w =>
 dq false false 1 1 (b12 + 1) H p w (fun _ => idxS 2 a13 (.int .i64 (.ofNat 0))) (some true) fun a14 H p w =>
 dq true false 2 3 (b12 + 2) H p w (fun H => qa7 2 H a14) (some true) fun a15 H p w =>
 dq false false 3 0 (b12 + 3) H p w (fun _ => .val x1) (some true) fun a16 H p w =>
 dq false false 4 8 (b12 + 4) H p w (fun _ => qfc 2 a16 (some (.int .i64 (.ofNat 1))) none none) (some true) fun a17 H p w =>
 de 7 H p w (qb5 2 (qck 7 p H) x8 a15) (some true) fun _ H p w =>
 dq false false 6 63 (b12 + 6) H p w (fun _ => .val a17) (some true) fun a19 H p w =>
 dz2 p H fun H =>
 qcw call g1 x0 a19 x2 x6 x7 x8 H) (
 qcw call g1 x0 x1 x2 x6 x7 x8 H)
def qbk (call : Ev.Call) (g1 : AV → AV → AV → Hp → R1) (x0 x1 x2 x6 x7 : AV) (H : Hp) : R1 :=
 vq (.new (.ptr H.nx 0) (qac 0 [.str 0 0, .str 0 0])) H fun a2 H =>
 vq (intV (qad .leq).f x7 (.int .i64 (.ofNat 0))) H fun a21 H =>
 cd a21 (
 dz 0 H fun b22 H =>
 dq false false 0 0 (b22 + 0) H [] [] (fun _ => .val x0) (some true) fun a23 H p w =>
 dq false false 1 1 (b22 + 1) H p w (fun _ => idxS 2 a23 (.int .i64 (.ofNat 0))) (some true) fun a24 H p w =>
 dq true false 2 3 (b22 + 2) H p w (fun H => qa7 2 H a24) (some true) fun a25 H p w =>
 dq false false 3 0 (b22 + 3) H p w (fun _ => .val x0) (some true) fun a26 H p w =>
 dq false false 4 8 (b22 + 4) H p w (fun _ => qfc 2 a26 (some (.int .i64 (.ofNat 1))) none none) (some true) fun a27 H p w =>
 de 7 H p w (qb5 2 (qck 7 p H) a2 a25) (some true) fun _ H p w =>
 dq false false 6 63 (b22 + 6) H p w (fun _ => .val a27) (some true) fun a29 H p w =>
 dz2 p H fun H =>
 qbv call g1 a29 x1 x2 x6 x7 a2 H) (
 qbv call g1 x0 x1 x2 x6 x7 a2 H)
def qea (call : Ev.Call) (g1 : AV → AV → AV → Hp → R1) (x0 x1 x2 x6 : AV) (H : Hp) : R1 :=
 vq (lenSl x0) H fun a31 H =>
 vq (intV (qad .eql).f a31 (.int .i64 (.ofNat 0))) H fun a32 H =>
 cd a32 (
 qbk call g1 x0 x1 x2 x6 (.int .i64 (.ofNat 1)) H) (
 vq (lenSl x1) H fun a33 H =>
 vq (intV (qad .eql).f a33 (.int .i64 (.ofNat 0))) H fun a34 H =>
 cd a34 (
 qbk call g1 x0 x1 x2 x6 (.int .i64 (.negSucc 0)) H) (
 dz 0 H fun b35 H =>
 dq false false 0 0 (b35 + 0) H [] [] (fun _ => .val x0) (some true) fun a36 H p w =>
 dq false false 1 1 (b35 + 1) H p w (fun _ => idxS 2 a36 (.int .i64 (.ofNat 0))) (some true) fun a37 H p w =>
 dq true false 2 3 (b35 + 2) H p w (fun H => qa7 2 H a37) (some true) fun a38 H p w =>
 dq false false 3 0 (b35 + 3) H p w (fun _ => .val x1) (some true) fun a39 H p w =>
 dq false false 4 8 (b35 + 4) H p w (fun _ => idxS 2 a39 (.int .i64 (.ofNat 0))) (some true) fun a40 H p w =>
 dq true false 5 24 (b35 + 5) H p w (fun H => qa7 2 H a40) (some true) fun a41 H p w =>
 de 63 H p w (call (.f qd9) [a38, a41] (qck 63 p H)) (some true) fun a42 H p w =>
 dq false false 7 127 (b35 + 7) H p w (fun _ => .val a42) (some true) fun a43 H p w =>
 dz2 p H fun H =>
 qbk call g1 x0 x1 x2 x6 a43 H))
def qho (call : Ev.Call) (q1e0 : AV → Hp → R1) (x2 : AV) (g1 : AV → AV → AV → Hp → R1) (x0 x1 x6 : AV) (H : Hp) : R1 :=
 vq (lenSl x0) H fun a45 H =>
 vq (lenSl x1) H fun a46 H =>
 vq (intV (qad .add).f a45 a46) H fun a47 H =>
 vq (intV (qad .gtr).f a47 (.int .i64 (.ofNat 0))) H fun a48 H =>
 cd a48 (
 qea call g1 x0 x1 x2 x6 H) (
 q1e0 x6 H)
def qbr (call : Ev.Call) (q1e0 : AV → Hp → R1) (x2 : AV) (n : Nat) : AV → AV → AV → Hp → R1 :=
 Nat.rec (motive := fun _ => AV → AV → AV → Hp → R1) (fun _ _ _ _ => .bad) (fun _ ih => qho call q1e0 x2 ih) n
def qhp (call : Ev.Call) (q1e0 : AV → Hp → R1) (x2 : AV) : AV → AV → AV → Hp → R1 := qbr call q1e0 x2 qg0
def qh6 (call : Ev.Call) (x0 x1 x2 : AV) (H : Hp) : R1 :=
 qhp call (fun x6 H => qbs call x6 H) x2 x0 x1 (.nilsl) H
def tables_chosen_1 (call : Ev.Call) (x0 x1 x2 : AV) (H : Hp) : R1 := qh6 call x0 x1 x2 H
def qnp (call : Ev.Call) (x0 x1 : AV) (H : Hp) : R1 :=
 vq (boxA 2 H.nx x0) H fun a0 H =>
 vq (boxA 2 H.nx x1) H fun a1 H =>
 vq (qaj 0 a0) H fun a2 H =>
 vq (qao H a2) H fun a3 H =>
 vq (qaj 0 a1) H fun a4 H =>
 vq (qao H a4) H fun a5 H =>
 vq (strV (qh3 .lss).f a3 a5) H fun a6 H =>
 vg (qai false a6) (qaj 0 a0) H fun a7 H =>
 vg (qai false a6) (qao H a7) H fun a8 H =>
 vg (qai false a6) (qaj 0 a1) H fun a9 H =>
 vg (qai false a6) (qao H a9) H fun a10 H =>
 vg (qai false a6) (strV (qh3 .eql).f a8 a10) H fun a11 H =>
 vg (qai false a6) (.val a11) H fun a12 H =>
 vg (qai true a12) (qaj 1 a0) H fun a13 H =>
 vg (qai true a12) (qao H a13) H fun a14 H =>
 vg (qai true a12) (qaj 1 a1) H fun a15 H =>
 vg (qai true a12) (qao H a15) H fun a16 H =>
 vg (qai true a12) (strV (qh3 .lss).f a14 a16) H fun a17 H =>
 vg (qai false a6) (qd2 a12 a17 (.bool false)) H fun a18 H =>
 vq (qd2 a6 (.bool true) a18) H fun a19 H =>
 .ok a19 H
def ref19_Less (call : Ev.Call) (x0 x1 : AV) (H : Hp) : R1 := qnp call x0 x1 H
def qdd (call : Ev.Call) (x0 : AV) (H : Hp) : R1 :=
 vq (lenSl x0) H fun a0 H =>
 vq (lenSl x0) H fun a1 H =>
 vq (qfc 4 x0 none (some a0) (some a1)) H fun a2 H =>
 .ok a2 H
def slices_Clip_api_Rule_api_Rule (call : Ev.Call) (x0 : AV) (H : Hp) : R1 := qdd call x0 H
def qlm (call : Ev.Call) (x2 x3 : AV) (H : Hp) : R1 :=
 dz 0 H fun b6 H =>
 dq true false 0 0 (b6 + 0) H [] [] (fun H => qao H x2) (some true) fun a7 H p w =>
 dq true false 2 0 (b6 + 2) H p w (fun H => qao H x3) (some true) fun a8 H p w =>
 de 1 H p w (call (.f qbg) [a7] (qck 1 p H)) (some true) fun a9 H p w =>
 de 3 H p w (qcr (qck 3 p H) x2 a9) (some true) fun _ H p w =>
 de 15 H p w (qcr (qck 15 p H) x3 a8) (some true) fun _ H p w =>
 dq false false 5 31 (b6 + 5) H p w (fun _ => .val (.int .i64 (.ofNat 0))) (some true) fun a12 H p w =>
 dz2 p H fun H =>
 finR (tupO (qd0 (rV (qao H x2)) (qd0 (rV (qao H x3)) (qd0 (some a12) (some []))))) H
def qll (call : Ev.Call) (x2 x3 x5 : AV) (H : Hp) : R1 :=
 vq (qao H x5) H fun a14 H =>
 vq (intV (qad .neq).f a14 (.int .i64 (.ofNat 0))) H fun a15 H =>
 cd a15 (
 dz 0 H fun b16 H =>
 dq true false 0 0 (b16 + 0) H [] [] (fun H => qao H x5) (some true) fun a17 H p w =>
 de 0 H p w (qcr (qck 0 p H) x2 (.nilsl)) (some true) fun _ H p w =>
 de 2 H p w (qcr (qck 2 p H) x3 (.int .i64 (.ofNat 0))) (some true) fun _ H p w =>
 dq false false 3 7 (b16 + 3) H p w (fun _ => .val a17) (some true) fun a20 H p w =>
 dz2 p H fun H =>
 finR (tupO (qd0 (rV (qao H x2)) (qd0 (rV (qao H x3)) (qd0 (some a20) (some []))))) H) (
 qlm call x2 x3 H)
def qnh (call : Ev.Call) (x0 : AV) (H : Hp) : R1 :=
 vq (.new (.ptr H.nx 0) (qac 0 [.nilsl])) H fun a0 H =>
 vq (.new (.ptr H.nx 0) (qac 0 [.int .i64 (.ofNat 0)])) H fun a1 H =>
 vq (.new (.ptr H.nx 0) (qac 0 [.int .i64 (.ofNat 0)])) H fun a2 H =>
 ve (qcr H a2 (.int .i64 (.ofNat 0))) fun _ H =>
 vq (.new (.ptr H.nx 0) (qac 0 [.nilfn])) H fun a4 H =>
 ve (qcr H a4 (.fn qdj [] [a0, a1, a2, a4])) fun _ H =>
 vq (qao H a4) H fun a22 H =>
 ve (qom call a22 [x0, (.int .i64 (.ofNat 1)), (.bool false)] H) fun a23 H =>
 vq ((unS .not).f a23) H fun a24 H =>
 cd a24 (
 ve (qcr H a0 (.nilsl)) fun _ H =>
 ve (qcr H a1 (.int .i64 (.ofNat 0))) fun _ H =>
 finR (tupO (qd0 (rV (qao H a0)) (qd0 (rV (qao H a1)) (qd0 (some (.int .i64 (.ofNat 3))) (some []))))) H) (
 qll call a0 a1 a2 H)
def rules_walk (call : Ev.Call) (x0 : AV) (H : Hp) : R1 := qnh call x0 H
def qfd (call : Ev.Call) (x1 x2 x3 : AV) (H : Hp) : R1 :=
 ve (call (.f qbd) [x3] H) fun a2 H =>
 vq (qaj 3 x1) H fun a3 H =>
 ve (qcr H a3 a2) fun _ H =>
 vq (qa7 4 H x1) H fun a5 H =>
 ve (qb5 4 H x2 a5) fun _ H =>
 finR (rV (qa7 4 H x2)) H
def qg1 (call : Ev.Call) (g11 : AV → AV → Hp → R1) (x3 x9 : AV) (H : Hp) : R1 :=
 vq (intV (qad .add).f x9 (.int .i64 (.ofNat 1))) H fun a13 H =>
 g11 x3 a13 H
def qln (call : Ev.Call) (g11 : AV → AV → Hp → R1) (x1 x3 x7 x9 : AV) (H : Hp) : R1 :=
 vq (idxS 4 x7 x9) H fun a15 H =>
 vq (qa7 4 H a15) H fun a16 H =>
 vq (.new (.ptr H.nx 0) (qac 0 [.int .u8 (.ofNat 0), .str 0 0, .str 0 0, .nilsl])) H fun a17 H =>
 ve (qb5 4 H a17 a16) fun _ H =>
 vq (qa7 4 H a17) H fun a19 H =>
 ve (call (.f qhz) [a19] H) fun a20 H =>
 ve (qb5 4 H a17 a20) fun _ H =>
 vq (qaj 0 a17) H fun a22 H =>
 vq (qao H a22) H fun a23 H =>
 vq (qaj 0 x1) H fun a24 H =>
 vq (qao H a24) H fun a25 H =>
 vq (intV (qad .eql).f a23 a25) H fun a26 H =>
 vg (qai true a26) (qaj 0 x1) H fun a27 H =>
 vg (qai true a26) (qao H a27) H fun a28 H =>
 vg (qai true a26) (intV (qad .neq).f a28 (.int .u8 (.ofNat 6))) H fun a29 H =>
 vq (qd2 a26 a29 (.bool false)) H fun a30 H =>
 cd a30 (
 vq (qaj 3 a17) H fun a31 H =>
 vq (qao H a31) H fun a32 H =>
 ve (qbb 4 64 H x3 (qd3 4 H a32)) fun a33 H =>
 qg1 call g11 a33 x9 H) (
 vq (qa7 4 H a17) H fun a34 H =>
 vq (qis 1 H.nx (qal (reps [.int .u8 (.ofNat 0), .str 0 0, .str 0 0, .nilsl] 1) [(0, 4, a34)])) H fun a35 H =>
 ve (qbb 4 64 H x3 (qd3 4 H a35)) fun a36 H =>
 qg1 call g11 a36 x9 H)
def qg2 (call : Ev.Call) (q11e0 : AV → Hp → R1) (x1 x7 x8 : AV) (g11 : AV → AV → Hp → R1) (x3 x9 : AV) (H : Hp) : R1 :=
 vq (intV (qad .lss).f x9 x8) H fun a12 H =>
 cd a12 (
 qln call g11 x1 x3 x7 x9 H) (
 q11e0 x3 H)
def qd4 (call : Ev.Call) (q11e0 : AV → Hp → R1) (x1 x7 x8 : AV) (n : Nat) : AV → AV → Hp → R1 :=
 Nat.rec (motive := fun _ => AV → AV → Hp → R1) (fun _ _ _ => .bad) (fun _ ih => qg2 call q11e0 x1 x7 x8 ih) n
def qlo (call : Ev.Call) (q11e0 : AV → Hp → R1) (x1 x7 x8 : AV) : AV → AV → Hp → R1 := qd4 call q11e0 x1 x7 x8 qg0
def qni (call : Ev.Call) (x0 : AV) (H : Hp) : R1 :=
 vq (boxA 4 H.nx x0) H fun a0 H =>
 vq (.new (.ptr H.nx 0) (qac 0 [.int .u8 (.ofNat 0), .str 0 0, .str 0 0, .nilsl])) H fun a1 H =>
 vq (qaj 3 a0) H fun a8 H =>
 vq (qao H a8) H fun a9 H =>
 vq (lenSl a9) H fun a10 H =>
 qlo call (fun x3 H => qfd call a0 a1 x3 H) a0 a9 a10 (.nilsl) (.int .i64 (.ofNat 0)) H
def rules_flat (call : Ev.Call) (x0 : AV) (H : Hp) : R1 := qni call x0 H
def qae (call : Ev.Call) (H : Hp) : R1 :=
 .ok (.bool true) H
def qav (call : Ev.Call) (g2 : AV → Hp → R1) (x17 : AV) (H : Hp) : R1 :=
 vq (intV (qad .add).f x17 (.int .i64 (.ofNat 1))) H fun a4 H =>
 g2 a4 H
def qau (call : Ev.Call) (q2r : AV → Hp → R1) (g2 : AV → Hp → R1) (x1 x2 x15 x17 : AV) (H : Hp) : R1 :=
 vq (idxS 5 x15 x17) H fun a6 H =>
 vq (qa7 5 H a6) H fun a7 H =>
 vq (.new (.ptr H.nx 0) (qac 0 [.int .u8 (.ofNat 0), .str 0 0, .str 0 0, .nilsl, .bool false])) H fun a8 H =>
 ve (qb5 5 H a8 a7) fun _ H =>
 vq (idxS 5 x1 x17) H fun a10 H =>
 vq (qa7 5 H a10) H fun a11 H =>
 vq (.new (.ptr H.nx 0) (qac 0 [.int .u8 (.ofNat 0), .str 0 0, .str 0 0, .nilsl, .bool false])) H fun a12 H =>
 ve (qb5 5 H a12 a11) fun _ H =>
 vq (qa7 5 H a8) H fun a14 H =>
 vq (qa7 5 H a12) H fun a15 H =>
 ve (qom call x2 [a14, a15] H) fun a16 H =>
 vq ((unS .not).f a16) H fun a17 H =>
 cd a17 (
 q2r (.bool false) H) (
 qav call g2 x17 H)
def qaw (call : Ev.Call) (q2r : AV → Hp → R1) (q2e0 : Hp → R1) (x1 x2 x15 x16 : AV) (g2 : AV → Hp → R1) (x17 : AV) (H : Hp) : R1 :=
 vq (intV (qad .lss).f x17 x16) H fun a3 H =>
 cd a3 (
 qau call q2r g2 x1 x2 x15 x17 H) (
 q2e0 H)
def qag (call : Ev.Call) (q2r : AV → Hp → R1) (q2e0 : Hp → R1) (x1 x2 x15 x16 : AV) (n : Nat) : AV → Hp → R1 :=
 Nat.rec (motive := fun _ => AV → Hp → R1) (fun _ _ => .bad) (fun _ ih => qaw call q2r q2e0 x1 x2 x15 x16 ih) n
def qax (call : Ev.Call) (q2r : AV → Hp → R1) (q2e0 : Hp → R1) (x1 x2 x15 x16 : AV) : AV → Hp → R1 := qag call q2r q2e0 x1 x2 x15 x16 qg0
def qat (call : Ev.Call) (x0 x1 x2 : AV) (H : Hp) : R1 :=
 vq (lenSl x0) H fun a1 H =>
 qax call (fun x6 H => .ok x6 H) (fun H => qae call H) x1 x2 x0 a1 (.int .i64 (.ofNat 0)) H
def qay (call : Ev.Call) (x0 x1 x2 : AV) (H : Hp) : R1 :=
 vq (lenSl x0) H fun a20 H =>
 vq (lenSl x1) H fun a21 H =>
 vq (intV (qad .neq).f a20 a21) H fun a22 H =>
 cd a22 (
 .ok (.bool false) H) (
 qat call x0 x1 x2 H)
def slices_EqualFunc_rules_Node_rules_Node_rules_Node_rules_Node (call : Ev.Call) (x0 x1 x2 : AV) (H : Hp) : R1 := qay call x0 x1 x2 H
def qlp (call : Ev.Call) (x0 x1 : AV) (H : Hp) : R1 :=
 vq (boxA 5 H.nx x0) H fun a0 H =>
 vq (boxA 5 H.nx x1) H fun a1 H =>
 vq (qaj 0 a0) H fun a2 H =>
 vq (qao H a2) H fun a3 H =>
 vq (qaj 0 a1) H fun a4 H =>
 vq (qao H a4) H fun a5 H =>
 vq (intV (qad .eql).f a3 a5) H fun a6 H =>
 vg (qai true a6) (qaj 1 a0) H fun a7 H =>
 vg (qai true a6) (qao H a7) H fun a8 H =>
 vg (qai true a6) (qaj 2 a0) H fun a9 H =>
 vg (qai true a6) (qao H a9) H fun a10 H =>
 vg (qai true a6) (aggN (qal [.str 0 0, .str 0 0] [(0, 1, a8), (1, 1, a10)])) H fun a11 H =>
 vg (qai true a6) (qaj 1 a1) H fun a12 H =>
 vg (qai true a6) (qao H a12) H fun a13 H =>
 vg (qai true a6) (qaj 2 a1) H fun a14 H =>
 vg (qai true a6) (qao H a14) H fun a15 H =>
 vg (qai true a6) (aggN (qal [.str 0 0, .str 0 0] [(0, 1, a13), (1, 1, a15)])) H fun a16 H =>
 vg (qai true a6) (qjn false ((⟨E2.f ⟨qol fun xs ys => qme p1 ⟨qjy⟩ 1 xs ys 2 0⟩⟩ : E2).f a11 a16)) H fun a17 H =>
 vq (qd2 a6 a17 (.bool false)) H fun a18 H =>
 vg (qai true a18) (qaj 3 a0) H fun a19 H =>
 vg (qai true a18) (qao H a19) H fun a20 H =>
 vg (qai true a18) (lenSl a20) H fun a21 H =>
 vg (qai true a18) (qaj 3 a1) H fun a22 H =>
 vg (qai true a18) (qao H a22) H fun a23 H =>
 vg (qai true a18) (lenSl a23) H fun a24 H =>
 vg (qai true a18) (intV (qad .eql).f a21 a24) H fun a25 H =>
 vq (qd2 a18 a25 (.bool false)) H fun a26 H =>
 .ok a26 H
def rules_Same_1 (call : Ev.Call) (x0 x1 : AV) (H : Hp) : R1 := qlp call x0 x1 H
def qdc (call : Ev.Call) (x0 x1 : AV) (H : Hp) : R1 :=
 ve (call (.f qdx) [x0, x1] H) fun a0 H =>
 vq (intV (qad .geq).f a0 (.int .i64 (.ofNat 0))) H fun a1 H =>
 .ok a1 H
def slices_Contains_string_string (call : Ev.Call) (x0 x1 : AV) (H : Hp) : R1 := qdc call x0 x1 H
def qfy (call : Ev.Call) (x0 : AV) (H : Hp) : R1 :=
 vq (strV (qh3 .neq).f x0 x0) H fun a0 H =>
 .ok a0 H
def cmp_isNaN_string (call : Ev.Call) (x0 : AV) (H : Hp) : R1 := qfy call x0 H
def qcd (call : Ev.Call) (x3 x11 x12 : AV) (H : Hp) : R1 :=
 dz 0 H fun b24 H =>
 dq true false 0 0 (b24 + 0) H [] [] (fun H => qao H x3) (some true) fun a25 H p w =>
 dq false false 1 0 (b24 + 1) H p w (fun _ => .val x11) (some true) fun a26 H p w =>
 dq false false 2 0 (b24 + 2) H p w (fun _ => .val x12) (some true) fun a27 H p w =>
 de 4 H p w (call (.f qej) [a27] (qck 4 p H)) (some true) fun a28 H p w =>
 dq false false 4 15 (b24 + 4) H p w (fun _ => idxS 5 a25 a26) (some true) fun a29 H p w =>
 dq false false 5 31 (b24 + 5) H p w (fun _ => qaj 3 a29) (some true) fun a30 H p w =>
 de 63 H p w (qcr (qck 63 p H) a30 a28) (some true) fun _ H p w =>
 dz2 p H fun H =>
 .ok (.bool true) H
def qfl (call : Ev.Call) (g37 : AV → AV → Hp → R1) (x12 x52 : AV) (H : Hp) : R1 :=
 vq (intV (qad .add).f x52 (.int .i64 (.ofNat 1))) H fun a39 H =>
 g37 x12 a39 H
def qje (call : Ev.Call) (q37r : AV → Hp → R1) (g37 : AV → AV → Hp → R1) (x0 x1 x2 x3 x6 x12 x52 : AV) (H : Hp) : R1 :=
 vq (qao H x3) H fun a41 H =>
 vq (lenSl a41) H fun a42 H =>
 vq (qis 1 H.nx (qal (reps [.int .i64 (.ofNat 0)] 1) [(0, 1, a42)])) H fun a43 H =>
 ve (qbb 1 8 H x12 (qd3 1 H a43)) fun a44 H =>
 dz 0 H fun b45 H =>
 dq true false 0 0 (b45 + 0) H [] [] (fun H => qao H x6) (some true) fun a46 H p w =>
 dq false false 1 0 (b45 + 1) H p w (fun _ => .val x0) (some true) fun a47 H p w =>
 dq false false 2 2 (b45 + 2) H p w (fun _ => nilC a47) (some true) fun a48 H p w =>
 dq false false 3 6 (b45 + 3) H p w (fun _ => qaj 3 a48) (some true) fun a49 H p w =>
 dq true false 4 14 (b45 + 4) H p w (fun H => qao H a49) (some true) fun a50 H p w =>
 dq false false 5 0 (b45 + 5) H p w (fun _ => .val x52) (some true) fun a51 H p w =>
 dq false false 6 62 (b45 + 6) H p w (fun _ => idxS 4 a50 a51) (some true) fun a52 H p w =>
 dq false false 7 0 (b45 + 7) H p w (fun _ => .val x1) (some true) fun a53 H p w =>
 dq false false 8 128 (b45 + 8) H p w (fun _ => intV (qad .add).f a53 (.int .i64 (.ofNat 1))) (some true) fun a54 H p w =>
 dq false false 9 0 (b45 + 9) H p w (fun _ => .val x2) (some true) fun a55 H p w =>
 dq false false 10 512 (b45 + 10) H p w (fun _ => .val a55) (some true) fun a56 H p w =>
 dq false false 11 1536 (b45 + 11) H p w (fun _ => .val x0) (qai false a56) fun a57 H p w =>
 dq false false 12 3584 (b45 + 12) H p w (fun _ => nilC a57) (qai false a56) fun a58 H p w =>
 dq false false 13 7680 (b45 + 13) H p w (fun _ => qaj 0 a58) (qai false a56) fun a59 H p w =>
 dq true false 14 15872 (b45 + 14) H p w (fun H => qao H a59) (qai false a56) fun a60 H p w =>
 dq false false 15 32256 (b45 + 15) H p w (fun _ => intV (qad .eql).f a60 (.int .u8 (.ofNat 6))) (qai false a56) fun a61 H p w =>
 dq false false 16 65024 (b45 + 16) H p w (fun _ => .val a61) (qai false a56) fun a62 H p w =>
 dq false false 17 130560 (b45 + 17) H p w (fun _ => .val x52) (qai true a62) fun a63 H p w =>
 dq false false 18 261632 (b45 + 18) H p w (fun _ => intV (qad .eql).f a63 (.int .i64 (.ofNat 1))) (qai true a62) fun a64 H p w =>
 dq false false 19 523776 (b45 + 19) H p w (fun _ => qd2 a62 a64 (.bool false)) (qai false a56) fun a65 H p w =>
 dq false false 20 1048064 (b45 + 20) H p w (fun _ => qd2 a56 (.bool true) a65) (some true) fun a66 H p w =>
 de 2097151 H p w (qom call a46 [a52, a54, a66] (qck 2097151 p H)) (some true) fun a67 H p w =>
 dq false false 22 4194303 (b45 + 22) H p w (fun _ => (unS .not).f a67) (some true) fun a68 H p w =>
 dz2 p H fun H =>
 cd a68 (
 q37r (.bool false) H) (
 qfl call g37 a44 x52 H)
def qfm (call : Ev.Call) (q37r : AV → Hp → R1) (q37e0 : AV → Hp → R1) (x0 x1 x2 x3 x6 x51 : AV) (g37 : AV → AV → Hp → R1) (x12 x52 : AV) (H : Hp) : R1 :=
 vq (intV (qad .lss).f x52 x51) H fun a38 H =>
 cd a38 (
 qje call q37r g37 x0 x1 x2 x3 x6 x12 x52 H) (
 q37e0 x12 H)
def qcs (call : Ev.Call) (q37r : AV → Hp → R1) (q37e0 : AV → Hp → R1) (x0 x1 x2 x3 x6 x51 : AV) (n : Nat) : AV → AV → Hp → R1 :=
 Nat.rec (motive := fun _ => AV → AV → Hp → R1) (fun _ _ _ => .bad) (fun _ ih => qfm call q37r q37e0 x0 x1 x2 x3 x6 x51 ih) n
def qhc (call : Ev.Call) (q37r : AV → Hp → R1) (q37e0 : AV → Hp → R1) (x0 x1 x2 x3 x6 x51 : AV) : AV → AV → Hp → R1 := qcs call q37r q37e0 x0 x1 x2 x3 x6 x51 qg0
def qhb (call : Ev.Call) (x0 x1 x2 x3 x6 : AV) (H : Hp) : R1 :=
 vq (qao H x3) H fun a3 H =>
 vq (lenSl a3) H fun a4 H =>
 dz 18 H fun b5 H =>
 dq true false 0 0 (b5 + 0) H [] [] (fun H => qao H x3) (some true) fun a6 H p w =>
 dq false false 1 0 (b5 + 1) H p w (fun _ => .val x0) (some true) fun a7 H p w =>
 dq false false 2 2 (b5 + 2) H p w (fun _ => nilC a7) (some true) fun a8 H p w =>
 dq false false 3 6 (b5 + 3) H p w (fun _ => qaj 0 a8) (some true) fun a9 H p w =>
 dq true false 4 14 (b5 + 4) H p w (fun H => qao H a9) (some true) fun a10 H p w =>
 dq false false 5 0 (b5 + 5) H p w (fun _ => .val x0) (some true) fun a11 H p w =>
 dq false false 6 32 (b5 + 6) H p w (fun _ => nilC a11) (some true) fun a12 H p w =>
 dq false false 7 96 (b5 + 7) H p w (fun _ => qaj 1 a12) (some true) fun a13 H p w =>
 dq true false 8 224 (b5 + 8) H p w (fun H => qao H a13) (some true) fun a14 H p w =>
 dq false false 9 0 (b5 + 9) H p w (fun _ => .val x0) (some true) fun a15 H p w =>
 dq false false 10 512 (b5 + 10) H p w (fun _ => nilC a15) (some true) fun a16 H p w =>
 dq false false 11 1536 (b5 + 11) H p w (fun _ => qaj 2 a16) (some true) fun a17 H p w =>
 dq true false 12 3584 (b5 + 12) H p w (fun H => qao H a17) (some true) fun a18 H p w =>
 dq false false 13 0 (b5 + 13) H p w (fun _ => .val x2) (some true) fun a19 H p w =>
 dq false false 14 16382 (b5 + 14) H p w (fun _ => aggN (qal [.int .u8 (.ofNat 0), .str 0 0, .str 0 0, .nilsl, .bool false] [(0, 1, a10), (1, 1, a14), (2, 1, a18), (4, 1, a19)])) (some true) fun a20 H p w =>
 dq false true 15 32766 (b5 + 15) H p w (fun _ => qis 1 (b5 + 15) (qal (reps [.int .u8 (.ofNat 0), .str 0 0, .str 0 0, .nilsl, .bool false] 1) [(0, 5, a20)])) (some true) fun a21 H p w =>
 de 65535 H p w (qbb 5 72 (qck 65535 p H) a6 (qd3 5 (qck 65535 p H) a21)) (some true) fun a22 H p w =>
 de 131071 H p w (qcr (qck 131071 p H) x3 a22) (some true) fun _ H p w =>
 dz2 p H fun H =>
 vq (nilC x0) H fun a33 H =>
 vq (qaj 3 a33) H fun a34 H =>
 vq (qao H a34) H fun a35 H =>
 vq (lenSl a35) H fun a36 H =>
 qhc call (fun x10 H => .ok x10 H) (fun x12 H => qcd call x3 a4 x12 H) x0 x1 x2 x3 x6 a36 (.nilsl) (.int .i64 (.ofNat 0)) H
def qjd (call : Ev.Call) (x0 x1 x2 x3 x4 x5 x6 : AV) (H : Hp) : R1 :=
 vq (qao H x4) H fun a0 H =>
 vq (qo0 maxV a0 [x1]) H fun a1 H =>
 ve (qcr H x4 a1) fun _ H =>
 vq (qao H x5) H fun a71 H =>
 vq (intV (qad .eql).f a71 (.int .i64 (.ofNat 0))) H fun a72 H =>
 cd a72 (
 ve (call (.f qik) [x0] H) fun a73 H =>
 ve (qcr H x5 a73) fun _ H =>
 qhb call x0 x1 x2 x3 x6 H) (
 qhb call x0 x1 x2 x3 x6 H)
def qij (call : Ev.Call) (x0 x1 x2 x3 x4 x5 x6 : AV) (H : Hp) : R1 :=
 vq (qao H x3) H fun a76 H =>
 vq (lenSl a76) H fun a77 H =>
 vq (intV (qad .eql).f a77 (.int .i64 (.ofNat 32))) H fun a78 H =>
 vg (qai false a78) (.val x1) H fun a79 H =>
 vg (qai false a78) (intV (qad .gtr).f a79 (.int .i64 (.ofNat 8))) H fun a80 H =>
 vq (qd2 a78 (.bool true) a80) H fun a81 H =>
 cd a81 (
 .ok (.bool false) H) (
 qjd call x0 x1 x2 x3 x4 x5 x6 H)
def rules_walk_1 (call : Ev.Call) (x0 x1 x2 x3 x4 x5 x6 : AV) (H : Hp) : R1 := qij call x0 x1 x2 x3 x4 x5 x6 H
def qcf (call : Ev.Call) (x0 : AV) (H : Hp) : R1 :=
 vq (lenSl x0) H fun a0 H =>
 vq (lenSl x0) H fun a1 H =>
 vq (qfc 5 x0 none (some a0) (some a1)) H fun a2 H =>
 .ok a2 H
def slices_Clip_rules_Node_rules_Node (call : Ev.Call) (x0 : AV) (H : Hp) : R1 := qcf call x0 H
def qa2 (call : Ev.Call) (H : Hp) : R1 :=
 .ok (.int .i64 (.negSucc 0)) H
def qfk (call : Ev.Call) (g2 : AV → Hp → R1) (x8 : AV) (H : Hp) : R1 :=
 vq (intV (qad .add).f x8 (.int .i64 (.ofNat 1))) H fun a4 H =>
 g2 a4 H
def qfj (call : Ev.Call) (q2r : AV → Hp → R1) (g2 : AV → Hp → R1) (x0 x1 x8 : AV) (H : Hp) : R1 :=
 vq (idxS 1 x0 x8) H fun a6 H =>
 vq (qao H a6) H fun a7 H =>
 vq (strV (qh3 .eql).f x1 a7) H fun a8 H =>
 cd a8 (
 q2r x8 H) (
 qfk call g2 x8 H)
def qdp (call : Ev.Call) (q2r : AV → Hp → R1) (q2e0 : Hp → R1) (x0 x1 x7 : AV) (g2 : AV → Hp → R1) (x8 : AV) (H : Hp) : R1 :=
 vq (intV (qad .lss).f x8 x7) H fun a3 H =>
 cd a3 (
 qfj call q2r g2 x0 x1 x8 H) (
 q2e0 H)
def qbl (call : Ev.Call) (q2r : AV → Hp → R1) (q2e0 : Hp → R1) (x0 x1 x7 : AV) (n : Nat) : AV → Hp → R1 :=
 Nat.rec (motive := fun _ => AV → Hp → R1) (fun _ _ => .bad) (fun _ ih => qdp call q2r q2e0 x0 x1 x7 ih) n
def qdq (call : Ev.Call) (q2r : AV → Hp → R1) (q2e0 : Hp → R1) (x0 x1 x7 : AV) : AV → Hp → R1 := qbl call q2r q2e0 x0 x1 x7 qg0
def qd1 (call : Ev.Call) (x0 x1 : AV) (H : Hp) : R1 :=
 vq (lenSl x0) H fun a1 H =>
 qdq call (fun x4 H => .ok x4 H) (fun H => qa2 call H) x0 x1 a1 (.int .i64 (.ofNat 0)) H
def slices_Index_string_string (call : Ev.Call) (x0 x1 : AV) (H : Hp) : R1 := qd1 call x0 x1 H
def qed (call : Ev.Call) (H : Hp) : R1 :=
 .ok (.int .i64 (.ofNat 0)) H
def qdg (call : Ev.Call) (x57 : AV) (H : Hp) : R1 :=
 cd x57 (
 .ok (.int .i64 (.ofNat 6)) H) (
 qed call H)
def qbw (call : Ev.Call) (x0 x3 x4 x6 : AV) (H : Hp) : R1 :=
 vq ((unS .not).f x6) H fun a23 H =>
 vg (qai false a23) (qa7 2 H x3) H fun a24 H =>
 vg (qai false a23) (qa7 2 H x4) H fun a25 H =>
 vg (qai false a23) (qjn true ((⟨E2.f ⟨qol fun xs ys => qme p1 ⟨qml⟩ 1 xs ys 2 0⟩⟩ : E2).f a24 a25)) H fun a26 H =>
 vq (qd2 a23 (.bool true) a26) H fun a27 H =>
 cd a27 (
 .ok (.int .i64 (.ofNat 5)) H) (
 vq (nilC x0) H fun a29 H =>
 vq (qaj 0 a29) H fun a30 H =>
 vq (qao H a30) H fun a31 H =>
 vq (intV (qad .eql).f a31 (.int .u8 (.ofNat 3))) H fun a32 H =>
 vg (qai true a32) (.val x0) H fun a33 H =>
 vg (qai true a32) (nilC a33) H fun a34 H =>
 vg (qai true a32) (qaj 2 a34) H fun a35 H =>
 vg (qai true a32) (qao H a35) H fun a36 H =>
 veg (qai true a32) (call (.f qm2) [a36] H) H fun a37 H =>
 vg (qai true a32) ((unS .not).f a37) H fun a38 H =>
 vq (qd2 a32 a38 (.bool false)) H fun a39 H =>
 cd a39 (
 qdg call a39 H) (
 vq (nilC x0) H fun a40 H =>
 vq (qaj 0 a40) H fun a41 H =>
 vq (qao H a41) H fun a42 H =>
 vq (intV (qad .eql).f a42 (.int .u8 (.ofNat 2))) H fun a43 H =>
 vg (qai false a43) (.val x0) H fun a44 H =>
 vg (qai false a43) (nilC a44) H fun a45 H =>
 vg (qai false a43) (qaj 0 a45) H fun a46 H =>
 vg (qai false a43) (qao H a46) H fun a47 H =>
 vg (qai false a43) (intV (qad .eql).f a47 (.int .u8 (.ofNat 3))) H fun a48 H =>
 vq (qd2 a43 (.bool true) a48) H fun a49 H =>
 vg (qai true a49) (.val x0) H fun a50 H =>
 vg (qai true a49) (nilC a50) H fun a51 H =>
 vg (qai true a49) (qaj 1 a51) H fun a52 H =>
 vg (qai true a49) (qao H a52) H fun a53 H =>
 veg (qai true a49) (call (.f qm2) [a53] H) H fun a54 H =>
 vg (qai true a49) ((unS .not).f a54) H fun a55 H =>
 vq (qd2 a49 a55 (.bool false)) H fun a56 H =>
 qdg call a56 H))
def qf3 (call : Ev.Call) (x0 x3 x4 x5 x29 x40 : AV) (H : Hp) : R1 :=
 cd x40 (
 vq (intV (qad .geq).f x5 (.int .i64 (.ofNat 2))) H fun a70 H =>
 qbw call x0 x3 x4 a70 H) (
 vq (intV (qad .eql).f x29 (.int .u8 (.ofNat 6))) H fun a71 H =>
 cd a71 (
 vq (intV (qad .eql).f x5 (.int .i64 (.ofNat 2))) H fun a72 H =>
 qbw call x0 x3 x4 a72 H) (
 .ok (.int .i64 (.ofNat 10)) H))
def qms (call : Ev.Call) (x0 : AV) (H : Hp) : R1 :=
 dz 13 H fun b0 H =>
 dq false false 0 0 (b0 + 0) H [] [] (fun _ => .val x0) (some true) fun a1 H p w =>
 dq false false 1 1 (b0 + 1) H p w (fun _ => nilC a1) (some true) fun a2 H p w =>
 dq false false 2 3 (b0 + 2) H p w (fun _ => qaj 1 a2) (some true) fun a3 H p w =>
 dq true false 3 7 (b0 + 3) H p w (fun H => qao H a3) (some true) fun a4 H p w =>
 dq false false 4 15 (b0 + 4) H p w (fun _ => strV (qh3 .neq).f a4 (.str 0 0)) (some true) fun a5 H p w =>
 dq false false 5 0 (b0 + 5) H p w (fun _ => .val x0) (some true) fun a6 H p w =>
 dq false false 6 32 (b0 + 6) H p w (fun _ => nilC a6) (some true) fun a7 H p w =>
 dq false false 7 96 (b0 + 7) H p w (fun _ => qaj 2 a7) (some true) fun a8 H p w =>
 dq true false 8 224 (b0 + 8) H p w (fun H => qao H a8) (some true) fun a9 H p w =>
 dq false false 9 480 (b0 + 9) H p w (fun _ => strV (qh3 .neq).f a9 (.str 0 0)) (some true) fun a10 H p w =>
 dq false false 10 1023 (b0 + 10) H p w (fun _ => aggN (qal [.bool false, .bool false] [(0, 1, a5), (1, 1, a10)])) (some true) fun a11 H p w =>
 dq false true 11 0 (b0 + 11) H p w (fun _ => .new (.ptr (b0 + 11) 0) (qac 0 [.bool false, .bool false])) (some true) fun a12 H p w =>
 de 4095 H p w (qb5 2 (qck 4095 p H) a12 a11) (some true) fun _ H p w =>
 dz2 p H fun H =>
 vq (aggN (qal [.bool false, .bool false] [])) H fun a14 H =>
 vq (.new (.ptr H.nx 0) (qac 0 [.bool false, .bool false])) H fun a15 H =>
 ve (qb5 2 H a15 a14) fun _ H =>
 vq (nilC x0) H fun a17 H =>
 vq (qaj 3 a17) H fun a18 H =>
 vq (qao H a18) H fun a19 H =>
 vq (lenSl a19) H fun a20 H =>
 vq (intV (qad .eql).f a20 (.int .i64 (.ofNat 0))) H fun a21 H =>
 vq (nilC x0) H fun a58 H =>
 vq (qaj 0 a58) H fun a59 H =>
 vq (qao H a59) H fun a60 H =>
 vq (intV (qad .eql).f a60 (.int .u8 (.ofNat 1))) H fun a61 H =>
 cd a61 (
 qbw call x0 a12 a15 a21 H) (
 vq (intV (qad .eql).f a60 (.int .u8 (.ofNat 2))) H fun a62 H =>
 cd a62 (
 vq (idxA 2 1 a12 (.int .i64 (.ofNat 0))) H fun a63 H =>
 vq (qao H a63) H fun a64 H =>
 vq (aggN (qal [.bool false, .bool false] [(0, 1, a64), (1, 1, (.bool false))])) H fun a65 H =>
 ve (qb5 2 H a15 a65) fun _ H =>
 qbw call x0 a12 a15 a21 H) (
 vq (intV (qad .eql).f a60 (.int .u8 (.ofNat 3))) H fun a67 H =>
 cd a67 (
 vq (qa7 2 H a12) H fun a68 H =>
 ve (qb5 2 H a15 a68) fun _ H =>
 qbw call x0 a12 a15 a21 H) (
 vq (intV (qad .eql).f a60 (.int .u8 (.ofNat 4))) H fun a74 H =>
 cd a74 (
 qf3 call x0 a12 a15 a20 a60 a74 H) (
 vq (intV (qad .eql).f a60 (.int .u8 (.ofNat 5))) H fun a75 H =>
 qf3 call x0 a12 a15 a20 a60 a75 H))))
def rules_alone (call : Ev.Call) (x0 : AV) (H : Hp) : R1 := qms call x0 H
def qf2 (call : Ev.Call) (x0 : AV) (H : Hp) : R1 :=
 vq (lenSl x0) H fun a0 H =>
 vq (lenSl x0) H fun a1 H =>
 vq (qfc 1 x0 none (some a0) (some a1)) H fun a2 H =>
 .ok a2 H
def slices_Clip_int_int (call : Ev.Call) (x0 : AV) (H : Hp) : R1 := qf2 call x0 H
end Go.Di
end
noncomputable section
namespace Go.Di
open Go.Ev
theorem qor (a b : Nat) : Nat.blt a b = decide (a < b) := by
 cases h : Nat.blt a b with
 | true => symm; rw [decide_eq_true_iff]; exact Nat.le_of_ble_eq_true h
 | false => symm; rw [decide_eq_false_iff_not]; intro h'; rw [show Nat.blt a b = Nat.ble (a + 1) b from rfl, Nat.ble_eq_true_of_le h'] at h; cases h
theorem ble_eq (a b : Nat) : Nat.ble a b = decide (a ≤ b) := by
 cases h : Nat.ble a b with
 | true => symm; rw [decide_eq_true_iff]; exact Nat.le_of_ble_eq_true h
 | false => symm; rw [decide_eq_false_iff_not]; intro h'; rw [Nat.ble_eq_true_of_le h'] at h; cases h
theorem beq_eq (a b : Nat) : Nat.beq a b = decide (a = b) := by
 cases h : Nat.beq a b with
 | true => simp [Nat.eq_of_beq_eq_true h]
 | false => symm; rw [decide_eq_false_iff_not]; rintro rfl; rw [Nat.beq_refl] at h; cases h
/- trees are equal where all their cells are -/
theorem Q_ext {α : Type} {t u : Q α} (h : ∀ k, k < 8 → qro k t = qro k u) : t = u := by
 cases t; cases u
 have h0 := h 0 (by decide); have h1 := h 1 (by decide); have h2 := h 2 (by decide); have h3 := h 3 (by decide)
 have h4 := h 4 (by decide); have h5 := h 5 (by decide); have h6 := h 6 (by decide); have h7 := h 7 (by decide)
 simp only [qro] at h0 h1 h2 h3 h4 h5 h6 h7
 subst h0; subst h1; subst h2; subst h3; subst h4; subst h5; subst h6; subst h7
 rfl
theorem q54 {α : Type} : ∀ (d : Nat) {t u : TT α d}, (∀ i, i < 8 ^ d → (qap d i).f t = (qap d i).f u) → t = u
 | 0, t, u, h => h 0 (by decide)
 | d + 1, t, u, h => by
  refine Q_ext fun k hk => q54 d fun i hi => ?_
  have := h (i * 8 + k) (by rw [Nat.pow_succ]; omega)
  rw [qk4, qk4] at this
  rwa [show (i * 8 + k) / 8 = i by omega, show (i * 8 + k) % 8 = k by omega] at this
/- blocks as lists -/
def cellsOf (l : List AV) : TT AV (qan l.length) := wrL l 0 (same .undef _)
theorem qif (l : List AV) (i : Nat) (hi : i < 8 ^ qan l.length) : (qap _ i).f (cellsOf l) = l.getD i .undef := by
 unfold cellsOf
 rw [qpx _ _ _ _ (by simpa using qfv l.length) hi]
 by_cases h : i < l.length
 ·rw [if_pos (by omega)]; rfl
 ·rw [if_neg (by omega), qoh]
  simp [List.getD_eq_getElem?_getD, List.getElem?_eq_none (Nat.le_of_not_lt h)]
theorem qpl (z : Nat) (l : List AV) : qac z l = .cells (qan l.length) l.length (cellsOf l) false z := id rfl
def setL (l : List AV) (o : Nat) (v : List AV) : List AV := l.take o ++ v ++ l.drop (o + v.length)
theorem qkq (l : List AV) (o : Nat) (v : List AV) (h : o + v.length ≤ l.length) : (setL l o v).length = l.length := by
 simp [setL]; omega
theorem q3d (l : List AV) (o : Nat) (v : List AV) (h : o + v.length ≤ l.length) (i : Nat) :
  (setL l o v).getD i .undef = if o ≤ i ∧ i < o + v.length then v.getD (i - o) .undef else l.getD i .undef := by
 unfold setL
 simp only [List.getD_eq_getElem?_getD]
 by_cases h1 : i < o
 ·rw [if_neg (by omega), List.append_assoc, List.getElem?_append_left (by simp; omega), List.getElem?_take_of_lt h1]
 ·by_cases h2 : i < o + v.length
  ·rw [if_pos (by omega), List.append_assoc, List.getElem?_append_right (by simp; omega), List.getElem?_append_left (by simp; omega)]
   simp [Nat.min_eq_left (show o ≤ l.length by omega)]
  ·rw [if_neg (by omega), List.getElem?_append_right (by simp; omega), List.getElem?_drop]
   simp only [List.length_append, List.length_take, Nat.min_eq_left (show o ≤ l.length by omega)]
   congr 2; omega
theorem qws (z : Nat) (l v : List AV) (o : Nat) : qzs (qac z l) o v = if o + v.length ≤ l.length then some (qac z (setL l o v)) else none := by
 rw [qpl]
 show (bif Nat.ble (o + v.length) l.length then some (Blk.cells _ _ (wrL v o (cellsOf l)) false z) else none) = _
 by_cases h : o + v.length ≤ l.length
 ·rw [if_pos h, Nat.ble_eq_true_of_le h]
  have hl := qkq l o v h
  rw [qpl]
  have key : ∀ (n : Nat) (e : n = l.length) (c : TT AV (qan n)), (∀ i, i < 8 ^ qan n → (qap _ i).f c = (setL l o v).getD i .undef) → Blk.cells (qan l.length) l.length (wrL v o (cellsOf l)) false z = Blk.cells (qan n) n c false z := by
   intro n e c hc
   subst e
   congr 1
   refine q54 _ fun i hi => ?_
   have := qfv l.length
   rw [hc i hi, q3d _ _ _ h, qpx _ _ _ _ (by omega) hi, qif _ _ hi]
  exact congrArg some (key _ hl _ fun i hi => qif _ _ hi)
 ·rw [if_neg h]
  have : Nat.ble (o + v.length) l.length = false := by
   cases hb : Nat.ble (o + v.length) l.length with
   | false => rfl
   | true => exact absurd (Nat.le_of_ble_eq_true hb) h
  rw [this]; rfl
theorem qiq (z : Nat) (l : List AV) (o : Nat) : qbt (qac z l) o = match l[o]? with | some v => .val v | none => .bad := by
 rw [qpl]
 show (bif Nat.blt o l.length then R0.val ((qap _ o).f (cellsOf l)) else .bad) = _
 by_cases h : o < l.length
 ·have hb : Nat.blt o l.length = true := by rw [qor]; simpa using h
  rw [hb, qif _ _ (Nat.lt_of_lt_of_le h (qfv _))]
  simp [h]
 ·have hb : Nat.blt o l.length = false := by rw [qor]; simpa using h
  rw [hb]
  simp [Nat.le_of_not_lt h]
theorem qxa {d : Nat} (c : TT AV d) (l : List AV) (hc : ∀ i, i < 8 ^ d → (qap d i).f c = l.getD i .undef) : ∀ (k o : Nat), o + k ≤ l.length → l.length ≤ 8 ^ d → rdN c k o = (l.drop o).take k
 | 0, o, _, _ => by simp [q3j]
 | k + 1, o, h, h2 => by
  rw [qtm, hc _ (by omega), qxa c l hc k (o + 1) (by omega) h2]
  rw [List.drop_eq_getElem_cons (show o < l.length by omega), List.take_succ_cons]
  simp [show o < l.length by omega]
theorem qmj (z : Nat) (l : List AV) (o k : Nat) : qd6 (qac z l) o k = if o + k ≤ l.length then some ((l.drop o).take k) else none := by
 rw [qpl]
 show (bif Nat.ble (o + k) l.length then some (rdN (cellsOf l) k o) else none) = _
 by_cases h : o + k ≤ l.length
 ·rw [if_pos h, Nat.ble_eq_true_of_le h, qxa _ l (fun i hi => qif l i hi) k o h (qfv _)]; rfl
 ·rw [if_neg h]
  have : Nat.ble (o + k) l.length = false := by
   cases hb : Nat.ble (o + k) l.length with
   | false => rfl
   | true => exact absurd (Nat.le_of_ble_eq_true hb) h
  rw [this]; rfl
theorem q18 (z z' : Nat) (l : List AV) (e : Nat) : qoq (qac z l) e z' = (decide (l.length = e) && decide (z = z')) := by
 rw [qpl]
 show (Nat.beq l.length e && Nat.beq z z') = _
 have hb : ∀ a b, Nat.beq a b = decide (a = b) := fun a b => by
  cases h : Nat.beq a b with
  | true => simp [Nat.eq_of_beq_eq_true h]
  | false => symm; rw [decide_eq_false_iff_not]; rintro rfl; rw [Nat.beq_refl] at h; cases h
 rw [hb, hb]
/- memory -/
theorem get_put (H : Hp) (b c : Nat) (k : Blk) : (H.put b k).get c = if c = b then k else H.get c := Mem.get_put H.t b c k
theorem qar (H : Hp) (b : Nat) (k : Blk) : (H.put b k).get b = k := by rw [get_put, if_pos rfl]
theorem qbz (H : Hp) (b c : Nat) (k : Blk) (h : c ≠ b) : (H.put b k).get c = H.get c := by rw [get_put, if_neg h]
theorem qab (H : Hp) (b : Nat) (k : Blk) : (H.put b k).nx = H.nx := id rfl
theorem qpo (H : Hp) (c : Nat) (k : Blk) : (qaq H k).get c = if c = H.nx then k else H.get c := Mem.get_put H.t H.nx c k
theorem qby (H : Hp) (k : Blk) : (qaq H k).get H.nx = k := by rw [qpo, if_pos rfl]
theorem qwb (H : Hp) (c : Nat) (k : Blk) (h : H.nx ≤ c ∧ c ≤ H.nx) : (qaq H k).get c = k := by rw [qpo, if_pos (by omega)]
theorem qhi (H : Hp) (c : Nat) (k : Blk) (h : c < H.nx) : (qaq H k).get c = H.get c := by rw [qpo, if_neg (by omega)]
theorem qaa (H : Hp) (k : Blk) : (qaq H k).nx = H.nx + 1 := id rfl
structure Fm (S : Nat → Prop) (H H' : Hp) : Prop where
 nx : H.nx ≤ H'.nx
 get : ∀ b, b < H.nx → ¬ S b → H'.get b = H.get b
def No : Nat → Prop := fun _ => False
theorem Fm.refl (S : Nat → Prop) (H : Hp) : Fm S H H := ⟨Nat.le_refl _, fun _ _ _ => rfl⟩
theorem Fm.trans {S : Nat → Prop} {H H1 H2 : Hp} (a : Fm S H H1) (b : Fm S H1 H2) : Fm S H H2 := ⟨Nat.le_trans a.nx b.nx, fun c hc hs => (b.get c (Nat.lt_of_lt_of_le hc a.nx) hs).trans (a.get c hc hs)⟩
theorem Fm.mono {S T : Nat → Prop} {H H' : Hp} (a : Fm S H H') (h : ∀ b, b < H.nx → S b → T b) : Fm T H H' := ⟨a.nx, fun b hb ht => a.get b hb fun hs => ht (h b hb hs)⟩
theorem Fm.push {S : Nat → Prop} {H H' : Hp} (a : Fm S H H') (k : Blk) : Fm S H (qaq H' k) := ⟨Nat.le_succ_of_le a.nx, fun b hb hs => by rw [qhi _ _ _ (Nat.lt_of_lt_of_le hb a.nx)]; exact a.get b hb hs⟩
theorem Fm.put {S : Nat → Prop} {H H' : Hp} (a : Fm S H H') (b : Nat) (k : Blk) (h : b < H.nx → S b) : Fm S H (H'.put b k) := ⟨a.nx, fun c hc hs => by
 rw [qbz _ _ _ _ (fun e => hs (by subst e; exact h hc))]; exact a.get c hc hs⟩
theorem Fm.put_new {S : Nat → Prop} {H H' : Hp} (a : Fm S H H') (b : Nat) (k : Blk) (h : H.nx ≤ b) : Fm S H (H'.put b k) := a.put b k fun hb => by omega
theorem Fm.keep {H H' : Hp} (a : Fm No H H') {b : Nat} (hb : b < H.nx) : H'.get b = H.get b := a.get b hb id
theorem Fm.then {S T : Nat → Prop} {H H1 H2 : Hp} (a : Fm S H H1) (b : Fm T H1 H2) (h : ∀ c, c < H.nx → T c → S c) : Fm S H H2 :=
 ⟨Nat.le_trans a.nx b.nx, fun c hc hs => (b.get c (Nat.lt_of_lt_of_le hc a.nx) fun ht => hs (h c hc ht)).trans (a.get c hc hs)⟩
def Ok (r : R1) (Q : AV → Hp → Prop) : Prop := ∃ v H', r = .ok v H' ∧ Q v H'
theorem Ok.ret {v : AV} {H : Hp} {Q : AV → Hp → Prop} (h : Q v H) : Ok (.ok v H) Q := ⟨v, H, rfl, h⟩
theorem Ok.mono {r : R1} {Q R : AV → Hp → Prop} (h : Ok r Q) (hm : ∀ v H, Q v H → R v H) : Ok r R := by
 obtain ⟨v, H, e, q⟩ := h; exact ⟨v, H, e, hm _ _ q⟩
theorem Ok.ve {r : R1} {k : AV → Hp → R1} {Q R : AV → Hp → Prop} (h : Ok r R) (hk : ∀ v H, R v H → Ok (k v H) Q) : Ok (ve r k) Q := by
 obtain ⟨v, H, e, q⟩ := h; subst e; exact hk v H q
theorem Ok.de {A : Nat} {H : Hp} {p : List Pd} {w : List Wt} {r : R1} {k : AV → Hp → List Pd → List Wt → R1} {Q R : AV → Hp → Prop} (h : Ok r R)
  (hk : ∀ v H', R v H' → qo2 (qj0 A p) H' (qjz A w) = true ∧ Ok (k v H' (qj0 A p) (qjz A w)) Q) : Ok (de A H p w r (some true) k) Q := by
 obtain ⟨v, H', e, q⟩ := h
 subst e
 obtain ⟨h1, h2⟩ := hk v H' q
 rw [q4v]
 unfold de0
 simp only [h1, cond_true]
 exact h2
/- steps -/
theorem q8r (v : AV) (H : Hp) (k : AV → Hp → R1) : vq (.val v) H k = k v H := id rfl
theorem q8s (v : AV) (b : Blk) (H : Hp) (k : AV → Hp → R1) : vq (.new v b) H k = k v (qaq H b) := id rfl
theorem ve_ok (v : AV) (H : Hp) (k : AV → Hp → R1) : ve (.ok v H) k = k v H := id rfl
theorem vg_t (r : R0) (H : Hp) (k : AV → Hp → R1) : vg (some true) r H k = vq r H k := by rw [q58]; rfl
theorem vg_f (r : R0) (H : Hp) (k : AV → Hp → R1) : vg (some false) r H k = k .undef H := by rw [q58]; rfl
theorem veg_t (r : R1) (H : Hp) (k : AV → Hp → R1) : veg (some true) r H k = ve r k := by rw [qzx]; rfl
theorem veg_f (r : R1) (H : Hp) (k : AV → Hp → R1) : veg (some false) r H k = k .undef H := by rw [qzx]; rfl
theorem q8u (v : AV) (k : AV → R1) : vl (.val v) k = k v := id rfl
theorem vlg_t (r : R0) (k : AV → R1) : vlg (some true) r k = vl r k := by rw [qwt]; rfl
theorem vlg_f (r : R0) (k : AV → R1) : vlg (some false) r k = k .undef := by rw [qwt]; rfl
theorem q57 (a b : Bool) : qai a (.bool b) = some (b == a) := id rfl
theorem q56 (a : Bool) : qai a .undef = some false := id rfl
theorem cd_t (x y : R1) : cd (.bool true) x y = x := id rfl
theorem cd_f (x y : R1) : cd (.bool false) x y = y := id rfl
theorem dz_eq (up : Nat) (H : Hp) (k : Nat → Hp → R1) : dz up H k = k H.nx ⟨H.t, H.nx + up⟩ := id rfl
theorem q6x (c : Bool) (a b : AV) : qd2 (.bool c) a b = .val (if c = true then a else b) := by cases c <;> rfl
@[congr] theorem vq_congr {r r' : R0} {H : Hp} {k : AV → Hp → R1} (h : r = r') : vq r H k = vq r' H k := by rw [h]
@[congr] theorem ve_congr {r r' : R1} {k : AV → Hp → R1} (h : r = r') : ve r k = ve r' k := by rw [h]
@[congr] theorem vg_congr {w w' : Option Bool} {r : R0} {H : Hp} {k : AV → Hp → R1} (h : w = w') : vg w r H k = vg w' r H k := by rw [h]
@[congr] theorem q8v {w w' : Option Bool} {r : R1} {H : Hp} {k : AV → Hp → R1} (h : w = w') : veg w r H k = veg w' r H k := by rw [h]
@[congr] theorem vl_congr {r r' : R0} {k : AV → R1} (h : r = r') : vl r k = vl r' k := by rw [h]
@[congr] theorem q8t {w w' : Option Bool} {r : R0} {k : AV → R1} (h : w = w') : vlg w r k = vlg w' r k := by rw [h]
@[congr] theorem cd_congr {x x' : AV} {a b : R1} (h : x = x') : cd x a b = cd x' a b := by rw [h]
@[congr] theorem dz_congr {u : Nat} {H : Hp} {k : Nat → Hp → R1} : dz u H k = dz u H k := rfl
end Go.Di
end
