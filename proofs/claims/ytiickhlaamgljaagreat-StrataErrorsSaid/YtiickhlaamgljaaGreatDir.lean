/-
 For countersignlaw18.StrataErrors: the functions of the law in direct style (printed by a program). No conditions beyond those that each theorem states.
-/
import Derived.Test.YtiickhlaamgljaaGreatEv4
import Derived.Test.YtiickhlaamgljaaGreatGraB
set_option linter.unusedSimpArgs false
set_option linter.unusedVariables false
noncomputable section
namespace Go.Di
open Go.Ev
def q8q : FuncId := 6
def qb1 : FuncId := 14
def qhk : FuncId := 28
def qib : FuncId := 11
def qh9 : FuncId := 12
def qj1 : FuncId := 13
def qqa : FuncId := 21
def qp9 : FuncId := 23
def qic : FuncId := 22
def qqi : FuncId := 63
def ql9 : FuncId := 32
def qql : FuncId := 33
def qkg : FuncId := 34
def qgk : FuncId := 35
def qia : FuncId := 37
def qqd : FuncId := 36
def ql7 : FuncId := 38
def qfa : FuncId := 39
def qi3 : FuncId := 92
def ql6 : FuncId := 93
def qw9 : FuncId := 91
def qie : FuncId := 66
def qqj : FuncId := 65
def qid : FuncId := 67
def ql8 : FuncId := 71
def qqk : FuncId := 70
def qqh : FuncId := 72
def qqc : FuncId := 73
def qma : FuncId := 124
def qkh : FuncId := 102
def qhj : FuncId := 100
def qf0 : FuncId := 101
def qf1 : FuncId := 131
def qeq : FuncId := 132
def qqe : FuncId := 169
def quy : FuncId := 171
def qqb : FuncId := 170
def qcc : FuncId := 188
def qqf : FuncId := 187
def qqg : FuncId := 196
def qbl : FuncId := 99
def qdm : FuncId := 68
def qd2 : FuncId := 69
def qd1 (call : Ev.Call) (x8 x9 x10 x11 x12 : AV) (H : Hp) : R1 :=
 vq (qba 1 H x8) H fun a4 H =>
 ve (call (.f qic) [a4] H) fun a5 H =>
 vq (intV (qab .eql).f a5 (.int .i64 (.ofNat 0))) H fun a6 H =>
 vg (qam true a6) (.val x9) H fun a7 H =>
 vg (qam true a6) (intV (qab .eql).f a7 (.int .i64 (.ofNat 0))) H fun a8 H =>
 vq (qb9 a6 a8 (.bool false)) H fun a9 H =>
 vg (qam true a9) (.val x10) H fun a10 H =>
 vg (qam true a9) (intV (qab .eql).f a10 (.int .i64 (.ofNat 6))) H fun a11 H =>
 vq (qb9 a9 a11 (.bool false)) H fun a12 H =>
 vg (qam true a12) (.val x11) H fun a13 H =>
 vg (qam true a12) (.val x12) H fun a14 H =>
 veg (qam true a12) (call (.f qj1) [a13, a14, (.nilsl), (.int .i64 (.ofNat 4))] H) H fun a15 H =>
 vq (qb9 a12 a15 (.bool false)) H fun a16 H =>
 veg (qam true a16) (call (.f qb1) [] H) H fun a17 H =>
 vq (qb9 a16 a17 (.bool false)) H fun a18 H =>
 .ok a18 H
def qp5 : Ev.Call → AV → AV → AV → AV → AV → Hp → R1 := Classical.choose (⟨qd1, rfl⟩ : ∃ f, f = qd1)
theorem qn5 : qp5 = qd1 := Classical.choose_spec (⟨qd1, rfl⟩ : ∃ f, f = qd1)
def qd0 (call : Ev.Call) (x8 x9 x10 : AV) (H : Hp) : R1 :=
 vq (qba 1 H x8) H fun a20 H =>
 ve (call (.f qp9) [a20, (.int .i64 (.ofNat 0))] H) fun a21 H =>
 vq (extr 0 a21) H fun a22 H =>
 vq (extr 1 a21) H fun a23 H =>
 qp5 call x8 x9 x10 a22 a23 H
def qp4 : Ev.Call → AV → AV → AV → Hp → R1 := Classical.choose (⟨qd0, rfl⟩ : ∃ f, f = qd0)
theorem qn4 : qp4 = qd0 := Classical.choose_spec (⟨qd0, rfl⟩ : ∃ f, f = qd0)
def qdz (call : Ev.Call) (H : Hp) : R1 :=
 vq (.new (.ptr H.nx 0) (qaa 0 [.nilsl])) H fun a3 H =>
 vq (qba 1 H a3) H fun a25 H =>
 ve (call (.f qqa) [a25, (.str 1 97), (.str 1 98)] H) fun a26 H =>
 vq (extr 0 a26) H fun a27 H =>
 vq (extr 1 a26) H fun a28 H =>
 qp4 call a3 a27 a28 H
def qly : Ev.Call → Hp → R1 := Classical.choose (⟨qdz, rfl⟩ : ∃ f, f = qdz)
theorem qn3 : qly = qdz := Classical.choose_spec (⟨qdz, rfl⟩ : ∃ f, f = qdz)
def qdc (call : Ev.Call) (x66 : AV) (H : Hp) : R1 :=
 cd x66 (
 .ok (.bool false) H) (
 qly call H)
def qlx : Ev.Call → AV → Hp → R1 := Classical.choose (⟨qdc, rfl⟩ : ∃ f, f = qdc)
theorem qn2 : qlx = qdc := Classical.choose_spec (⟨qdc, rfl⟩ : ∃ f, f = qdc)
def qdb (call : Ev.Call) (x3 x4 x5 x6 x7 : AV) (H : Hp) : R1 :=
 vq (intV (qab .neq).f x3 (.int .i64 (.ofNat 0))) H fun a31 H =>
 vg (qam true a31) (.val x4) H fun a32 H =>
 vg (qam true a31) (.val x5) H fun a33 H =>
 vg (qam true a31) (.val x3) H fun a34 H =>
 veg (qam true a31) (call (.f qj1) [a32, a33, (.nilsl), a34] H) H fun a35 H =>
 vg (qam true a31) ((unS .not).f a35) H fun a36 H =>
 vg (qam true a31) (.val a36) H fun a37 H =>
 vg (qam false a37) (.val x6) H fun a38 H =>
 vg (qam false a37) (.val x7) H fun a39 H =>
 vg (qam false a37) (.val x3) H fun a40 H =>
 veg (qam false a37) (call (.f qj1) [a38, a39, (.nilsl), a40] H) H fun a41 H =>
 vg (qam false a37) ((unS .not).f a41) H fun a42 H =>
 vg (qam true a31) (qb9 a37 (.bool true) a42) H fun a43 H =>
 vq (qb9 a31 a43 (.bool false)) H fun a44 H =>
 vg (qam false a44) (.val x3) H fun a45 H =>
 vg (qam false a44) (intV (qab .eql).f a45 (.int .i64 (.ofNat 0))) H fun a46 H =>
 vg (qam false a44) (.val a46) H fun a47 H =>
 vg (qam true a47) (.val x5) H fun a48 H =>
 vg (qam true a47) (intV (qab .eql).f a48 (.int .i64 (.ofNat 0))) H fun a49 H =>
 vg (qam true a47) (.val x7) H fun a50 H =>
 vg (qam true a47) (intV (qab .eql).f a50 (.int .i64 (.ofNat 8))) H fun a51 H =>
 vg (qam true a47) (qnc true ((⟨E2.f ⟨qmm⟩⟩ : E2).f a49 a51)) H fun a52 H =>
 vg (qam false a44) (qb9 a47 a52 (.bool false)) H fun a53 H =>
 vq (qb9 a44 (.bool true) a53) H fun a54 H =>
 qlx call a54 H
def qp3 : Ev.Call → AV → AV → AV → AV → AV → Hp → R1 := Classical.choose (⟨qdb, rfl⟩ : ∃ f, f = qdb)
theorem qn0 : qp3 = qdb := Classical.choose_spec (⟨qdb, rfl⟩ : ∃ f, f = qdb)
def qda (call : Ev.Call) (x1 x3 x4 x5 : AV) (H : Hp) : R1 :=
 vq (qba 2 H x1) H fun a56 H =>
 ve (call (.f qh9) [a56] H) fun a57 H =>
 vq (extr 0 a57) H fun a58 H =>
 vq (extr 1 a57) H fun a59 H =>
 qp3 call x3 x4 x5 a58 a59 H
def qp2 : Ev.Call → AV → AV → AV → AV → Hp → R1 := Classical.choose (⟨qda, rfl⟩ : ∃ f, f = qda)
theorem qny : qp2 = qda := Classical.choose_spec (⟨qda, rfl⟩ : ∃ f, f = qda)
def qdy (call : Ev.Call) (x1 : AV) (H : Hp) : R1 :=
 vq (qba 2 H x1) H fun a1 H =>
 ve (call (.f qhk) [a1] H) fun a2 H =>
 vq (qba 2 H x1) H fun a61 H =>
 ve (call (.f qib) [a61] H) fun a62 H =>
 vq (extr 0 a62) H fun a63 H =>
 vq (extr 1 a62) H fun a64 H =>
 qp2 call x1 a2 a63 a64 H
def qp1 : Ev.Call → AV → Hp → R1 := Classical.choose (⟨qdy, rfl⟩ : ∃ f, f = qdy)
theorem qnw : qp1 = qdy := Classical.choose_spec (⟨qdy, rfl⟩ : ∃ f, f = qdy)
def qcs (call : Ev.Call) (x1 x26 : AV) (H : Hp) : R1 :=
 cd x26 (
 ve (call (.f qb1) [] H) fun a66 H =>
 .ok a66 H) (
 qp1 call x1 H)
def qlw : Ev.Call → AV → AV → Hp → R1 := Classical.choose (⟨qcs, rfl⟩ : ∃ f, f = qcs)
theorem qnv : qlw = qcs := Classical.choose_spec (⟨qcs, rfl⟩ : ∃ f, f = qcs)
def zae (call : Ev.Call) (x0 : AV) (H : Hp) : R1 :=
 vq (boxA 2 H.nx x0) H fun a0 H =>
 vq (qaf 1 a0) H fun a68 H =>
 vq (qag H a68) H fun a69 H =>
 vq (lenSl a69) H fun a70 H =>
 vq (intV (qab .gtr).f a70 (.int .i64 (.ofNat 60))) H fun a71 H =>
 vg (qam false a71) (qaf 0 a0) H fun a72 H =>
 vg (qam false a71) (qag H a72) H fun a73 H =>
 vg (qam false a71) (intV (qab .gtr).f a73 (.int .i64 (.ofNat 40))) H fun a74 H =>
 vg (qam false a71) (.val a74) H fun a75 H =>
 vg (qam true a75) (qaf 0 a0) H fun a76 H =>
 vg (qam true a75) (qag H a76) H fun a77 H =>
 vg (qam true a75) (intV (qab .leq).f a77 (.int .i64 (.ofNat 256))) H fun a78 H =>
 vg (qam false a71) (qb9 a75 a78 (.bool false)) H fun a79 H =>
 vq (qb9 a71 (.bool true) a79) H fun a80 H =>
 qlw call a0 a80 H
def lwR (call : Ev.Call) (x0 : AV) (H : Hp) : R1 := zae call x0 H
def qf3 (call : Ev.Call) (H : Hp) : R1 :=
 .ok (.int .i64 (.ofNat 0)) H
def qi6 (call : Ev.Call) (g5 : AV → Hp → R1) (x16 : AV) (H : Hp) : R1 :=
 vq (intV (qab .add).f x16 (.int .i64 (.ofNat 1))) H fun a7 H =>
 g5 a7 H
def qxa (call : Ev.Call) (q5r : AV → Hp → R1) (g5 : AV → Hp → R1) (x1 x3 x4 x16 : AV) (H : Hp) : R1 :=
 vq (qaf 0 x4) H fun a13 H =>
 vq (qag H a13) H fun a14 H =>
 vq (qaf 1 x4) H fun a15 H =>
 vq (qag H a15) H fun a16 H =>
 vq (qer minV a14 [a16]) H fun a17 H =>
 vq (intV (qab .lss).f a17 (.int .i64 (.ofNat 0))) H fun a18 H =>
 vg (qam false a18) (qaf 0 x4) H fun a19 H =>
 vg (qam false a18) (qag H a19) H fun a20 H =>
 vg (qam false a18) (qaf 1 x4) H fun a21 H =>
 vg (qam false a18) (qag H a21) H fun a22 H =>
 vg (qam false a18) (qer maxV a20 [a22]) H fun a23 H =>
 vg (qam false a18) (qaf 0 x1) H fun a24 H =>
 vg (qam false a18) (qag H a24) H fun a25 H =>
 vg (qam false a18) (intV (qab .geq).f a23 a25) H fun a26 H =>
 vq (qb9 a18 (.bool true) a26) H fun a27 H =>
 cd a27 (
 q5r (.int .i64 (.ofNat 4)) H) (
 dz 0 H fun b28 H =>
 dq false false 0 0 (b28 + 0) H [] [] (fun _ => .val x3) (some true) fun a29 H p w =>
 dq false false 1 1 (b28 + 1) H p w (fun _ => intV (qab .gtr).f a29 (.int .i64 (.ofNat 0))) (some true) fun a30 H p w =>
 dq false false 2 3 (b28 + 2) H p w (fun _ => .val a30) (some true) fun a31 H p w =>
 dq false false 3 7 (b28 + 3) H p w (fun _ => qaf 1 x1) (qam true a31) fun a32 H p w =>
 dq true false 4 15 (b28 + 4) H p w (fun H => qag H a32) (qam true a31) fun a33 H p w =>
 dq false false 5 7 (b28 + 5) H p w (fun _ => .val x3) (qam true a31) fun a34 H p w =>
 dq false false 6 39 (b28 + 6) H p w (fun _ => intV (qab .sub).f a34 (.int .i64 (.ofNat 1))) (qam true a31) fun a35 H p w =>
 dq false false 7 127 (b28 + 7) H p w (fun _ => idxS 3 a33 a35) (qam true a31) fun a36 H p w =>
 dq true false 8 255 (b28 + 8) H p w (fun H => qba 3 H a36) (qam true a31) fun a37 H p w =>
 dq true false 9 7 (b28 + 9) H p w (fun H => qba 3 H x4) (qam true a31) fun a38 H p w =>
 de 1023 H p w (call (.f qqi) [a37, a38] (qa2 1023 p H)) (qam true a31) fun a39 H p w =>
 dq false false 11 2047 (b28 + 11) H p w (fun _ => intV (qab .geq).f a39 (.int .i64 (.ofNat 0))) (qam true a31) fun a40 H p w =>
 dq false false 12 4095 (b28 + 12) H p w (fun _ => qb9 a31 a40 (.bool false)) (some true) fun a41 H p w =>
 dq false false 13 8191 (b28 + 13) H p w (fun _ => .val a41) (some true) fun a42 H p w =>
 dz2 p H fun H =>
 cd a42 (
 q5r (.int .i64 (.ofNat 18)) H) (
 qi6 call g5 x16 H))
def qkk (call : Ev.Call) (q5r : AV → Hp → R1) (g5 : AV → Hp → R1) (x1 x14 x16 : AV) (H : Hp) : R1 :=
 vq (idxS 3 x14 x16) H fun a9 H =>
 vq (qba 3 H a9) H fun a10 H =>
 vq (.new (.ptr H.nx 0) (qaa 0 [.int .i64 (.ofNat 0), .int .i64 (.ofNat 0), .bool false])) H fun a11 H =>
 ve (qbq 3 H a11 a10) fun _ H =>
 qxa call q5r g5 x1 x16 a11 x16 H
def qmf (call : Ev.Call) (q5r : AV → Hp → R1) (q5e0 : Hp → R1) (x1 x14 x15 : AV) (g5 : AV → Hp → R1) (x16 : AV) (H : Hp) : R1 :=
 vq (intV (qab .lss).f x16 x15) H fun a6 H =>
 cd a6 (
 qkk call q5r g5 x1 x14 x16 H) (
 q5e0 H)
def qfd (call : Ev.Call) (q5r : AV → Hp → R1) (q5e0 : Hp → R1) (x1 x14 x15 : AV) (n : Nat) : AV → Hp → R1 :=
 Nat.rec (motive := fun _ => AV → Hp → R1) (fun _ _ => .bad) (fun _ ih => qmf call q5r q5e0 x1 x14 x15 ih) n
def qqy (call : Ev.Call) (q5r : AV → Hp → R1) (q5e0 : Hp → R1) (x1 x14 x15 : AV) : AV → Hp → R1 := qfd call q5r q5e0 x1 x14 x15 qbt
def qkj (call : Ev.Call) (x1 : AV) (H : Hp) : R1 :=
 vq (qaf 1 x1) H fun a2 H =>
 vq (qag H a2) H fun a3 H =>
 vq (lenSl a3) H fun a4 H =>
 qqy call (fun x2 H => .ok x2 H) (fun H => qf3 call H) x1 a3 a4 (.int .i64 (.ofNat 0)) H
def qxb (call : Ev.Call) (x0 : AV) (H : Hp) : R1 :=
 vq (boxA 2 H.nx x0) H fun a0 H =>
 vq (qaf 0 a0) H fun a45 H =>
 vq (qag H a45) H fun a46 H =>
 vq (intV (qab .lss).f a46 (.int .i64 (.ofNat 0))) H fun a47 H =>
 vg (qam false a47) (qaf 0 a0) H fun a48 H =>
 vg (qam false a47) (qag H a48) H fun a49 H =>
 vg (qam false a47) (intV (qab .gtr).f a49 (.int .i64 (.ofNat 256))) H fun a50 H =>
 vq (qb9 a47 (.bool true) a50) H fun a51 H =>
 cd a51 (
 .ok (.int .i64 (.ofNat 3)) H) (
 qkj call a0 H)
def gChk (call : Ev.Call) (x0 : AV) (H : Hp) : R1 := qxb call x0 H
def qbf (call : Ev.Call) (x8 : AV) (H : Hp) : R1 :=
 .ok (.tup [x8, (.int .i64 (.ofNat 0))]) H
def qdl (call : Ev.Call) (g11 : AV → Hp → R1) (x41 : AV) (H : Hp) : R1 :=
 vq (intV (qab .add).f x41 (.int .i64 (.ofNat 1))) H fun a13 H =>
 g11 a13 H
def qkz (call : Ev.Call) (g18 : AV → Hp → R1) (x85 : AV) (H : Hp) : R1 :=
 vq (intV (qab .add).f x85 (.int .i64 (.ofNat 1))) H fun a20 H =>
 g18 a20 H
def qky (call : Ev.Call) (g18 : AV → Hp → R1) (x8 x11 x83 x85 : AV) (H : Hp) : R1 :=
 vq (idxS 1 x83 x85) H fun a22 H =>
 vq (qag H a22) H fun a23 H =>
 ve (call (.f qgk) [x11] H) fun a24 H =>
 vq (idxS 1 x8 a23) H fun a25 H =>
 ve (qa3 H a25 a24) fun _ H =>
 qkz call g18 x85 H
def qk1 (call : Ev.Call) (q18e4 : Hp → R1) (x8 x11 x83 x84 : AV) (g18 : AV → Hp → R1) (x85 : AV) (H : Hp) : R1 :=
 vq (intV (qab .lss).f x85 x84) H fun a19 H =>
 cd a19 (
 qky call g18 x8 x11 x83 x85 H) (
 q18e4 H)
def qej (call : Ev.Call) (q18e4 : Hp → R1) (x8 x11 x83 x84 : AV) (n : Nat) : AV → Hp → R1 :=
 Nat.rec (motive := fun _ => AV → Hp → R1) (fun _ _ => .bad) (fun _ ih => qk1 call q18e4 x8 x11 x83 x84 ih) n
def qk3 (call : Ev.Call) (q18e4 : Hp → R1) (x8 x11 x83 x84 : AV) : AV → Hp → R1 := qej call q18e4 x8 x11 x83 x84 qbt
def qcw (call : Ev.Call) (g11 : AV → Hp → R1) (x8 x10 x11 x41 : AV) (H : Hp) : R1 :=
 vq (lenSl x10) H fun a17 H =>
 qk3 call (fun H => qdl call g11 x41 H) x8 x11 x10 a17 (.int .i64 (.ofNat 0)) H
def qek (call : Ev.Call) (g32 : AV → AV → Hp → R1) (x11 x49 : AV) (H : Hp) : R1 :=
 vq (intV (qab .add).f x49 (.int .i64 (.ofNat 1))) H fun a34 H =>
 g32 x11 a34 H
def qcl (call : Ev.Call) (g32 : AV → AV → Hp → R1) (x4 x8 x9 x11 x47 x49 : AV) (H : Hp) : R1 :=
 vq (idxS 3 x47 x49) H fun a36 H =>
 vq (qba 3 H a36) H fun a37 H =>
 vq (.new (.ptr H.nx 0) (qaa 0 [.int .i64 (.ofNat 0), .int .i64 (.ofNat 0), .bool false])) H fun a38 H =>
 ve (qbq 3 H a38 a37) fun _ H =>
 vq (qaf 1 x4) H fun a40 H =>
 vq (qag H a40) H fun a41 H =>
 vq (qaf 0 a38) H fun a42 H =>
 vq (qag H a42) H fun a43 H =>
 vq (idxS 1 a41 a43) H fun a44 H =>
 vq (qag H a44) H fun a45 H =>
 vq (intV (qab .eql).f a45 x9) H fun a46 H =>
 vg (qam true a46) (qaf 1 x4) H fun a47 H =>
 vg (qam true a46) (qag H a47) H fun a48 H =>
 vg (qam true a46) (qaf 1 a38) H fun a49 H =>
 vg (qam true a46) (qag H a49) H fun a50 H =>
 vg (qam true a46) (idxS 1 a48 a50) H fun a51 H =>
 vg (qam true a46) (qag H a51) H fun a52 H =>
 vg (qam true a46) (.val x9) H fun a53 H =>
 vg (qam true a46) (intV (qab .neq).f a52 a53) H fun a54 H =>
 vq (qb9 a46 a54 (.bool false)) H fun a55 H =>
 cd a55 (
 dz 12 H fun b56 H =>
 dq false false 0 0 (b56 + 0) H [] [] (fun _ => .val x11) (some true) fun a57 H p w =>
 dq false false 1 0 (b56 + 1) H p w (fun _ => .val x8) (some true) fun a58 H p w =>
 dq false false 2 0 (b56 + 2) H p w (fun _ => qaf 1 a38) (some true) fun a59 H p w =>
 dq true false 3 4 (b56 + 3) H p w (fun H => qag H a59) (some true) fun a60 H p w =>
 dq false false 4 14 (b56 + 4) H p w (fun _ => idxS 1 a58 a60) (some true) fun a61 H p w =>
 dq true false 5 30 (b56 + 5) H p w (fun H => qag H a61) (some true) fun a62 H p w =>
 dq true false 6 0 (b56 + 6) H p w (fun H => qba 3 H a38) (some true) fun a63 H p w =>
 de 64 H p w (call (.f qkg) [a63] (qa2 64 p H)) (some true) fun a64 H p w =>
 dq false false 8 254 (b56 + 8) H p w (fun _ => intV (qab .add).f a62 a64) (some true) fun a65 H p w =>
 dq false true 9 510 (b56 + 9) H p w (fun _ => qed 1 (b56 + 9) (qar (reps [.int .i64 (.ofNat 0)] 1) [(0, 1, a65)])) (some true) fun a66 H p w =>
 de 1023 H p w (qaz 1 8 (qa2 1023 p H) a57 (qby 1 (qa2 1023 p H) a66)) (some true) fun a67 H p w =>
 dq false false 11 2047 (b56 + 11) H p w (fun _ => .val a67) (some true) fun a68 H p w =>
 dz2 p H fun H =>
 qek call g32 a68 x49 H) (
 qek call g32 x11 x49 H)
def qkx : Ev.Call → (AV → AV → Hp → R1) → AV → AV → AV → AV → AV → AV → Hp → R1 := Classical.choose (⟨qcl, rfl⟩ : ∃ f, f = qcl)
theorem qjx : qkx = qcl := Classical.choose_spec (⟨qcl, rfl⟩ : ∃ f, f = qcl)
def qk0 (call : Ev.Call) (q32e2 : AV → Hp → R1) (x4 x8 x9 x47 x48 : AV) (g32 : AV → AV → Hp → R1) (x11 x49 : AV) (H : Hp) : R1 :=
 vq (intV (qab .lss).f x49 x48) H fun a33 H =>
 cd a33 (
 qkx call g32 x4 x8 x9 x11 x47 x49 H) (
 q32e2 x11 H)
def qcv (call : Ev.Call) (q32e2 : AV → Hp → R1) (x4 x8 x9 x47 x48 : AV) (n : Nat) : AV → AV → Hp → R1 :=
 Nat.rec (motive := fun _ => AV → AV → Hp → R1) (fun _ _ _ => .bad) (fun _ ih => qk0 call q32e2 x4 x8 x9 x47 x48 ih) n
def qk2 (call : Ev.Call) (q32e2 : AV → Hp → R1) (x4 x8 x9 x47 x48 : AV) : AV → AV → Hp → R1 := qcv call q32e2 x4 x8 x9 x47 x48 qbt
def qkw (call : Ev.Call) (g11 : AV → Hp → R1) (x1 x4 x8 x39 x41 : AV) (H : Hp) : R1 :=
 vq (idxS 1 x39 x41) H fun a15 H =>
 vq (qag H a15) H fun a16 H =>
 vq (qaf 1 x1) H fun a29 H =>
 vq (qag H a29) H fun a30 H =>
 vq (lenSl a30) H fun a31 H =>
 qk2 call (fun x11 H => qcw call g11 x8 a16 x11 x41 H) x4 x8 x41 a30 a31 (.nilsl) (.int .i64 (.ofNat 0)) H
def qfo (call : Ev.Call) (q11e0 : Hp → R1) (x1 x4 x8 x39 x40 : AV) (g11 : AV → Hp → R1) (x41 : AV) (H : Hp) : R1 :=
 vq (intV (qab .lss).f x41 x40) H fun a12 H =>
 cd a12 (
 qkw call g11 x1 x4 x8 x39 x41 H) (
 q11e0 H)
def qa6 (call : Ev.Call) (q11e0 : Hp → R1) (x1 x4 x8 x39 x40 : AV) (n : Nat) : AV → Hp → R1 :=
 Nat.rec (motive := fun _ => AV → Hp → R1) (fun _ _ => .bad) (fun _ ih => qfo call q11e0 x1 x4 x8 x39 x40 ih) n
def qhw (call : Ev.Call) (q11e0 : Hp → R1) (x1 x4 x8 x39 x40 : AV) : AV → Hp → R1 := qa6 call q11e0 x1 x4 x8 x39 x40 qbt
def qb4 (call : Ev.Call) (x1 x4 x8 : AV) (H : Hp) : R1 :=
 vq (qaf 0 x4) H fun a8 H =>
 vq (qag H a8) H fun a9 H =>
 vq (lenSl a9) H fun a10 H =>
 qhw call (fun H => qbf call x8 H) x1 x4 x8 a9 a10 (.int .i64 (.ofNat 0)) H
def qhv : Ev.Call → AV → AV → AV → Hp → R1 := Classical.choose (⟨qb4, rfl⟩ : ∃ f, f = qb4)
theorem qfn : qhv = qb4 := Classical.choose_spec (⟨qb4, rfl⟩ : ∃ f, f = qb4)
def qck (call : Ev.Call) (x1 x4 : AV) (H : Hp) : R1 :=
 vq (qaf 0 x1) H fun a72 H =>
 vq (qag H a72) H fun a73 H =>
 vq (intV (qab .gtr).f a73 (.int .i64 (.ofNat 0))) H fun a74 H =>
 cd a74 (
 vq (qaf 0 x1) H fun a75 H =>
 vq (qag H a75) H fun a76 H =>
 vq (qh8 [.int .i64 (.ofNat 0)] 8 H.nx a76 a76) H fun a77 H =>
 qhv call x1 x4 a77 H) (
 qhv call x1 x4 (.nilsl) H)
def qkv : Ev.Call → AV → AV → Hp → R1 := Classical.choose (⟨qck, rfl⟩ : ∃ f, f = qck)
theorem qjw : qkv = qck := Classical.choose_spec (⟨qck, rfl⟩ : ∃ f, f = qck)
def qcj (call : Ev.Call) (x1 x4 : AV) (H : Hp) : R1 :=
 vq (qba 2 H x1) H fun a79 H =>
 ve (call (.f qql) [a79] H) fun a80 H =>
 vq (extr 0 a80) H fun a81 H =>
 vq (extr 1 a80) H fun a82 H =>
 vq (lenSl a81) H fun a83 H =>
 vq (intV (qab .gtr).f a83 (.int .i64 (.ofNat 0))) H fun a84 H =>
 cd a84 (
 .ok (.tup [(.nilsl), (.int .i64 (.ofNat 12))]) H) (
 qkv call x1 x4 H)
def qku : Ev.Call → AV → AV → Hp → R1 := Classical.choose (⟨qcj, rfl⟩ : ∃ f, f = qcj)
theorem qjv : qku = qcj := Classical.choose_spec (⟨qcj, rfl⟩ : ∃ f, f = qcj)
def qo0 (call : Ev.Call) (x0 : AV) (H : Hp) : R1 :=
 vq (boxA 2 H.nx x0) H fun a0 H =>
 vq (qba 2 H a0) H fun a1 H =>
 ve (call (.f ql9) [a1] H) fun a2 H =>
 vq (extr 0 a2) H fun a3 H =>
 vq (extr 1 a2) H fun a4 H =>
 vq (.new (.ptr H.nx 0) (qaa 0 [.nilsl, .nilsl])) H fun a5 H =>
 ve (qbq 2 H a5 a3) fun _ H =>
 vq (intV (qab .neq).f a4 (.int .i64 (.ofNat 0))) H fun a86 H =>
 cd a86 (
 .ok (.tup [(.nilsl), a4]) H) (
 qku call a0 a5 H)
def stNum (call : Ev.Call) (x0 : AV) (H : Hp) : R1 := qo0 call x0 H
def qkt (call : Ev.Call) (x1 x6 : AV) (H : Hp) : R1 :=
 vq (qaf 1 x1) H fun a10 H =>
 vq (qag H a10) H fun a11 H =>
 vq (idxS 3 a11 x6) H fun a12 H =>
 vq (qba 3 H a12) H fun a13 H =>
 vq (.new (.ptr H.nx 0) (qaa 0 [.int .i64 (.ofNat 0), .int .i64 (.ofNat 0), .bool false])) H fun a14 H =>
 ve (qbq 3 H a14 a13) fun _ H =>
 vq (qba 2 H x1) H fun a16 H =>
 vq (qaf 1 a14) H fun a17 H =>
 vq (qag H a17) H fun a18 H =>
 vq (qaf 0 a14) H fun a19 H =>
 vq (qag H a19) H fun a20 H =>
 ve (call (.f ql7) [a16, a18, a20] H) fun a21 H =>
 vq (extr 0 a21) H fun a22 H =>
 vq (extr 1 a21) H fun a23 H =>
 dz 12 H fun b24 H =>
 dq false false 0 0 (b24 + 0) H [] [] (fun _ => qaf 0 a14) (some true) fun a25 H p w =>
 dq true false 1 1 (b24 + 1) H p w (fun H => qag H a25) (some true) fun a26 H p w =>
 dq false true 2 3 (b24 + 2) H p w (fun _ => qed 1 (b24 + 2) (qar (reps [.int .i64 (.ofNat 0)] 1) [(0, 1, a26)])) (some true) fun a27 H p w =>
 dq false false 3 0 (b24 + 3) H p w (fun _ => .val a22) (some true) fun a28 H p w =>
 dq false false 4 0 (b24 + 4) H p w (fun _ => .val a22) (some true) fun a29 H p w =>
 dq false false 5 16 (b24 + 5) H p w (fun _ => lenSl a29) (some true) fun a30 H p w =>
 dq false false 6 48 (b24 + 6) H p w (fun _ => intV (qab .sub).f a30 (.int .i64 (.ofNat 1))) (some true) fun a31 H p w =>
 dq false false 7 120 (b24 + 7) H p w (fun _ => qa7 1 a28 none (some a31) none) (some true) fun a32 H p w =>
 de 255 H p w (qaz 1 8 (qa2 255 p H) a27 (qby 1 (qa2 255 p H) a32)) (some true) fun a33 H p w =>
 de 511 H p w (call (.f qfa) [a33] (qa2 511 p H)) (some true) fun a34 H p w =>
 dq false false 10 1023 (b24 + 10) H p w (fun _ => .val a34) (some true) fun a35 H p w =>
 dq false false 11 2047 (b24 + 11) H p w (fun _ => .val (.int .i64 (.ofNat 0))) (some true) fun a36 H p w =>
 dz2 p H fun H =>
 .ok (.tup [a35, a36]) H
def qks (call : Ev.Call) (x1 x4 : AV) (H : Hp) : R1 :=
 vq (qaf 1 x1) H fun a7 H =>
 vq (qag H a7) H fun a8 H =>
 ve (call (.f qqd) [a8, (.fn qia [] [x4])] H) fun a9 H =>
 vq (intV (qab .lss).f a9 (.int .i64 (.ofNat 0))) H fun a38 H =>
 cd a38 (
 .ok (.tup [(.nilsl), (.int .i64 (.ofNat 8))]) H) (
 qkt call x1 a9 H)
def qoy (call : Ev.Call) (x0 : AV) (H : Hp) : R1 :=
 vq (boxA 2 H.nx x0) H fun a0 H =>
 vq (qba 2 H a0) H fun a1 H =>
 ve (call (.f ql9) [a1] H) fun a2 H =>
 vq (extr 0 a2) H fun a3 H =>
 vq (extr 1 a2) H fun a4 H =>
 vq (.new (.ptr H.nx 0) (qaa 0 [.nilsl, .nilsl])) H fun a5 H =>
 ve (qbq 2 H a5 a3) fun _ H =>
 vq (intV (qab .neq).f a4 (.int .i64 (.ofNat 0))) H fun a40 H =>
 cd a40 (
 .ok (.tup [(.nilsl), a4]) H) (
 qks call a0 a5 H)
def stWit (call : Ev.Call) (x0 : AV) (H : Hp) : R1 := qoy call x0 H
def qlv (call : Ev.Call) (H : Hp) : R1 :=
 .ok (.bool true) H
def q2m (call : Ev.Call) (g1 : AV → Hp → R1) (x9 : AV) (H : Hp) : R1 :=
 vq (intV (qab .add).f x9 (.int .i64 (.ofNat 1))) H fun a2 H =>
 g1 a2 H
def q2l (call : Ev.Call) (q1r : AV → Hp → R1) (g1 : AV → Hp → R1) (x0 x2 x9 : AV) (H : Hp) : R1 :=
 vl (idxS 1 x0 x9) fun a4 =>
 vl (qag H a4) fun a5 =>
 vl (idxS 1 x2 x9) fun a6 =>
 vl (qag H a6) fun a7 =>
 vl (intV (qab .neq).f a5 a7) fun a8 =>
 cd a8 (
 q1r (.bool false) H) (
 q2m call g1 x9 H)
def q2n (call : Ev.Call) (q1r : AV → Hp → R1) (q1e0 : Hp → R1) (x0 x2 : AV) (g1 : AV → Hp → R1) (x9 : AV) (H : Hp) : R1 :=
 vq (lenSl x2) H fun a10 H =>
 vq (intV (qab .lss).f x9 a10) H fun a11 H =>
 cd a11 (
 q2l call q1r g1 x0 x2 x9 H) (
 q1e0 H)
def qnu (call : Ev.Call) (q1r : AV → Hp → R1) (q1e0 : Hp → R1) (x0 x2 : AV) (n : Nat) : AV → Hp → R1 :=
 Nat.rec (motive := fun _ => AV → Hp → R1) (fun _ _ => .bad) (fun _ ih => q2n call q1r q1e0 x0 x2 ih) n
def q2o (call : Ev.Call) (q1r : AV → Hp → R1) (q1e0 : Hp → R1) (x0 x2 : AV) : AV → Hp → R1 := qnu call q1r q1e0 x0 x2 qbt
def quu (call : Ev.Call) (x0 x2 : AV) (H : Hp) : R1 :=
 q2o call (fun x8 H => .ok x8 H) (fun H => qlv call H) x0 x2 (.int .i64 (.ofNat 0)) H
def zad (call : Ev.Call) (x0 x1 x2 x3 : AV) (H : Hp) : R1 :=
 vq (intV (qab .neq).f x1 x3) H fun a13 H =>
 vg (qam false a13) (.val x0) H fun a14 H =>
 vg (qam false a13) (lenSl a14) H fun a15 H =>
 vg (qam false a13) (.val x2) H fun a16 H =>
 vg (qam false a13) (lenSl a16) H fun a17 H =>
 vg (qam false a13) (intV (qab .neq).f a15 a17) H fun a18 H =>
 vq (qb9 a13 (.bool true) a18) H fun a19 H =>
 vg (qam false a19) (.val x0) H fun a20 H =>
 vg (qam false a19) (capV a20) H fun a21 H =>
 vg (qam false a19) (.val x0) H fun a22 H =>
 vg (qam false a19) (lenSl a22) H fun a23 H =>
 vg (qam false a19) (intV (qab .neq).f a21 a23) H fun a24 H =>
 vq (qb9 a19 (.bool true) a24) H fun a25 H =>
 cd a25 (
 .ok (.bool false) H) (
 quu call x0 x2 H)
def lwT (call : Ev.Call) (x0 x1 x2 x3 : AV) (H : Hp) : R1 := zad call x0 x1 x2 x3 H
def qhb (call : Ev.Call) (H : Hp) : R1 :=
 .ok (.tup [(.int .i64 (.ofNat 0)), (.int .i64 (.ofNat 6))]) H
def q0w (call : Ev.Call) (g5 : AV → Hp → R1) (x13 : AV) (H : Hp) : R1 :=
 vq (intV (qab .add).f x13 (.int .i64 (.ofNat 1))) H fun a7 H =>
 g5 a7 H
def qwe (call : Ev.Call) (q5r : AV → AV → Hp → R1) (g5 : AV → Hp → R1) (x1 x2 x11 x13 : AV) (H : Hp) : R1 :=
 vq (idxS 3 x11 x13) H fun a9 H =>
 vq (qba 3 H a9) H fun a10 H =>
 vq (.new (.ptr H.nx 0) (qaa 0 [.str 0 0, .str 0 0, .int .i64 (.ofNat 0)])) H fun a11 H =>
 ve (qbq 3 H a11 a10) fun _ H =>
 vq (qaf 0 a11) H fun a13 H =>
 vq (qag H a13) H fun a14 H =>
 vq (strV (qnh .eql).f a14 x1) H fun a15 H =>
 vg (qam true a15) (qaf 1 a11) H fun a16 H =>
 vg (qam true a15) (qag H a16) H fun a17 H =>
 vg (qam true a15) (.val x2) H fun a18 H =>
 vg (qam true a15) (strV (qnh .eql).f a17 a18) H fun a19 H =>
 vq (qb9 a15 a19 (.bool false)) H fun a20 H =>
 cd a20 (
 vq (qaf 2 a11) H fun a21 H =>
 vq (qag H a21) H fun a22 H =>
 q5r a22 (.int .i64 (.ofNat 0)) H) (
 q0w call g5 x13 H)
def qt0 (call : Ev.Call) (q5r : AV → AV → Hp → R1) (q5e0 : Hp → R1) (x1 x2 x11 x12 : AV) (g5 : AV → Hp → R1) (x13 : AV) (H : Hp) : R1 :=
 vq (intV (qab .lss).f x13 x12) H fun a6 H =>
 cd a6 (
 qwe call q5r g5 x1 x2 x11 x13 H) (
 q5e0 H)
def qk4 (call : Ev.Call) (q5r : AV → AV → Hp → R1) (q5e0 : Hp → R1) (x1 x2 x11 x12 : AV) (n : Nat) : AV → Hp → R1 :=
 Nat.rec (motive := fun _ => AV → Hp → R1) (fun _ _ => .bad) (fun _ ih => qt0 call q5r q5e0 x1 x2 x11 x12 ih) n
def qt1 (call : Ev.Call) (q5r : AV → AV → Hp → R1) (q5e0 : Hp → R1) (x1 x2 x11 x12 : AV) : AV → Hp → R1 := qk4 call q5r q5e0 x1 x2 x11 x12 qbt
def q0x (call : Ev.Call) (x0 x1 x2 : AV) (H : Hp) : R1 :=
 vq (boxA 1 H.nx x0) H fun a0 H =>
 vq (qaf 0 a0) H fun a2 H =>
 vq (qag H a2) H fun a3 H =>
 vq (lenSl a3) H fun a4 H =>
 qt1 call (fun x6 x7 H => .ok (.tup [x6, x7]) H) (fun H => qhb call H) x1 x2 a3 a4 (.int .i64 (.ofNat 0)) H
def stAt (call : Ev.Call) (x0 x1 x2 : AV) (H : Hp) : R1 := q0x call x0 x1 x2 H
def qip (call : Ev.Call) (x6 : AV) (H : Hp) : R1 :=
 ve (call (.f qfa) [x6] H) fun a1 H =>
 .ok (.tup [a1, (.int .i64 (.ofNat 0))]) H
def qty (call : Ev.Call) (g6 : AV → AV → Hp → R1) (x6 x20 : AV) (H : Hp) : R1 :=
 vq (intV (qab .add).f x20 (.int .i64 (.ofNat 1))) H fun a8 H =>
 g6 x6 a8 H
def qwd (call : Ev.Call) (g6 : AV → AV → Hp → R1) (x1 x6 x18 x20 : AV) (H : Hp) : R1 :=
 vq (idxS 3 x18 x20) H fun a10 H =>
 vq (qba 3 H a10) H fun a11 H =>
 vq (.new (.ptr H.nx 0) (qaa 0 [.str 0 0, .str 0 0, .int .i64 (.ofNat 0)])) H fun a12 H =>
 ve (qbq 3 H a12 a11) fun _ H =>
 vq (qaf 2 a12) H fun a14 H =>
 vq (qag H a14) H fun a15 H =>
 vq (intV (qab .eql).f a15 x1) H fun a16 H =>
 cd a16 (
 vq (qed 1 H.nx (qar (reps [.int .i64 (.ofNat 0)] 1) [(0, 1, x20)])) H fun a17 H =>
 ve (qaz 1 8 H x6 (qby 1 H a17)) fun a18 H =>
 qty call g6 a18 x20 H) (
 qty call g6 x6 x20 H)
def q9m (call : Ev.Call) (q6e0 : AV → Hp → R1) (x1 x18 x19 : AV) (g6 : AV → AV → Hp → R1) (x6 x20 : AV) (H : Hp) : R1 :=
 vq (intV (qab .lss).f x20 x19) H fun a7 H =>
 cd a7 (
 qwd call g6 x1 x6 x18 x20 H) (
 q6e0 x6 H)
def qo3 (call : Ev.Call) (q6e0 : AV → Hp → R1) (x1 x18 x19 : AV) (n : Nat) : AV → AV → Hp → R1 :=
 Nat.rec (motive := fun _ => AV → AV → Hp → R1) (fun _ _ _ => .bad) (fun _ ih => q9m call q6e0 x1 x18 x19 ih) n
def q0u (call : Ev.Call) (q6e0 : AV → Hp → R1) (x1 x18 x19 : AV) : AV → AV → Hp → R1 := qo3 call q6e0 x1 x18 x19 qbt
def qwc (call : Ev.Call) (x1 x2 : AV) (H : Hp) : R1 :=
 vq (qaf 0 x2) H fun a3 H =>
 vq (qag H a3) H fun a4 H =>
 vq (lenSl a4) H fun a5 H =>
 q0u call (fun x6 H => qip call x6 H) x1 a4 a5 (.nilsl) (.int .i64 (.ofNat 0)) H
def q0t (call : Ev.Call) (x0 x1 : AV) (H : Hp) : R1 :=
 vq (boxA 1 H.nx x0) H fun a0 H =>
 vq (intV (qab .lss).f x1 (.int .i64 (.ofNat 0))) H fun a21 H =>
 vg (qam false a21) (.val x1) H fun a22 H =>
 vg (qam false a21) (qba 1 H a0) H fun a23 H =>
 veg (qam false a21) (call (.f qic) [a23] H) H fun a24 H =>
 vg (qam false a21) (intV (qab .geq).f a22 a24) H fun a25 H =>
 vq (qb9 a21 (.bool true) a25) H fun a26 H =>
 cd a26 (
 .ok (.tup [(.nilsl), (.int .i64 (.ofNat 4))]) H) (
 qwc call x1 a0 H)
def stIn (call : Ev.Call) (x0 x1 : AV) (H : Hp) : R1 := q0t call x0 x1 H
def qew (call : Ev.Call) (x3 : AV) (H : Hp) : R1 :=
 .ok x3 H
def qwb (call : Ev.Call) (g5 : AV → AV → Hp → R1) (x3 x9 : AV) (H : Hp) : R1 :=
 vq (intV (qab .add).f x9 (.int .i64 (.ofNat 1))) H fun a7 H =>
 g5 x3 a7 H
def qr1 (call : Ev.Call) (g5 : AV → AV → Hp → R1) (x3 x7 x9 : AV) (H : Hp) : R1 :=
 vq (idxS 3 x7 x9) H fun a9 H =>
 vq (qba 3 H a9) H fun a10 H =>
 vq (.new (.ptr H.nx 0) (qaa 0 [.str 0 0, .str 0 0, .int .i64 (.ofNat 0)])) H fun a11 H =>
 ve (qbq 3 H a11 a10) fun _ H =>
 vq (qaf 2 a11) H fun a13 H =>
 vq (qag H a13) H fun a14 H =>
 vq (intV (qab .add).f a14 (.int .i64 (.ofNat 1))) H fun a15 H =>
 vq (qed 2 H.nx (qar (reps [.int .i64 (.ofNat 0)] 2) [(0, 1, x3), (1, 1, a15)])) H fun a16 H =>
 ve (call (.f qgk) [a16] H) fun a17 H =>
 qwb call g5 a17 x9 H
def qo1 (call : Ev.Call) (q5e0 : AV → Hp → R1) (x7 x8 : AV) (g5 : AV → AV → Hp → R1) (x3 x9 : AV) (H : Hp) : R1 :=
 vq (intV (qab .lss).f x9 x8) H fun a6 H =>
 cd a6 (
 qr1 call g5 x3 x7 x9 H) (
 q5e0 x3 H)
def qhx (call : Ev.Call) (q5e0 : AV → Hp → R1) (x7 x8 : AV) (n : Nat) : AV → AV → Hp → R1 :=
 Nat.rec (motive := fun _ => AV → AV → Hp → R1) (fun _ _ _ => .bad) (fun _ ih => qo1 call q5e0 x7 x8 ih) n
def qo2 (call : Ev.Call) (q5e0 : AV → Hp → R1) (x7 x8 : AV) : AV → AV → Hp → R1 := qhx call q5e0 x7 x8 qbt
def qtx (call : Ev.Call) (x0 : AV) (H : Hp) : R1 :=
 vq (boxA 1 H.nx x0) H fun a0 H =>
 vq (qaf 0 a0) H fun a2 H =>
 vq (qag H a2) H fun a3 H =>
 vq (lenSl a3) H fun a4 H =>
 qo2 call (fun x3 H => qew call x3 H) a3 a4 (.int .i64 (.ofNat 0)) (.int .i64 (.ofNat 0)) H
def stMny (call : Ev.Call) (x0 : AV) (H : Hp) : R1 := qtx call x0 H
def q3r (call : Ev.Call) (x0 x1 : AV) (H : Hp) : R1 :=
 vq (boxA 3 H.nx x0) H fun a0 H =>
 vq (boxA 3 H.nx x1) H fun a1 H =>
 dz 18 H fun b2 H =>
 dq false false 0 0 (b2 + 0) H [] [] (fun _ => qaf 0 a0) (some true) fun a3 H p w =>
 dq true false 1 1 (b2 + 1) H p w (fun H => qag H a3) (some true) fun a4 H p w =>
 dq false false 2 0 (b2 + 2) H p w (fun _ => qaf 0 a1) (some true) fun a5 H p w =>
 dq true false 3 4 (b2 + 3) H p w (fun H => qag H a5) (some true) fun a6 H p w =>
 dq false false 5 0 (b2 + 5) H p w (fun _ => qaf 1 a0) (some true) fun a7 H p w =>
 dq true false 6 32 (b2 + 6) H p w (fun H => qag H a7) (some true) fun a8 H p w =>
 dq false false 7 0 (b2 + 7) H p w (fun _ => qaf 1 a1) (some true) fun a9 H p w =>
 dq true false 8 128 (b2 + 8) H p w (fun H => qag H a9) (some true) fun a10 H p w =>
 dq true false 10 0 (b2 + 10) H p w (fun H => qba 3 H a0) (some true) fun a11 H p w =>
 dq true false 12 0 (b2 + 12) H p w (fun H => qba 3 H a1) (some true) fun a12 H p w =>
 de 15 H p w (call (.f qi3) [a4, a6] (qa2 15 p H)) (some true) fun a13 H p w =>
 de 511 H p w (call (.f qi3) [a8, a10] (qa2 511 p H)) (some true) fun a14 H p w =>
 de 2047 H p w (call (.f ql6) [a11] (qa2 2047 p H)) (some true) fun a15 H p w =>
 de 8191 H p w (call (.f ql6) [a12] (qa2 8191 p H)) (some true) fun a16 H p w =>
 de 16383 H p w (call (.f qi3) [a15, a16] (qa2 16383 p H)) (some true) fun a17 H p w =>
 dq false true 15 32767 (b2 + 15) H p w (fun _ => qed 3 (b2 + 15) (qar (reps [.int .i64 (.ofNat 0)] 3) [(0, 1, a13), (1, 1, a14), (2, 1, a17)])) (some true) fun a18 H p w =>
 de 65535 H p w (call (.f qw9) [a18] (qa2 65535 p H)) (some true) fun a19 H p w =>
 dq false false 17 131071 (b2 + 17) H p w (fun _ => .val a19) (some true) fun a20 H p w =>
 dz2 p H fun H =>
 .ok a20 H
def gCmp (call : Ev.Call) (x0 x1 : AV) (H : Hp) : R1 := q3r call x0 x1 H
def qfj (call : Ev.Call) (x6 : AV) (H : Hp) : R1 :=
 ve (call (.f qdm) [x6] H) fun a7 H =>
 ve (call (.f qd2) [x6] H) fun a8 H =>
 ve (call (.f qfa) [a8] H) fun a9 H =>
 .ok (.tup [a9, (.int .i64 (.ofNat 0))]) H
def qgv (call : Ev.Call) (g14 : AV → AV → Hp → R1) (x6 x20 : AV) (H : Hp) : R1 :=
 vq (intV (qab .add).f x20 (.int .i64 (.ofNat 1))) H fun a16 H =>
 g14 x6 a16 H
def qrg (call : Ev.Call) (g14 : AV → AV → Hp → R1) (x4 x6 x18 x20 : AV) (H : Hp) : R1 :=
 vq (idxS 3 x18 x20) H fun a18 H =>
 vq (qba 3 H a18) H fun a19 H =>
 vq (.new (.ptr H.nx 0) (qaa 0 [.int .i64 (.ofNat 0), .int .i64 (.ofNat 0), .bool false])) H fun a20 H =>
 ve (qbq 3 H a20 a19) fun _ H =>
 vl (qaf 2 a20) fun a22 =>
 vl (qag H a22) fun a23 =>
 vlg (qam true a23) (qaf 1 x4) fun a24 =>
 vlg (qam true a23) (qag H a24) fun a25 =>
 vlg (qam true a23) (qaf 0 a20) fun a26 =>
 vlg (qam true a23) (qag H a26) fun a27 =>
 vlg (qam true a23) (idxS 1 a25 a27) fun a28 =>
 vlg (qam true a23) (qag H a28) fun a29 =>
 vlg (qam true a23) (qaf 1 x4) fun a30 =>
 vlg (qam true a23) (qag H a30) fun a31 =>
 vlg (qam true a23) (qaf 1 a20) fun a32 =>
 vlg (qam true a23) (qag H a32) fun a33 =>
 vlg (qam true a23) (idxS 1 a31 a33) fun a34 =>
 vlg (qam true a23) (qag H a34) fun a35 =>
 vlg (qam true a23) (intV (qab .eql).f a29 a35) fun a36 =>
 vl (qb9 a23 a36 (.bool false)) fun a37 =>
 cd a37 (
 vq (qaf 1 x4) H fun a38 H =>
 vq (qag H a38) H fun a39 H =>
 vq (qaf 0 a20) H fun a40 H =>
 vq (qag H a40) H fun a41 H =>
 vq (idxS 1 a39 a41) H fun a42 H =>
 vq (qag H a42) H fun a43 H =>
 vq (qed 1 H.nx (qar (reps [.int .i64 (.ofNat 0)] 1) [(0, 1, a43)])) H fun a44 H =>
 ve (qaz 1 8 H x6 (qby 1 H a44)) fun a45 H =>
 qgv call g14 a45 x20 H) (
 qgv call g14 x6 x20 H)
def qrh (call : Ev.Call) (q14e0 : AV → Hp → R1) (x4 x18 x19 : AV) (g14 : AV → AV → Hp → R1) (x6 x20 : AV) (H : Hp) : R1 :=
 vq (intV (qab .lss).f x20 x19) H fun a15 H =>
 cd a15 (
 qrg call g14 x4 x6 x18 x20 H) (
 q14e0 x6 H)
def qgu (call : Ev.Call) (q14e0 : AV → Hp → R1) (x4 x18 x19 : AV) (n : Nat) : AV → AV → Hp → R1 :=
 Nat.rec (motive := fun _ => AV → AV → Hp → R1) (fun _ _ _ => .bad) (fun _ ih => qrh call q14e0 x4 x18 x19 ih) n
def qri (call : Ev.Call) (q14e0 : AV → Hp → R1) (x4 x18 x19 : AV) : AV → AV → Hp → R1 := qgu call q14e0 x4 x18 x19 qbt
def qds (call : Ev.Call) (x1 x4 : AV) (H : Hp) : R1 :=
 vq (qaf 1 x1) H fun a11 H =>
 vq (qag H a11) H fun a12 H =>
 vq (lenSl a12) H fun a13 H =>
 qri call (fun x6 H => qfj call x6 H) x4 a12 a13 (.nilsl) (.int .i64 (.ofNat 0)) H
def qrf : Ev.Call → AV → AV → Hp → R1 := Classical.choose (⟨qds, rfl⟩ : ∃ f, f = qds)
theorem qm0 : qrf = qds := Classical.choose_spec (⟨qds, rfl⟩ : ∃ f, f = qds)
def q47 (call : Ev.Call) (x0 : AV) (H : Hp) : R1 :=
 vq (boxA 2 H.nx x0) H fun a0 H =>
 vq (qba 2 H a0) H fun a1 H =>
 ve (call (.f ql9) [a1] H) fun a2 H =>
 vq (extr 0 a2) H fun a3 H =>
 vq (extr 1 a2) H fun a4 H =>
 vq (.new (.ptr H.nx 0) (qaa 0 [.nilsl, .nilsl])) H fun a5 H =>
 ve (qbq 2 H a5 a3) fun _ H =>
 vq (intV (qab .neq).f a4 (.int .i64 (.ofNat 0))) H fun a48 H =>
 cd a48 (
 .ok (.tup [(.nilsl), a4]) H) (
 qrf call a0 a5 H)
def cMix (call : Ev.Call) (x0 : AV) (H : Hp) : R1 := q47 call x0 H
def qoz (call : Ev.Call) (H : Hp) : R1 :=
 .ok (.int .i64 (.ofNat 0)) H
def qtw (call : Ev.Call) (x0 : AV) (H : Hp) : R1 :=
 vq (boxA 3 H.nx x0) H fun a0 H =>
 vq (qaf 2 a0) H fun a2 H =>
 vq (qag H a2) H fun a3 H =>
 cd a3 (
 .ok (.int .i64 (.ofNat 1)) H) (
 qoz call H)
def stStp (call : Ev.Call) (x0 : AV) (H : Hp) : R1 := qtw call x0 H
def qex (call : Ev.Call) (x3 : AV) (H : Hp) : R1 :=
 .ok x3 H
def qo5 (call : Ev.Call) (g2 : AV → AV → Hp → R1) (x3 x8 : AV) (H : Hp) : R1 :=
 vq (intV (qab .add).f x8 (.int .i64 (.ofNat 1))) H fun a4 H =>
 g2 x3 a4 H
def qo4 (call : Ev.Call) (g2 : AV → AV → Hp → R1) (x3 x6 x8 : AV) (H : Hp) : R1 :=
 vq (idxS 1 x6 x8) H fun a6 H =>
 vq (qag H a6) H fun a7 H =>
 vq (qer maxV x3 [a7]) H fun a8 H =>
 qo5 call g2 a8 x8 H
def qo6 (call : Ev.Call) (q2e0 : AV → Hp → R1) (x6 x7 : AV) (g2 : AV → AV → Hp → R1) (x3 x8 : AV) (H : Hp) : R1 :=
 vq (intV (qab .lss).f x8 x7) H fun a3 H =>
 cd a3 (
 qo4 call g2 x3 x6 x8 H) (
 q2e0 x3 H)
def qgd (call : Ev.Call) (q2e0 : AV → Hp → R1) (x6 x7 : AV) (n : Nat) : AV → AV → Hp → R1 :=
 Nat.rec (motive := fun _ => AV → AV → Hp → R1) (fun _ _ _ => .bad) (fun _ ih => qo6 call q2e0 x6 x7 ih) n
def qo7 (call : Ev.Call) (q2e0 : AV → Hp → R1) (x6 x7 : AV) : AV → AV → Hp → R1 := qgd call q2e0 x6 x7 qbt
def qtz (call : Ev.Call) (x0 : AV) (H : Hp) : R1 :=
 vq (lenSl x0) H fun a1 H =>
 qo7 call (fun x3 H => qex call x3 H) x0 a1 (.int .i64 (.ofNat 0)) (.int .i64 (.ofNat 0)) H
def stGre (call : Ev.Call) (x0 : AV) (H : Hp) : R1 := qtz call x0 H
def qtv (call : Ev.Call) (x0 x1 : AV) (H : Hp) : R1 :=
 vq (boxA 3 H.nx x0) H fun a0 H =>
 vl (qaf 2 a0) fun a1 =>
 vl (qag H a1) fun a2 =>
 vlg (qam true a2) (qaf 1 x1) fun a3 =>
 vlg (qam true a2) (qag H a3) fun a4 =>
 vlg (qam true a2) (qaf 0 a0) fun a5 =>
 vlg (qam true a2) (qag H a5) fun a6 =>
 vlg (qam true a2) (idxS 1 a4 a6) fun a7 =>
 vlg (qam true a2) (qag H a7) fun a8 =>
 vlg (qam true a2) (qaf 1 x1) fun a9 =>
 vlg (qam true a2) (qag H a9) fun a10 =>
 vlg (qam true a2) (qaf 1 a0) fun a11 =>
 vlg (qam true a2) (qag H a11) fun a12 =>
 vlg (qam true a2) (idxS 1 a10 a12) fun a13 =>
 vlg (qam true a2) (qag H a13) fun a14 =>
 vlg (qam true a2) (intV (qab .eql).f a8 a14) fun a15 =>
 vl (qb9 a2 a15 (.bool false)) fun a16 =>
 .ok a16 H
def stWiA (call : Ev.Call) (x0 x1 : AV) (H : Hp) : R1 := qtv call x0 x1 H
def qhc (call : Ev.Call) (H : Hp) : R1 :=
 .ok (.int .i64 (.negSucc 0)) H
def quc (call : Ev.Call) (g2 : AV → Hp → R1) (x8 : AV) (H : Hp) : R1 :=
 vq (intV (qab .add).f x8 (.int .i64 (.ofNat 1))) H fun a4 H =>
 g2 a4 H
def qub (call : Ev.Call) (q2r : AV → Hp → R1) (g2 : AV → Hp → R1) (x0 x1 x8 : AV) (H : Hp) : R1 :=
 vq (idxS 3 x0 x8) H fun a6 H =>
 vq (qba 3 H a6) H fun a7 H =>
 ve (qq4 call x1 [a7] H) fun a8 H =>
 cd a8 (
 q2r x8 H) (
 quc call g2 x8 H)
def qud (call : Ev.Call) (q2r : AV → Hp → R1) (q2e0 : Hp → R1) (x0 x1 x7 : AV) (g2 : AV → Hp → R1) (x8 : AV) (H : Hp) : R1 :=
 vq (intV (qab .lss).f x8 x7) H fun a3 H =>
 cd a3 (
 qub call q2r g2 x0 x1 x8 H) (
 q2e0 H)
def qis (call : Ev.Call) (q2r : AV → Hp → R1) (q2e0 : Hp → R1) (x0 x1 x7 : AV) (n : Nat) : AV → Hp → R1 :=
 Nat.rec (motive := fun _ => AV → Hp → R1) (fun _ _ => .bad) (fun _ ih => qud call q2r q2e0 x0 x1 x7 ih) n
def que (call : Ev.Call) (q2r : AV → Hp → R1) (q2e0 : Hp → R1) (x0 x1 x7 : AV) : AV → Hp → R1 := qis call q2r q2e0 x0 x1 x7 qbt
def q1d (call : Ev.Call) (x0 x1 : AV) (H : Hp) : R1 :=
 vq (lenSl x0) H fun a1 H =>
 que call (fun x4 H => .ok x4 H) (fun H => qhc call H) x0 x1 a1 (.int .i64 (.ofNat 0)) H
def sIxF (call : Ev.Call) (x0 x1 : AV) (H : Hp) : R1 := q1d call x0 x1 H
def qi5 (call : Ev.Call) (x10 : AV) (H : Hp) : R1 :=
 ve (call (.f qqc) [x10] H) fun a6 H =>
 ve (call (.f qfa) [x10] H) fun a7 H =>
 .ok (.tup [a7, (.int .i64 (.ofNat 0))]) H
def qqx (call : Ev.Call) (g9 : AV → AV → Hp → R1) (x9 x10 x11 : AV) (H : Hp) : R1 :=
 vq (idxA 256 1 x9 x11) H fun a10 H =>
 vq (qag H a10) H fun a11 H =>
 vq (qed 1 H.nx (qar (reps [.int .i64 (.ofNat 0)] 1) [(0, 1, a11)])) H fun a12 H =>
 ve (qaz 1 8 H x10 (qby 1 H a12)) fun a13 H =>
 g9 a13 a11 H
def qu4 (call : Ev.Call) (q9e0 : AV → Hp → R1) (x1 x9 : AV) (g9 : AV → AV → Hp → R1) (x10 x11 : AV) (H : Hp) : R1 :=
 vq (intV (qab .neq).f x11 x1) H fun a15 H =>
 cd a15 (
 qqx call g9 x9 x10 x11 H) (
 q9e0 x10 H)
def qme (call : Ev.Call) (q9e0 : AV → Hp → R1) (x1 x9 : AV) (n : Nat) : AV → AV → Hp → R1 :=
 Nat.rec (motive := fun _ => AV → AV → Hp → R1) (fun _ _ _ => .bad) (fun _ ih => qu4 call q9e0 x1 x9 ih) n
def qu5 (call : Ev.Call) (q9e0 : AV → Hp → R1) (x1 x9 : AV) : AV → AV → Hp → R1 := qme call q9e0 x1 x9 qbt
def qqw (call : Ev.Call) (x1 x2 x9 : AV) (H : Hp) : R1 :=
 vq (qed 1 H.nx (qar (reps [.int .i64 (.ofNat 0)] 1) [(0, 1, x2)])) H fun a5 H =>
 qu5 call (fun x10 H => qi5 call x10 H) x1 x9 a5 x2 H
def qki (call : Ev.Call) (x1 x2 x3 : AV) (H : Hp) : R1 :=
 vq (qba 2 H x3) H fun a1 H =>
 ve (call (.f qqh) [a1, x1] H) fun a2 H =>
 vq (.new (.ptr H.nx 0) (qaa 0 (List.replicate 256 (.int .i64 (.ofNat 0))))) H fun a3 H =>
 ve (qbq 256 H a3 a2) fun _ H =>
 vq (idxA 256 1 a3 x2) H fun a17 H =>
 vq (qag H a17) H fun a18 H =>
 vq (intV (qab .lss).f a18 (.int .i64 (.ofNat 0))) H fun a19 H =>
 cd a19 (
 .ok (.tup [(.nilsl), (.int .i64 (.ofNat 8))]) H) (
 qqw call x1 x2 a3 H)
def q3n (call : Ev.Call) (x0 x1 x2 : AV) (H : Hp) : R1 :=
 vq (boxA 2 H.nx x0) H fun a0 H =>
 dz 9 H fun b21 H =>
 dq true false 0 0 (b21 + 0) H [] [] (fun H => qba 2 H a0) (some true) fun a22 H p w =>
 dq false false 1 0 (b21 + 1) H p w (fun _ => .val x1) (some true) fun a23 H p w =>
 dq true false 3 0 (b21 + 3) H p w (fun H => qba 2 H a0) (some true) fun a24 H p w =>
 dq false false 4 0 (b21 + 4) H p w (fun _ => .val x2) (some true) fun a25 H p w =>
 de 3 H p w (call (.f ql8) [a22, a23] (qa2 3 p H)) (some true) fun a26 H p w =>
 de 31 H p w (call (.f ql8) [a24, a25] (qa2 31 p H)) (some true) fun a27 H p w =>
 dq false true 6 63 (b21 + 6) H p w (fun _ => qed 2 (b21 + 6) (qar (reps [.int .i64 (.ofNat 0)] 2) [(0, 1, a26), (1, 1, a27)])) (some true) fun a28 H p w =>
 de 127 H p w (call (.f qqk) [a28] (qa2 127 p H)) (some true) fun a29 H p w =>
 dq false false 8 255 (b21 + 8) H p w (fun _ => .val a29) (some true) fun a30 H p w =>
 dz2 p H fun H =>
 vq (intV (qab .neq).f a30 (.int .i64 (.ofNat 0))) H fun a31 H =>
 cd a31 (
 .ok (.tup [(.nilsl), a30]) H) (
 qki call x1 x2 a0 H)
def gPth (call : Ev.Call) (x0 x1 x2 : AV) (H : Hp) : R1 := q3n call x0 x1 x2 H
def qwm (call : Ev.Call) (x0 : AV) (H : Hp) : R1 :=
 vq (lenSl x0) H fun a0 H =>
 vq (lenSl x0) H fun a1 H =>
 vq (qa7 1 x0 none (some a0) (some a1)) H fun a2 H =>
 .ok a2 H
def sClp (call : Ev.Call) (x0 : AV) (H : Hp) : R1 := qwm call x0 H
def qvy (call : Ev.Call) (H : Hp) : R1 :=
 .ok (.int .i64 (.ofNat 0)) H
def qvx (call : Ev.Call) (x0 x1 : AV) (H : Hp) : R1 :=
 vq (intV (qab .gtr).f x0 x1) H fun a3 H =>
 cd a3 (
 .ok (.int .i64 (.ofNat 1)) H) (
 qvy call H)
def qvw (call : Ev.Call) (x0 x1 : AV) (H : Hp) : R1 :=
 vq (intV (qab .lss).f x0 x1) H fun a5 H =>
 cd a5 (
 .ok (.int .i64 (.negSucc 0)) H) (
 qvx call x0 x1 H)
def qvv (call : Ev.Call) (x0 x1 x6 : AV) (H : Hp) : R1 :=
 cd x6 (
 .ok (.int .i64 (.ofNat 1)) H) (
 qvw call x0 x1 H)
def q5a (call : Ev.Call) (H : Hp) : R1 :=
 .ok (.int .i64 (.negSucc 0)) H
def q5b (call : Ev.Call) (x0 x1 : AV) (H : Hp) : R1 :=
 ve (call (.f qma) [x0] H) fun a0 H =>
 ve (call (.f qma) [x1] H) fun a1 H =>
 cd a0 (
 cd a1 (
 .ok (.int .i64 (.ofNat 0)) H) (
 q5a call H)) (
 qvv call x0 x1 a1 H)
def cCmp (call : Ev.Call) (x0 x1 : AV) (H : Hp) : R1 := q5b call x0 x1 H
def qu3 (call : Ev.Call) (H : Hp) : R1 :=
 .ok (.int .i64 (.ofNat 0)) H
def q3l (call : Ev.Call) (x0 : AV) (H : Hp) : R1 :=
 vq (boxA 3 H.nx x0) H fun a0 H =>
 vq (qaf 2 a0) H fun a2 H =>
 vq (qag H a2) H fun a3 H =>
 cd a3 (
 .ok (.int .i64 (.ofNat 1)) H) (
 qu3 call H)
def gSgn (call : Ev.Call) (x0 : AV) (H : Hp) : R1 := q3l call x0 H
def qmy (call : Ev.Call) (x3 : AV) (H : Hp) : R1 :=
 .ok x3 H
def q4x (call : Ev.Call) (g2 : AV → Hp → R1) (x8 : AV) (H : Hp) : R1 :=
 vq (intV (qab .add).f x8 (.int .i64 (.ofNat 1))) H fun a4 H =>
 g2 a4 H
def q4w (call : Ev.Call) (q2r : AV → Hp → R1) (g2 : AV → Hp → R1) (x3 x6 x8 : AV) (H : Hp) : R1 :=
 vq (idxS 1 x6 x8) H fun a6 H =>
 vq (qag H a6) H fun a7 H =>
 vq (intV (qab .neq).f a7 x3) H fun a8 H =>
 cd a8 (
 q2r a7 H) (
 q4x call g2 x8 H)
def q4y (call : Ev.Call) (q2r : AV → Hp → R1) (q2e0 : Hp → R1) (x3 x6 x7 : AV) (g2 : AV → Hp → R1) (x8 : AV) (H : Hp) : R1 :=
 vq (intV (qab .lss).f x8 x7) H fun a3 H =>
 cd a3 (
 q4w call q2r g2 x3 x6 x8 H) (
 q2e0 H)
def qok (call : Ev.Call) (q2r : AV → Hp → R1) (q2e0 : Hp → R1) (x3 x6 x7 : AV) (n : Nat) : AV → Hp → R1 :=
 Nat.rec (motive := fun _ => AV → Hp → R1) (fun _ _ => .bad) (fun _ ih => q4y call q2r q2e0 x3 x6 x7 ih) n
def q40 (call : Ev.Call) (q2r : AV → Hp → R1) (q2e0 : Hp → R1) (x3 x6 x7 : AV) : AV → Hp → R1 := qok call q2r q2e0 x3 x6 x7 qbt
def zbe (call : Ev.Call) (x0 : AV) (H : Hp) : R1 :=
 vq (lenSl x0) H fun a1 H =>
 q40 call (fun x2 H => .ok x2 H) (fun H => qmy call (.int .i64 (.ofNat 0)) H) (.int .i64 (.ofNat 0)) x0 a1 (.int .i64 (.ofNat 0)) H
def cOr (call : Ev.Call) (x0 : AV) (H : Hp) : R1 := zbe call x0 H
def qdr (call : Ev.Call) (x3 : AV) (H : Hp) : R1 :=
 vq (qaf 1026 x3) H fun a2 H =>
 vq (qag H a2) H fun a3 H =>
 .ok a3 H
def qeu (call : Ev.Call) (g7 : AV → Hp → R1) (x30 : AV) (H : Hp) : R1 :=
 vq (intV (qab .add).f x30 (.int .i64 (.ofNat 1))) H fun a9 H =>
 g7 a9 H
def qjg (call : Ev.Call) (g7 : AV → Hp → R1) (x3 x30 : AV) (H : Hp) : R1 :=
 vq (qaf 256 x3) H fun a11 H =>
 vq (idxA 256 1 a11 x30) H fun a12 H =>
 vq (qag H a12) H fun a13 H =>
 vq (intV (qab .eql).f a13 (.int .i64 (.ofNat 0))) H fun a14 H =>
 cd a14 (
 ve (call (.f qkh) [x3, x30] H) fun a15 H =>
 qeu call g7 x30 H) (
 qeu call g7 x30 H)
def qmw (call : Ev.Call) (q7e2 : Hp → R1) (x3 x29 : AV) (g7 : AV → Hp → R1) (x30 : AV) (H : Hp) : R1 :=
 vq (intV (qab .lss).f x30 x29) H fun a8 H =>
 cd a8 (
 qjg call g7 x3 x30 H) (
 q7e2 H)
def qet (call : Ev.Call) (q7e2 : Hp → R1) (x3 x29 : AV) (n : Nat) : AV → Hp → R1 :=
 Nat.rec (motive := fun _ => AV → Hp → R1) (fun _ _ => .bad) (fun _ ih => qmw call q7e2 x3 x29 ih) n
def qmx (call : Ev.Call) (q7e2 : Hp → R1) (x3 x29 : AV) : AV → Hp → R1 := qet call q7e2 x3 x29 qbt
def qcp (call : Ev.Call) (x1 x3 : AV) (H : Hp) : R1 :=
 vq (qaf 0 x1) H fun a5 H =>
 vq (qag H a5) H fun a6 H =>
 qmx call (fun H => qdr call x3 H) x3 a6 (.int .i64 (.ofNat 0)) H
def qjf (call : Ev.Call) (g21 : AV → Hp → R1) (x10 : AV) (H : Hp) : R1 :=
 vq (intV (qab .add).f x10 (.int .i64 (.ofNat 1))) H fun a23 H =>
 g21 a23 H
def qje (call : Ev.Call) (g21 : AV → Hp → R1) (x3 x8 x10 : AV) (H : Hp) : R1 :=
 vq (idxS 3 x8 x10) H fun a25 H =>
 vq (qba 3 H a25) H fun a26 H =>
 vq (.new (.ptr H.nx 0) (qaa 0 [.int .i64 (.ofNat 0), .int .i64 (.ofNat 0), .bool false])) H fun a27 H =>
 ve (qbq 3 H a27 a26) fun _ H =>
 dz 14 H fun b29 H =>
 dq false false 0 0 (b29 + 0) H [] [] (fun _ => qaf 0 a27) (some true) fun a30 H p w =>
 dq true false 1 1 (b29 + 1) H p w (fun H => qag H a30) (some true) fun a31 H p w =>
 dq false false 2 0 (b29 + 2) H p w (fun _ => qaf 0 a27) (some true) fun a32 H p w =>
 dq true false 3 4 (b29 + 3) H p w (fun H => qag H a32) (some true) fun a33 H p w =>
 dq false false 4 0 (b29 + 4) H p w (fun _ => qaf 0 x3) (some true) fun a34 H p w =>
 dq false false 5 28 (b29 + 5) H p w (fun _ => idxA 256 1 a34 a33) (some true) fun a35 H p w =>
 dq true false 6 60 (b29 + 6) H p w (fun H => qag H a35) (some true) fun a36 H p w =>
 dq false false 7 0 (b29 + 7) H p w (fun _ => qaf 1 a27) (some true) fun a37 H p w =>
 dq true false 8 128 (b29 + 8) H p w (fun H => qag H a37) (some true) fun a38 H p w =>
 dq false true 9 384 (b29 + 9) H p w (fun _ => qed 1 (b29 + 9) (qar (reps [.int .i64 (.ofNat 0)] 1) [(0, 1, a38)])) (some true) fun a39 H p w =>
 dq false false 11 0 (b29 + 11) H p w (fun _ => qaf 0 x3) (some true) fun a40 H p w =>
 de 1020 H p w (qaz 1 8 (qa2 1020 p H) a36 (qby 1 (qa2 1020 p H) a39)) (some true) fun a41 H p w =>
 dq false false 12 4095 (b29 + 12) H p w (fun _ => idxA 256 1 a40 a31) (some true) fun a42 H p w =>
 de 8191 H p w (qa3 (qa2 8191 p H) a42 a41) (some true) fun _ H p w =>
 dz2 p H fun H =>
 qjf call g21 x10 H
def qjh (call : Ev.Call) (q21e0 : Hp → R1) (x3 x8 x9 : AV) (g21 : AV → Hp → R1) (x10 : AV) (H : Hp) : R1 :=
 vq (intV (qab .lss).f x10 x9) H fun a22 H =>
 cd a22 (
 qje call g21 x3 x8 x10 H) (
 q21e0 H)
def qdi (call : Ev.Call) (q21e0 : Hp → R1) (x3 x8 x9 : AV) (n : Nat) : AV → Hp → R1 :=
 Nat.rec (motive := fun _ => AV → Hp → R1) (fun _ _ => .bad) (fun _ ih => qjh call q21e0 x3 x8 x9 ih) n
def qji (call : Ev.Call) (q21e0 : Hp → R1) (x3 x8 x9 : AV) : AV → Hp → R1 := qdi call q21e0 x3 x8 x9 qbt
def qre (call : Ev.Call) (x0 : AV) (H : Hp) : R1 :=
 vq (boxA 2 H.nx x0) H fun a0 H =>
 vq (.new (.ptr H.nx 0) (qaa 0 (List.replicate 256 (.nilsl) ++ List.replicate 512 (.int .i64 (.ofNat 0)) ++ List.replicate 256 (.bool false) ++ [.nilsl] ++ [.int .i64 (.ofNat 0)] ++ [.nilsl]))) H fun a1 H =>
 vq (qaf 1 a0) H fun a18 H =>
 vq (qag H a18) H fun a19 H =>
 vq (lenSl a19) H fun a20 H =>
 qji call (fun H => qcp call a0 a1 H) a1 a19 a20 (.int .i64 (.ofNat 0)) H
def cParts (call : Ev.Call) (x0 : AV) (H : Hp) : R1 := qre call x0 H
def qdq (call : Ev.Call) (x2 x3 x5 : AV) (H : Hp) : R1 :=
 .ok (.fn qf0 [] [x3, x2, x5]) H
def qfi (call : Ev.Call) (g12 : AV → Hp → R1) (x17 : AV) (H : Hp) : R1 :=
 vq (intV (qab .add).f x17 (.int .i64 (.ofNat 1))) H fun a14 H =>
 g12 a14 H
def qq9 (call : Ev.Call) (g19 : AV → Hp → R1) (x24 : AV) (H : Hp) : R1 :=
 vq (intV (qab .add).f x24 (.int .i64 (.ofNat 1))) H fun a21 H =>
 g19 a21 H
def qq8 (call : Ev.Call) (g19 : AV → Hp → R1) (x5 x6 x22 x24 : AV) (H : Hp) : R1 :=
 vq (idxS 1 x22 x24) H fun a23 H =>
 vq (qag H a23) H fun a24 H =>
 vq (qag H x5) H fun a25 H =>
 vq (idxS 1 a25 a24) H fun a26 H =>
 ve (qa3 H a26 x6) fun _ H =>
 qq9 call g19 x24 H
def qra (call : Ev.Call) (q19e2 : Hp → R1) (x5 x6 x22 x23 : AV) (g19 : AV → Hp → R1) (x24 : AV) (H : Hp) : R1 :=
 vq (intV (qab .lss).f x24 x23) H fun a20 H =>
 cd a20 (
 qq8 call g19 x5 x6 x22 x24 H) (
 q19e2 H)
def qgt (call : Ev.Call) (q19e2 : Hp → R1) (x5 x6 x22 x23 : AV) (n : Nat) : AV → Hp → R1 :=
 Nat.rec (motive := fun _ => AV → Hp → R1) (fun _ _ => .bad) (fun _ ih => qra call q19e2 x5 x6 x22 x23 ih) n
def qrc (call : Ev.Call) (q19e2 : Hp → R1) (x5 x6 x22 x23 : AV) : AV → Hp → R1 := qgt call q19e2 x5 x6 x22 x23 qbt
def qq7 (call : Ev.Call) (g12 : AV → Hp → R1) (x5 x15 x17 : AV) (H : Hp) : R1 :=
 vq (idxS 1 x15 x17) H fun a16 H =>
 vq (qag H a16) H fun a17 H =>
 vq (lenSl a17) H fun a18 H =>
 qrc call (fun H => qfi call g12 x17 H) x5 x17 a17 a18 (.int .i64 (.ofNat 0)) H
def qrb (call : Ev.Call) (q12e0 : Hp → R1) (x5 x15 x16 : AV) (g12 : AV → Hp → R1) (x17 : AV) (H : Hp) : R1 :=
 vq (intV (qab .lss).f x17 x16) H fun a13 H =>
 cd a13 (
 qq7 call g12 x5 x15 x17 H) (
 q12e0 H)
def qcu (call : Ev.Call) (q12e0 : Hp → R1) (x5 x15 x16 : AV) (n : Nat) : AV → Hp → R1 :=
 Nat.rec (motive := fun _ => AV → Hp → R1) (fun _ _ => .bad) (fun _ ih => qrb call q12e0 x5 x15 x16 ih) n
def qrd (call : Ev.Call) (q12e0 : Hp → R1) (x5 x15 x16 : AV) : AV → Hp → R1 := qcu call q12e0 x5 x15 x16 qbt
def q4v (call : Ev.Call) (x0 x1 : AV) (H : Hp) : R1 :=
 vq (boxA 2 H.nx x0) H fun a0 H =>
 vq (box1 H.nx x1) H fun a1 H =>
 vq (qag H a1) H fun a2 H =>
 ve (call (.f qbl) [a2, (.fn qhj [] [])] H) fun a3 H =>
 vq (qaf 0 a0) H fun a4 H =>
 vq (qag H a4) H fun a5 H =>
 vq (qh8 [.int .i64 (.ofNat 0)] 8 H.nx a5 a5) H fun a6 H =>
 vq (.new (.ptr H.nx 0) (qaa 0 [.nilsl])) H fun a7 H =>
 ve (qa3 H a7 a6) fun _ H =>
 vq (qag H a1) H fun a10 H =>
 vq (lenSl a10) H fun a11 H =>
 qrd call (fun H => qdq call a0 a1 a7 H) a7 a10 a11 (.int .i64 (.ofNat 0)) H
def cRdy (call : Ev.Call) (x0 x1 : AV) (H : Hp) : R1 := q4v call x0 x1 H
def quj (call : Ev.Call) (x0 : AV) (H : Hp) : R1 :=
 vq (lenSl x0) H fun a0 H =>
 vq (lenSl x0) H fun a1 H =>
 vq (qa7 1 x0 none (some a0) (some a1)) H fun a2 H =>
 .ok a2 H
def sClpS (call : Ev.Call) (x0 : AV) (H : Hp) : R1 := quj call x0 H
def qu7 (call : Ev.Call) (H : Hp) : R1 :=
 .ok (.int .i64 (.ofNat 0)) H
def qu6 (call : Ev.Call) (x1 x2 : AV) (H : Hp) : R1 :=
 vq (intV (qab .lss).f x1 (.int .i64 (.ofNat 0))) H fun a2 H =>
 vg (qam false a2) (.val x1) H fun a3 H =>
 vg (qam false a2) (qaf 0 x2) H fun a4 H =>
 vg (qam false a2) (qag H a4) H fun a5 H =>
 vg (qam false a2) (intV (qab .geq).f a3 a5) H fun a6 H =>
 vq (qb9 a2 (.bool true) a6) H fun a7 H =>
 cd a7 (
 .ok (.int .i64 (.ofNat 4)) H) (
 qu7 call H)
def q3p (call : Ev.Call) (x0 x1 : AV) (H : Hp) : R1 :=
 vq (boxA 2 H.nx x0) H fun a0 H =>
 vq (qba 2 H a0) H fun a9 H =>
 ve (call (.f qhk) [a9] H) fun a10 H =>
 vq (intV (qab .neq).f a10 (.int .i64 (.ofNat 0))) H fun a11 H =>
 cd a11 (
 .ok a10 H) (
 qu6 call x1 a0 H)
def gOfN (call : Ev.Call) (x0 x1 : AV) (H : Hp) : R1 := q3p call x0 x1 H
def qf7 (call : Ev.Call) (x3 : AV) (H : Hp) : R1 :=
 .ok x3 H
def qvk (call : Ev.Call) (g2 : AV → Hp → R1) (x8 : AV) (H : Hp) : R1 :=
 vq (intV (qab .add).f x8 (.int .i64 (.ofNat 1))) H fun a4 H =>
 g2 a4 H
def qvj (call : Ev.Call) (q2r : AV → Hp → R1) (g2 : AV → Hp → R1) (x3 x6 x8 : AV) (H : Hp) : R1 :=
 vq (idxS 1 x6 x8) H fun a6 H =>
 vq (qag H a6) H fun a7 H =>
 vq (intV (qab .neq).f a7 x3) H fun a8 H =>
 cd a8 (
 q2r a7 H) (
 qvk call g2 x8 H)
def qvl (call : Ev.Call) (q2r : AV → Hp → R1) (q2e0 : Hp → R1) (x3 x6 x7 : AV) (g2 : AV → Hp → R1) (x8 : AV) (H : Hp) : R1 :=
 vq (intV (qab .lss).f x8 x7) H fun a3 H =>
 cd a3 (
 qvj call q2r g2 x3 x6 x8 H) (
 q2e0 H)
def qjj (call : Ev.Call) (q2r : AV → Hp → R1) (q2e0 : Hp → R1) (x3 x6 x7 : AV) (n : Nat) : AV → Hp → R1 :=
 Nat.rec (motive := fun _ => AV → Hp → R1) (fun _ _ => .bad) (fun _ ih => qvl call q2r q2e0 x3 x6 x7 ih) n
def qvm (call : Ev.Call) (q2r : AV → Hp → R1) (q2e0 : Hp → R1) (x3 x6 x7 : AV) : AV → Hp → R1 := qjj call q2r q2e0 x3 x6 x7 qbt
def q42 (call : Ev.Call) (x0 : AV) (H : Hp) : R1 :=
 vq (lenSl x0) H fun a1 H =>
 qvm call (fun x2 H => .ok x2 H) (fun H => qf7 call (.int .i64 (.ofNat 0)) H) (.int .i64 (.ofNat 0)) x0 a1 (.int .i64 (.ofNat 0)) H
def cOrE (call : Ev.Call) (x0 : AV) (H : Hp) : R1 := q42 call x0 H
def qdo (call : Ev.Call) (x4 x5 : AV) (H : Hp) : R1 :=
 vq (qba 256 H x5) H fun a5 H =>
 ve (qbq 256 H x4 a5) fun _ H =>
 finR (rV (qba 256 H x4)) H
def qfc (call : Ev.Call) (g9 : AV → Hp → R1) (x7 : AV) (H : Hp) : R1 :=
 vq (qa7 1 x7 (some (.int .i64 (.ofNat 1))) none none) H fun a10 H =>
 g9 a10 H
def qgp (call : Ev.Call) (g15 : AV → AV → Hp → R1) (x7 x29 : AV) (H : Hp) : R1 :=
 vq (intV (qab .add).f x29 (.int .i64 (.ofNat 1))) H fun a17 H =>
 g15 x7 a17 H
def qqr (call : Ev.Call) (g15 : AV → AV → Hp → R1) (x5 x7 x27 x29 : AV) (H : Hp) : R1 :=
 vq (idxS 3 x27 x29) H fun a19 H =>
 vq (qba 3 H a19) H fun a20 H =>
 vq (.new (.ptr H.nx 0) (qaa 0 [.int .i64 (.ofNat 0), .int .i64 (.ofNat 0), .bool false])) H fun a21 H =>
 ve (qbq 3 H a21 a20) fun _ H =>
 vl (qaf 0 a21) fun a23 =>
 vl (qag H a23) fun a24 =>
 vl (idxS 1 x7 (.int .i64 (.ofNat 0))) fun a25 =>
 vl (qag H a25) fun a26 =>
 vl (intV (qab .eql).f a24 a26) fun a27 =>
 vlg (qam true a27) (qaf 1 a21) fun a28 =>
 vlg (qam true a27) (qag H a28) fun a29 =>
 vlg (qam true a27) (idxA 256 1 x5 a29) fun a30 =>
 vlg (qam true a27) (qag H a30) fun a31 =>
 vlg (qam true a27) (intV (qab .lss).f a31 (.int .i64 (.ofNat 0))) fun a32 =>
 vl (qb9 a27 a32 (.bool false)) fun a33 =>
 cd a33 (
 vq (qaf 1 a21) H fun a34 H =>
 vq (qag H a34) H fun a35 H =>
 vq (qaf 0 a21) H fun a36 H =>
 vq (qag H a36) H fun a37 H =>
 vq (idxA 256 1 x5 a35) H fun a38 H =>
 ve (qa3 H a38 a37) fun _ H =>
 vq (qaf 1 a21) H fun a40 H =>
 vq (qag H a40) H fun a41 H =>
 vq (qed 1 H.nx (qar (reps [.int .i64 (.ofNat 0)] 1) [(0, 1, a41)])) H fun a42 H =>
 ve (qaz 1 8 H x7 (qby 1 H a42)) fun a43 H =>
 qgp call g15 a43 x29 H) (
 qgp call g15 x7 x29 H)
def qqt (call : Ev.Call) (q15e4 : AV → Hp → R1) (x5 x27 x28 : AV) (g15 : AV → AV → Hp → R1) (x7 x29 : AV) (H : Hp) : R1 :=
 vq (intV (qab .lss).f x29 x28) H fun a16 H =>
 cd a16 (
 qqr call g15 x5 x7 x27 x29 H) (
 q15e4 x7 H)
def qgo (call : Ev.Call) (q15e4 : AV → Hp → R1) (x5 x27 x28 : AV) (n : Nat) : AV → AV → Hp → R1 :=
 Nat.rec (motive := fun _ => AV → AV → Hp → R1) (fun _ _ _ => .bad) (fun _ ih => qqt call q15e4 x5 x27 x28 ih) n
def qqv (call : Ev.Call) (q15e4 : AV → Hp → R1) (x5 x27 x28 : AV) : AV → AV → Hp → R1 := qgo call q15e4 x5 x27 x28 qbt
def qqq (call : Ev.Call) (g9 : AV → Hp → R1) (x2 x5 x7 : AV) (H : Hp) : R1 :=
 vq (qaf 1 x2) H fun a12 H =>
 vq (qag H a12) H fun a13 H =>
 vq (lenSl a13) H fun a14 H =>
 qqv call (fun x7 H => qfc call g9 x7 H) x5 a13 a14 x7 (.int .i64 (.ofNat 0)) H
def qu1 (call : Ev.Call) (q9e2 : Hp → R1) (x2 x5 : AV) (g9 : AV → Hp → R1) (x7 : AV) (H : Hp) : R1 :=
 vq (lenSl x7) H fun a46 H =>
 vq (intV (qab .gtr).f a46 (.int .i64 (.ofNat 0))) H fun a47 H =>
 cd a47 (
 qqq call g9 x2 x5 x7 H) (
 q9e2 H)
def qef (call : Ev.Call) (q9e2 : Hp → R1) (x2 x5 : AV) (n : Nat) : AV → Hp → R1 :=
 Nat.rec (motive := fun _ => AV → Hp → R1) (fun _ _ => .bad) (fun _ ih => qu1 call q9e2 x2 x5 ih) n
def qu2 (call : Ev.Call) (q9e2 : Hp → R1) (x2 x5 : AV) : AV → Hp → R1 := qef call q9e2 x2 x5 qbt
def qfb (call : Ev.Call) (x1 x2 x4 x5 : AV) (H : Hp) : R1 :=
 vq (idxA 256 1 x5 x1) H fun a3 H =>
 ve (qa3 H a3 x1) fun _ H =>
 vq (qed 1 H.nx (qar (reps [.int .i64 (.ofNat 0)] 1) [(0, 1, x1)])) H fun a8 H =>
 qu2 call (fun H => qdo call x4 x5 H) x2 x5 a8 H
def qqp (call : Ev.Call) (g49 : AV → Hp → R1) (x10 : AV) (H : Hp) : R1 :=
 vq (intV (qab .add).f x10 (.int .i64 (.ofNat 1))) H fun a51 H =>
 g49 a51 H
def qqo (call : Ev.Call) (g49 : AV → Hp → R1) (x5 x10 : AV) (H : Hp) : R1 :=
 vq (idxA 256 1 x5 x10) H fun a53 H =>
 ve (qa3 H a53 (.int .i64 (.negSucc 0))) fun _ H =>
 qqp call g49 x10 H
def qqs (call : Ev.Call) (q49e0 : Hp → R1) (x5 : AV) (g49 : AV → Hp → R1) (x10 : AV) (H : Hp) : R1 :=
 vq (intV (qab .lss).f x10 (.int .i64 (.ofNat 256))) H fun a50 H =>
 cd a50 (
 qqo call g49 x5 x10 H) (
 q49e0 H)
def qgn (call : Ev.Call) (q49e0 : Hp → R1) (x5 : AV) (n : Nat) : AV → Hp → R1 :=
 Nat.rec (motive := fun _ => AV → Hp → R1) (fun _ _ => .bad) (fun _ ih => qqs call q49e0 x5 ih) n
def qqu (call : Ev.Call) (q49e0 : Hp → R1) (x5 : AV) : AV → Hp → R1 := qgn call q49e0 x5 qbt
def q3j (call : Ev.Call) (x0 x1 : AV) (H : Hp) : R1 :=
 vq (boxA 2 H.nx x0) H fun a0 H =>
 vq (.new (.ptr H.nx 0) (qaa 0 (List.replicate 256 (.int .i64 (.ofNat 0))))) H fun a1 H =>
 vq (.new (.ptr H.nx 0) (qaa 0 (List.replicate 256 (.int .i64 (.ofNat 0))))) H fun a2 H =>
 qqu call (fun H => qfb call x1 a0 a1 a2 H) a2 (.int .i64 (.ofNat 0)) H
def gWlk (call : Ev.Call) (x0 x1 : AV) (H : Hp) : R1 := q3j call x0 x1 H
def qt8 (call : Ev.Call) (g2 : AV → AV → Hp → R1) (x2 x3 : AV) (H : Hp) : R1 :=
 vq (intV (qab .add).f x2 (.int .i64 (.ofNat 1))) H fun a3 H =>
 vq (intV (qab .sub).f x3 (.int .i64 (.ofNat 1))) H fun a4 H =>
 g2 a3 a4 H
def qph (call : Ev.Call) (g2 : AV → AV → Hp → R1) (x0 x2 x3 : AV) (H : Hp) : R1 :=
 dz 0 H fun b6 H =>
 dq false false 0 0 (b6 + 0) H [] [] (fun _ => .val x0) (some true) fun a7 H p w =>
 dq false false 1 0 (b6 + 1) H p w (fun _ => .val x2) (some true) fun a8 H p w =>
 dq false false 2 0 (b6 + 2) H p w (fun _ => .val x0) (some true) fun a9 H p w =>
 dq false false 3 0 (b6 + 3) H p w (fun _ => .val x3) (some true) fun a10 H p w =>
 dq false false 4 0 (b6 + 4) H p w (fun _ => .val x0) (some true) fun a11 H p w =>
 dq false false 5 0 (b6 + 5) H p w (fun _ => .val x3) (some true) fun a12 H p w =>
 dq false false 6 48 (b6 + 6) H p w (fun _ => idxS 1 a11 a12) (some true) fun a13 H p w =>
 dq true false 7 112 (b6 + 7) H p w (fun H => qag H a13) (some true) fun a14 H p w =>
 dq false false 8 0 (b6 + 8) H p w (fun _ => .val x0) (some true) fun a15 H p w =>
 dq false false 9 0 (b6 + 9) H p w (fun _ => .val x2) (some true) fun a16 H p w =>
 dq false false 10 768 (b6 + 10) H p w (fun _ => idxS 1 a15 a16) (some true) fun a17 H p w =>
 dq true false 11 1792 (b6 + 11) H p w (fun H => qag H a17) (some true) fun a18 H p w =>
 dq false false 12 4083 (b6 + 12) H p w (fun _ => idxS 1 a7 a8) (some true) fun a19 H p w =>
 de 8179 H p w (qa3 (qa2 8179 p H) a19 a14) (some true) fun _ H p w =>
 dq false false 14 16383 (b6 + 14) H p w (fun _ => idxS 1 a9 a10) (some true) fun a21 H p w =>
 de 32767 H p w (qa3 (qa2 32767 p H) a21 a18) (some true) fun _ H p w =>
 dz2 p H fun H =>
 qt8 call g2 x2 x3 H
def qt9 (call : Ev.Call) (q2e0 : Hp → R1) (x0 : AV) (g2 : AV → AV → Hp → R1) (x2 x3 : AV) (H : Hp) : R1 :=
 vq (intV (qab .lss).f x2 x3) H fun a24 H =>
 cd a24 (
 qph call g2 x0 x2 x3 H) (
 q2e0 H)
def qir (call : Ev.Call) (q2e0 : Hp → R1) (x0 : AV) (n : Nat) : AV → AV → Hp → R1 :=
 Nat.rec (motive := fun _ => AV → AV → Hp → R1) (fun _ _ _ => .bad) (fun _ ih => qt9 call q2e0 x0 ih) n
def qua (call : Ev.Call) (q2e0 : Hp → R1) (x0 : AV) : AV → AV → Hp → R1 := qir call q2e0 x0 qbt
def q1a (call : Ev.Call) (x0 : AV) (H : Hp) : R1 :=
 vq (lenSl x0) H fun a0 H =>
 vq (intV (qab .sub).f a0 (.int .i64 (.ofNat 1))) H fun a1 H =>
 qua call (fun H => .ok (.tup []) H) x0 (.int .i64 (.ofNat 0)) a1 H
def sRvs (call : Ev.Call) (x0 : AV) (H : Hp) : R1 := q1a call x0 H
def q45 (call : Ev.Call) (x0 : AV) (H : Hp) : R1 :=
 vq (intV (qab .neq).f x0 x0) H fun a0 H =>
 .ok a0 H
def cNaN (call : Ev.Call) (x0 : AV) (H : Hp) : R1 := q45 call x0 H
def qc7 (call : Ev.Call) (g3 : AV → Hp → R1) (x0 x4 x5 : AV) (H : Hp) : R1 :=
 vq (nilC x5) H fun a7 H =>
 vq (qaf 0 a7) H fun a8 H =>
 vq (qag H a8) H fun a9 H =>
 ve (call (.f qeq) [x0, a9] H) fun a10 H =>
 vq (lenSl x4) H fun a11 H =>
 vq (intV (qab .sub).f a11 (.int .i64 (.ofNat 1))) H fun a12 H =>
 vq (qa7 2 x4 none (some a12) none) H fun a13 H =>
 vq (lenSl a13) H fun a14 H =>
 vq (intV (qab .gtr).f a14 (.int .i64 (.ofNat 0))) H fun a15 H =>
 cd a15 (
 vq (lenSl a13) H fun a16 H =>
 vq (intV (qab .sub).f a16 (.int .i64 (.ofNat 1))) H fun a17 H =>
 vq (idxS 2 a13 a17) H fun a18 H =>
 vq (qaf 0 a18) H fun a19 H =>
 vq (qag H a19) H fun a20 H =>
 dz 0 H fun b21 H =>
 dq false false 0 0 (b21 + 0) H [] [] (fun _ => .val x0) (some true) fun a22 H p w =>
 dq false false 1 0 (b21 + 1) H p w (fun _ => .val a20) (some true) fun a23 H p w =>
 dq false false 2 0 (b21 + 2) H p w (fun _ => .val x0) (some true) fun a24 H p w =>
 dq false false 3 0 (b21 + 3) H p w (fun _ => .val a20) (some true) fun a25 H p w =>
 dq false false 4 4 (b21 + 4) H p w (fun _ => nilC a24) (some true) fun a26 H p w =>
 dq false false 5 20 (b21 + 5) H p w (fun _ => qaf 512 a26) (some true) fun a27 H p w =>
 dq false false 6 60 (b21 + 6) H p w (fun _ => idxA 256 1 a27 a25) (some true) fun a28 H p w =>
 dq true false 7 124 (b21 + 7) H p w (fun H => qag H a28) (some true) fun a29 H p w =>
 dq false false 8 0 (b21 + 8) H p w (fun _ => .val x0) (some true) fun a30 H p w =>
 dq false false 9 0 (b21 + 9) H p w (fun _ => .val a9) (some true) fun a31 H p w =>
 dq false false 10 256 (b21 + 10) H p w (fun _ => nilC a30) (some true) fun a32 H p w =>
 dq false false 11 1280 (b21 + 11) H p w (fun _ => qaf 512 a32) (some true) fun a33 H p w =>
 dq false false 12 3840 (b21 + 12) H p w (fun _ => idxA 256 1 a33 a31) (some true) fun a34 H p w =>
 dq true false 13 7936 (b21 + 13) H p w (fun H => qag H a34) (some true) fun a35 H p w =>
 dq false false 14 16380 (b21 + 14) H p w (fun _ => qer minV a29 [a35]) (some true) fun a36 H p w =>
 dq false false 15 1 (b21 + 15) H p w (fun _ => nilC a22) (some true) fun a37 H p w =>
 dq false false 16 32769 (b21 + 16) H p w (fun _ => qaf 512 a37) (some true) fun a38 H p w =>
 dq false false 17 131071 (b21 + 17) H p w (fun _ => idxA 256 1 a38 a23) (some true) fun a39 H p w =>
 de 262143 H p w (qa3 (qa2 262143 p H) a39 a36) (some true) fun _ H p w =>
 dz2 p H fun H =>
 g3 a13 H) (
 g3 a13 H)
def qmt (call : Ev.Call) (g42 : AV → Hp → R1) (x0 x4 x5 x6 : AV) (H : Hp) : R1 :=
 vq (nilC x0) H fun a62 H =>
 vq (qaf 768 a62) H fun a63 H =>
 vq (idxA 256 1 a63 x6) H fun a64 H =>
 vq (qag H a64) H fun a65 H =>
 cd a65 (
 dz 0 H fun b66 H =>
 dq false false 0 0 (b66 + 0) H [] [] (fun _ => .val x0) (some true) fun a67 H p w =>
 dq false false 1 0 (b66 + 1) H p w (fun _ => .val x5) (some true) fun a68 H p w =>
 dq false false 2 2 (b66 + 2) H p w (fun _ => nilC a68) (some true) fun a69 H p w =>
 dq false false 3 6 (b66 + 3) H p w (fun _ => qaf 0 a69) (some true) fun a70 H p w =>
 dq true false 4 14 (b66 + 4) H p w (fun H => qag H a70) (some true) fun a71 H p w =>
 dq false false 5 0 (b66 + 5) H p w (fun _ => .val x0) (some true) fun a72 H p w =>
 dq false false 6 0 (b66 + 6) H p w (fun _ => .val x5) (some true) fun a73 H p w =>
 dq false false 7 64 (b66 + 7) H p w (fun _ => nilC a73) (some true) fun a74 H p w =>
 dq false false 8 192 (b66 + 8) H p w (fun _ => qaf 0 a74) (some true) fun a75 H p w =>
 dq true false 9 448 (b66 + 9) H p w (fun H => qag H a75) (some true) fun a76 H p w =>
 dq false false 10 32 (b66 + 10) H p w (fun _ => nilC a72) (some true) fun a77 H p w =>
 dq false false 11 1056 (b66 + 11) H p w (fun _ => qaf 512 a77) (some true) fun a78 H p w =>
 dq false false 12 4064 (b66 + 12) H p w (fun _ => idxA 256 1 a78 a76) (some true) fun a79 H p w =>
 dq true false 13 8160 (b66 + 13) H p w (fun H => qag H a79) (some true) fun a80 H p w =>
 dq false false 14 0 (b66 + 14) H p w (fun _ => .val x0) (some true) fun a81 H p w =>
 dq false false 15 0 (b66 + 15) H p w (fun _ => .val x6) (some true) fun a82 H p w =>
 dq false false 16 16384 (b66 + 16) H p w (fun _ => nilC a81) (some true) fun a83 H p w =>
 dq false false 17 81920 (b66 + 17) H p w (fun _ => qaf 256 a83) (some true) fun a84 H p w =>
 dq false false 18 245760 (b66 + 18) H p w (fun _ => idxA 256 1 a84 a82) (some true) fun a85 H p w =>
 dq true false 19 507904 (b66 + 19) H p w (fun H => qag H a85) (some true) fun a86 H p w =>
 dq false false 20 1048544 (b66 + 20) H p w (fun _ => qer minV a80 [a86]) (some true) fun a87 H p w =>
 dq false false 21 1 (b66 + 21) H p w (fun _ => nilC a67) (some true) fun a88 H p w =>
 dq false false 22 2097153 (b66 + 22) H p w (fun _ => qaf 512 a88) (some true) fun a89 H p w =>
 dq false false 23 8388607 (b66 + 23) H p w (fun _ => idxA 256 1 a89 a71) (some true) fun a90 H p w =>
 de 16777215 H p w (qa3 (qa2 16777215 p H) a90 a87) (some true) fun _ H p w =>
 dz2 p H fun H =>
 g42 x4 H) (
 g42 x4 H)
def qjd (call : Ev.Call) (q42e1 : AV → Hp → R1) (g42 : AV → Hp → R1) (x0 x4 x5 : AV) (H : Hp) : R1 :=
 vl (nilC x5) fun a43 =>
 vl (qaf 0 a43) fun a44 =>
 vl (qag H a44) fun a45 =>
 vl (nilC x0) fun a46 =>
 vl (qaf 0 a46) fun a47 =>
 vl (idxA 256 1 a47 a45) fun a48 =>
 vl (qag H a48) fun a49 =>
 vl (nilC x5) fun a50 =>
 vl (qaf 1 a50) fun a51 =>
 vl (qag H a51) fun a52 =>
 vl (idxS 1 a49 a52) fun a53 =>
 vl (qag H a53) fun a54 =>
 vq (nilC x5) H fun a55 H =>
 vq (qaf 1 a55) H fun a56 H =>
 vq (qag H a56) H fun a57 H =>
 vq (intV (qab .add).f a57 (.int .i64 (.ofNat 1))) H fun a58 H =>
 vq (nilC x5) H fun a59 H =>
 vq (qaf 1 a59) H fun a60 H =>
 ve (qa3 H a60 a58) fun _ H =>
 vq (nilC x0) H fun a93 H =>
 vq (qaf 256 a93) H fun a94 H =>
 vq (idxA 256 1 a94 a54) H fun a95 H =>
 vq (qag H a95) H fun a96 H =>
 vq (intV (qab .eql).f a96 (.int .i64 (.ofNat 0))) H fun a97 H =>
 cd a97 (
 ve (call (.f qf1) [x0, a54] H) fun a98 H =>
 vq (aggN (qar [.int .i64 (.ofNat 0), .int .i64 (.ofNat 0)] [(0, 1, a54), (1, 1, (.int .i64 (.ofNat 0)))])) H fun a99 H =>
 vq (qed 1 H.nx (qar (reps [.int .i64 (.ofNat 0), .int .i64 (.ofNat 0)] 1) [(0, 2, a99)])) H fun a100 H =>
 ve (qaz 2 16 H x4 (qby 2 H a100)) fun a101 H =>
 q42e1 a101 H) (
 qmt call g42 x0 x4 x5 a54 H)
def qmu (call : Ev.Call) (q42e1 : AV → Hp → R1) (q42e2 : AV → Hp → R1) (x0 x5 : AV) (g42 : AV → Hp → R1) (x4 : AV) (H : Hp) : R1 :=
 vl (nilC x5) fun a103 =>
 vl (qaf 1 a103) fun a104 =>
 vl (qag H a104) fun a105 =>
 vl (nilC x5) fun a106 =>
 vl (qaf 0 a106) fun a107 =>
 vl (qag H a107) fun a108 =>
 vl (nilC x0) fun a109 =>
 vl (qaf 0 a109) fun a110 =>
 vl (idxA 256 1 a110 a108) fun a111 =>
 vl (qag H a111) fun a112 =>
 vl (lenSl a112) fun a113 =>
 vl (intV (qab .lss).f a105 a113) fun a114 =>
 cd a114 (
 qjd call q42e1 g42 x0 x4 x5 H) (
 q42e2 x4 H)
def qes (call : Ev.Call) (q42e1 : AV → Hp → R1) (q42e2 : AV → Hp → R1) (x0 x5 : AV) (n : Nat) : AV → Hp → R1 :=
 Nat.rec (motive := fun _ => AV → Hp → R1) (fun _ _ => .bad) (fun _ ih => qmu call q42e1 q42e2 x0 x5 ih) n
def qmv (call : Ev.Call) (q42e1 : AV → Hp → R1) (q42e2 : AV → Hp → R1) (x0 x5 : AV) : AV → Hp → R1 := qes call q42e1 q42e2 x0 x5 qbt
def qjc (call : Ev.Call) (g3 : AV → Hp → R1) (x0 x4 : AV) (H : Hp) : R1 :=
 vq (lenSl x4) H fun a4 H =>
 vq (intV (qab .sub).f a4 (.int .i64 (.ofNat 1))) H fun a5 H =>
 vq (idxS 2 x4 a5) H fun a6 H =>
 qmv call (fun x4 H => g3 x4 H) (fun x4 H => qc7 call g3 x0 x4 a6 H) x0 a6 x4 H
def qq5 (call : Ev.Call) (q3e0 : Hp → R1) (x0 : AV) (g3 : AV → Hp → R1) (x4 : AV) (H : Hp) : R1 :=
 vq (lenSl x4) H fun a116 H =>
 vq (intV (qab .gtr).f a116 (.int .i64 (.ofNat 0))) H fun a117 H =>
 cd a117 (
 qjc call g3 x0 x4 H) (
 q3e0 H)
def qbm (call : Ev.Call) (q3e0 : Hp → R1) (x0 : AV) (n : Nat) : AV → Hp → R1 :=
 Nat.rec (motive := fun _ => AV → Hp → R1) (fun _ _ => .bad) (fun _ ih => qq5 call q3e0 x0 ih) n
def qq6 (call : Ev.Call) (q3e0 : Hp → R1) (x0 : AV) : AV → Hp → R1 := qbm call q3e0 x0 qbt
def qjb (call : Ev.Call) (x0 x4 : AV) (H : Hp) : R1 :=
 qq6 call (fun H => .ok (.tup []) H) x0 x4 H
def qvh (call : Ev.Call) (x0 x1 : AV) (H : Hp) : R1 :=
 ve (call (.f qf1) [x0, x1] H) fun a0 H =>
 vq (aggN (qar [.int .i64 (.ofNat 0), .int .i64 (.ofNat 0)] [(0, 1, x1), (1, 1, (.int .i64 (.ofNat 0)))])) H fun a1 H =>
 vq (qed 1 H.nx (qar (reps [.int .i64 (.ofNat 0), .int .i64 (.ofNat 0)] 1) [(0, 2, a1)])) H fun a2 H =>
 qjb call x0 a2 H
def cWalk (call : Ev.Call) (x0 x1 : AV) (H : Hp) : R1 := qvh call x0 x1 H
def qe3 (call : Ev.Call) (g5 : AV → Hp → R1) (x17 : AV) (H : Hp) : R1 :=
 vq (intV (qab .add).f x17 (.int .i64 (.ofNat 1))) H fun a7 H =>
 g5 a7 H
def qkb (call : Ev.Call) (g14 : AV → Hp → R1) (x55 : AV) (H : Hp) : R1 :=
 vq (intV (qab .add).f x55 (.int .i64 (.ofNat 1))) H fun a16 H =>
 g14 a16 H
def qpo (call : Ev.Call) (q14r : Hp → R1) (q14e4 : Hp → R1) (g14 : AV → Hp → R1) (x0 x1 x5 x6 x55 : AV) (H : Hp) : R1 :=
 vq (idxS 1 x5 x55) H fun a18 H =>
 vq (qag H a18) H fun a19 H =>
 vq ((unS .not).f a19) H fun a20 H =>
 vg (qam true a20) (.val x6) H fun a21 H =>
 vg (qam true a20) (.val x55) H fun a22 H =>
 vg (qam true a20) (idxS 1 a21 a22) H fun a23 H =>
 vg (qam true a20) (qag H a23) H fun a24 H =>
 vg (qam true a20) ((unS .not).f a24) H fun a25 H =>
 vq (qb9 a20 a25 (.bool false)) H fun a26 H =>
 cd a26 (
 vq (idxS 1 x5 x55) H fun a27 H =>
 ve (qa3 H a27 (.bool true)) fun _ H =>
 vq (qag H x1) H fun a29 H =>
 vq (idxS 1 a29 x55) H fun a30 H =>
 vq (qag H a30) H fun a31 H =>
 ve (qq4 call x0 [a31] H) fun a32 H =>
 vq ((unS .not).f a32) H fun a33 H =>
 cd a33 (
 q14r H) (
 q14e4 H)) (
 qkb call g14 x55 H)
def qpq (call : Ev.Call) (q14r : Hp → R1) (q14e4 : Hp → R1) (x0 x1 x5 x6 x54 : AV) (g14 : AV → Hp → R1) (x55 : AV) (H : Hp) : R1 :=
 vq (intV (qab .lss).f x55 x54) H fun a15 H =>
 cd a15 (
 qpo call q14r q14e4 g14 x0 x1 x5 x6 x55 H) (
 q14e4 H)
def qe2 (call : Ev.Call) (q14r : Hp → R1) (q14e4 : Hp → R1) (x0 x1 x5 x6 x54 : AV) (n : Nat) : AV → Hp → R1 :=
 Nat.rec (motive := fun _ => AV → Hp → R1) (fun _ _ => .bad) (fun _ ih => qpq call q14r q14e4 x0 x1 x5 x6 x54 ih) n
def qps (call : Ev.Call) (q14r : Hp → R1) (q14e4 : Hp → R1) (x0 x1 x5 x6 x54 : AV) : AV → Hp → R1 := qe2 call q14r q14e4 x0 x1 x5 x6 x54 qbt
def qe4 (call : Ev.Call) (q5r : Hp → R1) (g5 : AV → Hp → R1) (x0 x1 x5 x6 x17 : AV) (H : Hp) : R1 :=
 vq (qag H x1) H fun a12 H =>
 vq (lenSl a12) H fun a13 H =>
 qps call (fun H => q5r H) (fun H => qe3 call g5 x17 H) x0 x1 x5 x6 a13 (.int .i64 (.ofNat 0)) H
def qh2 (call : Ev.Call) (g39 : AV → Hp → R1) (x25 : AV) (H : Hp) : R1 :=
 vq (intV (qab .add).f x25 (.int .i64 (.ofNat 1))) H fun a41 H =>
 g39 a41 H
def qpn (call : Ev.Call) (g39 : AV → Hp → R1) (x3 x5 x6 x23 x25 : AV) (H : Hp) : R1 :=
 vq (idxS 3 x23 x25) H fun a43 H =>
 vq (qba 3 H a43) H fun a44 H =>
 vq (.new (.ptr H.nx 0) (qaa 0 [.int .i64 (.ofNat 0), .int .i64 (.ofNat 0), .bool false])) H fun a45 H =>
 ve (qbq 3 H a45 a44) fun _ H =>
 vl (qag H x3) fun a47 =>
 vl (qaf 0 a45) fun a48 =>
 vl (qag H a48) fun a49 =>
 vl (idxS 1 a47 a49) fun a50 =>
 vl (qag H a50) fun a51 =>
 vl (qag H x3) fun a52 =>
 vl (qaf 1 a45) fun a53 =>
 vl (qag H a53) fun a54 =>
 vl (idxS 1 a52 a54) fun a55 =>
 vl (qag H a55) fun a56 =>
 vq (intV (qab .neq).f a51 a56) H fun a57 H =>
 vg (qam true a57) (.val x5) H fun a58 H =>
 vg (qam true a57) (.val a56) H fun a59 H =>
 vg (qam true a57) (idxS 1 a58 a59) H fun a60 H =>
 vg (qam true a57) (qag H a60) H fun a61 H =>
 vg (qam true a57) ((unS .not).f a61) H fun a62 H =>
 vq (qb9 a57 a62 (.bool false)) H fun a63 H =>
 cd a63 (
 vq (idxS 1 x6 a51) H fun a64 H =>
 ve (qa3 H a64 (.bool true)) fun _ H =>
 qh2 call g39 x25 H) (
 qh2 call g39 x25 H)
def qpp (call : Ev.Call) (q39e2 : Hp → R1) (x3 x5 x6 x23 x24 : AV) (g39 : AV → Hp → R1) (x25 : AV) (H : Hp) : R1 :=
 vq (intV (qab .lss).f x25 x24) H fun a40 H =>
 cd a40 (
 qpn call g39 x3 x5 x6 x23 x25 H) (
 q39e2 H)
def qe1 (call : Ev.Call) (q39e2 : Hp → R1) (x3 x5 x6 x23 x24 : AV) (n : Nat) : AV → Hp → R1 :=
 Nat.rec (motive := fun _ => AV → Hp → R1) (fun _ _ => .bad) (fun _ ih => qpp call q39e2 x3 x5 x6 x23 x24 ih) n
def qpr (call : Ev.Call) (q39e2 : Hp → R1) (x3 x5 x6 x23 x24 : AV) : AV → Hp → R1 := qe1 call q39e2 x3 x5 x6 x23 x24 qbt
def qpm (call : Ev.Call) (q5r : Hp → R1) (g5 : AV → Hp → R1) (x0 x1 x2 x3 x5 x17 : AV) (H : Hp) : R1 :=
 vq (qag H x1) H fun a9 H =>
 vq (lenSl a9) H fun a10 H =>
 vq (qh8 [.bool false] 1 H.nx a10 a10) H fun a11 H =>
 vq (qaf 1 x2) H fun a36 H =>
 vq (qag H a36) H fun a37 H =>
 vq (lenSl a37) H fun a38 H =>
 qpr call (fun H => qe4 call q5r g5 x0 x1 x5 a11 x17 H) x3 x5 a11 a37 a38 (.int .i64 (.ofNat 0)) H
def qum (call : Ev.Call) (q5r : Hp → R1) (q5e0 : Hp → R1) (x0 x1 x2 x3 x5 x16 : AV) (g5 : AV → Hp → R1) (x17 : AV) (H : Hp) : R1 :=
 vq (intV (qab .lss).f x17 x16) H fun a6 H =>
 cd a6 (
 qpm call q5r g5 x0 x1 x2 x3 x5 x17 H) (
 q5e0 H)
def qb0 (call : Ev.Call) (q5r : Hp → R1) (q5e0 : Hp → R1) (x0 x1 x2 x3 x5 x16 : AV) (n : Nat) : AV → Hp → R1 :=
 Nat.rec (motive := fun _ => AV → Hp → R1) (fun _ _ => .bad) (fun _ ih => qum call q5r q5e0 x0 x1 x2 x3 x5 x16 ih) n
def qun (call : Ev.Call) (q5r : Hp → R1) (q5e0 : Hp → R1) (x0 x1 x2 x3 x5 x16 : AV) : AV → Hp → R1 := qb0 call q5r q5e0 x0 x1 x2 x3 x5 x16 qbt
def q1u (call : Ev.Call) (x0 x1 x2 x3 : AV) (H : Hp) : R1 :=
 vq (qag H x1) H fun a0 H =>
 vq (lenSl a0) H fun a1 H =>
 vq (qh8 [.bool false] 1 H.nx a1 a1) H fun a2 H =>
 vq (qag H x1) H fun a3 H =>
 vq (lenSl a3) H fun a4 H =>
 qun call (fun H => .ok (.tup []) H) (fun H => .ok (.tup []) H) x0 x1 x2 x3 a2 a4 (.int .i64 (.ofNat 0)) H
def rdyB (call : Ev.Call) (x0 x1 x2 x3 : AV) (H : Hp) : R1 := q1u call x0 x1 x2 x3 H
def qrj (call : Ev.Call) (x0 x1 : AV) (H : Hp) : R1 :=
 vq (nilC x0) H fun a0 H =>
 vq (qaf 1025 a0) H fun a1 H =>
 vq (qag H a1) H fun a2 H =>
 vq (intV (qab .add).f a2 (.int .i64 (.ofNat 1))) H fun a3 H =>
 vq (nilC x0) H fun a4 H =>
 vq (qaf 1025 a4) H fun a5 H =>
 ve (qa3 H a5 a3) fun _ H =>
 dz 0 H fun b7 H =>
 dq false false 0 0 (b7 + 0) H [] [] (fun _ => .val x0) (some true) fun a8 H p w =>
 dq false false 1 0 (b7 + 1) H p w (fun _ => .val x1) (some true) fun a9 H p w =>
 dq false false 2 0 (b7 + 2) H p w (fun _ => .val x0) (some true) fun a10 H p w =>
 dq false false 3 0 (b7 + 3) H p w (fun _ => .val x1) (some true) fun a11 H p w =>
 dq false false 4 0 (b7 + 4) H p w (fun _ => .val x0) (some true) fun a12 H p w =>
 dq false false 5 0 (b7 + 5) H p w (fun _ => .val x1) (some true) fun a13 H p w =>
 dq false false 6 0 (b7 + 6) H p w (fun _ => .val x0) (some true) fun a14 H p w =>
 dq false false 7 64 (b7 + 7) H p w (fun _ => nilC a14) (some true) fun a15 H p w =>
 dq false false 8 192 (b7 + 8) H p w (fun _ => qaf 1025 a15) (some true) fun a16 H p w =>
 dq true false 9 448 (b7 + 9) H p w (fun H => qag H a16) (some true) fun a17 H p w =>
 dq false false 10 0 (b7 + 10) H p w (fun _ => .val x0) (some true) fun a18 H p w =>
 dq false false 11 1024 (b7 + 11) H p w (fun _ => nilC a18) (some true) fun a19 H p w =>
 dq false false 12 3072 (b7 + 12) H p w (fun _ => qaf 1025 a19) (some true) fun a20 H p w =>
 dq true false 13 7168 (b7 + 13) H p w (fun H => qag H a20) (some true) fun a21 H p w =>
 dq false false 14 1 (b7 + 14) H p w (fun _ => nilC a8) (some true) fun a22 H p w =>
 dq false false 15 16385 (b7 + 15) H p w (fun _ => qaf 256 a22) (some true) fun a23 H p w =>
 dq false false 16 65475 (b7 + 16) H p w (fun _ => idxA 256 1 a23 a9) (some true) fun a24 H p w =>
 dq false false 18 4 (b7 + 18) H p w (fun _ => nilC a10) (some true) fun a25 H p w =>
 dq false false 19 262148 (b7 + 19) H p w (fun _ => qaf 512 a25) (some true) fun a26 H p w =>
 dq false false 22 16 (b7 + 22) H p w (fun _ => nilC a12) (some true) fun a27 H p w =>
 dq false false 23 4194320 (b7 + 23) H p w (fun _ => qaf 768 a27) (some true) fun a28 H p w =>
 de 131011 H p w (qa3 (qa2 131011 p H) a24 a17) (some true) fun _ H p w =>
 dq false false 20 1048527 (b7 + 20) H p w (fun _ => idxA 256 1 a26 a11) (some true) fun a30 H p w =>
 de 2097103 H p w (qa3 (qa2 2097103 p H) a30 a21) (some true) fun _ H p w =>
 dq false false 24 16777215 (b7 + 24) H p w (fun _ => idxA 256 1 a28 a13) (some true) fun a32 H p w =>
 de 33554431 H p w (qa3 (qa2 33554431 p H) a32 (.bool true)) (some true) fun _ H p w =>
 dz2 p H fun H =>
 vq (nilC x0) H fun a34 H =>
 vq (qaf 1024 a34) H fun a35 H =>
 vq (qag H a35) H fun a36 H =>
 vq (qed 1 H.nx (qar (reps [.int .i64 (.ofNat 0)] 1) [(0, 1, x1)])) H fun a37 H =>
 ve (qaz 1 8 H a36 (qby 1 H a37)) fun a38 H =>
 vq (nilC x0) H fun a39 H =>
 vq (qaf 1024 a39) H fun a40 H =>
 ve (qa3 H a40 a38) fun _ H =>
 .ok (.tup []) H
def cEnter (call : Ev.Call) (x0 x1 : AV) (H : Hp) : R1 := qrj call x0 x1 H
def qcq (call : Ev.Call) (x0 x4 x5 : AV) (H : Hp) : R1 :=
 vq (nilC x0) H fun a10 H =>
 vq (qaf 1024 a10) H fun a11 H =>
 vq (qag H a11) H fun a12 H =>
 vq (qa7 1 a12 none (some x4) none) H fun a13 H =>
 vq (nilC x0) H fun a14 H =>
 vq (qaf 1024 a14) H fun a15 H =>
 ve (qa3 H a15 a13) fun _ H =>
 vq (nilC x0) H fun a17 H =>
 vq (qaf 1026 a17) H fun a18 H =>
 vq (qag H a18) H fun a19 H =>
 vq (qed 1 H.nx (qar (reps [.nilsl] 1) [(0, 1, x5)])) H fun a20 H =>
 ve (qaz 1 24 H a19 (qby 1 H a20)) fun a21 H =>
 vq (nilC x0) H fun a22 H =>
 vq (qaf 1026 a22) H fun a23 H =>
 ve (qa3 H a23 a21) fun _ H =>
 .ok (.tup []) H
def qjn (call : Ev.Call) (g27 : AV → Hp → R1) (x37 : AV) (H : Hp) : R1 :=
 vq (intV (qab .add).f x37 (.int .i64 (.ofNat 1))) H fun a29 H =>
 g27 a29 H
def qjm (call : Ev.Call) (g27 : AV → Hp → R1) (x0 x35 x37 : AV) (H : Hp) : R1 :=
 vq (idxS 1 x35 x37) H fun a31 H =>
 vq (qag H a31) H fun a32 H =>
 vq (nilC x0) H fun a33 H =>
 vq (qaf 768 a33) H fun a34 H =>
 vq (idxA 256 1 a34 a32) H fun a35 H =>
 ve (qa3 H a35 (.bool false)) fun _ H =>
 qjn call g27 x37 H
def qjo (call : Ev.Call) (q27e0 : Hp → R1) (x0 x35 x36 : AV) (g27 : AV → Hp → R1) (x37 : AV) (H : Hp) : R1 :=
 vq (intV (qab .lss).f x37 x36) H fun a28 H =>
 cd a28 (
 qjm call g27 x0 x35 x37 H) (
 q27e0 H)
def qdj (call : Ev.Call) (q27e0 : Hp → R1) (x0 x35 x36 : AV) (n : Nat) : AV → Hp → R1 :=
 Nat.rec (motive := fun _ => AV → Hp → R1) (fun _ _ => .bad) (fun _ ih => qjo call q27e0 x0 x35 x36 ih) n
def qjp (call : Ev.Call) (q27e0 : Hp → R1) (x0 x35 x36 : AV) : AV → Hp → R1 := qdj call q27e0 x0 x35 x36 qbt
def qjl (call : Ev.Call) (x0 x1 : AV) (H : Hp) : R1 :=
 vq (nilC x0) H fun a0 H =>
 vq (qaf 1024 a0) H fun a1 H =>
 vq (qag H a1) H fun a2 H =>
 ve (call (.f qqe) [a2, x1] H) fun a3 H =>
 vq (nilC x0) H fun a4 H =>
 vq (qaf 1024 a4) H fun a5 H =>
 vq (qag H a5) H fun a6 H =>
 vq (qa7 1 a6 (some a3) none none) H fun a7 H =>
 ve (call (.f quy) [a7] H) fun a8 H =>
 ve (call (.f qqb) [a8] H) fun a9 H =>
 vq (lenSl a9) H fun a26 H =>
 qjp call (fun H => qcq call x0 a3 a9 H) x0 a9 a26 (.int .i64 (.ofNat 0)) H
def qko (call : Ev.Call) (x0 x1 : AV) (H : Hp) : R1 :=
 vl (nilC x0) fun a39 =>
 vl (qaf 512 a39) fun a40 =>
 vl (idxA 256 1 a40 x1) fun a41 =>
 vl (qag H a41) fun a42 =>
 vl (nilC x0) fun a43 =>
 vl (qaf 256 a43) fun a44 =>
 vl (idxA 256 1 a44 x1) fun a45 =>
 vl (qag H a45) fun a46 =>
 vl (intV (qab .lss).f a42 a46) fun a47 =>
 cd a47 (
 .ok (.tup []) H) (
 qjl call x0 x1 H)
def cLeave (call : Ev.Call) (x0 x1 : AV) (H : Hp) : R1 := qko call x0 x1 H
def qiu (call : Ev.Call) (H : Hp) : R1 :=
 .ok (.int .i64 (.negSucc 0)) H
def qug (call : Ev.Call) (g2 : AV → Hp → R1) (x8 : AV) (H : Hp) : R1 :=
 vq (intV (qab .add).f x8 (.int .i64 (.ofNat 1))) H fun a4 H =>
 g2 a4 H
def quf (call : Ev.Call) (q2r : AV → Hp → R1) (g2 : AV → Hp → R1) (x0 x1 x8 : AV) (H : Hp) : R1 :=
 vq (idxS 1 x0 x8) H fun a6 H =>
 vq (qag H a6) H fun a7 H =>
 vq (intV (qab .eql).f x1 a7) H fun a8 H =>
 cd a8 (
 q2r x8 H) (
 qug call g2 x8 H)
def quh (call : Ev.Call) (q2r : AV → Hp → R1) (q2e0 : Hp → R1) (x0 x1 x7 : AV) (g2 : AV → Hp → R1) (x8 : AV) (H : Hp) : R1 :=
 vq (intV (qab .lss).f x8 x7) H fun a3 H =>
 cd a3 (
 quf call q2r g2 x0 x1 x8 H) (
 q2e0 H)
def qit (call : Ev.Call) (q2r : AV → Hp → R1) (q2e0 : Hp → R1) (x0 x1 x7 : AV) (n : Nat) : AV → Hp → R1 :=
 Nat.rec (motive := fun _ => AV → Hp → R1) (fun _ _ => .bad) (fun _ ih => quh call q2r q2e0 x0 x1 x7 ih) n
def qui (call : Ev.Call) (q2r : AV → Hp → R1) (q2e0 : Hp → R1) (x0 x1 x7 : AV) : AV → Hp → R1 := qit call q2r q2e0 x0 x1 x7 qbt
def q1f (call : Ev.Call) (x0 x1 : AV) (H : Hp) : R1 :=
 vq (lenSl x0) H fun a1 H =>
 qui call (fun x4 H => .ok x4 H) (fun H => qiu call H) x0 x1 a1 (.int .i64 (.ofNat 0)) H
def sIdx (call : Ev.Call) (x0 x1 : AV) (H : Hp) : R1 := q1f call x0 x1 H
def q06 (call : Ev.Call) (x0 : AV) (H : Hp) : R1 :=
 vq (box1 H.nx x0) H fun a0 H =>
 .ok (.fn qcc [] [a0]) H
def sVal (call : Ev.Call) (x0 : AV) (H : Hp) : R1 := q06 call x0 H
def q08 (call : Ev.Call) (x0 : AV) (H : Hp) : R1 :=
 ve (call (.f qqf) [x0] H) fun a0 H =>
 ve (call (.f qdm) [a0] H) fun a1 H =>
 .ok a0 H
def sSrt (call : Ev.Call) (x0 : AV) (H : Hp) : R1 := q08 call x0 H
def qpe (call : Ev.Call) (g2 : AV → Hp → R1) (x7 : AV) (H : Hp) : R1 :=
 vq (intV (qab .add).f x7 (.int .i64 (.ofNat 1))) H fun a4 H =>
 g2 a4 H
def qla (call : Ev.Call) (q2r : Hp → R1) (g2 : AV → Hp → R1) (x0 x5 x7 : AV) (H : Hp) : R1 :=
 vq (idxS 1 x5 x7) H fun a6 H =>
 vq (qag H a6) H fun a7 H =>
 ve (qq4 call x0 [a7] H) fun a8 H =>
 vq ((unS .not).f a8) H fun a9 H =>
 cd a9 (
 q2r H) (
 qpe call g2 x7 H)
def qpf (call : Ev.Call) (q2r : Hp → R1) (q2e0 : Hp → R1) (x0 x5 x6 : AV) (g2 : AV → Hp → R1) (x7 : AV) (H : Hp) : R1 :=
 vq (intV (qab .lss).f x7 x6) H fun a3 H =>
 cd a3 (
 qla call q2r g2 x0 x5 x7 H) (
 q2e0 H)
def qge (call : Ev.Call) (q2r : Hp → R1) (q2e0 : Hp → R1) (x0 x5 x6 : AV) (n : Nat) : AV → Hp → R1 :=
 Nat.rec (motive := fun _ => AV → Hp → R1) (fun _ _ => .bad) (fun _ ih => qpf call q2r q2e0 x0 x5 x6 ih) n
def qpg (call : Ev.Call) (q2r : Hp → R1) (q2e0 : Hp → R1) (x0 x5 x6 : AV) : AV → Hp → R1 := qge call q2r q2e0 x0 x5 x6 qbt
def qt7 (call : Ev.Call) (x0 x1 : AV) (H : Hp) : R1 :=
 vq (qag H x1) H fun a0 H =>
 vq (lenSl a0) H fun a1 H =>
 qpg call (fun H => .ok (.tup []) H) (fun H => .ok (.tup []) H) x0 a0 a1 (.int .i64 (.ofNat 0)) H
def sValA (call : Ev.Call) (x0 x1 : AV) (H : Hp) : R1 := qt7 call x0 x1 H
def q1h (call : Ev.Call) (x0 : AV) (H : Hp) : R1 :=
 ve (call (.f qqg) [(.nilsl), x0] H) fun a0 H =>
 .ok a0 H
def sCol (call : Ev.Call) (x0 : AV) (H : Hp) : R1 := q1h call x0 H
end Go.Di
end
noncomputable section
namespace Go.Di
open Go.Ev
structure Lnk (c d : Ev.Call) : Prop where
 lwR : ∀ (x0 : AV) (H : Hp), c (.f q8q) [x0] H = Di.lwR d x0 H
 gChk : ∀ (x0 : AV) (H : Hp), c (.f qhk) [x0] H = Di.gChk d x0 H
 stNum : ∀ (x0 : AV) (H : Hp), c (.f qib) [x0] H = Di.stNum d x0 H
 stWit : ∀ (x0 : AV) (H : Hp), c (.f qh9) [x0] H = Di.stWit d x0 H
 lwT : ∀ (x0 x1 x2 x3 : AV) (H : Hp), c (.f qj1) [x0, x1, x2, x3] H = Di.lwT d x0 x1 x2 x3 H
 stAt : ∀ (x0 x1 x2 : AV) (H : Hp), c (.f qqa) [x0, x1, x2] H = Di.stAt d x0 x1 x2 H
 stIn : ∀ (x0 x1 : AV) (H : Hp), c (.f qp9) [x0, x1] H = Di.stIn d x0 x1 H
 stMny : ∀ (x0 : AV) (H : Hp), c (.f qic) [x0] H = Di.stMny d x0 H
 gCmp : ∀ (x0 x1 : AV) (H : Hp), c (.f qqi) [x0, x1] H = Di.gCmp d x0 x1 H
 cMix : ∀ (x0 : AV) (H : Hp), c (.f qql) [x0] H = Di.cMix d x0 H
 stStp : ∀ (x0 : AV) (H : Hp), c (.f qkg) [x0] H = Di.stStp d x0 H
 stGre : ∀ (x0 : AV) (H : Hp), c (.f qgk) [x0] H = Di.stGre d x0 H
 stWiA : ∀ (x0 x1 : AV) (H : Hp), c (.f qia) [x0, x1] H = Di.stWiA d x0 x1 H
 sIxF : ∀ (x0 x1 : AV) (H : Hp), c (.f qqd) [x0, x1] H = Di.sIxF d x0 x1 H
 gPth : ∀ (x0 x1 x2 : AV) (H : Hp), c (.f ql7) [x0, x1, x2] H = Di.gPth d x0 x1 x2 H
 sClp : ∀ (x0 : AV) (H : Hp), c (.f qfa) [x0] H = Di.sClp d x0 H
 cCmp : ∀ (x0 x1 : AV) (H : Hp), c (.f qi3) [x0, x1] H = Di.cCmp d x0 x1 H
 gSgn : ∀ (x0 : AV) (H : Hp), c (.f ql6) [x0] H = Di.gSgn d x0 H
 cOr : ∀ (x0 : AV) (H : Hp), c (.f qw9) [x0] H = Di.cOr d x0 H
 cParts : ∀ (x0 : AV) (H : Hp), c (.f qie) [x0] H = Di.cParts d x0 H
 cRdy : ∀ (x0 x1 : AV) (H : Hp), c (.f qqj) [x0, x1] H = Di.cRdy d x0 x1 H
 sClpS : ∀ (x0 : AV) (H : Hp), c (.f qid) [x0] H = Di.sClpS d x0 H
 gOfN : ∀ (x0 x1 : AV) (H : Hp), c (.f ql8) [x0, x1] H = Di.gOfN d x0 x1 H
 cOrE : ∀ (x0 : AV) (H : Hp), c (.f qqk) [x0] H = Di.cOrE d x0 H
 gWlk : ∀ (x0 x1 : AV) (H : Hp), c (.f qqh) [x0, x1] H = Di.gWlk d x0 x1 H
 sRvs : ∀ (x0 : AV) (H : Hp), c (.f qqc) [x0] H = Di.sRvs d x0 H
 cNaN : ∀ (x0 : AV) (H : Hp), c (.f qma) [x0] H = Di.cNaN d x0 H
 cWalk : ∀ (x0 x1 : AV) (H : Hp), c (.f qkh) [x0, x1] H = Di.cWalk d x0 x1 H
 rdyB : ∀ (x0 x1 x2 x3 : AV) (H : Hp), c (.f qf0) [x0, x1, x2, x3] H = Di.rdyB d x0 x1 x2 x3 H
 cEnter : ∀ (x0 x1 : AV) (H : Hp), c (.f qf1) [x0, x1] H = Di.cEnter d x0 x1 H
 cLeave : ∀ (x0 x1 : AV) (H : Hp), c (.f qeq) [x0, x1] H = Di.cLeave d x0 x1 H
 sIdx : ∀ (x0 x1 : AV) (H : Hp), c (.f qqe) [x0, x1] H = Di.sIdx d x0 x1 H
 sVal : ∀ (x0 : AV) (H : Hp), c (.f quy) [x0] H = Di.sVal d x0 H
 sSrt : ∀ (x0 : AV) (H : Hp), c (.f qqb) [x0] H = Di.sSrt d x0 H
 sValA : ∀ (x0 x1 : AV) (H : Hp), c (.f qcc) [x0, x1] H = Di.sValA d x0 x1 H
 sCol : ∀ (x0 : AV) (H : Hp), c (.f qqf) [x0] H = Di.sCol d x0 H
abbrev qf8 (C : Nat → Ev.Call) : Prop := ∀ k, Lnk (C (k + 1)) (C k)
theorem qy3 {call : Ev.Call} {x8 x9 x10 x11 x12 : AV} {H : Hp} {Q : AV → Hp → Prop} (h : Ok (qd1 call x8 x9 x10 x11 x12 H) Q) : Ok (qp5 call x8 x9 x10 x11 x12 H) Q := by rw [qn5]; exact h
theorem qy2 {call : Ev.Call} {x8 x9 x10 : AV} {H : Hp} {Q : AV → Hp → Prop} (h : Ok (qd0 call x8 x9 x10 H) Q) : Ok (qp4 call x8 x9 x10 H) Q := by rw [qn4]; exact h
theorem qy1 {call : Ev.Call} {H : Hp} {Q : AV → Hp → Prop} (h : Ok (qdz call H) Q) : Ok (qly call H) Q := by rw [qn3]; exact h
theorem qn1 {call : Ev.Call} {x66 : AV} {H : Hp} {Q : AV → Hp → Prop} (h : Ok (qdc call x66 H) Q) : Ok (qlx call x66 H) Q := by rw [qn2]; exact h
theorem qnz {call : Ev.Call} {x3 x4 x5 x6 x7 : AV} {H : Hp} {Q : AV → Hp → Prop} (h : Ok (qdb call x3 x4 x5 x6 x7 H) Q) : Ok (qp3 call x3 x4 x5 x6 x7 H) Q := by rw [qn0]; exact h
theorem qnx {call : Ev.Call} {x1 x3 x4 x5 : AV} {H : Hp} {Q : AV → Hp → Prop} (h : Ok (qda call x1 x3 x4 x5 H) Q) : Ok (qp2 call x1 x3 x4 x5 H) Q := by rw [qny]; exact h
theorem qy0 {call : Ev.Call} {x1 : AV} {H : Hp} {Q : AV → Hp → Prop} (h : Ok (qdy call x1 H) Q) : Ok (qp1 call x1 H) Q := by rw [qnw]; exact h
theorem qi2 {call : Ev.Call} {x1 x26 : AV} {H : Hp} {Q : AV → Hp → Prop} (h : Ok (qcs call x1 x26 H) Q) : Ok (qlw call x1 x26 H) Q := by rw [qnv]; exact h
end Go.Di
end
noncomputable section
namespace Go.Di
open Go.Ev
end Go.Di
end
noncomputable section
namespace Go.Di
open Go.Ev
structure LnkS (c d : Ev.Call) : Prop where
 srtF : ∀ (b o n m : Nat) (x : Bool) (H : Hp) (r : R1), qjy H b o n = some r → c (.f qbl) [.sl b o n m x, .fn qhj [] []] H = r
 srtN : ∀ (H : Hp), c (.f qbl) [.nilsl, .fn qhj [] []] H = .ok (.tup []) H
 srt0 : ∀ (b o m : Nat) (x : Bool) (H : Hp), c (.f qbl) [.sl b o 0 m x, .fn qhj [] []] H = .ok (.tup []) H
abbrev qb6 (C : Nat → Ev.Call) : Prop := ∀ k, LnkS (C (k + 1)) (C k)
end Go.Di
end
noncomputable section
namespace Go.Di
open Go.Ev
def qbs (call : Ev.Call) (x0 : AV) (H : Hp) : R1 :=
 .ok x0 H
def qft (call : Ev.Call) (g1 : AV → Hp → R1) (x3 : AV) (H : Hp) : R1 :=
 vq (intV (qab .add).f x3 (.int .i64 (.ofNat 1))) H fun a2 H =>
 g1 a2 H
def qbk (call : Ev.Call) (q1r : AV → Hp → R1) (x0 x3 : AV) (H : Hp) : R1 :=
 vq (qa7 1 x0 (some x3) none none) H fun a11 H =>
 ve (qmr [.int .i64 (.ofNat 0)] H a11) fun _ H =>
 vq (qa7 1 x0 none (some x3) none) H fun a13 H =>
 q1r a13 H
def qcb (call : Ev.Call) (g15 : AV → AV → Hp → R1) (x3 x5 : AV) (H : Hp) : R1 :=
 vq (intV (qab .add).f x5 (.int .i64 (.ofNat 1))) H fun a16 H =>
 g15 x3 a16 H
def qe7 (call : Ev.Call) (g15 : AV → AV → Hp → R1) (x0 x3 x4 x5 : AV) (H : Hp) : R1 :=
 vl (idxS 1 x4 x5) fun a18 =>
 vl (qag H a18) fun a19 =>
 vl (intV (qab .sub).f x5 (.int .i64 (.ofNat 1))) fun a20 =>
 vl (idxS 1 x4 a20) fun a21 =>
 vl (qag H a21) fun a22 =>
 vl (intV (qab .neq).f a19 a22) fun a23 =>
 cd a23 (
 vq (idxS 1 x4 x5) H fun a24 H =>
 vq (qag H a24) H fun a25 H =>
 vq (idxS 1 x0 x3) H fun a26 H =>
 ve (qa3 H a26 a25) fun _ H =>
 vq (intV (qab .add).f x3 (.int .i64 (.ofNat 1))) H fun a28 H =>
 qcb call g15 a28 x5 H) (
 qcb call g15 x3 x5 H)
def qe8 (call : Ev.Call) (q15e2 : AV → Hp → R1) (x0 x4 : AV) (g15 : AV → AV → Hp → R1) (x3 x5 : AV) (H : Hp) : R1 :=
 vq (lenSl x4) H fun a30 H =>
 vq (intV (qab .lss).f x5 a30) H fun a31 H =>
 cd a31 (
 qe7 call g15 x0 x3 x4 x5 H) (
 q15e2 x3 H)
def qbw (call : Ev.Call) (q15e2 : AV → Hp → R1) (x0 x4 : AV) (n : Nat) : AV → AV → Hp → R1 :=
 Nat.rec (motive := fun _ => AV → AV → Hp → R1) (fun _ _ _ => .bad) (fun _ ih => qe8 call q15e2 x0 x4 ih) n
def qe9 (call : Ev.Call) (q15e2 : AV → Hp → R1) (x0 x4 : AV) : AV → AV → Hp → R1 := qbw call q15e2 x0 x4 qbt
def qe6 (call : Ev.Call) (q1r : AV → Hp → R1) (g1 : AV → Hp → R1) (x0 x3 : AV) (H : Hp) : R1 :=
 vl (idxS 1 x0 x3) fun a4 =>
 vl (qag H a4) fun a5 =>
 vl (intV (qab .sub).f x3 (.int .i64 (.ofNat 1))) fun a6 =>
 vl (idxS 1 x0 a6) fun a7 =>
 vl (qag H a7) fun a8 =>
 vl (intV (qab .eql).f a5 a8) fun a9 =>
 cd a9 (
 vq (qa7 1 x0 (some x3) none none) H fun a10 H =>
 qe9 call (fun x3 H => qbk call q1r x0 x3 H) x0 a10 x3 (.int .i64 (.ofNat 1)) H) (
 qft call g1 x3 H)
def qfu (call : Ev.Call) (q1r : AV → Hp → R1) (q1e0 : Hp → R1) (x0 : AV) (g1 : AV → Hp → R1) (x3 : AV) (H : Hp) : R1 :=
 vq (lenSl x0) H fun a33 H =>
 vq (intV (qab .lss).f x3 a33) H fun a34 H =>
 cd a34 (
 qe6 call q1r g1 x0 x3 H) (
 q1e0 H)
def qb5 (call : Ev.Call) (q1r : AV → Hp → R1) (q1e0 : Hp → R1) (x0 : AV) (n : Nat) : AV → Hp → R1 :=
 Nat.rec (motive := fun _ => AV → Hp → R1) (fun _ _ => .bad) (fun _ ih => qfu call q1r q1e0 x0 ih) n
def qfv (call : Ev.Call) (q1r : AV → Hp → R1) (q1e0 : Hp → R1) (x0 : AV) : AV → Hp → R1 := qb5 call q1r q1e0 x0 qbt
def qe5 (call : Ev.Call) (x0 : AV) (H : Hp) : R1 :=
 qfv call (fun x2 H => .ok x2 H) (fun H => qbs call x0 H) x0 (.int .i64 (.ofNat 1)) H
def qhh (call : Ev.Call) (x0 : AV) (H : Hp) : R1 :=
 vq (lenSl x0) H fun a36 H =>
 vq (intV (qab .lss).f a36 (.int .i64 (.ofNat 2))) H fun a37 H =>
 cd a37 (
 .ok x0 H) (
 qe5 call x0 H)
def o_Compact (call : Ev.Call) (x0 : AV) (H : Hp) : R1 := qhh call x0 H
end Go.Di
end
noncomputable section
namespace Go.Di
open Go.Ev
structure LnkO (c d : Ev.Call) : Prop where
 o_Compact : ∀ (x0 : AV) (H : Hp), c (.f qd2) [x0] H = Di.o_Compact d x0 H
 srt : ∀ (b o n m : Nat) (x : Bool) (H : Hp) (r : R1), qr2 H b o n = some r → c (.f qdm) [.sl b o n m x] H = r
 srtN : ∀ (H : Hp), c (.f qdm) [.nilsl] H = .ok (.tup []) H
abbrev qcg (C : Nat → Ev.Call) : Prop := ∀ k, LnkO (C (k + 1)) (C k)
end Go.Di
end
