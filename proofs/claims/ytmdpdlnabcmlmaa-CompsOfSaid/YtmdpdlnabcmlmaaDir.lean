/-
  For countersignlaw17.CompsOf: the functions of the law in direct style (printed by a program). No conditions beyond those that each theorem states.
-/
import Derived.Test.YtmdpdlnabcmlmaaEv4
import Derived.Test.YtmdpdlnabcmlmaaGraB
set_option linter.unusedSimpArgs false
set_option linter.unusedVariables false
section
namespace Go.Di
open Go.Ev
set_option linter.unusedVariables false
def id_lwC : FuncId := 3
def id_hMat : FuncId := 8
def id_lGr : FuncId := 9
def id_cOf : FuncId := 10
def id_rOf : FuncId := 11
def id_lwS : FuncId := 12
def id_cOrd : FuncId := 13
def id_lwL : FuncId := 14
def id_law17_lives : FuncId := 15
def id_rMat : FuncId := 24
def id_rEdg : FuncId := 25
def id_gChk : FuncId := 23
def id_cParts : FuncId := 27
def id_cRdy : FuncId := 26
def id_sClp : FuncId := 28
def id_sClpS : FuncId := 29
def id_rDist : FuncId := 22
def id_sCat : FuncId := 30
def id_rNew : FuncId := 38
def id_rPut : FuncId := 39
def id_gCmp : FuncId := 37
def id_cWalk : FuncId := 43
def id_rdyA : FuncId := 41
def id_rdyB : FuncId := 42
def id_sGrw : FuncId := 44
def id_cCmp : FuncId := 49
def id_gSgn : FuncId := 50
def id_cOr : FuncId := 48
def id_cEnter : FuncId := 52
def id_cLeave : FuncId := 53
def id_cNaN : FuncId := 65
def id_sIdx : FuncId := 74
def id_sVal : FuncId := 76
def id_sSrt : FuncId := 75
def id_sValA : FuncId := 86
def id_sCol : FuncId := 85
def id_sApp : FuncId := 89
def id_s_SortFunc : FuncId := 40
def id_s_Len : FuncId := 47
def id_s_pdq : FuncId := 51
def id_s_Len32 : FuncId := 63
def id_s_Len64 : FuncId := 64
def id_s_ins : FuncId := 66
def id_s_heap : FuncId := 67
def id_s_brk : FuncId := 68
def id_s_piv : FuncId := 69
def id_s_rev : FuncId := 70
def id_s_pins : FuncId := 71
def id_s_peq : FuncId := 72
def id_s_part : FuncId := 73
def id_s_sift : FuncId := 82
def id_s_npow : FuncId := 78
def id_s_xorNext : FuncId := 79
def id_s_medadj : FuncId := 83
def id_s_med : FuncId := 84
def id_s_ord2 : FuncId := 88
def id_o_Sort : FuncId := 35
def id_o_pdq : FuncId := 46
def id_o_ins : FuncId := 54
def id_o_heap : FuncId := 55
def id_o_brk : FuncId := 56
def id_o_piv : FuncId := 57
def id_o_rev : FuncId := 58
def id_o_pins : FuncId := 59
def id_o_less : FuncId := 60
def id_o_peq : FuncId := 61
def id_o_part : FuncId := 62
def id_o_sift : FuncId := 77
def id_o_medadj : FuncId := 80
def id_o_med : FuncId := 81
def id_o_ord2 : FuncId := 87
noncomputable def lwC_j32 (call : Ev.Call) (x3 x4 x10 : AV) (H : Hp) : R1 :=
  vq (loadA 2 H x4) H fun a19 H =>
  ve (call (.f id_cOrd) [a19] H) fun a20 H =>
  vq (extr 0 a20) H fun a21 H =>
  vq (extr 1 a20) H fun a22 H =>
  ve (call (.f id_lwL) [a21, a22, x10, (.int .i64 (.ofNat 0))] H) fun a23 H =>
  vg (wantV true a23) (.val x10) H fun a24 H =>
  vg (wantV true a23) (lenSl a24) H fun a25 H =>
  vg (wantV true a23) (fieldP 0 x3) H fun a26 H =>
  vg (wantV true a23) (load1 H a26) H fun a27 H =>
  vg (wantV true a23) (intV (intBin .eql).f a25 a27) H fun a28 H =>
  vq (pickV a23 a28 (.bool false)) H fun a29 H =>
  veg (wantV true a29) (call (.f id_law17_lives) [] H) H fun a30 H =>
  vq (pickV a29 a30 (.bool false)) H fun a31 H =>
  .ok a31 H
noncomputable def lwC_j35 (call : Ev.Call) (g33 : AV → AV → Hp → R1) (x10 x11 : AV) (H : Hp) : R1 :=
  vq (intV (intBin .add).f x11 (.int .i64 (.ofNat 1))) H fun a34 H =>
  g33 x10 a34 H
noncomputable def lwC_j39 (call : Ev.Call) (g33 : AV → AV → Hp → R1) (x7 x10 x11 : AV) (H : Hp) : R1 :=
  vq (idxS 1 x7 x11) H fun a36 H =>
  vq (load1 H a36) H fun a37 H =>
  ve (appendV 1 8 H x10 (srcOfC 1 H a37)) fun a38 H =>
  lwC_j35 call g33 a38 x11 H
noncomputable def lwC_b33 (call : Ev.Call) (q33e2 : AV → Hp → R1) (x7 : AV) (g33 : AV → AV → Hp → R1) (x10 x11 : AV) (H : Hp) : R1 :=
  vq (lenSl x7) H fun a40 H =>
  vq (intV (intBin .lss).f x11 a40) H fun a41 H =>
  cd a41 (
  lwC_j39 call g33 x7 x10 x11 H) (
  q33e2 x10 H)
noncomputable def lwC_l33 (call : Ev.Call) (q33e2 : AV → Hp → R1) (x7 : AV) (n : Nat) : AV → AV → Hp → R1 :=
  Nat.rec (motive := fun _ => AV → AV → Hp → R1) (fun _ _ _ => .bad) (fun _ ih => lwC_b33 call q33e2 x7 ih) n
noncomputable def lwC_L33 (call : Ev.Call) (q33e2 : AV → Hp → R1) (x7 : AV) : AV → AV → Hp → R1 := lwC_l33 call q33e2 x7 fuelX
noncomputable def lwC_j42 (call : Ev.Call) (x3 x4 x7 : AV) (H : Hp) : R1 :=
  lwC_L33 call (fun x10 H => lwC_j32 call x3 x4 x10 H) x7 (.nilsl) (.int .i64 (.ofNat 0)) H
noncomputable def lwC_j45 (call : Ev.Call) (g43 : AV → Hp → R1) (x9 : AV) (H : Hp) : R1 :=
  vq (intV (intBin .add).f x9 (.int .i64 (.ofNat 1))) H fun a44 H =>
  g43 a44 H
noncomputable def lwC_j61 (call : Ev.Call) (q43r : AV → Hp → R1) (g43 : AV → Hp → R1) (x4 x8 x9 : AV) (H : Hp) : R1 :=
  vl (fieldP 1 x4) fun a46 =>
  vl (load1 H a46) fun a47 =>
  vl (idxS 3 a47 x9) fun a48 =>
  vl (fieldP 1 a48) fun a49 =>
  vl (load1 H a49) fun a50 =>
  vl (idxS 1 x8 a50) fun a51 =>
  vl (load1 H a51) fun a52 =>
  vl (fieldP 1 x4) fun a53 =>
  vl (load1 H a53) fun a54 =>
  vl (idxS 3 a54 x9) fun a55 =>
  vl (fieldP 0 a55) fun a56 =>
  vl (load1 H a56) fun a57 =>
  vl (idxS 1 x8 a57) fun a58 =>
  vl (load1 H a58) fun a59 =>
  vl (intV (intBin .gtr).f a52 a59) fun a60 =>
  cd a60 (
  q43r (.bool false) H) (
  lwC_j45 call g43 x9 H)
noncomputable def lwC_b43 (call : Ev.Call) (q43r : AV → Hp → R1) (q43e0 : Hp → R1) (x4 x8 : AV) (g43 : AV → Hp → R1) (x9 : AV) (H : Hp) : R1 :=
  vq (fieldP 1 x4) H fun a62 H =>
  vq (load1 H a62) H fun a63 H =>
  vq (lenSl a63) H fun a64 H =>
  vq (intV (intBin .lss).f x9 a64) H fun a65 H =>
  cd a65 (
  lwC_j61 call q43r g43 x4 x8 x9 H) (
  q43e0 H)
noncomputable def lwC_l43 (call : Ev.Call) (q43r : AV → Hp → R1) (q43e0 : Hp → R1) (x4 x8 : AV) (n : Nat) : AV → Hp → R1 :=
  Nat.rec (motive := fun _ => AV → Hp → R1) (fun _ _ => .bad) (fun _ ih => lwC_b43 call q43r q43e0 x4 x8 ih) n
noncomputable def lwC_L43 (call : Ev.Call) (q43r : AV → Hp → R1) (q43e0 : Hp → R1) (x4 x8 : AV) : AV → Hp → R1 := lwC_l43 call q43r q43e0 x4 x8 fuelX
noncomputable def lwC_j66 (call : Ev.Call) (x3 x4 x7 x8 : AV) (H : Hp) : R1 :=
  lwC_L43 call (fun x2 H => .ok x2 H) (fun H => lwC_j42 call x3 x4 x7 H) x4 x8 (.int .i64 (.ofNat 0)) H
noncomputable def lwC_c (call : Ev.Call) (x0 : AV) (H : Hp) : R1 :=
  vq (boxA 2 H.nx x0) H fun a0 H =>
  vq (loadA 2 H a0) H fun a1 H =>
  ve (call (.f id_hMat) [a1] H) fun a2 H =>
  vq (.new (.ptr H.nx 0) (mkBlk 0 [.int .i64 (.ofNat 0), .nilsl])) H fun a3 H =>
  ve (storeA 2 H a3 a2) fun _ H =>
  vq (loadA 2 H a3) H fun a5 H =>
  ve (call (.f id_lGr) [a5] H) fun a6 H =>
  vq (.new (.ptr H.nx 0) (mkBlk 0 [.int .i64 (.ofNat 0), .nilsl])) H fun a7 H =>
  ve (storeA 2 H a7 a6) fun _ H =>
  vq (loadA 2 H a7) H fun a9 H =>
  ve (call (.f id_cOf) [a9] H) fun a10 H =>
  vq (extr 0 a10) H fun a11 H =>
  vq (extr 1 a10) H fun a12 H =>
  vq (.new (.ptr H.nx 0) (mkBlk 0 [.nilsl, .nilsl])) H fun a13 H =>
  ve (storeA 2 H a13 a11) fun _ H =>
  vq (loadA 2 H a3) H fun a15 H =>
  ve (call (.f id_rOf) [a15] H) fun a16 H =>
  vq (extr 0 a16) H fun a17 H =>
  vq (extr 1 a16) H fun a18 H =>
  vq (intV (intBin .neq).f a12 (.int .i64 (.ofNat 0))) H fun a67 H =>
  vg (wantV false a67) (loadA 2 H a13) H fun a68 H =>
  vg (wantV false a67) (.val a17) H fun a69 H =>
  vg (wantV false a67) (.val a18) H fun a70 H =>
  veg (wantV false a67) (call (.f id_lwS) [a68, a69, a70] H) H fun a71 H =>
  vg (wantV false a67) ((unS .not).f a71) H fun a72 H =>
  vq (pickV a67 (.bool true) a72) H fun a73 H =>
  cd a73 (
  .ok (.bool false) H) (
  lwC_j66 call a3 a7 a17 a18 H)
noncomputable def lwC (call : Ev.Call) (x0 : AV) (H : Hp) : R1 := lwC_c call x0 H
noncomputable def hMat_j8 (call : Ev.Call) (x2 x3 x4 : AV) (H : Hp) : R1 :=
  ve (call (.f id_rMat) [x3, x4] H) fun a6 H =>
  ve (storeA 2 H x2 a6) fun _ H =>
  finR (rV (loadA 2 H x2)) H
noncomputable def hMat_j11 (call : Ev.Call) (g9 : AV → AV → Hp → R1) (x4 x5 : AV) (H : Hp) : R1 :=
  vq (intV (intBin .add).f x5 (.int .i64 (.ofNat 1))) H fun a10 H =>
  g9 x4 a10 H
noncomputable def hMat_j44 (call : Ev.Call) (g9 : AV → AV → Hp → R1) (x1 x3 x4 x5 : AV) (H : Hp) : R1 :=
  dz 31 H fun b12 H =>
  dq false false 0 0 (b12 + 0) H [] [] (fun _ => .val x4) (some true) fun a13 H p w =>
  dq false false 1 0 (b12 + 1) H p w (fun _ => fieldP 1 x1) (some true) fun a14 H p w =>
  dq true false 2 2 (b12 + 2) H p w (fun H => load1 H a14) (some true) fun a15 H p w =>
  dq false false 3 0 (b12 + 3) H p w (fun _ => .val x5) (some true) fun a16 H p w =>
  dq false false 4 14 (b12 + 4) H p w (fun _ => idxS 3 a15 a16) (some true) fun a17 H p w =>
  dq false false 5 30 (b12 + 5) H p w (fun _ => idxA 3 1 a17 (.int .i64 (.ofNat 0))) (some true) fun a18 H p w =>
  dq true false 6 62 (b12 + 6) H p w (fun H => load1 H a18) (some true) fun a19 H p w =>
  dq false true 7 126 (b12 + 7) H p w (fun _ => convI .i64 a19) (some true) fun a20 H p w =>
  dq false false 8 0 (b12 + 8) H p w (fun _ => .val x3) (some true) fun a21 H p w =>
  dq false false 9 510 (b12 + 9) H p w (fun _ => intV (intBin .rem).f a20 a21) (some true) fun a22 H p w =>
  dq false false 10 0 (b12 + 10) H p w (fun _ => fieldP 1 x1) (some true) fun a23 H p w =>
  dq true false 11 1024 (b12 + 11) H p w (fun H => load1 H a23) (some true) fun a24 H p w =>
  dq false false 12 0 (b12 + 12) H p w (fun _ => .val x5) (some true) fun a25 H p w =>
  dq false false 13 7168 (b12 + 13) H p w (fun _ => idxS 3 a24 a25) (some true) fun a26 H p w =>
  dq false false 14 15360 (b12 + 14) H p w (fun _ => idxA 3 1 a26 (.int .i64 (.ofNat 1))) (some true) fun a27 H p w =>
  dq true false 15 31744 (b12 + 15) H p w (fun H => load1 H a27) (some true) fun a28 H p w =>
  dq false true 16 64512 (b12 + 16) H p w (fun _ => convI .i64 a28) (some true) fun a29 H p w =>
  dq false false 17 0 (b12 + 17) H p w (fun _ => .val x3) (some true) fun a30 H p w =>
  dq false false 18 261120 (b12 + 18) H p w (fun _ => intV (intBin .rem).f a29 a30) (some true) fun a31 H p w =>
  dq false false 19 0 (b12 + 19) H p w (fun _ => fieldP 1 x1) (some true) fun a32 H p w =>
  dq true false 20 524288 (b12 + 20) H p w (fun H => load1 H a32) (some true) fun a33 H p w =>
  dq false false 21 0 (b12 + 21) H p w (fun _ => .val x5) (some true) fun a34 H p w =>
  dq false false 22 3670016 (b12 + 22) H p w (fun _ => idxS 3 a33 a34) (some true) fun a35 H p w =>
  dq false false 23 7864320 (b12 + 23) H p w (fun _ => idxA 3 1 a35 (.int .i64 (.ofNat 2))) (some true) fun a36 H p w =>
  dq true false 24 16252928 (b12 + 24) H p w (fun H => load1 H a36) (some true) fun a37 H p w =>
  dq false false 25 33030144 (b12 + 25) H p w (fun _ => intV (intBin .rem).f a37 (.int .u8 (.ofNat 2))) (some true) fun a38 H p w =>
  dq false true 26 66584576 (b12 + 26) H p w (fun _ => convI .i64 a38) (some true) fun a39 H p w =>
  dq false false 27 134217726 (b12 + 27) H p w (fun _ => aggN (setParts [.int .i64 (.ofNat 0), .int .i64 (.ofNat 0), .int .i64 (.ofNat 0)] [(0, 1, a22), (1, 1, a31), (2, 1, a39)])) (some true) fun a40 H p w =>
  dq false true 28 268435454 (b12 + 28) H p w (fun _ => newSl 1 (b12 + 28) (setParts (reps [.int .i64 (.ofNat 0), .int .i64 (.ofNat 0), .int .i64 (.ofNat 0)] 1) [(0, 3, a40)])) (some true) fun a41 H p w =>
  de 536870911 H p w (appendV 3 24 (viewH 536870911 p H) a13 (srcOfC 3 (viewH 536870911 p H) a41)) (some true) fun a42 H p w =>
  dq false false 30 1073741823 (b12 + 30) H p w (fun _ => .val a42) (some true) fun a43 H p w =>
  dz2 p H fun H =>
  hMat_j11 call g9 a43 x5 H
noncomputable def hMat_b9 (call : Ev.Call) (q9e0 : AV → Hp → R1) (x1 x3 : AV) (g9 : AV → AV → Hp → R1) (x4 x5 : AV) (H : Hp) : R1 :=
  vq (intV (intBin .gtr).f x3 (.int .i64 (.ofNat 0))) H fun a45 H =>
  vg (wantV true a45) (.val x5) H fun a46 H =>
  vg (wantV true a45) (fieldP 1 x1) H fun a47 H =>
  vg (wantV true a45) (load1 H a47) H fun a48 H =>
  vg (wantV true a45) (lenSl a48) H fun a49 H =>
  vg (wantV true a45) (intV (intBin .lss).f a46 a49) H fun a50 H =>
  vq (pickV a45 a50 (.bool false)) H fun a51 H =>
  vg (wantV true a51) (.val x5) H fun a52 H =>
  vg (wantV true a51) (intV (intBin .lss).f a52 (.int .i64 (.ofNat 40))) H fun a53 H =>
  vq (pickV a51 a53 (.bool false)) H fun a54 H =>
  cd a54 (
  hMat_j44 call g9 x1 x3 x4 x5 H) (
  q9e0 x4 H)
noncomputable def hMat_l9 (call : Ev.Call) (q9e0 : AV → Hp → R1) (x1 x3 : AV) (n : Nat) : AV → AV → Hp → R1 :=
  Nat.rec (motive := fun _ => AV → AV → Hp → R1) (fun _ _ _ => .bad) (fun _ ih => hMat_b9 call q9e0 x1 x3 ih) n
noncomputable def hMat_L9 (call : Ev.Call) (q9e0 : AV → Hp → R1) (x1 x3 : AV) : AV → AV → Hp → R1 := hMat_l9 call q9e0 x1 x3 fuelX
noncomputable def hMat_c (call : Ev.Call) (x0 : AV) (H : Hp) : R1 :=
  vq (boxA 2 H.nx x0) H fun a0 H =>
  vq (.new (.ptr H.nx 0) (mkBlk 0 [.int .i64 (.ofNat 0), .nilsl])) H fun a1 H =>
  vq (fieldP 0 a0) H fun a2 H =>
  vq (load1 H a2) H fun a3 H =>
  vq (intV (intBin .rem).f a3 (.int .u8 (.ofNat 13))) H fun a4 H =>
  vq (convI .i64 a4) H fun a5 H =>
  hMat_L9 call (fun x4 H => hMat_j8 call a1 a5 x4 H) a0 a5 (.nilsl) (.int .i64 (.ofNat 0)) H
noncomputable def hMat (call : Ev.Call) (x0 : AV) (H : Hp) : R1 := hMat_c call x0 H
noncomputable def lGr_j11 (call : Ev.Call) (x2 x3 : AV) (H : Hp) : R1 :=
  vq (loadA 2 H x3) H fun a9 H =>
  ve (storeA 2 H x2 a9) fun _ H =>
  finR (rV (loadA 2 H x2)) H
noncomputable def lGr_j14 (call : Ev.Call) (g12 : AV → Hp → R1) (x5 : AV) (H : Hp) : R1 :=
  vq (intV (intBin .add).f x5 (.int .i64 (.ofNat 1))) H fun a13 H =>
  g12 a13 H
noncomputable def lGr_j39 (call : Ev.Call) (g12 : AV → Hp → R1) (x3 x4 x5 : AV) (H : Hp) : R1 :=
  dz 23 H fun b15 H =>
  dq false false 0 0 (b15 + 0) H [] [] (fun _ => fieldP 1 x3) (some true) fun a16 H p w =>
  dq true false 1 1 (b15 + 1) H p w (fun H => load1 H a16) (some true) fun a17 H p w =>
  dq false false 2 0 (b15 + 2) H p w (fun _ => .val x4) (some true) fun a18 H p w =>
  dq false false 3 0 (b15 + 3) H p w (fun _ => .val x5) (some true) fun a19 H p w =>
  dq false false 4 12 (b15 + 4) H p w (fun _ => idxS 3 a18 a19) (some true) fun a20 H p w =>
  dq false false 5 28 (b15 + 5) H p w (fun _ => idxA 3 1 a20 (.int .i64 (.ofNat 0))) (some true) fun a21 H p w =>
  dq true false 6 60 (b15 + 6) H p w (fun H => load1 H a21) (some true) fun a22 H p w =>
  dq false false 7 0 (b15 + 7) H p w (fun _ => .val x4) (some true) fun a23 H p w =>
  dq false false 8 0 (b15 + 8) H p w (fun _ => .val x5) (some true) fun a24 H p w =>
  dq false false 9 384 (b15 + 9) H p w (fun _ => idxS 3 a23 a24) (some true) fun a25 H p w =>
  dq false false 10 896 (b15 + 10) H p w (fun _ => idxA 3 1 a25 (.int .i64 (.ofNat 1))) (some true) fun a26 H p w =>
  dq true false 11 1920 (b15 + 11) H p w (fun H => load1 H a26) (some true) fun a27 H p w =>
  dq false false 12 0 (b15 + 12) H p w (fun _ => .val x4) (some true) fun a28 H p w =>
  dq false false 13 0 (b15 + 13) H p w (fun _ => .val x5) (some true) fun a29 H p w =>
  dq false false 14 12288 (b15 + 14) H p w (fun _ => idxS 3 a28 a29) (some true) fun a30 H p w =>
  dq false false 15 28672 (b15 + 15) H p w (fun _ => idxA 3 1 a30 (.int .i64 (.ofNat 2))) (some true) fun a31 H p w =>
  dq true false 16 61440 (b15 + 16) H p w (fun H => load1 H a31) (some true) fun a32 H p w =>
  dq false false 17 126976 (b15 + 17) H p w (fun _ => intV (intBin .eql).f a32 (.int .i64 (.ofNat 1))) (some true) fun a33 H p w =>
  dq false false 18 262140 (b15 + 18) H p w (fun _ => aggN (setParts [.int .i64 (.ofNat 0), .int .i64 (.ofNat 0), .bool false] [(0, 1, a22), (1, 1, a27), (2, 1, a33)])) (some true) fun a34 H p w =>
  dq false true 19 524284 (b15 + 19) H p w (fun _ => newSl 1 (b15 + 19) (setParts (reps [.int .i64 (.ofNat 0), .int .i64 (.ofNat 0), .bool false] 1) [(0, 3, a34)])) (some true) fun a35 H p w =>
  de 1048575 H p w (appendV 3 24 (viewH 1048575 p H) a17 (srcOfC 3 (viewH 1048575 p H) a35)) (some true) fun a36 H p w =>
  dq false false 21 2097151 (b15 + 21) H p w (fun _ => fieldP 1 x3) (some true) fun a37 H p w =>
  de 4194303 H p w (store1 (viewH 4194303 p H) a37 a36) (some true) fun _ H p w =>
  dz2 p H fun H =>
  lGr_j14 call g12 x5 H
noncomputable def lGr_b12 (call : Ev.Call) (q12e0 : Hp → R1) (x3 x4 : AV) (g12 : AV → Hp → R1) (x5 : AV) (H : Hp) : R1 :=
  vq (lenSl x4) H fun a40 H =>
  vq (intV (intBin .lss).f x5 a40) H fun a41 H =>
  cd a41 (
  lGr_j39 call g12 x3 x4 x5 H) (
  q12e0 H)
noncomputable def lGr_l12 (call : Ev.Call) (q12e0 : Hp → R1) (x3 x4 : AV) (n : Nat) : AV → Hp → R1 :=
  Nat.rec (motive := fun _ => AV → Hp → R1) (fun _ _ => .bad) (fun _ ih => lGr_b12 call q12e0 x3 x4 ih) n
noncomputable def lGr_L12 (call : Ev.Call) (q12e0 : Hp → R1) (x3 x4 : AV) : AV → Hp → R1 := lGr_l12 call q12e0 x3 x4 fuelX
noncomputable def lGr_c (call : Ev.Call) (x0 : AV) (H : Hp) : R1 :=
  vq (boxA 2 H.nx x0) H fun a0 H =>
  vq (.new (.ptr H.nx 0) (mkBlk 0 [.int .i64 (.ofNat 0), .nilsl])) H fun a1 H =>
  vq (fieldP 0 a0) H fun a2 H =>
  vq (load1 H a2) H fun a3 H =>
  vq (aggN (setParts [.int .i64 (.ofNat 0), .nilsl] [(0, 1, a3)])) H fun a4 H =>
  vq (.new (.ptr H.nx 0) (mkBlk 0 [.int .i64 (.ofNat 0), .nilsl])) H fun a5 H =>
  ve (storeA 2 H a5 a4) fun _ H =>
  vq (loadA 2 H a0) H fun a7 H =>
  ve (call (.f id_rEdg) [a7] H) fun a8 H =>
  lGr_L12 call (fun H => lGr_j11 call a1 a5 H) a5 a8 (.int .i64 (.ofNat 0)) H
noncomputable def lGr (call : Ev.Call) (x0 : AV) (H : Hp) : R1 := lGr_c call x0 H
noncomputable def rOf_j6 (call : Ev.Call) (x6 x8 : AV) (H : Hp) : R1 :=
  .ok (.tup [x8, x6]) H
noncomputable def rOf_j10 (call : Ev.Call) (g8 : AV → AV → AV → Hp → R1) (x8 x9 x10 : AV) (H : Hp) : R1 :=
  vq (intV (intBin .add).f x10 (.int .i64 (.ofNat 1))) H fun a9 H =>
  g8 x8 x9 a9 H
noncomputable def rOf_j18 (call : Ev.Call) (q8e4 : AV → AV → Hp → R1) (x8 x9 x13 : AV) (H : Hp) : R1 :=
  vq (lenSl x13) H fun a14 H =>
  vq (intV (intBin .add).f x9 a14) H fun a15 H =>
  vq (newSl 1 H.nx (setParts (reps [.nilsl] 1) [(0, 1, x13)])) H fun a16 H =>
  ve (appendV 1 24 H x8 (srcOfC 1 H a16)) fun a17 H =>
  q8e4 a17 a15 H
noncomputable def rOf_j21 (call : Ev.Call) (g19 : AV → AV → Hp → R1) (x13 x14 : AV) (H : Hp) : R1 :=
  vq (intV (intBin .add).f x14 (.int .i64 (.ofNat 1))) H fun a20 H =>
  g19 x13 a20 H
noncomputable def rOf_j42 (call : Ev.Call) (g19 : AV → AV → Hp → R1) (x4 x5 x6 x8 x10 x13 x14 : AV) (H : Hp) : R1 :=
  vq (intV (intBin .mul).f x10 x4) H fun a22 H =>
  vq (intV (intBin .add).f a22 x14) H fun a23 H =>
  vq (idxS 1 x5 a23) H fun a24 H =>
  vq (load1 H a24) H fun a25 H =>
  vq (intV (intBin .geq).f a25 (.int .i64 (.ofNat 0))) H fun a26 H =>
  vg (wantV true a26) (.val x5) H fun a27 H =>
  vg (wantV true a26) (.val x14) H fun a28 H =>
  vg (wantV true a26) (.val x4) H fun a29 H =>
  vg (wantV true a26) (intV (intBin .mul).f a28 a29) H fun a30 H =>
  vg (wantV true a26) (.val x10) H fun a31 H =>
  vg (wantV true a26) (intV (intBin .add).f a30 a31) H fun a32 H =>
  vg (wantV true a26) (idxS 1 a27 a32) H fun a33 H =>
  vg (wantV true a26) (load1 H a33) H fun a34 H =>
  vg (wantV true a26) (intV (intBin .geq).f a34 (.int .i64 (.ofNat 0))) H fun a35 H =>
  vq (pickV a26 a35 (.bool false)) H fun a36 H =>
  cd a36 (
  vq (newSl 1 H.nx (setParts (reps [.int .i64 (.ofNat 0)] 1) [(0, 1, x14)])) H fun a37 H =>
  ve (appendV 1 8 H x13 (srcOfC 1 H a37)) fun a38 H =>
  vq (lenSl x8) H fun a39 H =>
  vq (idxS 1 x6 x14) H fun a40 H =>
  ve (store1 H a40 a39) fun _ H =>
  rOf_j21 call g19 a38 x14 H) (
  rOf_j21 call g19 x13 x14 H)
noncomputable def rOf_b19 (call : Ev.Call) (q19e8 : AV → Hp → R1) (x4 x5 x6 x8 x10 : AV) (g19 : AV → AV → Hp → R1) (x13 x14 : AV) (H : Hp) : R1 :=
  vq (intV (intBin .lss).f x14 x4) H fun a43 H =>
  cd a43 (
  rOf_j42 call g19 x4 x5 x6 x8 x10 x13 x14 H) (
  q19e8 x13 H)
noncomputable def rOf_l19 (call : Ev.Call) (q19e8 : AV → Hp → R1) (x4 x5 x6 x8 x10 : AV) (n : Nat) : AV → AV → Hp → R1 :=
  Nat.rec (motive := fun _ => AV → AV → Hp → R1) (fun _ _ _ => .bad) (fun _ ih => rOf_b19 call q19e8 x4 x5 x6 x8 x10 ih) n
noncomputable def rOf_L19 (call : Ev.Call) (q19e8 : AV → Hp → R1) (x4 x5 x6 x8 x10 : AV) : AV → AV → Hp → R1 := rOf_l19 call q19e8 x4 x5 x6 x8 x10 fuelX
noncomputable def rOf_j44 (call : Ev.Call) (q8e4 : AV → AV → Hp → R1) (x4 x5 x6 x8 x9 x10 : AV) (H : Hp) : R1 :=
  rOf_L19 call (fun x13 H => rOf_j18 call q8e4 x8 x9 x13 H) x4 x5 x6 x8 x10 (.nilsl) (.int .i64 (.ofNat 0)) H
noncomputable def rOf_j46 (call : Ev.Call) (g8 : AV → AV → AV → Hp → R1) (q8e4 : AV → AV → Hp → R1) (x4 x5 x6 x8 x9 x10 x11 : AV) (H : Hp) : R1 :=
  vq ((unS .not).f x11) H fun a45 H =>
  cd a45 (
  rOf_j10 call g8 x8 x9 x10 H) (
  rOf_j44 call q8e4 x4 x5 x6 x8 x9 x10 H)
noncomputable def rOf_j49 (call : Ev.Call) (g47 : AV → AV → Hp → R1) (x11 x12 : AV) (H : Hp) : R1 :=
  vq (intV (intBin .add).f x12 (.int .i64 (.ofNat 1))) H fun a48 H =>
  g47 x11 a48 H
noncomputable def rOf_j71 (call : Ev.Call) (g47 : AV → AV → Hp → R1) (x4 x5 x6 x10 x12 : AV) (H : Hp) : R1 :=
  vq (intV (intBin .mul).f x10 x4) H fun a50 H =>
  vq (intV (intBin .add).f a50 x12) H fun a51 H =>
  vq (idxS 1 x5 a51) H fun a52 H =>
  vq (load1 H a52) H fun a53 H =>
  vq (intV (intBin .lss).f a53 (.int .i64 (.ofNat 0))) H fun a54 H =>
  vg (wantV false a54) (.val x6) H fun a55 H =>
  vg (wantV false a54) (.val x12) H fun a56 H =>
  vg (wantV false a54) (idxS 1 a55 a56) H fun a57 H =>
  vg (wantV false a54) (load1 H a57) H fun a58 H =>
  vg (wantV false a54) (intV (intBin .geq).f a58 (.int .i64 (.ofNat 0))) H fun a59 H =>
  vq (pickV a54 (.bool true) a59) H fun a60 H =>
  vg (wantV false a60) (.val x5) H fun a61 H =>
  vg (wantV false a60) (.val x12) H fun a62 H =>
  vg (wantV false a60) (.val x4) H fun a63 H =>
  vg (wantV false a60) (intV (intBin .mul).f a62 a63) H fun a64 H =>
  vg (wantV false a60) (.val x10) H fun a65 H =>
  vg (wantV false a60) (intV (intBin .add).f a64 a65) H fun a66 H =>
  vg (wantV false a60) (idxS 1 a61 a66) H fun a67 H =>
  vg (wantV false a60) (load1 H a67) H fun a68 H =>
  vg (wantV false a60) (intV (intBin .geq).f a68 (.int .i64 (.ofNat 0))) H fun a69 H =>
  vq (pickV a60 (.bool true) a69) H fun a70 H =>
  rOf_j49 call g47 a70 x12 H
noncomputable def rOf_b47 (call : Ev.Call) (q47e6 : AV → Hp → R1) (x4 x5 x6 x10 : AV) (g47 : AV → AV → Hp → R1) (x11 x12 : AV) (H : Hp) : R1 :=
  vq (intV (intBin .lss).f x12 x4) H fun a72 H =>
  vg (wantV true a72) (.val x11) H fun a73 H =>
  vq (pickV a72 a73 (.bool false)) H fun a74 H =>
  cd a74 (
  rOf_j71 call g47 x4 x5 x6 x10 x12 H) (
  q47e6 x11 H)
noncomputable def rOf_l47 (call : Ev.Call) (q47e6 : AV → Hp → R1) (x4 x5 x6 x10 : AV) (n : Nat) : AV → AV → Hp → R1 :=
  Nat.rec (motive := fun _ => AV → AV → Hp → R1) (fun _ _ _ => .bad) (fun _ ih => rOf_b47 call q47e6 x4 x5 x6 x10 ih) n
noncomputable def rOf_L47 (call : Ev.Call) (q47e6 : AV → Hp → R1) (x4 x5 x6 x10 : AV) : AV → AV → Hp → R1 := rOf_l47 call q47e6 x4 x5 x6 x10 fuelX
noncomputable def rOf_j75 (call : Ev.Call) (g8 : AV → AV → AV → Hp → R1) (q8e4 : AV → AV → Hp → R1) (x4 x5 x6 x8 x9 x10 : AV) (H : Hp) : R1 :=
  vq (idxS 1 x6 x10) H fun a11 H =>
  vq (load1 H a11) H fun a12 H =>
  vq (intV (intBin .lss).f a12 (.int .i64 (.ofNat 0))) H fun a13 H =>
  rOf_L47 call (fun x11 H => rOf_j46 call g8 q8e4 x4 x5 x6 x8 x9 x10 x11 H) x4 x5 x6 x10 a13 (.int .i64 (.ofNat 0)) H
noncomputable def rOf_b8 (call : Ev.Call) (q8e4 : AV → AV → Hp → R1) (x4 x5 x6 : AV) (g8 : AV → AV → AV → Hp → R1) (x8 x9 x10 : AV) (H : Hp) : R1 :=
  vq (intV (intBin .lss).f x10 x4) H fun a76 H =>
  cd a76 (
  rOf_j75 call g8 q8e4 x4 x5 x6 x8 x9 x10 H) (
  q8e4 x8 x9 H)
noncomputable def rOf_l8 (call : Ev.Call) (q8e4 : AV → AV → Hp → R1) (x4 x5 x6 : AV) (n : Nat) : AV → AV → AV → Hp → R1 :=
  Nat.rec (motive := fun _ => AV → AV → AV → Hp → R1) (fun _ _ _ _ => .bad) (fun _ ih => rOf_b8 call q8e4 x4 x5 x6 ih) n
noncomputable def rOf_L8 (call : Ev.Call) (q8e4 : AV → AV → Hp → R1) (x4 x5 x6 : AV) : AV → AV → AV → Hp → R1 := rOf_l8 call q8e4 x4 x5 x6 fuelX
noncomputable def rOf_j77 (call : Ev.Call) (g7 : AV → AV → Hp → R1) (x4 x5 x6 x8 x9 : AV) (H : Hp) : R1 :=
  rOf_L8 call (fun x8 x9 H => g7 x8 x9 H) x4 x5 x6 x8 x9 (.int .i64 (.ofNat 0)) H
noncomputable def rOf_b7 (call : Ev.Call) (q7e2 : AV → Hp → R1) (x4 x5 x6 : AV) (g7 : AV → AV → Hp → R1) (x8 x9 : AV) (H : Hp) : R1 :=
  vq (intV (intBin .lss).f x9 x4) H fun a78 H =>
  cd a78 (
  rOf_j77 call g7 x4 x5 x6 x8 x9 H) (
  q7e2 x8 H)
noncomputable def rOf_l7 (call : Ev.Call) (q7e2 : AV → Hp → R1) (x4 x5 x6 : AV) (n : Nat) : AV → AV → Hp → R1 :=
  Nat.rec (motive := fun _ => AV → AV → Hp → R1) (fun _ _ _ => .bad) (fun _ ih => rOf_b7 call q7e2 x4 x5 x6 ih) n
noncomputable def rOf_L7 (call : Ev.Call) (q7e2 : AV → Hp → R1) (x4 x5 x6 : AV) : AV → AV → Hp → R1 := rOf_l7 call q7e2 x4 x5 x6 fuelX
noncomputable def rOf_j79 (call : Ev.Call) (x4 x5 x6 : AV) (H : Hp) : R1 :=
  rOf_L7 call (fun x8 H => rOf_j6 call x6 x8 H) x4 x5 x6 (.nilsl) (.int .i64 (.ofNat 0)) H
noncomputable def rOf_j82 (call : Ev.Call) (g80 : AV → Hp → R1) (x7 : AV) (H : Hp) : R1 :=
  vq (intV (intBin .add).f x7 (.int .i64 (.ofNat 1))) H fun a81 H =>
  g80 a81 H
noncomputable def rOf_j85 (call : Ev.Call) (g80 : AV → Hp → R1) (x6 x7 : AV) (H : Hp) : R1 :=
  vq (idxS 1 x6 x7) H fun a83 H =>
  ve (store1 H a83 (.int .i64 (.negSucc 0))) fun _ H =>
  rOf_j82 call g80 x7 H
noncomputable def rOf_b80 (call : Ev.Call) (q80e0 : Hp → R1) (x4 x6 : AV) (g80 : AV → Hp → R1) (x7 : AV) (H : Hp) : R1 :=
  vq (intV (intBin .lss).f x7 x4) H fun a86 H =>
  cd a86 (
  rOf_j85 call g80 x6 x7 H) (
  q80e0 H)
noncomputable def rOf_l80 (call : Ev.Call) (q80e0 : Hp → R1) (x4 x6 : AV) (n : Nat) : AV → Hp → R1 :=
  Nat.rec (motive := fun _ => AV → Hp → R1) (fun _ _ => .bad) (fun _ ih => rOf_b80 call q80e0 x4 x6 ih) n
noncomputable def rOf_L80 (call : Ev.Call) (q80e0 : Hp → R1) (x4 x6 : AV) : AV → Hp → R1 := rOf_l80 call q80e0 x4 x6 fuelX
noncomputable def rOf_c (call : Ev.Call) (x0 : AV) (H : Hp) : R1 :=
  vq (boxA 2 H.nx x0) H fun a0 H =>
  vq (fieldP 0 a0) H fun a1 H =>
  vq (load1 H a1) H fun a2 H =>
  vq (loadA 2 H a0) H fun a3 H =>
  ve (call (.f id_rDist) [a3] H) fun a4 H =>
  vq (makeSl [.int .i64 (.ofNat 0)] 8 H.nx a2 a2) H fun a5 H =>
  rOf_L80 call (fun H => rOf_j79 call a2 a4 a5 H) a2 a5 (.int .i64 (.ofNat 0)) H
noncomputable def rOf (call : Ev.Call) (x0 : AV) (H : Hp) : R1 := rOf_c call x0 H
noncomputable def lwS_j1 (call : Ev.Call) (H : Hp) : R1 :=
  .ok (.bool true) H
noncomputable def lwS_j4 (call : Ev.Call) (g2 : AV → Hp → R1) (x7 : AV) (H : Hp) : R1 :=
  vq (intV (intBin .add).f x7 (.int .i64 (.ofNat 1))) H fun a3 H =>
  g2 a3 H
noncomputable def lwS_j17 (call : Ev.Call) (q2r : AV → Hp → R1) (g2 : AV → Hp → R1) (x1 x3 x7 : AV) (H : Hp) : R1 :=
  dz 0 H fun b5 H =>
  dq false false 0 0 (b5 + 0) H [] [] (fun _ => fieldP 0 x3) (some true) fun a6 H p w =>
  dq true false 1 1 (b5 + 1) H p w (fun H => load1 H a6) (some true) fun a7 H p w =>
  dq false false 2 0 (b5 + 2) H p w (fun _ => .val x7) (some true) fun a8 H p w =>
  dq false false 3 7 (b5 + 3) H p w (fun _ => idxS 1 a7 a8) (some true) fun a9 H p w =>
  dq true false 4 15 (b5 + 4) H p w (fun H => load1 H a9) (some true) fun a10 H p w =>
  dq false false 5 0 (b5 + 5) H p w (fun _ => .val x1) (some true) fun a11 H p w =>
  dq false false 6 0 (b5 + 6) H p w (fun _ => .val x7) (some true) fun a12 H p w =>
  dq false false 7 96 (b5 + 7) H p w (fun _ => idxS 1 a11 a12) (some true) fun a13 H p w =>
  dq true false 8 224 (b5 + 8) H p w (fun H => load1 H a13) (some true) fun a14 H p w =>
  de 511 H p w (call (.f id_lwL) [a10, (.int .i64 (.ofNat 0)), a14, (.int .i64 (.ofNat 0))] (viewH 511 p H)) (some true) fun a15 H p w =>
  dq false false 10 1023 (b5 + 10) H p w (fun _ => (unS .not).f a15) (some true) fun a16 H p w =>
  dz2 p H fun H =>
  cd a16 (
  q2r (.bool false) H) (
  lwS_j4 call g2 x7 H)
noncomputable def lwS_b2 (call : Ev.Call) (q2r : AV → Hp → R1) (q2e0 : Hp → R1) (x1 x3 : AV) (g2 : AV → Hp → R1) (x7 : AV) (H : Hp) : R1 :=
  vq (lenSl x1) H fun a18 H =>
  vq (intV (intBin .lss).f x7 a18) H fun a19 H =>
  cd a19 (
  lwS_j17 call q2r g2 x1 x3 x7 H) (
  q2e0 H)
noncomputable def lwS_l2 (call : Ev.Call) (q2r : AV → Hp → R1) (q2e0 : Hp → R1) (x1 x3 : AV) (n : Nat) : AV → Hp → R1 :=
  Nat.rec (motive := fun _ => AV → Hp → R1) (fun _ _ => .bad) (fun _ ih => lwS_b2 call q2r q2e0 x1 x3 ih) n
noncomputable def lwS_L2 (call : Ev.Call) (q2r : AV → Hp → R1) (q2e0 : Hp → R1) (x1 x3 : AV) : AV → Hp → R1 := lwS_l2 call q2r q2e0 x1 x3 fuelX
noncomputable def lwS_j20 (call : Ev.Call) (x1 x3 : AV) (H : Hp) : R1 :=
  lwS_L2 call (fun x6 H => .ok x6 H) (fun H => lwS_j1 call H) x1 x3 (.int .i64 (.ofNat 0)) H
noncomputable def lwS_c (call : Ev.Call) (x0 x1 x2 : AV) (H : Hp) : R1 :=
  vq (boxA 2 H.nx x0) H fun a0 H =>
  vq (fieldP 0 a0) H fun a21 H =>
  vq (load1 H a21) H fun a22 H =>
  vq (lenSl a22) H fun a23 H =>
  vq (lenSl x1) H fun a24 H =>
  vq (intV (intBin .neq).f a23 a24) H fun a25 H =>
  vg (wantV false a25) (fieldP 0 a0) H fun a26 H =>
  vg (wantV false a25) (load1 H a26) H fun a27 H =>
  vg (wantV false a25) (capV a27) H fun a28 H =>
  vg (wantV false a25) (fieldP 0 a0) H fun a29 H =>
  vg (wantV false a25) (load1 H a29) H fun a30 H =>
  vg (wantV false a25) (lenSl a30) H fun a31 H =>
  vg (wantV false a25) (intV (intBin .neq).f a28 a31) H fun a32 H =>
  vq (pickV a25 (.bool true) a32) H fun a33 H =>
  vg (wantV false a33) (fieldP 1 a0) H fun a34 H =>
  vg (wantV false a33) (load1 H a34) H fun a35 H =>
  vg (wantV false a33) (.val x2) H fun a36 H =>
  veg (wantV false a33) (call (.f id_lwL) [a35, (.int .i64 (.ofNat 0)), a36, (.int .i64 (.ofNat 0))] H) H fun a37 H =>
  vg (wantV false a33) ((unS .not).f a37) H fun a38 H =>
  vq (pickV a33 (.bool true) a38) H fun a39 H =>
  cd a39 (
  .ok (.bool false) H) (
  lwS_j20 call x1 a0 H)
noncomputable def lwS (call : Ev.Call) (x0 x1 x2 : AV) (H : Hp) : R1 := lwS_c call x0 x1 x2 H
noncomputable def cOrd_j11 (call : Ev.Call) (x4 : AV) (H : Hp) : R1 :=
  vq (fieldP 0 x4) H fun a7 H =>
  vq (load1 H a7) H fun a8 H =>
  ve (call (.f id_sCat) [a8] H) fun a9 H =>
  ve (call (.f id_sClp) [a9] H) fun a10 H =>
  .ok (.tup [a10, (.int .i64 (.ofNat 0))]) H
noncomputable def cOrd_c (call : Ev.Call) (x0 : AV) (H : Hp) : R1 :=
  vq (boxA 2 H.nx x0) H fun a0 H =>
  vq (loadA 2 H a0) H fun a1 H =>
  ve (call (.f id_cOf) [a1] H) fun a2 H =>
  vq (extr 0 a2) H fun a3 H =>
  vq (extr 1 a2) H fun a4 H =>
  vq (.new (.ptr H.nx 0) (mkBlk 0 [.nilsl, .nilsl])) H fun a5 H =>
  ve (storeA 2 H a5 a3) fun _ H =>
  vq (intV (intBin .neq).f a4 (.int .i64 (.ofNat 0))) H fun a12 H =>
  cd a12 (
  .ok (.tup [(.nilsl), a4]) H) (
  cOrd_j11 call a5 H)
noncomputable def cOrd (call : Ev.Call) (x0 : AV) (H : Hp) : R1 := cOrd_c call x0 H
noncomputable def lwL_j0 (call : Ev.Call) (H : Hp) : R1 :=
  .ok (.bool true) H
noncomputable def lwL_j3 (call : Ev.Call) (g1 : AV → Hp → R1) (x9 : AV) (H : Hp) : R1 :=
  vq (intV (intBin .add).f x9 (.int .i64 (.ofNat 1))) H fun a2 H =>
  g1 a2 H
noncomputable def lwL_j9 (call : Ev.Call) (q1r : AV → Hp → R1) (g1 : AV → Hp → R1) (x0 x2 x9 : AV) (H : Hp) : R1 :=
  vl (idxS 1 x0 x9) fun a4 =>
  vl (load1 H a4) fun a5 =>
  vl (idxS 1 x2 x9) fun a6 =>
  vl (load1 H a6) fun a7 =>
  vl (intV (intBin .neq).f a5 a7) fun a8 =>
  cd a8 (
  q1r (.bool false) H) (
  lwL_j3 call g1 x9 H)
noncomputable def lwL_b1 (call : Ev.Call) (q1r : AV → Hp → R1) (q1e0 : Hp → R1) (x0 x2 : AV) (g1 : AV → Hp → R1) (x9 : AV) (H : Hp) : R1 :=
  vq (lenSl x2) H fun a10 H =>
  vq (intV (intBin .lss).f x9 a10) H fun a11 H =>
  cd a11 (
  lwL_j9 call q1r g1 x0 x2 x9 H) (
  q1e0 H)
noncomputable def lwL_l1 (call : Ev.Call) (q1r : AV → Hp → R1) (q1e0 : Hp → R1) (x0 x2 : AV) (n : Nat) : AV → Hp → R1 :=
  Nat.rec (motive := fun _ => AV → Hp → R1) (fun _ _ => .bad) (fun _ ih => lwL_b1 call q1r q1e0 x0 x2 ih) n
noncomputable def lwL_L1 (call : Ev.Call) (q1r : AV → Hp → R1) (q1e0 : Hp → R1) (x0 x2 : AV) : AV → Hp → R1 := lwL_l1 call q1r q1e0 x0 x2 fuelX
noncomputable def lwL_j12 (call : Ev.Call) (x0 x2 : AV) (H : Hp) : R1 :=
  lwL_L1 call (fun x8 H => .ok x8 H) (fun H => lwL_j0 call H) x0 x2 (.int .i64 (.ofNat 0)) H
noncomputable def lwL_c (call : Ev.Call) (x0 x1 x2 x3 : AV) (H : Hp) : R1 :=
  vq (intV (intBin .neq).f x1 x3) H fun a13 H =>
  vg (wantV false a13) (.val x0) H fun a14 H =>
  vg (wantV false a13) (lenSl a14) H fun a15 H =>
  vg (wantV false a13) (.val x2) H fun a16 H =>
  vg (wantV false a13) (lenSl a16) H fun a17 H =>
  vg (wantV false a13) (intV (intBin .neq).f a15 a17) H fun a18 H =>
  vq (pickV a13 (.bool true) a18) H fun a19 H =>
  vg (wantV false a19) (.val x0) H fun a20 H =>
  vg (wantV false a19) (capV a20) H fun a21 H =>
  vg (wantV false a19) (.val x0) H fun a22 H =>
  vg (wantV false a19) (lenSl a22) H fun a23 H =>
  vg (wantV false a19) (intV (intBin .neq).f a21 a23) H fun a24 H =>
  vq (pickV a19 (.bool true) a24) H fun a25 H =>
  cd a25 (
  .ok (.bool false) H) (
  lwL_j12 call x0 x2 H)
noncomputable def lwL (call : Ev.Call) (x0 x1 x2 x3 : AV) (H : Hp) : R1 := lwL_c call x0 x1 x2 x3 H
noncomputable def rMat_j6 (call : Ev.Call) (x4 x5 : AV) (H : Hp) : R1 :=
  vq (loadA 2 H x5) H fun a4 H =>
  ve (storeA 2 H x4 a4) fun _ H =>
  finR (rV (loadA 2 H x4)) H
noncomputable def rMat_j9 (call : Ev.Call) (g7 : AV → Hp → R1) (x6 : AV) (H : Hp) : R1 :=
  vq (intV (intBin .add).f x6 (.int .i64 (.ofNat 1))) H fun a8 H =>
  g7 a8 H
noncomputable def rMat_j29 (call : Ev.Call) (g7 : AV → Hp → R1) (x1 x5 x6 : AV) (H : Hp) : R1 :=
  dz 0 H fun b10 H =>
  dq true false 0 0 (b10 + 0) H [] [] (fun H => loadA 2 H x5) (some true) fun a11 H p w =>
  dq false false 1 0 (b10 + 1) H p w (fun _ => .val x1) (some true) fun a12 H p w =>
  dq false false 2 0 (b10 + 2) H p w (fun _ => .val x6) (some true) fun a13 H p w =>
  dq false false 3 6 (b10 + 3) H p w (fun _ => idxS 3 a12 a13) (some true) fun a14 H p w =>
  dq false false 4 14 (b10 + 4) H p w (fun _ => idxA 3 1 a14 (.int .i64 (.ofNat 0))) (some true) fun a15 H p w =>
  dq true false 5 30 (b10 + 5) H p w (fun H => load1 H a15) (some true) fun a16 H p w =>
  dq false false 6 0 (b10 + 6) H p w (fun _ => .val x1) (some true) fun a17 H p w =>
  dq false false 7 0 (b10 + 7) H p w (fun _ => .val x6) (some true) fun a18 H p w =>
  dq false false 8 192 (b10 + 8) H p w (fun _ => idxS 3 a17 a18) (some true) fun a19 H p w =>
  dq false false 9 448 (b10 + 9) H p w (fun _ => idxA 3 1 a19 (.int .i64 (.ofNat 1))) (some true) fun a20 H p w =>
  dq true false 10 960 (b10 + 10) H p w (fun H => load1 H a20) (some true) fun a21 H p w =>
  dq false false 11 0 (b10 + 11) H p w (fun _ => .val x1) (some true) fun a22 H p w =>
  dq false false 12 0 (b10 + 12) H p w (fun _ => .val x6) (some true) fun a23 H p w =>
  dq false false 13 6144 (b10 + 13) H p w (fun _ => idxS 3 a22 a23) (some true) fun a24 H p w =>
  dq false false 14 14336 (b10 + 14) H p w (fun _ => idxA 3 1 a24 (.int .i64 (.ofNat 2))) (some true) fun a25 H p w =>
  dq true false 15 30720 (b10 + 15) H p w (fun H => load1 H a25) (some true) fun a26 H p w =>
  dq false false 16 63488 (b10 + 16) H p w (fun _ => intV (intBin .eql).f a26 (.int .i64 (.ofNat 1))) (some true) fun a27 H p w =>
  de 131071 H p w (call (.f id_rPut) [a11, a16, a21, a27] (viewH 131071 p H)) (some true) fun a28 H p w =>
  dz2 p H fun H =>
  rMat_j9 call g7 x6 H
noncomputable def rMat_b7 (call : Ev.Call) (q7e0 : Hp → R1) (x1 x5 : AV) (g7 : AV → Hp → R1) (x6 : AV) (H : Hp) : R1 :=
  vq (lenSl x1) H fun a30 H =>
  vq (intV (intBin .lss).f x6 a30) H fun a31 H =>
  cd a31 (
  rMat_j29 call g7 x1 x5 x6 H) (
  q7e0 H)
noncomputable def rMat_l7 (call : Ev.Call) (q7e0 : Hp → R1) (x1 x5 : AV) (n : Nat) : AV → Hp → R1 :=
  Nat.rec (motive := fun _ => AV → Hp → R1) (fun _ _ => .bad) (fun _ ih => rMat_b7 call q7e0 x1 x5 ih) n
noncomputable def rMat_L7 (call : Ev.Call) (q7e0 : Hp → R1) (x1 x5 : AV) : AV → Hp → R1 := rMat_l7 call q7e0 x1 x5 fuelX
noncomputable def rMat_c (call : Ev.Call) (x0 x1 : AV) (H : Hp) : R1 :=
  vq (.new (.ptr H.nx 0) (mkBlk 0 [.int .i64 (.ofNat 0), .nilsl])) H fun a0 H =>
  ve (call (.f id_rNew) [x0] H) fun a1 H =>
  vq (.new (.ptr H.nx 0) (mkBlk 0 [.int .i64 (.ofNat 0), .nilsl])) H fun a2 H =>
  ve (storeA 2 H a2 a1) fun _ H =>
  rMat_L7 call (fun H => rMat_j6 call a0 a2 H) x1 a2 (.int .i64 (.ofNat 0)) H
noncomputable def rMat (call : Ev.Call) (x0 x1 : AV) (H : Hp) : R1 := rMat_c call x0 x1 H
noncomputable def rEdg_j1 (call : Ev.Call) (x3 : AV) (H : Hp) : R1 :=
  .ok x3 H
noncomputable def rEdg_j4 (call : Ev.Call) (g2 : AV → AV → Hp → R1) (x3 x4 : AV) (H : Hp) : R1 :=
  vq (intV (intBin .add).f x4 (.int .i64 (.ofNat 1))) H fun a3 H =>
  g2 x3 a3 H
noncomputable def rEdg_j7 (call : Ev.Call) (g5 : AV → AV → Hp → R1) (x3 x5 : AV) (H : Hp) : R1 :=
  vq (intV (intBin .add).f x5 (.int .i64 (.ofNat 1))) H fun a6 H =>
  g5 x3 a6 H
noncomputable def rEdg_j20 (call : Ev.Call) (g5 : AV → AV → Hp → R1) (x1 x3 x4 x5 : AV) (H : Hp) : R1 :=
  vq (fieldP 1 x1) H fun a8 H =>
  vq (load1 H a8) H fun a9 H =>
  vq (fieldP 0 x1) H fun a10 H =>
  vq (load1 H a10) H fun a11 H =>
  vq (intV (intBin .mul).f x4 a11) H fun a12 H =>
  vq (intV (intBin .add).f a12 x5) H fun a13 H =>
  vq (idxS 1 a9 a13) H fun a14 H =>
  vq (load1 H a14) H fun a15 H =>
  vq (intV (intBin .gtr).f a15 (.int .i64 (.ofNat 1))) H fun a16 H =>
  cd a16 (
  vq (aggN (setParts [.int .i64 (.ofNat 0), .int .i64 (.ofNat 0), .int .i64 (.ofNat 0)] [(0, 1, x4), (1, 1, x5), (2, 1, (.int .i64 (.ofNat 1)))])) H fun a17 H =>
  vq (newSl 1 H.nx (setParts (reps [.int .i64 (.ofNat 0), .int .i64 (.ofNat 0), .int .i64 (.ofNat 0)] 1) [(0, 3, a17)])) H fun a18 H =>
  ve (appendV 3 24 H x3 (srcOfC 3 H a18)) fun a19 H =>
  rEdg_j7 call g5 a19 x5 H) (
  rEdg_j7 call g5 x3 x5 H)
noncomputable def rEdg_j34 (call : Ev.Call) (g5 : AV → AV → Hp → R1) (x1 x3 x4 x5 : AV) (H : Hp) : R1 :=
  vq (fieldP 1 x1) H fun a21 H =>
  vq (load1 H a21) H fun a22 H =>
  vq (fieldP 0 x1) H fun a23 H =>
  vq (load1 H a23) H fun a24 H =>
  vq (intV (intBin .mul).f x4 a24) H fun a25 H =>
  vq (intV (intBin .add).f a25 x5) H fun a26 H =>
  vq (idxS 1 a22 a26) H fun a27 H =>
  vq (load1 H a27) H fun a28 H =>
  vq (intV (intBin .rem).f a28 (.int .i64 (.ofNat 2))) H fun a29 H =>
  vq (intV (intBin .eql).f a29 (.int .i64 (.ofNat 1))) H fun a30 H =>
  cd a30 (
  vq (aggN (setParts [.int .i64 (.ofNat 0), .int .i64 (.ofNat 0), .int .i64 (.ofNat 0)] [(0, 1, x4), (1, 1, x5), (2, 1, (.int .i64 (.ofNat 0)))])) H fun a31 H =>
  vq (newSl 1 H.nx (setParts (reps [.int .i64 (.ofNat 0), .int .i64 (.ofNat 0), .int .i64 (.ofNat 0)] 1) [(0, 3, a31)])) H fun a32 H =>
  ve (appendV 3 24 H x3 (srcOfC 3 H a32)) fun a33 H =>
  rEdg_j20 call g5 x1 a33 x4 x5 H) (
  rEdg_j20 call g5 x1 x3 x4 x5 H)
noncomputable def rEdg_b5 (call : Ev.Call) (q5e2 : AV → Hp → R1) (x1 x4 : AV) (g5 : AV → AV → Hp → R1) (x3 x5 : AV) (H : Hp) : R1 :=
  vq (fieldP 0 x1) H fun a35 H =>
  vq (load1 H a35) H fun a36 H =>
  vq (intV (intBin .lss).f x5 a36) H fun a37 H =>
  cd a37 (
  rEdg_j34 call g5 x1 x3 x4 x5 H) (
  q5e2 x3 H)
noncomputable def rEdg_l5 (call : Ev.Call) (q5e2 : AV → Hp → R1) (x1 x4 : AV) (n : Nat) : AV → AV → Hp → R1 :=
  Nat.rec (motive := fun _ => AV → AV → Hp → R1) (fun _ _ _ => .bad) (fun _ ih => rEdg_b5 call q5e2 x1 x4 ih) n
noncomputable def rEdg_L5 (call : Ev.Call) (q5e2 : AV → Hp → R1) (x1 x4 : AV) : AV → AV → Hp → R1 := rEdg_l5 call q5e2 x1 x4 fuelX
noncomputable def rEdg_j38 (call : Ev.Call) (g2 : AV → AV → Hp → R1) (x1 x3 x4 : AV) (H : Hp) : R1 :=
  rEdg_L5 call (fun x3 H => rEdg_j4 call g2 x3 x4 H) x1 x4 x3 (.int .i64 (.ofNat 0)) H
noncomputable def rEdg_b2 (call : Ev.Call) (q2e0 : AV → Hp → R1) (x1 : AV) (g2 : AV → AV → Hp → R1) (x3 x4 : AV) (H : Hp) : R1 :=
  vq (fieldP 0 x1) H fun a39 H =>
  vq (load1 H a39) H fun a40 H =>
  vq (intV (intBin .lss).f x4 a40) H fun a41 H =>
  cd a41 (
  rEdg_j38 call g2 x1 x3 x4 H) (
  q2e0 x3 H)
noncomputable def rEdg_l2 (call : Ev.Call) (q2e0 : AV → Hp → R1) (x1 : AV) (n : Nat) : AV → AV → Hp → R1 :=
  Nat.rec (motive := fun _ => AV → AV → Hp → R1) (fun _ _ _ => .bad) (fun _ ih => rEdg_b2 call q2e0 x1 ih) n
noncomputable def rEdg_L2 (call : Ev.Call) (q2e0 : AV → Hp → R1) (x1 : AV) : AV → AV → Hp → R1 := rEdg_l2 call q2e0 x1 fuelX
noncomputable def rEdg_c (call : Ev.Call) (x0 : AV) (H : Hp) : R1 :=
  vq (boxA 2 H.nx x0) H fun a0 H =>
  rEdg_L2 call (fun x3 H => rEdg_j1 call x3 H) a0 (.nilsl) (.int .i64 (.ofNat 0)) H
noncomputable def rEdg (call : Ev.Call) (x0 : AV) (H : Hp) : R1 := rEdg_c call x0 H
noncomputable def gChk_j1 (call : Ev.Call) (H : Hp) : R1 :=
  .ok (.int .i64 (.ofNat 0)) H
noncomputable def gChk_j8 (call : Ev.Call) (g5 : AV → Hp → R1) (x16 : AV) (H : Hp) : R1 :=
  vq (intV (intBin .add).f x16 (.int .i64 (.ofNat 1))) H fun a7 H =>
  g5 a7 H
noncomputable def gChk_m (call : Ev.Call) (q5r : AV → Hp → R1) (g5 : AV → Hp → R1) (x1 x3 x4 x16 : AV) (H : Hp) : R1 :=
  vq (fieldP 0 x4) H fun a13 H =>
  vq (load1 H a13) H fun a14 H =>
  vq (fieldP 1 x4) H fun a15 H =>
  vq (load1 H a15) H fun a16 H =>
  vq (foldV minV a14 [a16]) H fun a17 H =>
  vq (intV (intBin .lss).f a17 (.int .i64 (.ofNat 0))) H fun a18 H =>
  vg (wantV false a18) (fieldP 0 x4) H fun a19 H =>
  vg (wantV false a18) (load1 H a19) H fun a20 H =>
  vg (wantV false a18) (fieldP 1 x4) H fun a21 H =>
  vg (wantV false a18) (load1 H a21) H fun a22 H =>
  vg (wantV false a18) (foldV maxV a20 [a22]) H fun a23 H =>
  vg (wantV false a18) (fieldP 0 x1) H fun a24 H =>
  vg (wantV false a18) (load1 H a24) H fun a25 H =>
  vg (wantV false a18) (intV (intBin .geq).f a23 a25) H fun a26 H =>
  vq (pickV a18 (.bool true) a26) H fun a27 H =>
  cd a27 (
  q5r (.int .i64 (.ofNat 4)) H) (
  dz 0 H fun b28 H =>
  dq false false 0 0 (b28 + 0) H [] [] (fun _ => .val x3) (some true) fun a29 H p w =>
  dq false false 1 1 (b28 + 1) H p w (fun _ => intV (intBin .gtr).f a29 (.int .i64 (.ofNat 0))) (some true) fun a30 H p w =>
  dq false false 2 3 (b28 + 2) H p w (fun _ => .val a30) (some true) fun a31 H p w =>
  dq false false 3 7 (b28 + 3) H p w (fun _ => fieldP 1 x1) (wantV true a31) fun a32 H p w =>
  dq true false 4 15 (b28 + 4) H p w (fun H => load1 H a32) (wantV true a31) fun a33 H p w =>
  dq false false 5 7 (b28 + 5) H p w (fun _ => .val x3) (wantV true a31) fun a34 H p w =>
  dq false false 6 39 (b28 + 6) H p w (fun _ => intV (intBin .sub).f a34 (.int .i64 (.ofNat 1))) (wantV true a31) fun a35 H p w =>
  dq false false 7 127 (b28 + 7) H p w (fun _ => idxS 3 a33 a35) (wantV true a31) fun a36 H p w =>
  dq true false 8 255 (b28 + 8) H p w (fun H => loadA 3 H a36) (wantV true a31) fun a37 H p w =>
  dq true false 9 7 (b28 + 9) H p w (fun H => loadA 3 H x4) (wantV true a31) fun a38 H p w =>
  de 1023 H p w (call (.f id_gCmp) [a37, a38] (viewH 1023 p H)) (wantV true a31) fun a39 H p w =>
  dq false false 11 2047 (b28 + 11) H p w (fun _ => intV (intBin .geq).f a39 (.int .i64 (.ofNat 0))) (wantV true a31) fun a40 H p w =>
  dq false false 12 4095 (b28 + 12) H p w (fun _ => pickV a31 a40 (.bool false)) (some true) fun a41 H p w =>
  dq false false 13 8191 (b28 + 13) H p w (fun _ => .val a41) (some true) fun a42 H p w =>
  dz2 p H fun H =>
  cd a42 (
  q5r (.int .i64 (.ofNat 18)) H) (
  gChk_j8 call g5 x16 H))
noncomputable def gChk_j43 (call : Ev.Call) (q5r : AV → Hp → R1) (g5 : AV → Hp → R1) (x1 x14 x16 : AV) (H : Hp) : R1 :=
  vq (idxS 3 x14 x16) H fun a9 H =>
  vq (loadA 3 H a9) H fun a10 H =>
  vq (.new (.ptr H.nx 0) (mkBlk 0 [.int .i64 (.ofNat 0), .int .i64 (.ofNat 0), .bool false])) H fun a11 H =>
  ve (storeA 3 H a11 a10) fun _ H =>
  gChk_m call q5r g5 x1 x16 a11 x16 H
noncomputable def gChk_b5 (call : Ev.Call) (q5r : AV → Hp → R1) (q5e0 : Hp → R1) (x1 x14 x15 : AV) (g5 : AV → Hp → R1) (x16 : AV) (H : Hp) : R1 :=
  vq (intV (intBin .lss).f x16 x15) H fun a6 H =>
  cd a6 (
  gChk_j43 call q5r g5 x1 x14 x16 H) (
  q5e0 H)
noncomputable def gChk_l5 (call : Ev.Call) (q5r : AV → Hp → R1) (q5e0 : Hp → R1) (x1 x14 x15 : AV) (n : Nat) : AV → Hp → R1 :=
  Nat.rec (motive := fun _ => AV → Hp → R1) (fun _ _ => .bad) (fun _ ih => gChk_b5 call q5r q5e0 x1 x14 x15 ih) n
noncomputable def gChk_L5 (call : Ev.Call) (q5r : AV → Hp → R1) (q5e0 : Hp → R1) (x1 x14 x15 : AV) : AV → Hp → R1 := gChk_l5 call q5r q5e0 x1 x14 x15 fuelX
noncomputable def gChk_j44 (call : Ev.Call) (x1 : AV) (H : Hp) : R1 :=
  vq (fieldP 1 x1) H fun a2 H =>
  vq (load1 H a2) H fun a3 H =>
  vq (lenSl a3) H fun a4 H =>
  gChk_L5 call (fun x2 H => .ok x2 H) (fun H => gChk_j1 call H) x1 a3 a4 (.int .i64 (.ofNat 0)) H
noncomputable def gChk_c (call : Ev.Call) (x0 : AV) (H : Hp) : R1 :=
  vq (boxA 2 H.nx x0) H fun a0 H =>
  vq (fieldP 0 a0) H fun a45 H =>
  vq (load1 H a45) H fun a46 H =>
  vq (intV (intBin .lss).f a46 (.int .i64 (.ofNat 0))) H fun a47 H =>
  vg (wantV false a47) (fieldP 0 a0) H fun a48 H =>
  vg (wantV false a47) (load1 H a48) H fun a49 H =>
  vg (wantV false a47) (intV (intBin .gtr).f a49 (.int .i64 (.ofNat 256))) H fun a50 H =>
  vq (pickV a47 (.bool true) a50) H fun a51 H =>
  cd a51 (
  .ok (.int .i64 (.ofNat 3)) H) (
  gChk_j44 call a0 H)
noncomputable def gChk (call : Ev.Call) (x0 : AV) (H : Hp) : R1 := gChk_c call x0 H
noncomputable def cParts_j4 (call : Ev.Call) (x3 : AV) (H : Hp) : R1 :=
  vq (fieldP 1026 x3) H fun a2 H =>
  vq (load1 H a2) H fun a3 H =>
  .ok a3 H
noncomputable def cParts_j10 (call : Ev.Call) (g7 : AV → Hp → R1) (x30 : AV) (H : Hp) : R1 :=
  vq (intV (intBin .add).f x30 (.int .i64 (.ofNat 1))) H fun a9 H =>
  g7 a9 H
noncomputable def cParts_j16 (call : Ev.Call) (g7 : AV → Hp → R1) (x3 x30 : AV) (H : Hp) : R1 :=
  vq (fieldP 256 x3) H fun a11 H =>
  vq (idxA 256 1 a11 x30) H fun a12 H =>
  vq (load1 H a12) H fun a13 H =>
  vq (intV (intBin .eql).f a13 (.int .i64 (.ofNat 0))) H fun a14 H =>
  cd a14 (
  ve (call (.f id_cWalk) [x3, x30] H) fun a15 H =>
  cParts_j10 call g7 x30 H) (
  cParts_j10 call g7 x30 H)
noncomputable def cParts_b7 (call : Ev.Call) (q7e2 : Hp → R1) (x3 x29 : AV) (g7 : AV → Hp → R1) (x30 : AV) (H : Hp) : R1 :=
  vq (intV (intBin .lss).f x30 x29) H fun a8 H =>
  cd a8 (
  cParts_j16 call g7 x3 x30 H) (
  q7e2 H)
noncomputable def cParts_l7 (call : Ev.Call) (q7e2 : Hp → R1) (x3 x29 : AV) (n : Nat) : AV → Hp → R1 :=
  Nat.rec (motive := fun _ => AV → Hp → R1) (fun _ _ => .bad) (fun _ ih => cParts_b7 call q7e2 x3 x29 ih) n
noncomputable def cParts_L7 (call : Ev.Call) (q7e2 : Hp → R1) (x3 x29 : AV) : AV → Hp → R1 := cParts_l7 call q7e2 x3 x29 fuelX
noncomputable def cParts_j17 (call : Ev.Call) (x1 x3 : AV) (H : Hp) : R1 :=
  vq (fieldP 0 x1) H fun a5 H =>
  vq (load1 H a5) H fun a6 H =>
  cParts_L7 call (fun H => cParts_j4 call x3 H) x3 a6 (.int .i64 (.ofNat 0)) H
noncomputable def cParts_j24 (call : Ev.Call) (g21 : AV → Hp → R1) (x10 : AV) (H : Hp) : R1 :=
  vq (intV (intBin .add).f x10 (.int .i64 (.ofNat 1))) H fun a23 H =>
  g21 a23 H
noncomputable def cParts_j44 (call : Ev.Call) (g21 : AV → Hp → R1) (x3 x8 x10 : AV) (H : Hp) : R1 :=
  vq (idxS 3 x8 x10) H fun a25 H =>
  vq (loadA 3 H a25) H fun a26 H =>
  vq (.new (.ptr H.nx 0) (mkBlk 0 [.int .i64 (.ofNat 0), .int .i64 (.ofNat 0), .bool false])) H fun a27 H =>
  ve (storeA 3 H a27 a26) fun _ H =>
  dz 14 H fun b29 H =>
  dq false false 0 0 (b29 + 0) H [] [] (fun _ => fieldP 0 a27) (some true) fun a30 H p w =>
  dq true false 1 1 (b29 + 1) H p w (fun H => load1 H a30) (some true) fun a31 H p w =>
  dq false false 2 0 (b29 + 2) H p w (fun _ => fieldP 0 a27) (some true) fun a32 H p w =>
  dq true false 3 4 (b29 + 3) H p w (fun H => load1 H a32) (some true) fun a33 H p w =>
  dq false false 4 0 (b29 + 4) H p w (fun _ => fieldP 0 x3) (some true) fun a34 H p w =>
  dq false false 5 28 (b29 + 5) H p w (fun _ => idxA 256 1 a34 a33) (some true) fun a35 H p w =>
  dq true false 6 60 (b29 + 6) H p w (fun H => load1 H a35) (some true) fun a36 H p w =>
  dq false false 7 0 (b29 + 7) H p w (fun _ => fieldP 1 a27) (some true) fun a37 H p w =>
  dq true false 8 128 (b29 + 8) H p w (fun H => load1 H a37) (some true) fun a38 H p w =>
  dq false true 9 384 (b29 + 9) H p w (fun _ => newSl 1 (b29 + 9) (setParts (reps [.int .i64 (.ofNat 0)] 1) [(0, 1, a38)])) (some true) fun a39 H p w =>
  dq false false 11 0 (b29 + 11) H p w (fun _ => fieldP 0 x3) (some true) fun a40 H p w =>
  de 1020 H p w (appendV 1 8 (viewH 1020 p H) a36 (srcOfC 1 (viewH 1020 p H) a39)) (some true) fun a41 H p w =>
  dq false false 12 4095 (b29 + 12) H p w (fun _ => idxA 256 1 a40 a31) (some true) fun a42 H p w =>
  de 8191 H p w (store1 (viewH 8191 p H) a42 a41) (some true) fun _ H p w =>
  dz2 p H fun H =>
  cParts_j24 call g21 x10 H
noncomputable def cParts_b21 (call : Ev.Call) (q21e0 : Hp → R1) (x3 x8 x9 : AV) (g21 : AV → Hp → R1) (x10 : AV) (H : Hp) : R1 :=
  vq (intV (intBin .lss).f x10 x9) H fun a22 H =>
  cd a22 (
  cParts_j44 call g21 x3 x8 x10 H) (
  q21e0 H)
noncomputable def cParts_l21 (call : Ev.Call) (q21e0 : Hp → R1) (x3 x8 x9 : AV) (n : Nat) : AV → Hp → R1 :=
  Nat.rec (motive := fun _ => AV → Hp → R1) (fun _ _ => .bad) (fun _ ih => cParts_b21 call q21e0 x3 x8 x9 ih) n
noncomputable def cParts_L21 (call : Ev.Call) (q21e0 : Hp → R1) (x3 x8 x9 : AV) : AV → Hp → R1 := cParts_l21 call q21e0 x3 x8 x9 fuelX
noncomputable def cParts_c (call : Ev.Call) (x0 : AV) (H : Hp) : R1 :=
  vq (boxA 2 H.nx x0) H fun a0 H =>
  vq (.new (.ptr H.nx 0) (mkBlk 0 (List.replicate 256 (.nilsl) ++ List.replicate 512 (.int .i64 (.ofNat 0)) ++ List.replicate 256 (.bool false) ++ [.nilsl] ++ [.int .i64 (.ofNat 0)] ++ [.nilsl]))) H fun a1 H =>
  vq (fieldP 1 a0) H fun a18 H =>
  vq (load1 H a18) H fun a19 H =>
  vq (lenSl a19) H fun a20 H =>
  cParts_L21 call (fun H => cParts_j17 call a0 a1 H) a1 a19 a20 (.int .i64 (.ofNat 0)) H
noncomputable def cParts (call : Ev.Call) (x0 : AV) (H : Hp) : R1 := cParts_c call x0 H
noncomputable def cRdy_j9 (call : Ev.Call) (x2 x3 x5 : AV) (H : Hp) : R1 :=
  .ok (.fn id_rdyB [] [x3, x2, x5]) H
noncomputable def cRdy_j15 (call : Ev.Call) (g12 : AV → Hp → R1) (x17 : AV) (H : Hp) : R1 :=
  vq (intV (intBin .add).f x17 (.int .i64 (.ofNat 1))) H fun a14 H =>
  g12 a14 H
noncomputable def cRdy_j22 (call : Ev.Call) (g19 : AV → Hp → R1) (x24 : AV) (H : Hp) : R1 :=
  vq (intV (intBin .add).f x24 (.int .i64 (.ofNat 1))) H fun a21 H =>
  g19 a21 H
noncomputable def cRdy_j28 (call : Ev.Call) (g19 : AV → Hp → R1) (x5 x6 x22 x24 : AV) (H : Hp) : R1 :=
  vq (idxS 1 x22 x24) H fun a23 H =>
  vq (load1 H a23) H fun a24 H =>
  vq (load1 H x5) H fun a25 H =>
  vq (idxS 1 a25 a24) H fun a26 H =>
  ve (store1 H a26 x6) fun _ H =>
  cRdy_j22 call g19 x24 H
noncomputable def cRdy_b19 (call : Ev.Call) (q19e2 : Hp → R1) (x5 x6 x22 x23 : AV) (g19 : AV → Hp → R1) (x24 : AV) (H : Hp) : R1 :=
  vq (intV (intBin .lss).f x24 x23) H fun a20 H =>
  cd a20 (
  cRdy_j28 call g19 x5 x6 x22 x24 H) (
  q19e2 H)
noncomputable def cRdy_l19 (call : Ev.Call) (q19e2 : Hp → R1) (x5 x6 x22 x23 : AV) (n : Nat) : AV → Hp → R1 :=
  Nat.rec (motive := fun _ => AV → Hp → R1) (fun _ _ => .bad) (fun _ ih => cRdy_b19 call q19e2 x5 x6 x22 x23 ih) n
noncomputable def cRdy_L19 (call : Ev.Call) (q19e2 : Hp → R1) (x5 x6 x22 x23 : AV) : AV → Hp → R1 := cRdy_l19 call q19e2 x5 x6 x22 x23 fuelX
noncomputable def cRdy_j29 (call : Ev.Call) (g12 : AV → Hp → R1) (x5 x15 x17 : AV) (H : Hp) : R1 :=
  vq (idxS 1 x15 x17) H fun a16 H =>
  vq (load1 H a16) H fun a17 H =>
  vq (lenSl a17) H fun a18 H =>
  cRdy_L19 call (fun H => cRdy_j15 call g12 x17 H) x5 x17 a17 a18 (.int .i64 (.ofNat 0)) H
noncomputable def cRdy_b12 (call : Ev.Call) (q12e0 : Hp → R1) (x5 x15 x16 : AV) (g12 : AV → Hp → R1) (x17 : AV) (H : Hp) : R1 :=
  vq (intV (intBin .lss).f x17 x16) H fun a13 H =>
  cd a13 (
  cRdy_j29 call g12 x5 x15 x17 H) (
  q12e0 H)
noncomputable def cRdy_l12 (call : Ev.Call) (q12e0 : Hp → R1) (x5 x15 x16 : AV) (n : Nat) : AV → Hp → R1 :=
  Nat.rec (motive := fun _ => AV → Hp → R1) (fun _ _ => .bad) (fun _ ih => cRdy_b12 call q12e0 x5 x15 x16 ih) n
noncomputable def cRdy_L12 (call : Ev.Call) (q12e0 : Hp → R1) (x5 x15 x16 : AV) : AV → Hp → R1 := cRdy_l12 call q12e0 x5 x15 x16 fuelX
noncomputable def cRdy_c (call : Ev.Call) (x0 x1 : AV) (H : Hp) : R1 :=
  vq (boxA 2 H.nx x0) H fun a0 H =>
  vq (box1 H.nx x1) H fun a1 H =>
  vq (load1 H a1) H fun a2 H =>
  ve (call (.f id_s_SortFunc) [a2, (.fn id_rdyA [] [])] H) fun a3 H =>
  vq (fieldP 0 a0) H fun a4 H =>
  vq (load1 H a4) H fun a5 H =>
  vq (makeSl [.int .i64 (.ofNat 0)] 8 H.nx a5 a5) H fun a6 H =>
  vq (.new (.ptr H.nx 0) (mkBlk 0 [.nilsl])) H fun a7 H =>
  ve (store1 H a7 a6) fun _ H =>
  vq (load1 H a1) H fun a10 H =>
  vq (lenSl a10) H fun a11 H =>
  cRdy_L12 call (fun H => cRdy_j9 call a0 a1 a7 H) a7 a10 a11 (.int .i64 (.ofNat 0)) H
noncomputable def cRdy (call : Ev.Call) (x0 x1 : AV) (H : Hp) : R1 := cRdy_c call x0 x1 H
noncomputable def sClp_c (call : Ev.Call) (x0 : AV) (H : Hp) : R1 :=
  vq (lenSl x0) H fun a0 H =>
  vq (lenSl x0) H fun a1 H =>
  vq (sliceSl 1 x0 none (some a0) (some a1)) H fun a2 H =>
  .ok a2 H
noncomputable def sClp (call : Ev.Call) (x0 : AV) (H : Hp) : R1 := sClp_c call x0 H
noncomputable def sClpS_c (call : Ev.Call) (x0 : AV) (H : Hp) : R1 :=
  vq (lenSl x0) H fun a0 H =>
  vq (lenSl x0) H fun a1 H =>
  vq (sliceSl 1 x0 none (some a0) (some a1)) H fun a2 H =>
  .ok a2 H
noncomputable def sClpS (call : Ev.Call) (x0 : AV) (H : Hp) : R1 := sClpS_c call x0 H
noncomputable def rDist_j7 (call : Ev.Call) (x3 : AV) (H : Hp) : R1 :=
  .ok x3 H
noncomputable def rDist_j10 (call : Ev.Call) (g8 : AV → Hp → R1) (x6 : AV) (H : Hp) : R1 :=
  vq (intV (intBin .add).f x6 (.int .i64 (.ofNat 1))) H fun a9 H =>
  g8 a9 H
noncomputable def rDist_j13 (call : Ev.Call) (g11 : AV → Hp → R1) (x7 : AV) (H : Hp) : R1 :=
  vq (intV (intBin .add).f x7 (.int .i64 (.ofNat 1))) H fun a12 H =>
  g11 a12 H
noncomputable def rDist_j16 (call : Ev.Call) (g14 : AV → Hp → R1) (x8 : AV) (H : Hp) : R1 :=
  vq (intV (intBin .add).f x8 (.int .i64 (.ofNat 1))) H fun a15 H =>
  g14 a15 H
noncomputable def rDist_j66 (call : Ev.Call) (g14 : AV → Hp → R1) (x1 x3 x6 x7 x8 : AV) (H : Hp) : R1 :=
  vl (fieldP 0 x1) fun a17 =>
  vl (load1 H a17) fun a18 =>
  vl (intV (intBin .mul).f x7 a18) fun a19 =>
  vl (intV (intBin .add).f a19 x6) fun a20 =>
  vl (idxS 1 x3 a20) fun a21 =>
  vl (load1 H a21) fun a22 =>
  vl (fieldP 0 x1) fun a23 =>
  vl (load1 H a23) fun a24 =>
  vl (intV (intBin .mul).f x6 a24) fun a25 =>
  vl (intV (intBin .add).f a25 x8) fun a26 =>
  vl (idxS 1 x3 a26) fun a27 =>
  vl (load1 H a27) fun a28 =>
  vq (intV (intBin .geq).f a22 (.int .i64 (.ofNat 0))) H fun a29 H =>
  vg (wantV true a29) (.val a28) H fun a30 H =>
  vg (wantV true a29) (intV (intBin .geq).f a30 (.int .i64 (.ofNat 0))) H fun a31 H =>
  vq (pickV a29 a31 (.bool false)) H fun a32 H =>
  vg (wantV true a32) (.val x3) H fun a33 H =>
  vg (wantV true a32) (.val x7) H fun a34 H =>
  vg (wantV true a32) (fieldP 0 x1) H fun a35 H =>
  vg (wantV true a32) (load1 H a35) H fun a36 H =>
  vg (wantV true a32) (intV (intBin .mul).f a34 a36) H fun a37 H =>
  vg (wantV true a32) (.val x8) H fun a38 H =>
  vg (wantV true a32) (intV (intBin .add).f a37 a38) H fun a39 H =>
  vg (wantV true a32) (idxS 1 a33 a39) H fun a40 H =>
  vg (wantV true a32) (load1 H a40) H fun a41 H =>
  vg (wantV true a32) (intV (intBin .lss).f a41 (.int .i64 (.ofNat 0))) H fun a42 H =>
  vg (wantV true a32) (.val a42) H fun a43 H =>
  vg (wantV false a43) (.val a22) H fun a44 H =>
  vg (wantV false a43) (.val a28) H fun a45 H =>
  vg (wantV false a43) (intV (intBin .add).f a44 a45) H fun a46 H =>
  vg (wantV false a43) (.val x3) H fun a47 H =>
  vg (wantV false a43) (.val x7) H fun a48 H =>
  vg (wantV false a43) (fieldP 0 x1) H fun a49 H =>
  vg (wantV false a43) (load1 H a49) H fun a50 H =>
  vg (wantV false a43) (intV (intBin .mul).f a48 a50) H fun a51 H =>
  vg (wantV false a43) (.val x8) H fun a52 H =>
  vg (wantV false a43) (intV (intBin .add).f a51 a52) H fun a53 H =>
  vg (wantV false a43) (idxS 1 a47 a53) H fun a54 H =>
  vg (wantV false a43) (load1 H a54) H fun a55 H =>
  vg (wantV false a43) (intV (intBin .lss).f a46 a55) H fun a56 H =>
  vg (wantV true a32) (pickV a43 (.bool true) a56) H fun a57 H =>
  vq (pickV a32 a57 (.bool false)) H fun a58 H =>
  cd a58 (
  vq (fieldP 0 x1) H fun a59 H =>
  vq (load1 H a59) H fun a60 H =>
  vq (intV (intBin .mul).f x7 a60) H fun a61 H =>
  vq (intV (intBin .add).f a61 x8) H fun a62 H =>
  vq (intV (intBin .add).f a22 a28) H fun a63 H =>
  vq (idxS 1 x3 a62) H fun a64 H =>
  ve (store1 H a64 a63) fun _ H =>
  rDist_j16 call g14 x8 H) (
  rDist_j16 call g14 x8 H)
noncomputable def rDist_b14 (call : Ev.Call) (q14e8 : Hp → R1) (x1 x3 x6 x7 : AV) (g14 : AV → Hp → R1) (x8 : AV) (H : Hp) : R1 :=
  vq (fieldP 0 x1) H fun a67 H =>
  vq (load1 H a67) H fun a68 H =>
  vq (intV (intBin .lss).f x8 a68) H fun a69 H =>
  cd a69 (
  rDist_j66 call g14 x1 x3 x6 x7 x8 H) (
  q14e8 H)
noncomputable def rDist_l14 (call : Ev.Call) (q14e8 : Hp → R1) (x1 x3 x6 x7 : AV) (n : Nat) : AV → Hp → R1 :=
  Nat.rec (motive := fun _ => AV → Hp → R1) (fun _ _ => .bad) (fun _ ih => rDist_b14 call q14e8 x1 x3 x6 x7 ih) n
noncomputable def rDist_L14 (call : Ev.Call) (q14e8 : Hp → R1) (x1 x3 x6 x7 : AV) : AV → Hp → R1 := rDist_l14 call q14e8 x1 x3 x6 x7 fuelX
noncomputable def rDist_j70 (call : Ev.Call) (g11 : AV → Hp → R1) (x1 x3 x6 x7 : AV) (H : Hp) : R1 :=
  rDist_L14 call (fun H => rDist_j13 call g11 x7 H) x1 x3 x6 x7 (.int .i64 (.ofNat 0)) H
noncomputable def rDist_b11 (call : Ev.Call) (q11e6 : Hp → R1) (x1 x3 x6 : AV) (g11 : AV → Hp → R1) (x7 : AV) (H : Hp) : R1 :=
  vq (fieldP 0 x1) H fun a71 H =>
  vq (load1 H a71) H fun a72 H =>
  vq (intV (intBin .lss).f x7 a72) H fun a73 H =>
  cd a73 (
  rDist_j70 call g11 x1 x3 x6 x7 H) (
  q11e6 H)
noncomputable def rDist_l11 (call : Ev.Call) (q11e6 : Hp → R1) (x1 x3 x6 : AV) (n : Nat) : AV → Hp → R1 :=
  Nat.rec (motive := fun _ => AV → Hp → R1) (fun _ _ => .bad) (fun _ ih => rDist_b11 call q11e6 x1 x3 x6 ih) n
noncomputable def rDist_L11 (call : Ev.Call) (q11e6 : Hp → R1) (x1 x3 x6 : AV) : AV → Hp → R1 := rDist_l11 call q11e6 x1 x3 x6 fuelX
noncomputable def rDist_j74 (call : Ev.Call) (g8 : AV → Hp → R1) (x1 x3 x6 : AV) (H : Hp) : R1 :=
  rDist_L11 call (fun H => rDist_j10 call g8 x6 H) x1 x3 x6 (.int .i64 (.ofNat 0)) H
noncomputable def rDist_b8 (call : Ev.Call) (q8e4 : Hp → R1) (x1 x3 : AV) (g8 : AV → Hp → R1) (x6 : AV) (H : Hp) : R1 :=
  vq (fieldP 0 x1) H fun a75 H =>
  vq (load1 H a75) H fun a76 H =>
  vq (intV (intBin .lss).f x6 a76) H fun a77 H =>
  cd a77 (
  rDist_j74 call g8 x1 x3 x6 H) (
  q8e4 H)
noncomputable def rDist_l8 (call : Ev.Call) (q8e4 : Hp → R1) (x1 x3 : AV) (n : Nat) : AV → Hp → R1 :=
  Nat.rec (motive := fun _ => AV → Hp → R1) (fun _ _ => .bad) (fun _ ih => rDist_b8 call q8e4 x1 x3 ih) n
noncomputable def rDist_L8 (call : Ev.Call) (q8e4 : Hp → R1) (x1 x3 : AV) : AV → Hp → R1 := rDist_l8 call q8e4 x1 x3 fuelX
noncomputable def rDist_j78 (call : Ev.Call) (x1 x3 : AV) (H : Hp) : R1 :=
  rDist_L8 call (fun H => rDist_j7 call x3 H) x1 x3 (.int .i64 (.ofNat 0)) H
noncomputable def rDist_j81 (call : Ev.Call) (g79 : AV → Hp → R1) (x5 : AV) (H : Hp) : R1 :=
  vq (intV (intBin .add).f x5 (.int .i64 (.ofNat 1))) H fun a80 H =>
  g79 a80 H
noncomputable def rDist_j88 (call : Ev.Call) (g79 : AV → Hp → R1) (x1 x3 x5 : AV) (H : Hp) : R1 :=
  vq (fieldP 0 x1) H fun a82 H =>
  vq (load1 H a82) H fun a83 H =>
  vq (intV (intBin .mul).f x5 a83) H fun a84 H =>
  vq (intV (intBin .add).f a84 x5) H fun a85 H =>
  vq (idxS 1 x3 a85) H fun a86 H =>
  ve (store1 H a86 (.int .i64 (.ofNat 0))) fun _ H =>
  rDist_j81 call g79 x5 H
noncomputable def rDist_b79 (call : Ev.Call) (q79e2 : Hp → R1) (x1 x3 : AV) (g79 : AV → Hp → R1) (x5 : AV) (H : Hp) : R1 :=
  vq (fieldP 0 x1) H fun a89 H =>
  vq (load1 H a89) H fun a90 H =>
  vq (intV (intBin .lss).f x5 a90) H fun a91 H =>
  cd a91 (
  rDist_j88 call g79 x1 x3 x5 H) (
  q79e2 H)
noncomputable def rDist_l79 (call : Ev.Call) (q79e2 : Hp → R1) (x1 x3 : AV) (n : Nat) : AV → Hp → R1 :=
  Nat.rec (motive := fun _ => AV → Hp → R1) (fun _ _ => .bad) (fun _ ih => rDist_b79 call q79e2 x1 x3 ih) n
noncomputable def rDist_L79 (call : Ev.Call) (q79e2 : Hp → R1) (x1 x3 : AV) : AV → Hp → R1 := rDist_l79 call q79e2 x1 x3 fuelX
noncomputable def rDist_j92 (call : Ev.Call) (x1 x3 : AV) (H : Hp) : R1 :=
  rDist_L79 call (fun H => rDist_j78 call x1 x3 H) x1 x3 (.int .i64 (.ofNat 0)) H
noncomputable def rDist_j95 (call : Ev.Call) (g93 : AV → Hp → R1) (x4 : AV) (H : Hp) : R1 :=
  vq (intV (intBin .add).f x4 (.int .i64 (.ofNat 1))) H fun a94 H =>
  g93 a94 H
noncomputable def rDist_j105 (call : Ev.Call) (g93 : AV → Hp → R1) (x1 x3 x4 : AV) (H : Hp) : R1 :=
  vq (idxS 1 x3 x4) H fun a96 H =>
  ve (store1 H a96 (.int .i64 (.negSucc 0))) fun _ H =>
  vq (fieldP 1 x1) H fun a98 H =>
  vq (load1 H a98) H fun a99 H =>
  vq (idxS 1 a99 x4) H fun a100 H =>
  vq (load1 H a100) H fun a101 H =>
  vq (intV (intBin .gtr).f a101 (.int .i64 (.ofNat 0))) H fun a102 H =>
  cd a102 (
  vq (idxS 1 x3 x4) H fun a103 H =>
  ve (store1 H a103 (.int .i64 (.ofNat 1))) fun _ H =>
  rDist_j95 call g93 x4 H) (
  rDist_j95 call g93 x4 H)
noncomputable def rDist_b93 (call : Ev.Call) (q93e0 : Hp → R1) (x1 x3 : AV) (g93 : AV → Hp → R1) (x4 : AV) (H : Hp) : R1 :=
  vq (lenSl x3) H fun a106 H =>
  vq (intV (intBin .lss).f x4 a106) H fun a107 H =>
  cd a107 (
  rDist_j105 call g93 x1 x3 x4 H) (
  q93e0 H)
noncomputable def rDist_l93 (call : Ev.Call) (q93e0 : Hp → R1) (x1 x3 : AV) (n : Nat) : AV → Hp → R1 :=
  Nat.rec (motive := fun _ => AV → Hp → R1) (fun _ _ => .bad) (fun _ ih => rDist_b93 call q93e0 x1 x3 ih) n
noncomputable def rDist_L93 (call : Ev.Call) (q93e0 : Hp → R1) (x1 x3 : AV) : AV → Hp → R1 := rDist_l93 call q93e0 x1 x3 fuelX
noncomputable def rDist_c (call : Ev.Call) (x0 : AV) (H : Hp) : R1 :=
  vq (boxA 2 H.nx x0) H fun a0 H =>
  vq (fieldP 0 a0) H fun a1 H =>
  vq (load1 H a1) H fun a2 H =>
  vq (fieldP 0 a0) H fun a3 H =>
  vq (load1 H a3) H fun a4 H =>
  vq (intV (intBin .mul).f a2 a4) H fun a5 H =>
  vq (makeSl [.int .i64 (.ofNat 0)] 8 H.nx a5 a5) H fun a6 H =>
  rDist_L93 call (fun H => rDist_j92 call a0 a6 H) a0 a6 (.int .i64 (.ofNat 0)) H
noncomputable def rDist (call : Ev.Call) (x0 : AV) (H : Hp) : R1 := rDist_c call x0 H
noncomputable def sCat_j1 (call : Ev.Call) (x6 : AV) (H : Hp) : R1 :=
  .ok x6 H
noncomputable def sCat_j6 (call : Ev.Call) (g3 : AV → AV → Hp → R1) (x6 x27 : AV) (H : Hp) : R1 :=
  vq (intV (intBin .add).f x27 (.int .i64 (.ofNat 1))) H fun a5 H =>
  g3 x6 a5 H
noncomputable def sCat_j10 (call : Ev.Call) (g3 : AV → AV → Hp → R1) (x6 x25 x27 : AV) (H : Hp) : R1 :=
  vq (idxS 1 x25 x27) H fun a7 H =>
  vq (load1 H a7) H fun a8 H =>
  ve (appendV 1 8 H x6 (srcOfC 1 H a8)) fun a9 H =>
  sCat_j6 call g3 a9 x27 H
noncomputable def sCat_b3 (call : Ev.Call) (q3e2 : AV → Hp → R1) (x25 x26 : AV) (g3 : AV → AV → Hp → R1) (x6 x27 : AV) (H : Hp) : R1 :=
  vq (intV (intBin .lss).f x27 x26) H fun a4 H =>
  cd a4 (
  sCat_j10 call g3 x6 x25 x27 H) (
  q3e2 x6 H)
noncomputable def sCat_l3 (call : Ev.Call) (q3e2 : AV → Hp → R1) (x25 x26 : AV) (n : Nat) : AV → AV → Hp → R1 :=
  Nat.rec (motive := fun _ => AV → AV → Hp → R1) (fun _ _ _ => .bad) (fun _ ih => sCat_b3 call q3e2 x25 x26 ih) n
noncomputable def sCat_L3 (call : Ev.Call) (q3e2 : AV → Hp → R1) (x25 x26 : AV) : AV → AV → Hp → R1 := sCat_l3 call q3e2 x25 x26 fuelX
noncomputable def sCat_j11 (call : Ev.Call) (x0 x3 : AV) (H : Hp) : R1 :=
  ve (call (.f id_sGrw) [(.nilsl), x3] H) fun a0 H =>
  vq (lenSl x0) H fun a2 H =>
  sCat_L3 call (fun x6 H => sCat_j1 call x6 H) x0 a2 a0 (.int .i64 (.ofNat 0)) H
noncomputable def sCat_j16 (call : Ev.Call) (g13 : AV → AV → Hp → R1) (x3 x11 : AV) (H : Hp) : R1 :=
  vq (intV (intBin .add).f x11 (.int .i64 (.ofNat 1))) H fun a15 H =>
  g13 x3 a15 H
noncomputable def sCat_j23 (call : Ev.Call) (g13 : AV → AV → Hp → R1) (x3 x9 x11 : AV) (H : Hp) : R1 :=
  vq (idxS 1 x9 x11) H fun a17 H =>
  vq (load1 H a17) H fun a18 H =>
  vq (lenSl a18) H fun a19 H =>
  vq (intV (intBin .add).f x3 a19) H fun a20 H =>
  vq (intV (intBin .lss).f a20 (.int .i64 (.ofNat 0))) H fun a21 H =>
  cd a21 (
  ve (.bad) fun _ H =>
  sCat_j16 call g13 a20 x11 H) (
  sCat_j16 call g13 a20 x11 H)
noncomputable def sCat_b13 (call : Ev.Call) (q13e0 : AV → Hp → R1) (x9 x10 : AV) (g13 : AV → AV → Hp → R1) (x3 x11 : AV) (H : Hp) : R1 :=
  vq (intV (intBin .lss).f x11 x10) H fun a14 H =>
  cd a14 (
  sCat_j23 call g13 x3 x9 x11 H) (
  q13e0 x3 H)
noncomputable def sCat_l13 (call : Ev.Call) (q13e0 : AV → Hp → R1) (x9 x10 : AV) (n : Nat) : AV → AV → Hp → R1 :=
  Nat.rec (motive := fun _ => AV → AV → Hp → R1) (fun _ _ _ => .bad) (fun _ ih => sCat_b13 call q13e0 x9 x10 ih) n
noncomputable def sCat_L13 (call : Ev.Call) (q13e0 : AV → Hp → R1) (x9 x10 : AV) : AV → AV → Hp → R1 := sCat_l13 call q13e0 x9 x10 fuelX
noncomputable def sCat_c (call : Ev.Call) (x0 : AV) (H : Hp) : R1 :=
  vq (lenSl x0) H fun a12 H =>
  sCat_L13 call (fun x3 H => sCat_j11 call x0 x3 H) x0 a12 (.int .i64 (.ofNat 0)) (.int .i64 (.ofNat 0)) H
noncomputable def sCat (call : Ev.Call) (x0 : AV) (H : Hp) : R1 := sCat_c call x0 H
noncomputable def rNew_c (call : Ev.Call) (x0 : AV) (H : Hp) : R1 :=
  vq (.new (.ptr H.nx 0) (mkBlk 0 [.int .i64 (.ofNat 0), .nilsl])) H fun a0 H =>
  vq (intV (intBin .mul).f x0 x0) H fun a1 H =>
  vq (makeSl [.int .i64 (.ofNat 0)] 8 H.nx a1 a1) H fun a2 H =>
  vq (aggN (setParts [.int .i64 (.ofNat 0), .nilsl] [(0, 1, x0), (1, 1, a2)])) H fun a3 H =>
  ve (storeA 2 H a0 a3) fun _ H =>
  finR (rV (loadA 2 H a0)) H
noncomputable def rNew (call : Ev.Call) (x0 : AV) (H : Hp) : R1 := rNew_c call x0 H
noncomputable def rPut_j23 (call : Ev.Call) (x1 x2 x4 x8 : AV) (H : Hp) : R1 :=
  vq (fieldP 1 x4) H fun a1 H =>
  vq (load1 H a1) H fun a2 H =>
  vq (fieldP 0 x4) H fun a3 H =>
  vq (load1 H a3) H fun a4 H =>
  vq (intV (intBin .mul).f x1 a4) H fun a5 H =>
  vq (intV (intBin .add).f a5 x2) H fun a6 H =>
  vq (idxS 1 a2 a6) H fun a7 H =>
  vq (load1 H a7) H fun a8 H =>
  vq (intV (intBin .quo).f a8 x8) H fun a9 H =>
  vq (intV (intBin .rem).f a9 (.int .i64 (.ofNat 2))) H fun a10 H =>
  vq (intV (intBin .eql).f a10 (.int .i64 (.ofNat 0))) H fun a11 H =>
  cd a11 (
  vq (fieldP 1 x4) H fun a12 H =>
  vq (load1 H a12) H fun a13 H =>
  vq (fieldP 0 x4) H fun a14 H =>
  vq (load1 H a14) H fun a15 H =>
  vq (intV (intBin .mul).f x1 a15) H fun a16 H =>
  vq (intV (intBin .add).f a16 x2) H fun a17 H =>
  vq (idxS 1 a13 a17) H fun a18 H =>
  vq (load1 H a18) H fun a19 H =>
  vq (intV (intBin .add).f a19 x8) H fun a20 H =>
  vq (idxS 1 a13 a17) H fun a21 H =>
  ve (store1 H a21 a20) fun _ H =>
  .ok (.tup []) H) (
  .ok (.tup []) H)
noncomputable def rPut_c (call : Ev.Call) (x0 x1 x2 x3 : AV) (H : Hp) : R1 :=
  vq (boxA 2 H.nx x0) H fun a0 H =>
  cd x3 (
  rPut_j23 call x1 x2 a0 (.int .i64 (.ofNat 2)) H) (
  rPut_j23 call x1 x2 a0 (.int .i64 (.ofNat 1)) H)
noncomputable def rPut (call : Ev.Call) (x0 x1 x2 x3 : AV) (H : Hp) : R1 := rPut_c call x0 x1 x2 x3 H
noncomputable def gCmp_c (call : Ev.Call) (x0 x1 : AV) (H : Hp) : R1 :=
  vq (boxA 3 H.nx x0) H fun a0 H =>
  vq (boxA 3 H.nx x1) H fun a1 H =>
  dz 18 H fun b2 H =>
  dq false false 0 0 (b2 + 0) H [] [] (fun _ => fieldP 0 a0) (some true) fun a3 H p w =>
  dq true false 1 1 (b2 + 1) H p w (fun H => load1 H a3) (some true) fun a4 H p w =>
  dq false false 2 0 (b2 + 2) H p w (fun _ => fieldP 0 a1) (some true) fun a5 H p w =>
  dq true false 3 4 (b2 + 3) H p w (fun H => load1 H a5) (some true) fun a6 H p w =>
  dq false false 5 0 (b2 + 5) H p w (fun _ => fieldP 1 a0) (some true) fun a7 H p w =>
  dq true false 6 32 (b2 + 6) H p w (fun H => load1 H a7) (some true) fun a8 H p w =>
  dq false false 7 0 (b2 + 7) H p w (fun _ => fieldP 1 a1) (some true) fun a9 H p w =>
  dq true false 8 128 (b2 + 8) H p w (fun H => load1 H a9) (some true) fun a10 H p w =>
  dq true false 10 0 (b2 + 10) H p w (fun H => loadA 3 H a0) (some true) fun a11 H p w =>
  dq true false 12 0 (b2 + 12) H p w (fun H => loadA 3 H a1) (some true) fun a12 H p w =>
  de 15 H p w (call (.f id_cCmp) [a4, a6] (viewH 15 p H)) (some true) fun a13 H p w =>
  de 511 H p w (call (.f id_cCmp) [a8, a10] (viewH 511 p H)) (some true) fun a14 H p w =>
  de 2047 H p w (call (.f id_gSgn) [a11] (viewH 2047 p H)) (some true) fun a15 H p w =>
  de 8191 H p w (call (.f id_gSgn) [a12] (viewH 8191 p H)) (some true) fun a16 H p w =>
  de 16383 H p w (call (.f id_cCmp) [a15, a16] (viewH 16383 p H)) (some true) fun a17 H p w =>
  dq false true 15 32767 (b2 + 15) H p w (fun _ => newSl 3 (b2 + 15) (setParts (reps [.int .i64 (.ofNat 0)] 3) [(0, 1, a13), (1, 1, a14), (2, 1, a17)])) (some true) fun a18 H p w =>
  de 65535 H p w (call (.f id_cOr) [a18] (viewH 65535 p H)) (some true) fun a19 H p w =>
  dq false false 17 131071 (b2 + 17) H p w (fun _ => .val a19) (some true) fun a20 H p w =>
  dz2 p H fun H =>
  .ok a20 H
noncomputable def gCmp (call : Ev.Call) (x0 x1 : AV) (H : Hp) : R1 := gCmp_c call x0 x1 H
noncomputable def cWalk_j41 (call : Ev.Call) (g3 : AV → Hp → R1) (x0 x4 x5 : AV) (H : Hp) : R1 :=
  vq (nilC x5) H fun a7 H =>
  vq (fieldP 0 a7) H fun a8 H =>
  vq (load1 H a8) H fun a9 H =>
  ve (call (.f id_cLeave) [x0, a9] H) fun a10 H =>
  vq (lenSl x4) H fun a11 H =>
  vq (intV (intBin .sub).f a11 (.int .i64 (.ofNat 1))) H fun a12 H =>
  vq (sliceSl 2 x4 none (some a12) none) H fun a13 H =>
  vq (lenSl a13) H fun a14 H =>
  vq (intV (intBin .gtr).f a14 (.int .i64 (.ofNat 0))) H fun a15 H =>
  cd a15 (
  vq (lenSl a13) H fun a16 H =>
  vq (intV (intBin .sub).f a16 (.int .i64 (.ofNat 1))) H fun a17 H =>
  vq (idxS 2 a13 a17) H fun a18 H =>
  vq (fieldP 0 a18) H fun a19 H =>
  vq (load1 H a19) H fun a20 H =>
  dz 0 H fun b21 H =>
  dq false false 0 0 (b21 + 0) H [] [] (fun _ => .val x0) (some true) fun a22 H p w =>
  dq false false 1 0 (b21 + 1) H p w (fun _ => .val a20) (some true) fun a23 H p w =>
  dq false false 2 0 (b21 + 2) H p w (fun _ => .val x0) (some true) fun a24 H p w =>
  dq false false 3 0 (b21 + 3) H p w (fun _ => .val a20) (some true) fun a25 H p w =>
  dq false false 4 4 (b21 + 4) H p w (fun _ => nilC a24) (some true) fun a26 H p w =>
  dq false false 5 20 (b21 + 5) H p w (fun _ => fieldP 512 a26) (some true) fun a27 H p w =>
  dq false false 6 60 (b21 + 6) H p w (fun _ => idxA 256 1 a27 a25) (some true) fun a28 H p w =>
  dq true false 7 124 (b21 + 7) H p w (fun H => load1 H a28) (some true) fun a29 H p w =>
  dq false false 8 0 (b21 + 8) H p w (fun _ => .val x0) (some true) fun a30 H p w =>
  dq false false 9 0 (b21 + 9) H p w (fun _ => .val a9) (some true) fun a31 H p w =>
  dq false false 10 256 (b21 + 10) H p w (fun _ => nilC a30) (some true) fun a32 H p w =>
  dq false false 11 1280 (b21 + 11) H p w (fun _ => fieldP 512 a32) (some true) fun a33 H p w =>
  dq false false 12 3840 (b21 + 12) H p w (fun _ => idxA 256 1 a33 a31) (some true) fun a34 H p w =>
  dq true false 13 7936 (b21 + 13) H p w (fun H => load1 H a34) (some true) fun a35 H p w =>
  dq false false 14 16380 (b21 + 14) H p w (fun _ => foldV minV a29 [a35]) (some true) fun a36 H p w =>
  dq false false 15 1 (b21 + 15) H p w (fun _ => nilC a22) (some true) fun a37 H p w =>
  dq false false 16 32769 (b21 + 16) H p w (fun _ => fieldP 512 a37) (some true) fun a38 H p w =>
  dq false false 17 131071 (b21 + 17) H p w (fun _ => idxA 256 1 a38 a23) (some true) fun a39 H p w =>
  de 262143 H p w (store1 (viewH 262143 p H) a39 a36) (some true) fun _ H p w =>
  dz2 p H fun H =>
  g3 a13 H) (
  g3 a13 H)
noncomputable def cWalk_j92 (call : Ev.Call) (g42 : AV → Hp → R1) (x0 x4 x5 x6 : AV) (H : Hp) : R1 :=
  vq (nilC x0) H fun a62 H =>
  vq (fieldP 768 a62) H fun a63 H =>
  vq (idxA 256 1 a63 x6) H fun a64 H =>
  vq (load1 H a64) H fun a65 H =>
  cd a65 (
  dz 0 H fun b66 H =>
  dq false false 0 0 (b66 + 0) H [] [] (fun _ => .val x0) (some true) fun a67 H p w =>
  dq false false 1 0 (b66 + 1) H p w (fun _ => .val x5) (some true) fun a68 H p w =>
  dq false false 2 2 (b66 + 2) H p w (fun _ => nilC a68) (some true) fun a69 H p w =>
  dq false false 3 6 (b66 + 3) H p w (fun _ => fieldP 0 a69) (some true) fun a70 H p w =>
  dq true false 4 14 (b66 + 4) H p w (fun H => load1 H a70) (some true) fun a71 H p w =>
  dq false false 5 0 (b66 + 5) H p w (fun _ => .val x0) (some true) fun a72 H p w =>
  dq false false 6 0 (b66 + 6) H p w (fun _ => .val x5) (some true) fun a73 H p w =>
  dq false false 7 64 (b66 + 7) H p w (fun _ => nilC a73) (some true) fun a74 H p w =>
  dq false false 8 192 (b66 + 8) H p w (fun _ => fieldP 0 a74) (some true) fun a75 H p w =>
  dq true false 9 448 (b66 + 9) H p w (fun H => load1 H a75) (some true) fun a76 H p w =>
  dq false false 10 32 (b66 + 10) H p w (fun _ => nilC a72) (some true) fun a77 H p w =>
  dq false false 11 1056 (b66 + 11) H p w (fun _ => fieldP 512 a77) (some true) fun a78 H p w =>
  dq false false 12 4064 (b66 + 12) H p w (fun _ => idxA 256 1 a78 a76) (some true) fun a79 H p w =>
  dq true false 13 8160 (b66 + 13) H p w (fun H => load1 H a79) (some true) fun a80 H p w =>
  dq false false 14 0 (b66 + 14) H p w (fun _ => .val x0) (some true) fun a81 H p w =>
  dq false false 15 0 (b66 + 15) H p w (fun _ => .val x6) (some true) fun a82 H p w =>
  dq false false 16 16384 (b66 + 16) H p w (fun _ => nilC a81) (some true) fun a83 H p w =>
  dq false false 17 81920 (b66 + 17) H p w (fun _ => fieldP 256 a83) (some true) fun a84 H p w =>
  dq false false 18 245760 (b66 + 18) H p w (fun _ => idxA 256 1 a84 a82) (some true) fun a85 H p w =>
  dq true false 19 507904 (b66 + 19) H p w (fun H => load1 H a85) (some true) fun a86 H p w =>
  dq false false 20 1048544 (b66 + 20) H p w (fun _ => foldV minV a80 [a86]) (some true) fun a87 H p w =>
  dq false false 21 1 (b66 + 21) H p w (fun _ => nilC a67) (some true) fun a88 H p w =>
  dq false false 22 2097153 (b66 + 22) H p w (fun _ => fieldP 512 a88) (some true) fun a89 H p w =>
  dq false false 23 8388607 (b66 + 23) H p w (fun _ => idxA 256 1 a89 a71) (some true) fun a90 H p w =>
  de 16777215 H p w (store1 (viewH 16777215 p H) a90 a87) (some true) fun _ H p w =>
  dz2 p H fun H =>
  g42 x4 H) (
  g42 x4 H)
noncomputable def cWalk_j102 (call : Ev.Call) (q42e1 : AV → Hp → R1) (g42 : AV → Hp → R1) (x0 x4 x5 : AV) (H : Hp) : R1 :=
  vl (nilC x5) fun a43 =>
  vl (fieldP 0 a43) fun a44 =>
  vl (load1 H a44) fun a45 =>
  vl (nilC x0) fun a46 =>
  vl (fieldP 0 a46) fun a47 =>
  vl (idxA 256 1 a47 a45) fun a48 =>
  vl (load1 H a48) fun a49 =>
  vl (nilC x5) fun a50 =>
  vl (fieldP 1 a50) fun a51 =>
  vl (load1 H a51) fun a52 =>
  vl (idxS 1 a49 a52) fun a53 =>
  vl (load1 H a53) fun a54 =>
  vq (nilC x5) H fun a55 H =>
  vq (fieldP 1 a55) H fun a56 H =>
  vq (load1 H a56) H fun a57 H =>
  vq (intV (intBin .add).f a57 (.int .i64 (.ofNat 1))) H fun a58 H =>
  vq (nilC x5) H fun a59 H =>
  vq (fieldP 1 a59) H fun a60 H =>
  ve (store1 H a60 a58) fun _ H =>
  vq (nilC x0) H fun a93 H =>
  vq (fieldP 256 a93) H fun a94 H =>
  vq (idxA 256 1 a94 a54) H fun a95 H =>
  vq (load1 H a95) H fun a96 H =>
  vq (intV (intBin .eql).f a96 (.int .i64 (.ofNat 0))) H fun a97 H =>
  cd a97 (
  ve (call (.f id_cEnter) [x0, a54] H) fun a98 H =>
  vq (aggN (setParts [.int .i64 (.ofNat 0), .int .i64 (.ofNat 0)] [(0, 1, a54), (1, 1, (.int .i64 (.ofNat 0)))])) H fun a99 H =>
  vq (newSl 1 H.nx (setParts (reps [.int .i64 (.ofNat 0), .int .i64 (.ofNat 0)] 1) [(0, 2, a99)])) H fun a100 H =>
  ve (appendV 2 16 H x4 (srcOfC 2 H a100)) fun a101 H =>
  q42e1 a101 H) (
  cWalk_j92 call g42 x0 x4 x5 a54 H)
noncomputable def cWalk_b42 (call : Ev.Call) (q42e1 : AV → Hp → R1) (q42e2 : AV → Hp → R1) (x0 x5 : AV) (g42 : AV → Hp → R1) (x4 : AV) (H : Hp) : R1 :=
  vl (nilC x5) fun a103 =>
  vl (fieldP 1 a103) fun a104 =>
  vl (load1 H a104) fun a105 =>
  vl (nilC x5) fun a106 =>
  vl (fieldP 0 a106) fun a107 =>
  vl (load1 H a107) fun a108 =>
  vl (nilC x0) fun a109 =>
  vl (fieldP 0 a109) fun a110 =>
  vl (idxA 256 1 a110 a108) fun a111 =>
  vl (load1 H a111) fun a112 =>
  vl (lenSl a112) fun a113 =>
  vl (intV (intBin .lss).f a105 a113) fun a114 =>
  cd a114 (
  cWalk_j102 call q42e1 g42 x0 x4 x5 H) (
  q42e2 x4 H)
noncomputable def cWalk_l42 (call : Ev.Call) (q42e1 : AV → Hp → R1) (q42e2 : AV → Hp → R1) (x0 x5 : AV) (n : Nat) : AV → Hp → R1 :=
  Nat.rec (motive := fun _ => AV → Hp → R1) (fun _ _ => .bad) (fun _ ih => cWalk_b42 call q42e1 q42e2 x0 x5 ih) n
noncomputable def cWalk_L42 (call : Ev.Call) (q42e1 : AV → Hp → R1) (q42e2 : AV → Hp → R1) (x0 x5 : AV) : AV → Hp → R1 := cWalk_l42 call q42e1 q42e2 x0 x5 fuelX
noncomputable def cWalk_j115 (call : Ev.Call) (g3 : AV → Hp → R1) (x0 x4 : AV) (H : Hp) : R1 :=
  vq (lenSl x4) H fun a4 H =>
  vq (intV (intBin .sub).f a4 (.int .i64 (.ofNat 1))) H fun a5 H =>
  vq (idxS 2 x4 a5) H fun a6 H =>
  cWalk_L42 call (fun x4 H => g3 x4 H) (fun x4 H => cWalk_j41 call g3 x0 x4 a6 H) x0 a6 x4 H
noncomputable def cWalk_b3 (call : Ev.Call) (q3e0 : Hp → R1) (x0 : AV) (g3 : AV → Hp → R1) (x4 : AV) (H : Hp) : R1 :=
  vq (lenSl x4) H fun a116 H =>
  vq (intV (intBin .gtr).f a116 (.int .i64 (.ofNat 0))) H fun a117 H =>
  cd a117 (
  cWalk_j115 call g3 x0 x4 H) (
  q3e0 H)
noncomputable def cWalk_l3 (call : Ev.Call) (q3e0 : Hp → R1) (x0 : AV) (n : Nat) : AV → Hp → R1 :=
  Nat.rec (motive := fun _ => AV → Hp → R1) (fun _ _ => .bad) (fun _ ih => cWalk_b3 call q3e0 x0 ih) n
noncomputable def cWalk_L3 (call : Ev.Call) (q3e0 : Hp → R1) (x0 : AV) : AV → Hp → R1 := cWalk_l3 call q3e0 x0 fuelX
noncomputable def cWalk_j118 (call : Ev.Call) (x0 x4 : AV) (H : Hp) : R1 :=
  cWalk_L3 call (fun H => .ok (.tup []) H) x0 x4 H
noncomputable def cWalk_c (call : Ev.Call) (x0 x1 : AV) (H : Hp) : R1 :=
  ve (call (.f id_cEnter) [x0, x1] H) fun a0 H =>
  vq (aggN (setParts [.int .i64 (.ofNat 0), .int .i64 (.ofNat 0)] [(0, 1, x1), (1, 1, (.int .i64 (.ofNat 0)))])) H fun a1 H =>
  vq (newSl 1 H.nx (setParts (reps [.int .i64 (.ofNat 0), .int .i64 (.ofNat 0)] 1) [(0, 2, a1)])) H fun a2 H =>
  cWalk_j118 call x0 a2 H
noncomputable def cWalk (call : Ev.Call) (x0 x1 : AV) (H : Hp) : R1 := cWalk_c call x0 x1 H
noncomputable def rdyA_c (call : Ev.Call) (x0 x1 : AV) (H : Hp) : R1 :=
  vl (idxS 1 x0 (.int .i64 (.ofNat 0))) fun a0 =>
  vl (load1 H a0) fun a1 =>
  vl (idxS 1 x1 (.int .i64 (.ofNat 0))) fun a2 =>
  vl (load1 H a2) fun a3 =>
  vl (intV (intBin .sub).f a1 a3) fun a4 =>
  .ok a4 H
noncomputable def rdyA (call : Ev.Call) (x0 x1 : AV) (H : Hp) : R1 := rdyA_c call x0 x1 H
noncomputable def rdyB_j8 (call : Ev.Call) (g5 : AV → Hp → R1) (x17 : AV) (H : Hp) : R1 :=
  vq (intV (intBin .add).f x17 (.int .i64 (.ofNat 1))) H fun a7 H =>
  g5 a7 H
noncomputable def rdyB_j17 (call : Ev.Call) (g14 : AV → Hp → R1) (x55 : AV) (H : Hp) : R1 :=
  vq (intV (intBin .add).f x55 (.int .i64 (.ofNat 1))) H fun a16 H =>
  g14 a16 H
noncomputable def rdyB_j34 (call : Ev.Call) (q14r : Hp → R1) (q14e4 : Hp → R1) (g14 : AV → Hp → R1) (x0 x1 x5 x6 x55 : AV) (H : Hp) : R1 :=
  vq (idxS 1 x5 x55) H fun a18 H =>
  vq (load1 H a18) H fun a19 H =>
  vq ((unS .not).f a19) H fun a20 H =>
  vg (wantV true a20) (.val x6) H fun a21 H =>
  vg (wantV true a20) (.val x55) H fun a22 H =>
  vg (wantV true a20) (idxS 1 a21 a22) H fun a23 H =>
  vg (wantV true a20) (load1 H a23) H fun a24 H =>
  vg (wantV true a20) ((unS .not).f a24) H fun a25 H =>
  vq (pickV a20 a25 (.bool false)) H fun a26 H =>
  cd a26 (
  vq (idxS 1 x5 x55) H fun a27 H =>
  ve (store1 H a27 (.bool true)) fun _ H =>
  vq (load1 H x1) H fun a29 H =>
  vq (idxS 1 a29 x55) H fun a30 H =>
  vq (load1 H a30) H fun a31 H =>
  ve (callV call x0 [a31] H) fun a32 H =>
  vq ((unS .not).f a32) H fun a33 H =>
  cd a33 (
  q14r H) (
  q14e4 H)) (
  rdyB_j17 call g14 x55 H)
noncomputable def rdyB_b14 (call : Ev.Call) (q14r : Hp → R1) (q14e4 : Hp → R1) (x0 x1 x5 x6 x54 : AV) (g14 : AV → Hp → R1) (x55 : AV) (H : Hp) : R1 :=
  vq (intV (intBin .lss).f x55 x54) H fun a15 H =>
  cd a15 (
  rdyB_j34 call q14r q14e4 g14 x0 x1 x5 x6 x55 H) (
  q14e4 H)
noncomputable def rdyB_l14 (call : Ev.Call) (q14r : Hp → R1) (q14e4 : Hp → R1) (x0 x1 x5 x6 x54 : AV) (n : Nat) : AV → Hp → R1 :=
  Nat.rec (motive := fun _ => AV → Hp → R1) (fun _ _ => .bad) (fun _ ih => rdyB_b14 call q14r q14e4 x0 x1 x5 x6 x54 ih) n
noncomputable def rdyB_L14 (call : Ev.Call) (q14r : Hp → R1) (q14e4 : Hp → R1) (x0 x1 x5 x6 x54 : AV) : AV → Hp → R1 := rdyB_l14 call q14r q14e4 x0 x1 x5 x6 x54 fuelX
noncomputable def rdyB_j35 (call : Ev.Call) (q5r : Hp → R1) (g5 : AV → Hp → R1) (x0 x1 x5 x6 x17 : AV) (H : Hp) : R1 :=
  vq (load1 H x1) H fun a12 H =>
  vq (lenSl a12) H fun a13 H =>
  rdyB_L14 call (fun H => q5r H) (fun H => rdyB_j8 call g5 x17 H) x0 x1 x5 x6 a13 (.int .i64 (.ofNat 0)) H
noncomputable def rdyB_j42 (call : Ev.Call) (g39 : AV → Hp → R1) (x25 : AV) (H : Hp) : R1 :=
  vq (intV (intBin .add).f x25 (.int .i64 (.ofNat 1))) H fun a41 H =>
  g39 a41 H
noncomputable def rdyB_j66 (call : Ev.Call) (g39 : AV → Hp → R1) (x3 x5 x6 x23 x25 : AV) (H : Hp) : R1 :=
  vq (idxS 3 x23 x25) H fun a43 H =>
  vq (loadA 3 H a43) H fun a44 H =>
  vq (.new (.ptr H.nx 0) (mkBlk 0 [.int .i64 (.ofNat 0), .int .i64 (.ofNat 0), .bool false])) H fun a45 H =>
  ve (storeA 3 H a45 a44) fun _ H =>
  vl (load1 H x3) fun a47 =>
  vl (fieldP 0 a45) fun a48 =>
  vl (load1 H a48) fun a49 =>
  vl (idxS 1 a47 a49) fun a50 =>
  vl (load1 H a50) fun a51 =>
  vl (load1 H x3) fun a52 =>
  vl (fieldP 1 a45) fun a53 =>
  vl (load1 H a53) fun a54 =>
  vl (idxS 1 a52 a54) fun a55 =>
  vl (load1 H a55) fun a56 =>
  vq (intV (intBin .neq).f a51 a56) H fun a57 H =>
  vg (wantV true a57) (.val x5) H fun a58 H =>
  vg (wantV true a57) (.val a56) H fun a59 H =>
  vg (wantV true a57) (idxS 1 a58 a59) H fun a60 H =>
  vg (wantV true a57) (load1 H a60) H fun a61 H =>
  vg (wantV true a57) ((unS .not).f a61) H fun a62 H =>
  vq (pickV a57 a62 (.bool false)) H fun a63 H =>
  cd a63 (
  vq (idxS 1 x6 a51) H fun a64 H =>
  ve (store1 H a64 (.bool true)) fun _ H =>
  rdyB_j42 call g39 x25 H) (
  rdyB_j42 call g39 x25 H)
noncomputable def rdyB_b39 (call : Ev.Call) (q39e2 : Hp → R1) (x3 x5 x6 x23 x24 : AV) (g39 : AV → Hp → R1) (x25 : AV) (H : Hp) : R1 :=
  vq (intV (intBin .lss).f x25 x24) H fun a40 H =>
  cd a40 (
  rdyB_j66 call g39 x3 x5 x6 x23 x25 H) (
  q39e2 H)
noncomputable def rdyB_l39 (call : Ev.Call) (q39e2 : Hp → R1) (x3 x5 x6 x23 x24 : AV) (n : Nat) : AV → Hp → R1 :=
  Nat.rec (motive := fun _ => AV → Hp → R1) (fun _ _ => .bad) (fun _ ih => rdyB_b39 call q39e2 x3 x5 x6 x23 x24 ih) n
noncomputable def rdyB_L39 (call : Ev.Call) (q39e2 : Hp → R1) (x3 x5 x6 x23 x24 : AV) : AV → Hp → R1 := rdyB_l39 call q39e2 x3 x5 x6 x23 x24 fuelX
noncomputable def rdyB_j67 (call : Ev.Call) (q5r : Hp → R1) (g5 : AV → Hp → R1) (x0 x1 x2 x3 x5 x17 : AV) (H : Hp) : R1 :=
  vq (load1 H x1) H fun a9 H =>
  vq (lenSl a9) H fun a10 H =>
  vq (makeSl [.bool false] 1 H.nx a10 a10) H fun a11 H =>
  vq (fieldP 1 x2) H fun a36 H =>
  vq (load1 H a36) H fun a37 H =>
  vq (lenSl a37) H fun a38 H =>
  rdyB_L39 call (fun H => rdyB_j35 call q5r g5 x0 x1 x5 a11 x17 H) x3 x5 a11 a37 a38 (.int .i64 (.ofNat 0)) H
noncomputable def rdyB_b5 (call : Ev.Call) (q5r : Hp → R1) (q5e0 : Hp → R1) (x0 x1 x2 x3 x5 x16 : AV) (g5 : AV → Hp → R1) (x17 : AV) (H : Hp) : R1 :=
  vq (intV (intBin .lss).f x17 x16) H fun a6 H =>
  cd a6 (
  rdyB_j67 call q5r g5 x0 x1 x2 x3 x5 x17 H) (
  q5e0 H)
noncomputable def rdyB_l5 (call : Ev.Call) (q5r : Hp → R1) (q5e0 : Hp → R1) (x0 x1 x2 x3 x5 x16 : AV) (n : Nat) : AV → Hp → R1 :=
  Nat.rec (motive := fun _ => AV → Hp → R1) (fun _ _ => .bad) (fun _ ih => rdyB_b5 call q5r q5e0 x0 x1 x2 x3 x5 x16 ih) n
noncomputable def rdyB_L5 (call : Ev.Call) (q5r : Hp → R1) (q5e0 : Hp → R1) (x0 x1 x2 x3 x5 x16 : AV) : AV → Hp → R1 := rdyB_l5 call q5r q5e0 x0 x1 x2 x3 x5 x16 fuelX
noncomputable def rdyB_c (call : Ev.Call) (x0 x1 x2 x3 : AV) (H : Hp) : R1 :=
  vq (load1 H x1) H fun a0 H =>
  vq (lenSl a0) H fun a1 H =>
  vq (makeSl [.bool false] 1 H.nx a1 a1) H fun a2 H =>
  vq (load1 H x1) H fun a3 H =>
  vq (lenSl a3) H fun a4 H =>
  rdyB_L5 call (fun H => .ok (.tup []) H) (fun H => .ok (.tup []) H) x0 x1 x2 x3 a2 a4 (.int .i64 (.ofNat 0)) H
noncomputable def rdyB (call : Ev.Call) (x0 x1 x2 x3 : AV) (H : Hp) : R1 := rdyB_c call x0 x1 x2 x3 H
noncomputable def sGrw_j0 (call : Ev.Call) (x0 : AV) (H : Hp) : R1 :=
  .ok x0 H
noncomputable def sGrw_j11 (call : Ev.Call) (x0 x1 : AV) (H : Hp) : R1 :=
  vq (capV x0) H fun a1 H =>
  vq (lenSl x0) H fun a2 H =>
  vq (intV (intBin .sub).f a1 a2) H fun a3 H =>
  vq (intV (intBin .sub).f x1 a3) H fun a4 H =>
  vq (intV (intBin .gtr).f a4 (.int .i64 (.ofNat 0))) H fun a5 H =>
  cd a5 (
  vq (capV x0) H fun a6 H =>
  vq (sliceSl 1 x0 none (some a6) none) H fun a7 H =>
  ve (appendV 1 8 H a7 (zerosOf 8 [.int .i64 (.ofNat 0)] a4)) fun a8 H =>
  vq (lenSl x0) H fun a9 H =>
  vq (sliceSl 1 a8 none (some a9) none) H fun a10 H =>
  sGrw_j0 call a10 H) (
  sGrw_j0 call x0 H)
noncomputable def sGrw_c (call : Ev.Call) (x0 x1 : AV) (H : Hp) : R1 :=
  vq (intV (intBin .lss).f x1 (.int .i64 (.ofNat 0))) H fun a12 H =>
  cd a12 (
  ve (.bad) fun _ H =>
  sGrw_j11 call x0 x1 H) (
  sGrw_j11 call x0 x1 H)
noncomputable def sGrw (call : Ev.Call) (x0 x1 : AV) (H : Hp) : R1 := sGrw_c call x0 x1 H
noncomputable def cCmp_j2 (call : Ev.Call) (H : Hp) : R1 :=
  .ok (.int .i64 (.ofNat 0)) H
noncomputable def cCmp_j4 (call : Ev.Call) (x0 x1 : AV) (H : Hp) : R1 :=
  vq (intV (intBin .gtr).f x0 x1) H fun a3 H =>
  cd a3 (
  .ok (.int .i64 (.ofNat 1)) H) (
  cCmp_j2 call H)
noncomputable def cCmp_j6 (call : Ev.Call) (x0 x1 : AV) (H : Hp) : R1 :=
  vq (intV (intBin .lss).f x0 x1) H fun a5 H =>
  cd a5 (
  .ok (.int .i64 (.negSucc 0)) H) (
  cCmp_j4 call x0 x1 H)
noncomputable def cCmp_j7 (call : Ev.Call) (x0 x1 x6 : AV) (H : Hp) : R1 :=
  cd x6 (
  .ok (.int .i64 (.ofNat 1)) H) (
  cCmp_j6 call x0 x1 H)
noncomputable def cCmp_j8 (call : Ev.Call) (H : Hp) : R1 :=
  .ok (.int .i64 (.negSucc 0)) H
noncomputable def cCmp_c (call : Ev.Call) (x0 x1 : AV) (H : Hp) : R1 :=
  ve (call (.f id_cNaN) [x0] H) fun a0 H =>
  ve (call (.f id_cNaN) [x1] H) fun a1 H =>
  cd a0 (
  cd a1 (
  .ok (.int .i64 (.ofNat 0)) H) (
  cCmp_j8 call H)) (
  cCmp_j7 call x0 x1 a1 H)
noncomputable def cCmp (call : Ev.Call) (x0 x1 : AV) (H : Hp) : R1 := cCmp_c call x0 x1 H
noncomputable def gSgn_j1 (call : Ev.Call) (H : Hp) : R1 :=
  .ok (.int .i64 (.ofNat 0)) H
noncomputable def gSgn_c (call : Ev.Call) (x0 : AV) (H : Hp) : R1 :=
  vq (boxA 3 H.nx x0) H fun a0 H =>
  vq (fieldP 2 a0) H fun a2 H =>
  vq (load1 H a2) H fun a3 H =>
  cd a3 (
  .ok (.int .i64 (.ofNat 1)) H) (
  gSgn_j1 call H)
noncomputable def gSgn (call : Ev.Call) (x0 : AV) (H : Hp) : R1 := gSgn_c call x0 H
noncomputable def cOr_j0 (call : Ev.Call) (x3 : AV) (H : Hp) : R1 :=
  .ok x3 H
noncomputable def cOr_j5 (call : Ev.Call) (g2 : AV → Hp → R1) (x8 : AV) (H : Hp) : R1 :=
  vq (intV (intBin .add).f x8 (.int .i64 (.ofNat 1))) H fun a4 H =>
  g2 a4 H
noncomputable def cOr_j9 (call : Ev.Call) (q2r : AV → Hp → R1) (g2 : AV → Hp → R1) (x3 x6 x8 : AV) (H : Hp) : R1 :=
  vq (idxS 1 x6 x8) H fun a6 H =>
  vq (load1 H a6) H fun a7 H =>
  vq (intV (intBin .neq).f a7 x3) H fun a8 H =>
  cd a8 (
  q2r a7 H) (
  cOr_j5 call g2 x8 H)
noncomputable def cOr_b2 (call : Ev.Call) (q2r : AV → Hp → R1) (q2e0 : Hp → R1) (x3 x6 x7 : AV) (g2 : AV → Hp → R1) (x8 : AV) (H : Hp) : R1 :=
  vq (intV (intBin .lss).f x8 x7) H fun a3 H =>
  cd a3 (
  cOr_j9 call q2r g2 x3 x6 x8 H) (
  q2e0 H)
noncomputable def cOr_l2 (call : Ev.Call) (q2r : AV → Hp → R1) (q2e0 : Hp → R1) (x3 x6 x7 : AV) (n : Nat) : AV → Hp → R1 :=
  Nat.rec (motive := fun _ => AV → Hp → R1) (fun _ _ => .bad) (fun _ ih => cOr_b2 call q2r q2e0 x3 x6 x7 ih) n
noncomputable def cOr_L2 (call : Ev.Call) (q2r : AV → Hp → R1) (q2e0 : Hp → R1) (x3 x6 x7 : AV) : AV → Hp → R1 := cOr_l2 call q2r q2e0 x3 x6 x7 fuelX
noncomputable def cOr_c (call : Ev.Call) (x0 : AV) (H : Hp) : R1 :=
  vq (lenSl x0) H fun a1 H =>
  cOr_L2 call (fun x2 H => .ok x2 H) (fun H => cOr_j0 call (.int .i64 (.ofNat 0)) H) (.int .i64 (.ofNat 0)) x0 a1 (.int .i64 (.ofNat 0)) H
noncomputable def cOr (call : Ev.Call) (x0 : AV) (H : Hp) : R1 := cOr_c call x0 H
noncomputable def cEnter_c (call : Ev.Call) (x0 x1 : AV) (H : Hp) : R1 :=
  vq (nilC x0) H fun a0 H =>
  vq (fieldP 1025 a0) H fun a1 H =>
  vq (load1 H a1) H fun a2 H =>
  vq (intV (intBin .add).f a2 (.int .i64 (.ofNat 1))) H fun a3 H =>
  vq (nilC x0) H fun a4 H =>
  vq (fieldP 1025 a4) H fun a5 H =>
  ve (store1 H a5 a3) fun _ H =>
  dz 0 H fun b7 H =>
  dq false false 0 0 (b7 + 0) H [] [] (fun _ => .val x0) (some true) fun a8 H p w =>
  dq false false 1 0 (b7 + 1) H p w (fun _ => .val x1) (some true) fun a9 H p w =>
  dq false false 2 0 (b7 + 2) H p w (fun _ => .val x0) (some true) fun a10 H p w =>
  dq false false 3 0 (b7 + 3) H p w (fun _ => .val x1) (some true) fun a11 H p w =>
  dq false false 4 0 (b7 + 4) H p w (fun _ => .val x0) (some true) fun a12 H p w =>
  dq false false 5 0 (b7 + 5) H p w (fun _ => .val x1) (some true) fun a13 H p w =>
  dq false false 6 0 (b7 + 6) H p w (fun _ => .val x0) (some true) fun a14 H p w =>
  dq false false 7 64 (b7 + 7) H p w (fun _ => nilC a14) (some true) fun a15 H p w =>
  dq false false 8 192 (b7 + 8) H p w (fun _ => fieldP 1025 a15) (some true) fun a16 H p w =>
  dq true false 9 448 (b7 + 9) H p w (fun H => load1 H a16) (some true) fun a17 H p w =>
  dq false false 10 0 (b7 + 10) H p w (fun _ => .val x0) (some true) fun a18 H p w =>
  dq false false 11 1024 (b7 + 11) H p w (fun _ => nilC a18) (some true) fun a19 H p w =>
  dq false false 12 3072 (b7 + 12) H p w (fun _ => fieldP 1025 a19) (some true) fun a20 H p w =>
  dq true false 13 7168 (b7 + 13) H p w (fun H => load1 H a20) (some true) fun a21 H p w =>
  dq false false 14 1 (b7 + 14) H p w (fun _ => nilC a8) (some true) fun a22 H p w =>
  dq false false 15 16385 (b7 + 15) H p w (fun _ => fieldP 256 a22) (some true) fun a23 H p w =>
  dq false false 16 65475 (b7 + 16) H p w (fun _ => idxA 256 1 a23 a9) (some true) fun a24 H p w =>
  dq false false 18 4 (b7 + 18) H p w (fun _ => nilC a10) (some true) fun a25 H p w =>
  dq false false 19 262148 (b7 + 19) H p w (fun _ => fieldP 512 a25) (some true) fun a26 H p w =>
  dq false false 22 16 (b7 + 22) H p w (fun _ => nilC a12) (some true) fun a27 H p w =>
  dq false false 23 4194320 (b7 + 23) H p w (fun _ => fieldP 768 a27) (some true) fun a28 H p w =>
  de 131011 H p w (store1 (viewH 131011 p H) a24 a17) (some true) fun _ H p w =>
  dq false false 20 1048527 (b7 + 20) H p w (fun _ => idxA 256 1 a26 a11) (some true) fun a30 H p w =>
  de 2097103 H p w (store1 (viewH 2097103 p H) a30 a21) (some true) fun _ H p w =>
  dq false false 24 16777215 (b7 + 24) H p w (fun _ => idxA 256 1 a28 a13) (some true) fun a32 H p w =>
  de 33554431 H p w (store1 (viewH 33554431 p H) a32 (.bool true)) (some true) fun _ H p w =>
  dz2 p H fun H =>
  vq (nilC x0) H fun a34 H =>
  vq (fieldP 1024 a34) H fun a35 H =>
  vq (load1 H a35) H fun a36 H =>
  vq (newSl 1 H.nx (setParts (reps [.int .i64 (.ofNat 0)] 1) [(0, 1, x1)])) H fun a37 H =>
  ve (appendV 1 8 H a36 (srcOfC 1 H a37)) fun a38 H =>
  vq (nilC x0) H fun a39 H =>
  vq (fieldP 1024 a39) H fun a40 H =>
  ve (store1 H a40 a38) fun _ H =>
  .ok (.tup []) H
noncomputable def cEnter (call : Ev.Call) (x0 x1 : AV) (H : Hp) : R1 := cEnter_c call x0 x1 H
noncomputable def cLeave_j25 (call : Ev.Call) (x0 x4 x5 : AV) (H : Hp) : R1 :=
  vq (nilC x0) H fun a10 H =>
  vq (fieldP 1024 a10) H fun a11 H =>
  vq (load1 H a11) H fun a12 H =>
  vq (sliceSl 1 a12 none (some x4) none) H fun a13 H =>
  vq (nilC x0) H fun a14 H =>
  vq (fieldP 1024 a14) H fun a15 H =>
  ve (store1 H a15 a13) fun _ H =>
  vq (nilC x0) H fun a17 H =>
  vq (fieldP 1026 a17) H fun a18 H =>
  vq (load1 H a18) H fun a19 H =>
  vq (newSl 1 H.nx (setParts (reps [.nilsl] 1) [(0, 1, x5)])) H fun a20 H =>
  ve (appendV 1 24 H a19 (srcOfC 1 H a20)) fun a21 H =>
  vq (nilC x0) H fun a22 H =>
  vq (fieldP 1026 a22) H fun a23 H =>
  ve (store1 H a23 a21) fun _ H =>
  .ok (.tup []) H
noncomputable def cLeave_j30 (call : Ev.Call) (g27 : AV → Hp → R1) (x37 : AV) (H : Hp) : R1 :=
  vq (intV (intBin .add).f x37 (.int .i64 (.ofNat 1))) H fun a29 H =>
  g27 a29 H
noncomputable def cLeave_j37 (call : Ev.Call) (g27 : AV → Hp → R1) (x0 x35 x37 : AV) (H : Hp) : R1 :=
  vq (idxS 1 x35 x37) H fun a31 H =>
  vq (load1 H a31) H fun a32 H =>
  vq (nilC x0) H fun a33 H =>
  vq (fieldP 768 a33) H fun a34 H =>
  vq (idxA 256 1 a34 a32) H fun a35 H =>
  ve (store1 H a35 (.bool false)) fun _ H =>
  cLeave_j30 call g27 x37 H
noncomputable def cLeave_b27 (call : Ev.Call) (q27e0 : Hp → R1) (x0 x35 x36 : AV) (g27 : AV → Hp → R1) (x37 : AV) (H : Hp) : R1 :=
  vq (intV (intBin .lss).f x37 x36) H fun a28 H =>
  cd a28 (
  cLeave_j37 call g27 x0 x35 x37 H) (
  q27e0 H)
noncomputable def cLeave_l27 (call : Ev.Call) (q27e0 : Hp → R1) (x0 x35 x36 : AV) (n : Nat) : AV → Hp → R1 :=
  Nat.rec (motive := fun _ => AV → Hp → R1) (fun _ _ => .bad) (fun _ ih => cLeave_b27 call q27e0 x0 x35 x36 ih) n
noncomputable def cLeave_L27 (call : Ev.Call) (q27e0 : Hp → R1) (x0 x35 x36 : AV) : AV → Hp → R1 := cLeave_l27 call q27e0 x0 x35 x36 fuelX
noncomputable def cLeave_j38 (call : Ev.Call) (x0 x1 : AV) (H : Hp) : R1 :=
  vq (nilC x0) H fun a0 H =>
  vq (fieldP 1024 a0) H fun a1 H =>
  vq (load1 H a1) H fun a2 H =>
  ve (call (.f id_sIdx) [a2, x1] H) fun a3 H =>
  vq (nilC x0) H fun a4 H =>
  vq (fieldP 1024 a4) H fun a5 H =>
  vq (load1 H a5) H fun a6 H =>
  vq (sliceSl 1 a6 (some a3) none none) H fun a7 H =>
  ve (call (.f id_sVal) [a7] H) fun a8 H =>
  ve (call (.f id_sSrt) [a8] H) fun a9 H =>
  vq (lenSl a9) H fun a26 H =>
  cLeave_L27 call (fun H => cLeave_j25 call x0 a3 a9 H) x0 a9 a26 (.int .i64 (.ofNat 0)) H
noncomputable def cLeave_c (call : Ev.Call) (x0 x1 : AV) (H : Hp) : R1 :=
  vl (nilC x0) fun a39 =>
  vl (fieldP 512 a39) fun a40 =>
  vl (idxA 256 1 a40 x1) fun a41 =>
  vl (load1 H a41) fun a42 =>
  vl (nilC x0) fun a43 =>
  vl (fieldP 256 a43) fun a44 =>
  vl (idxA 256 1 a44 x1) fun a45 =>
  vl (load1 H a45) fun a46 =>
  vl (intV (intBin .lss).f a42 a46) fun a47 =>
  cd a47 (
  .ok (.tup []) H) (
  cLeave_j38 call x0 x1 H)
noncomputable def cLeave (call : Ev.Call) (x0 x1 : AV) (H : Hp) : R1 := cLeave_c call x0 x1 H
noncomputable def cNaN_c (call : Ev.Call) (x0 : AV) (H : Hp) : R1 :=
  vq (intV (intBin .neq).f x0 x0) H fun a0 H =>
  .ok a0 H
noncomputable def cNaN (call : Ev.Call) (x0 : AV) (H : Hp) : R1 := cNaN_c call x0 H
noncomputable def sIdx_j0 (call : Ev.Call) (H : Hp) : R1 :=
  .ok (.int .i64 (.negSucc 0)) H
noncomputable def sIdx_j5 (call : Ev.Call) (g2 : AV → Hp → R1) (x8 : AV) (H : Hp) : R1 :=
  vq (intV (intBin .add).f x8 (.int .i64 (.ofNat 1))) H fun a4 H =>
  g2 a4 H
noncomputable def sIdx_j9 (call : Ev.Call) (q2r : AV → Hp → R1) (g2 : AV → Hp → R1) (x0 x1 x8 : AV) (H : Hp) : R1 :=
  vq (idxS 1 x0 x8) H fun a6 H =>
  vq (load1 H a6) H fun a7 H =>
  vq (intV (intBin .eql).f x1 a7) H fun a8 H =>
  cd a8 (
  q2r x8 H) (
  sIdx_j5 call g2 x8 H)
noncomputable def sIdx_b2 (call : Ev.Call) (q2r : AV → Hp → R1) (q2e0 : Hp → R1) (x0 x1 x7 : AV) (g2 : AV → Hp → R1) (x8 : AV) (H : Hp) : R1 :=
  vq (intV (intBin .lss).f x8 x7) H fun a3 H =>
  cd a3 (
  sIdx_j9 call q2r g2 x0 x1 x8 H) (
  q2e0 H)
noncomputable def sIdx_l2 (call : Ev.Call) (q2r : AV → Hp → R1) (q2e0 : Hp → R1) (x0 x1 x7 : AV) (n : Nat) : AV → Hp → R1 :=
  Nat.rec (motive := fun _ => AV → Hp → R1) (fun _ _ => .bad) (fun _ ih => sIdx_b2 call q2r q2e0 x0 x1 x7 ih) n
noncomputable def sIdx_L2 (call : Ev.Call) (q2r : AV → Hp → R1) (q2e0 : Hp → R1) (x0 x1 x7 : AV) : AV → Hp → R1 := sIdx_l2 call q2r q2e0 x0 x1 x7 fuelX
noncomputable def sIdx_c (call : Ev.Call) (x0 x1 : AV) (H : Hp) : R1 :=
  vq (lenSl x0) H fun a1 H =>
  sIdx_L2 call (fun x4 H => .ok x4 H) (fun H => sIdx_j0 call H) x0 x1 a1 (.int .i64 (.ofNat 0)) H
noncomputable def sIdx (call : Ev.Call) (x0 x1 : AV) (H : Hp) : R1 := sIdx_c call x0 x1 H
noncomputable def sVal_c (call : Ev.Call) (x0 : AV) (H : Hp) : R1 :=
  vq (box1 H.nx x0) H fun a0 H =>
  .ok (.fn id_sValA [] [a0]) H
noncomputable def sVal (call : Ev.Call) (x0 : AV) (H : Hp) : R1 := sVal_c call x0 H
noncomputable def sSrt_c (call : Ev.Call) (x0 : AV) (H : Hp) : R1 :=
  ve (call (.f id_sCol) [x0] H) fun a0 H =>
  ve (call (.f id_o_Sort) [a0] H) fun a1 H =>
  .ok a0 H
noncomputable def sSrt (call : Ev.Call) (x0 : AV) (H : Hp) : R1 := sSrt_c call x0 H
noncomputable def sValA_j5 (call : Ev.Call) (g2 : AV → Hp → R1) (x7 : AV) (H : Hp) : R1 :=
  vq (intV (intBin .add).f x7 (.int .i64 (.ofNat 1))) H fun a4 H =>
  g2 a4 H
noncomputable def sValA_j10 (call : Ev.Call) (q2r : Hp → R1) (g2 : AV → Hp → R1) (x0 x5 x7 : AV) (H : Hp) : R1 :=
  vq (idxS 1 x5 x7) H fun a6 H =>
  vq (load1 H a6) H fun a7 H =>
  ve (callV call x0 [a7] H) fun a8 H =>
  vq ((unS .not).f a8) H fun a9 H =>
  cd a9 (
  q2r H) (
  sValA_j5 call g2 x7 H)
noncomputable def sValA_b2 (call : Ev.Call) (q2r : Hp → R1) (q2e0 : Hp → R1) (x0 x5 x6 : AV) (g2 : AV → Hp → R1) (x7 : AV) (H : Hp) : R1 :=
  vq (intV (intBin .lss).f x7 x6) H fun a3 H =>
  cd a3 (
  sValA_j10 call q2r g2 x0 x5 x7 H) (
  q2e0 H)
noncomputable def sValA_l2 (call : Ev.Call) (q2r : Hp → R1) (q2e0 : Hp → R1) (x0 x5 x6 : AV) (n : Nat) : AV → Hp → R1 :=
  Nat.rec (motive := fun _ => AV → Hp → R1) (fun _ _ => .bad) (fun _ ih => sValA_b2 call q2r q2e0 x0 x5 x6 ih) n
noncomputable def sValA_L2 (call : Ev.Call) (q2r : Hp → R1) (q2e0 : Hp → R1) (x0 x5 x6 : AV) : AV → Hp → R1 := sValA_l2 call q2r q2e0 x0 x5 x6 fuelX
noncomputable def sValA_c (call : Ev.Call) (x0 x1 : AV) (H : Hp) : R1 :=
  vq (load1 H x1) H fun a0 H =>
  vq (lenSl a0) H fun a1 H =>
  sValA_L2 call (fun H => .ok (.tup []) H) (fun H => .ok (.tup []) H) x0 a0 a1 (.int .i64 (.ofNat 0)) H
noncomputable def sValA (call : Ev.Call) (x0 x1 : AV) (H : Hp) : R1 := sValA_c call x0 x1 H
noncomputable def sCol_c (call : Ev.Call) (x0 : AV) (H : Hp) : R1 :=
  ve (call (.f id_sApp) [(.nilsl), x0] H) fun a0 H =>
  .ok a0 H
noncomputable def sCol (call : Ev.Call) (x0 : AV) (H : Hp) : R1 := sCol_c call x0 H
end Go.Di
end

section
namespace Go.Di
open Go.Ev
/-- what a call by a function's number comes to -/
structure Lnk (c d : Ev.Call) : Prop where
  lwC : ∀ (x0 : AV) (H : Hp), c (.f id_lwC) [x0] H = Di.lwC d x0 H
  hMat : ∀ (x0 : AV) (H : Hp), c (.f id_hMat) [x0] H = Di.hMat d x0 H
  lGr : ∀ (x0 : AV) (H : Hp), c (.f id_lGr) [x0] H = Di.lGr d x0 H
  rOf : ∀ (x0 : AV) (H : Hp), c (.f id_rOf) [x0] H = Di.rOf d x0 H
  lwS : ∀ (x0 x1 x2 : AV) (H : Hp), c (.f id_lwS) [x0, x1, x2] H = Di.lwS d x0 x1 x2 H
  cOrd : ∀ (x0 : AV) (H : Hp), c (.f id_cOrd) [x0] H = Di.cOrd d x0 H
  lwL : ∀ (x0 x1 x2 x3 : AV) (H : Hp), c (.f id_lwL) [x0, x1, x2, x3] H = Di.lwL d x0 x1 x2 x3 H
  rMat : ∀ (x0 x1 : AV) (H : Hp), c (.f id_rMat) [x0, x1] H = Di.rMat d x0 x1 H
  rEdg : ∀ (x0 : AV) (H : Hp), c (.f id_rEdg) [x0] H = Di.rEdg d x0 H
  gChk : ∀ (x0 : AV) (H : Hp), c (.f id_gChk) [x0] H = Di.gChk d x0 H
  cParts : ∀ (x0 : AV) (H : Hp), c (.f id_cParts) [x0] H = Di.cParts d x0 H
  cRdy : ∀ (x0 x1 : AV) (H : Hp), c (.f id_cRdy) [x0, x1] H = Di.cRdy d x0 x1 H
  sClp : ∀ (x0 : AV) (H : Hp), c (.f id_sClp) [x0] H = Di.sClp d x0 H
  sClpS : ∀ (x0 : AV) (H : Hp), c (.f id_sClpS) [x0] H = Di.sClpS d x0 H
  rDist : ∀ (x0 : AV) (H : Hp), c (.f id_rDist) [x0] H = Di.rDist d x0 H
  sCat : ∀ (x0 : AV) (H : Hp), c (.f id_sCat) [x0] H = Di.sCat d x0 H
  rNew : ∀ (x0 : AV) (H : Hp), c (.f id_rNew) [x0] H = Di.rNew d x0 H
  rPut : ∀ (x0 x1 x2 x3 : AV) (H : Hp), c (.f id_rPut) [x0, x1, x2, x3] H = Di.rPut d x0 x1 x2 x3 H
  gCmp : ∀ (x0 x1 : AV) (H : Hp), c (.f id_gCmp) [x0, x1] H = Di.gCmp d x0 x1 H
  cWalk : ∀ (x0 x1 : AV) (H : Hp), c (.f id_cWalk) [x0, x1] H = Di.cWalk d x0 x1 H
  rdyA : ∀ (x0 x1 : AV) (H : Hp), c (.f id_rdyA) [x0, x1] H = Di.rdyA d x0 x1 H
  rdyB : ∀ (x0 x1 x2 x3 : AV) (H : Hp), c (.f id_rdyB) [x0, x1, x2, x3] H = Di.rdyB d x0 x1 x2 x3 H
  sGrw : ∀ (x0 x1 : AV) (H : Hp), c (.f id_sGrw) [x0, x1] H = Di.sGrw d x0 x1 H
  cCmp : ∀ (x0 x1 : AV) (H : Hp), c (.f id_cCmp) [x0, x1] H = Di.cCmp d x0 x1 H
  gSgn : ∀ (x0 : AV) (H : Hp), c (.f id_gSgn) [x0] H = Di.gSgn d x0 H
  cOr : ∀ (x0 : AV) (H : Hp), c (.f id_cOr) [x0] H = Di.cOr d x0 H
  cEnter : ∀ (x0 x1 : AV) (H : Hp), c (.f id_cEnter) [x0, x1] H = Di.cEnter d x0 x1 H
  cLeave : ∀ (x0 x1 : AV) (H : Hp), c (.f id_cLeave) [x0, x1] H = Di.cLeave d x0 x1 H
  cNaN : ∀ (x0 : AV) (H : Hp), c (.f id_cNaN) [x0] H = Di.cNaN d x0 H
  sIdx : ∀ (x0 x1 : AV) (H : Hp), c (.f id_sIdx) [x0, x1] H = Di.sIdx d x0 x1 H
  sVal : ∀ (x0 : AV) (H : Hp), c (.f id_sVal) [x0] H = Di.sVal d x0 H
  sSrt : ∀ (x0 : AV) (H : Hp), c (.f id_sSrt) [x0] H = Di.sSrt d x0 H
  sValA : ∀ (x0 x1 : AV) (H : Hp), c (.f id_sValA) [x0, x1] H = Di.sValA d x0 x1 H
  sCol : ∀ (x0 : AV) (H : Hp), c (.f id_sCol) [x0] H = Di.sCol d x0 H
end Go.Di
end

section
namespace Go.Di
open Go.Ev
set_option linter.unusedVariables false

noncomputable def s_SortFunc_c (call : Ev.Call) (x0 x1 : AV) (H : Hp) : R1 :=
  vq (lenSl x0) H fun a0 H =>
  vq (convI .u64 a0) H fun a1 H =>
  ve (call (.f id_s_Len) [a1] H) fun a2 H =>
  ve (call (.f id_s_pdq) [x0, (.int .i64 (.ofNat 0)), a0, a2, x1] H) fun a3 H =>
  .ok (.tup []) H
noncomputable def s_SortFunc (call : Ev.Call) (x0 x1 : AV) (H : Hp) : R1 := s_SortFunc_c call x0 x1 H
noncomputable def s_Len_j1 (call : Ev.Call) (x0 : AV) (H : Hp) : R1 :=
  ve (call (.f id_s_Len64) [x0] H) fun a0 H =>
  .ok a0 H
noncomputable def s_Len_c (call : Ev.Call) (x0 : AV) (H : Hp) : R1 :=
  cd (.bool false) (
  vq (convI .u32 x0) H fun a2 H =>
  ve (call (.f id_s_Len32) [a2] H) fun a3 H =>
  .ok a3 H) (
  s_Len_j1 call x0 H)
noncomputable def s_Len (call : Ev.Call) (x0 : AV) (H : Hp) : R1 := s_Len_c call x0 H
noncomputable def s_pdq_j18 (call : Ev.Call) (g0 : AV → AV → AV → AV → AV → Hp → R1) (x0 x1 x2 x3 x4 x12 x13 : AV) (H : Hp) : R1 :=
  ve (call (.f id_s_part) [x0, x1, x2, x13, x4] H) fun a5 H =>
  vq (extr 0 a5) H fun a6 H =>
  vq (extr 1 a5) H fun a7 H =>
  vq (intV (intBin .sub).f a6 x1) H fun a8 H =>
  vq (intV (intBin .sub).f x2 a6) H fun a9 H =>
  vq (intV (intBin .quo).f x12 (.int .i64 (.ofNat 8))) H fun a10 H =>
  vq (intV (intBin .lss).f a8 a9) H fun a11 H =>
  cd a11 (
  vq (intV (intBin .geq).f a8 a10) H fun a12 H =>
  ve (call (.f id_s_pdq) [x0, x1, a6, x3, x4] H) fun a13 H =>
  vq (intV (intBin .add).f a6 (.int .i64 (.ofNat 1))) H fun a14 H =>
  g0 a14 x2 x3 a12 a7 H) (
  vq (intV (intBin .geq).f a9 a10) H fun a15 H =>
  vq (intV (intBin .add).f a6 (.int .i64 (.ofNat 1))) H fun a16 H =>
  ve (call (.f id_s_pdq) [x0, a16, x2, x3, x4] H) fun a17 H =>
  g0 x1 a6 x3 a15 a7 H)
noncomputable def s_pdq_j38 (call : Ev.Call) (g0 : AV → AV → AV → AV → AV → Hp → R1) (x0 x1 x2 x3 x4 x10 x11 x12 x13 : AV) (H : Hp) : R1 :=
  dz 0 H fun b19 H =>
  dq false false 0 0 (b19 + 0) H [] [] (fun _ => .val x1) (some true) fun a20 H p w =>
  dq false false 1 1 (b19 + 1) H p w (fun _ => intV (intBin .gtr).f a20 (.int .i64 (.ofNat 0))) (some true) fun a21 H p w =>
  dq false false 2 3 (b19 + 2) H p w (fun _ => .val a21) (some true) fun a22 H p w =>
  dq false false 3 7 (b19 + 3) H p w (fun _ => .val x4) (wantV true a22) fun a23 H p w =>
  dq false false 4 7 (b19 + 4) H p w (fun _ => .val x0) (wantV true a22) fun a24 H p w =>
  dq false false 5 7 (b19 + 5) H p w (fun _ => .val x1) (wantV true a22) fun a25 H p w =>
  dq false false 6 39 (b19 + 6) H p w (fun _ => intV (intBin .sub).f a25 (.int .i64 (.ofNat 1))) (wantV true a22) fun a26 H p w =>
  dq false false 7 119 (b19 + 7) H p w (fun _ => idxS 1 a24 a26) (wantV true a22) fun a27 H p w =>
  dq true false 8 247 (b19 + 8) H p w (fun H => load1 H a27) (wantV true a22) fun a28 H p w =>
  dq false false 9 7 (b19 + 9) H p w (fun _ => .val x0) (wantV true a22) fun a29 H p w =>
  dq false false 10 7 (b19 + 10) H p w (fun _ => .val x13) (wantV true a22) fun a30 H p w =>
  dq false false 11 1543 (b19 + 11) H p w (fun _ => idxS 1 a29 a30) (wantV true a22) fun a31 H p w =>
  dq true false 12 3591 (b19 + 12) H p w (fun H => load1 H a31) (wantV true a22) fun a32 H p w =>
  de 8191 H p w (callV call a23 [a28, a32] (viewH 8191 p H)) (wantV true a22) fun a33 H p w =>
  dq false false 14 16383 (b19 + 14) H p w (fun _ => intV (intBin .lss).f a33 (.int .i64 (.ofNat 0))) (wantV true a22) fun a34 H p w =>
  dq false false 15 32767 (b19 + 15) H p w (fun _ => (unS .not).f a34) (wantV true a22) fun a35 H p w =>
  dq false false 16 65535 (b19 + 16) H p w (fun _ => pickV a22 a35 (.bool false)) (some true) fun a36 H p w =>
  dz2 p H fun H =>
  cd a36 (
  ve (call (.f id_s_peq) [x0, x1, x2, x13, x4] H) fun a37 H =>
  g0 a37 x2 x3 x10 x11 H) (
  s_pdq_j18 call g0 x0 x1 x2 x3 x4 x12 x13 H)
noncomputable def s_pdq_j45 (call : Ev.Call) (q0r : Hp → R1) (g0 : AV → AV → AV → AV → AV → Hp → R1) (x0 x1 x2 x3 x4 x10 x11 x12 x13 x14 : AV) (H : Hp) : R1 :=
  vg (wantV true x10) (.val x11) H fun a39 H =>
  vq (pickV x10 a39 (.bool false)) H fun a40 H =>
  vg (wantV true a40) (.val x14) H fun a41 H =>
  vg (wantV true a40) (intV (intBin .eql).f a41 (.int .i64 (.ofNat 1))) H fun a42 H =>
  vq (pickV a40 a42 (.bool false)) H fun a43 H =>
  cd a43 (
  ve (call (.f id_s_pins) [x0, x1, x2, x4] H) fun a44 H =>
  cd a44 (
  q0r H) (
  s_pdq_j38 call g0 x0 x1 x2 x3 x4 x10 x11 x12 x13 H)) (
  s_pdq_j38 call g0 x0 x1 x2 x3 x4 x10 x11 x12 x13 H)
noncomputable def s_pdq_j51 (call : Ev.Call) (q0r : Hp → R1) (g0 : AV → AV → AV → AV → AV → Hp → R1) (x0 x1 x2 x3 x4 x10 x11 x12 : AV) (H : Hp) : R1 :=
  ve (call (.f id_s_piv) [x0, x1, x2, x4] H) fun a2 H =>
  vq (extr 0 a2) H fun a3 H =>
  vq (extr 1 a2) H fun a4 H =>
  vq (intV (intBin .eql).f a4 (.int .i64 (.ofNat 2))) H fun a46 H =>
  cd a46 (
  ve (call (.f id_s_rev) [x0, x1, x2, x4] H) fun a47 H =>
  vq (intV (intBin .sub).f x2 (.int .i64 (.ofNat 1))) H fun a48 H =>
  vq (intV (intBin .sub).f a3 x1) H fun a49 H =>
  vq (intV (intBin .sub).f a48 a49) H fun a50 H =>
  s_pdq_j45 call q0r g0 x0 x1 x2 x3 x4 x10 x11 x12 a50 (.int .i64 (.ofNat 1)) H) (
  s_pdq_j45 call q0r g0 x0 x1 x2 x3 x4 x10 x11 x12 a3 a4 H)
noncomputable def s_pdq_j55 (call : Ev.Call) (q0r : Hp → R1) (g0 : AV → AV → AV → AV → AV → Hp → R1) (x0 x1 x2 x3 x4 x10 x11 x12 : AV) (H : Hp) : R1 :=
  vq ((unS .not).f x10) H fun a52 H =>
  cd a52 (
  ve (call (.f id_s_brk) [x0, x1, x2, x4] H) fun a53 H =>
  vq (intV (intBin .sub).f x3 (.int .i64 (.ofNat 1))) H fun a54 H =>
  s_pdq_j51 call q0r g0 x0 x1 x2 a54 x4 x10 x11 x12 H) (
  s_pdq_j51 call q0r g0 x0 x1 x2 x3 x4 x10 x11 x12 H)
noncomputable def s_pdq_j58 (call : Ev.Call) (q0r : Hp → R1) (g0 : AV → AV → AV → AV → AV → Hp → R1) (x0 x1 x2 x3 x4 x10 x11 x12 : AV) (H : Hp) : R1 :=
  vq (intV (intBin .eql).f x3 (.int .i64 (.ofNat 0))) H fun a56 H =>
  cd a56 (
  ve (call (.f id_s_heap) [x0, x1, x2, x4] H) fun a57 H =>
  q0r H) (
  s_pdq_j55 call q0r g0 x0 x1 x2 x3 x4 x10 x11 x12 H)
noncomputable def s_pdq_b0 (call : Ev.Call) (q0r : Hp → R1) (x0 x4 : AV) (g0 : AV → AV → AV → AV → AV → Hp → R1) (x1 x2 x3 x10 x11 : AV) (H : Hp) : R1 :=
  vq (intV (intBin .sub).f x2 x1) H fun a1 H =>
  vq (intV (intBin .leq).f a1 (.int .i64 (.ofNat 12))) H fun a59 H =>
  cd a59 (
  ve (call (.f id_s_ins) [x0, x1, x2, x4] H) fun a60 H =>
  q0r H) (
  s_pdq_j58 call q0r g0 x0 x1 x2 x3 x4 x10 x11 a1 H)
noncomputable def s_pdq_l0 (call : Ev.Call) (q0r : Hp → R1) (x0 x4 : AV) (n : Nat) : AV → AV → AV → AV → AV → Hp → R1 :=
  Nat.rec (motive := fun _ => AV → AV → AV → AV → AV → Hp → R1) (fun _ _ _ _ _ _ => .bad) (fun _ ih => s_pdq_b0 call q0r x0 x4 ih) n
noncomputable def s_pdq_L0 (call : Ev.Call) (q0r : Hp → R1) (x0 x4 : AV) : AV → AV → AV → AV → AV → Hp → R1 := s_pdq_l0 call q0r x0 x4 fuelX
noncomputable def s_pdq_c (call : Ev.Call) (x0 x1 x2 x3 x4 : AV) (H : Hp) : R1 :=
  s_pdq_L0 call (fun H => .ok (.tup []) H) x0 x4 x1 x2 x3 (.bool true) (.bool true) H
noncomputable def s_pdq (call : Ev.Call) (x0 x1 x2 x3 x4 : AV) (H : Hp) : R1 := s_pdq_c call x0 x1 x2 x3 x4 H
noncomputable def s_Len64_j4 (call : Ev.Call) (x0 x2 : AV) (H : Hp) : R1 :=
  vq (convI .u8 x0) H fun a0 H =>
  vq (idxStr (.str 256 1013866857139168856493015739252390649739422828853819106890363778118420553376247557433637691341895324351018602695588957474325319502760499485336098898398377509666851054660423406800006203933793007272033180812049178612605246075062580585469430410618860250057463399279570354286669047577758927328864388992123306212451509403152394148136105363817402562688186708175358218852349079190158732807302672745370040257219644697201681238697346923541678507645485296520536209706771857694240900605172937619415410180424934769249448772944216470541052485265558808433676546390051204254346932932316488017972311616136051587427851453983453479168) a0) H fun a1 H =>
  vq (convI .i64 a1) H fun a2 H =>
  vq (intV (intBin .add).f x2 a2) H fun a3 H =>
  .ok a3 H
noncomputable def s_Len64_j8 (call : Ev.Call) (x0 x2 : AV) (H : Hp) : R1 :=
  vq (intV (intBin .geq).f x0 (.int .u64 (.ofNat 256))) H fun a5 H =>
  cd a5 (
  vq (shiftV (shiftBin .shr).f x0 (.int .u64 (.ofNat 8))) H fun a6 H =>
  vq (intV (intBin .add).f x2 (.int .i64 (.ofNat 8))) H fun a7 H =>
  s_Len64_j4 call a6 a7 H) (
  s_Len64_j4 call x0 x2 H)
noncomputable def s_Len64_j12 (call : Ev.Call) (x0 x2 : AV) (H : Hp) : R1 :=
  vq (intV (intBin .geq).f x0 (.int .u64 (.ofNat 65536))) H fun a9 H =>
  cd a9 (
  vq (shiftV (shiftBin .shr).f x0 (.int .u64 (.ofNat 16))) H fun a10 H =>
  vq (intV (intBin .add).f x2 (.int .i64 (.ofNat 16))) H fun a11 H =>
  s_Len64_j8 call a10 a11 H) (
  s_Len64_j8 call x0 x2 H)
noncomputable def s_Len64_c (call : Ev.Call) (x0 : AV) (H : Hp) : R1 :=
  vq (intV (intBin .geq).f x0 (.int .u64 (.ofNat 4294967296))) H fun a13 H =>
  cd a13 (
  vq (shiftV (shiftBin .shr).f x0 (.int .u64 (.ofNat 32))) H fun a14 H =>
  s_Len64_j12 call a14 (.int .i64 (.ofNat 32)) H) (
  s_Len64_j12 call x0 (.int .i64 (.ofNat 0)) H)
noncomputable def s_Len64 (call : Ev.Call) (x0 : AV) (H : Hp) : R1 := s_Len64_c call x0 H
noncomputable def s_ins_j3 (call : Ev.Call) (g1 : AV → Hp → R1) (x8 : AV) (H : Hp) : R1 :=
  vq (intV (intBin .add).f x8 (.int .i64 (.ofNat 1))) H fun a2 H =>
  g1 a2 H
noncomputable def s_ins_j6 (call : Ev.Call) (g4 : AV → Hp → R1) (x9 : AV) (H : Hp) : R1 :=
  vq (intV (intBin .sub).f x9 (.int .i64 (.ofNat 1))) H fun a5 H =>
  g4 a5 H
noncomputable def s_ins_j26 (call : Ev.Call) (g4 : AV → Hp → R1) (x0 x9 : AV) (H : Hp) : R1 :=
  dz 0 H fun b7 H =>
  dq false false 0 0 (b7 + 0) H [] [] (fun _ => .val x0) (some true) fun a8 H p w =>
  dq false false 1 0 (b7 + 1) H p w (fun _ => .val x9) (some true) fun a9 H p w =>
  dq false false 2 0 (b7 + 2) H p w (fun _ => .val x0) (some true) fun a10 H p w =>
  dq false false 3 0 (b7 + 3) H p w (fun _ => .val x9) (some true) fun a11 H p w =>
  dq false false 4 8 (b7 + 4) H p w (fun _ => intV (intBin .sub).f a11 (.int .i64 (.ofNat 1))) (some true) fun a12 H p w =>
  dq false false 5 0 (b7 + 5) H p w (fun _ => .val x0) (some true) fun a13 H p w =>
  dq false false 6 0 (b7 + 6) H p w (fun _ => .val x9) (some true) fun a14 H p w =>
  dq false false 7 64 (b7 + 7) H p w (fun _ => intV (intBin .sub).f a14 (.int .i64 (.ofNat 1))) (some true) fun a15 H p w =>
  dq false false 8 224 (b7 + 8) H p w (fun _ => idxS 1 a13 a15) (some true) fun a16 H p w =>
  dq true false 9 480 (b7 + 9) H p w (fun H => load1 H a16) (some true) fun a17 H p w =>
  dq false false 10 0 (b7 + 10) H p w (fun _ => .val x0) (some true) fun a18 H p w =>
  dq false false 11 0 (b7 + 11) H p w (fun _ => .val x9) (some true) fun a19 H p w =>
  dq false false 12 3072 (b7 + 12) H p w (fun _ => idxS 1 a18 a19) (some true) fun a20 H p w =>
  dq true false 13 7168 (b7 + 13) H p w (fun H => load1 H a20) (some true) fun a21 H p w =>
  dq false false 14 16355 (b7 + 14) H p w (fun _ => idxS 1 a8 a9) (some true) fun a22 H p w =>
  de 32739 H p w (store1 (viewH 32739 p H) a22 a17) (some true) fun _ H p w =>
  dq false false 16 65535 (b7 + 16) H p w (fun _ => idxS 1 a10 a12) (some true) fun a24 H p w =>
  de 131071 H p w (store1 (viewH 131071 p H) a24 a21) (some true) fun _ H p w =>
  dz2 p H fun H =>
  s_ins_j6 call g4 x9 H
noncomputable def s_ins_b4 (call : Ev.Call) (q4e2 : Hp → R1) (x0 x1 x3 : AV) (g4 : AV → Hp → R1) (x9 : AV) (H : Hp) : R1 :=
  dz 0 H fun b27 H =>
  dq false false 0 0 (b27 + 0) H [] [] (fun _ => .val x9) (some true) fun a28 H p w =>
  dq false false 1 0 (b27 + 1) H p w (fun _ => .val x1) (some true) fun a29 H p w =>
  dq false false 2 3 (b27 + 2) H p w (fun _ => intV (intBin .gtr).f a28 a29) (some true) fun a30 H p w =>
  dq false false 3 7 (b27 + 3) H p w (fun _ => .val a30) (some true) fun a31 H p w =>
  dq false false 4 15 (b27 + 4) H p w (fun _ => .val x3) (wantV true a31) fun a32 H p w =>
  dq false false 5 15 (b27 + 5) H p w (fun _ => .val x0) (wantV true a31) fun a33 H p w =>
  dq false false 6 15 (b27 + 6) H p w (fun _ => .val x9) (wantV true a31) fun a34 H p w =>
  dq false false 7 111 (b27 + 7) H p w (fun _ => idxS 1 a33 a34) (wantV true a31) fun a35 H p w =>
  dq true false 8 239 (b27 + 8) H p w (fun H => load1 H a35) (wantV true a31) fun a36 H p w =>
  dq false false 9 15 (b27 + 9) H p w (fun _ => .val x0) (wantV true a31) fun a37 H p w =>
  dq false false 10 15 (b27 + 10) H p w (fun _ => .val x9) (wantV true a31) fun a38 H p w =>
  dq false false 11 1039 (b27 + 11) H p w (fun _ => intV (intBin .sub).f a38 (.int .i64 (.ofNat 1))) (wantV true a31) fun a39 H p w =>
  dq false false 12 3599 (b27 + 12) H p w (fun _ => idxS 1 a37 a39) (wantV true a31) fun a40 H p w =>
  dq true false 13 7695 (b27 + 13) H p w (fun H => load1 H a40) (wantV true a31) fun a41 H p w =>
  de 16383 H p w (callV call a32 [a36, a41] (viewH 16383 p H)) (wantV true a31) fun a42 H p w =>
  dq false false 15 32767 (b27 + 15) H p w (fun _ => intV (intBin .lss).f a42 (.int .i64 (.ofNat 0))) (wantV true a31) fun a43 H p w =>
  dq false false 16 65535 (b27 + 16) H p w (fun _ => pickV a31 a43 (.bool false)) (some true) fun a44 H p w =>
  dz2 p H fun H =>
  cd a44 (
  s_ins_j26 call g4 x0 x9 H) (
  q4e2 H)
noncomputable def s_ins_l4 (call : Ev.Call) (q4e2 : Hp → R1) (x0 x1 x3 : AV) (n : Nat) : AV → Hp → R1 :=
  Nat.rec (motive := fun _ => AV → Hp → R1) (fun _ _ => .bad) (fun _ ih => s_ins_b4 call q4e2 x0 x1 x3 ih) n
noncomputable def s_ins_L4 (call : Ev.Call) (q4e2 : Hp → R1) (x0 x1 x3 : AV) : AV → Hp → R1 := s_ins_l4 call q4e2 x0 x1 x3 fuelX
noncomputable def s_ins_j45 (call : Ev.Call) (g1 : AV → Hp → R1) (x0 x1 x3 x8 : AV) (H : Hp) : R1 :=
  s_ins_L4 call (fun H => s_ins_j3 call g1 x8 H) x0 x1 x3 x8 H
noncomputable def s_ins_b1 (call : Ev.Call) (q1e0 : Hp → R1) (x0 x1 x2 x3 : AV) (g1 : AV → Hp → R1) (x8 : AV) (H : Hp) : R1 :=
  vq (intV (intBin .lss).f x8 x2) H fun a46 H =>
  cd a46 (
  s_ins_j45 call g1 x0 x1 x3 x8 H) (
  q1e0 H)
noncomputable def s_ins_l1 (call : Ev.Call) (q1e0 : Hp → R1) (x0 x1 x2 x3 : AV) (n : Nat) : AV → Hp → R1 :=
  Nat.rec (motive := fun _ => AV → Hp → R1) (fun _ _ => .bad) (fun _ ih => s_ins_b1 call q1e0 x0 x1 x2 x3 ih) n
noncomputable def s_ins_L1 (call : Ev.Call) (q1e0 : Hp → R1) (x0 x1 x2 x3 : AV) : AV → Hp → R1 := s_ins_l1 call q1e0 x0 x1 x2 x3 fuelX
noncomputable def s_ins_c (call : Ev.Call) (x0 x1 x2 x3 : AV) (H : Hp) : R1 :=
  vq (intV (intBin .add).f x1 (.int .i64 (.ofNat 1))) H fun a0 H =>
  s_ins_L1 call (fun H => .ok (.tup []) H) x0 x1 x2 x3 a0 H
noncomputable def s_ins (call : Ev.Call) (x0 x1 x2 x3 : AV) (H : Hp) : R1 := s_ins_c call x0 x1 x2 x3 H
end Go.Di
end

section
namespace Go.Di
open Go.Ev
/-- what a call by a function's number comes to -/
structure LnkS (c d : Ev.Call) : Prop where
  s_SortFunc : ∀ (x0 x1 : AV) (H : Hp), c (.f id_s_SortFunc) [x0, x1] H = Di.s_SortFunc d x0 x1 H
  s_Len : ∀ (x0 : AV) (H : Hp), c (.f id_s_Len) [x0] H = Di.s_Len d x0 H
  s_pdq : ∀ (x0 x1 x2 x3 x4 : AV) (H : Hp), c (.f id_s_pdq) [x0, x1, x2, x3, x4] H = Di.s_pdq d x0 x1 x2 x3 x4 H
  s_Len64 : ∀ (x0 : AV) (H : Hp), c (.f id_s_Len64) [x0] H = Di.s_Len64 d x0 H
  s_ins : ∀ (x0 x1 x2 x3 : AV) (H : Hp), c (.f id_s_ins) [x0, x1, x2, x3] H = Di.s_ins d x0 x1 x2 x3 H
abbrev LinksS (C : Nat → Ev.Call) : Prop := ∀ k, LnkS (C (k + 1)) (C k)
end Go.Di
end

section
namespace Go.Di
open Go.Ev
set_option linter.unusedVariables false

noncomputable def o_Sort_c (call : Ev.Call) (x0 : AV) (H : Hp) : R1 :=
  vq (lenSl x0) H fun a0 H =>
  vq (convI .u64 a0) H fun a1 H =>
  ve (call (.f id_s_Len) [a1] H) fun a2 H =>
  ve (call (.f id_o_pdq) [x0, (.int .i64 (.ofNat 0)), a0, a2] H) fun a3 H =>
  .ok (.tup []) H
noncomputable def o_Sort (call : Ev.Call) (x0 : AV) (H : Hp) : R1 := o_Sort_c call x0 H
noncomputable def o_pdq_j18 (call : Ev.Call) (g0 : AV → AV → AV → AV → AV → Hp → R1) (x0 x1 x2 x3 x10 x11 : AV) (H : Hp) : R1 :=
  ve (call (.f id_o_part) [x0, x1, x2, x11] H) fun a5 H =>
  vq (extr 0 a5) H fun a6 H =>
  vq (extr 1 a5) H fun a7 H =>
  vq (intV (intBin .sub).f a6 x1) H fun a8 H =>
  vq (intV (intBin .sub).f x2 a6) H fun a9 H =>
  vq (intV (intBin .quo).f x10 (.int .i64 (.ofNat 8))) H fun a10 H =>
  vq (intV (intBin .lss).f a8 a9) H fun a11 H =>
  cd a11 (
  vq (intV (intBin .geq).f a8 a10) H fun a12 H =>
  ve (call (.f id_o_pdq) [x0, x1, a6, x3] H) fun a13 H =>
  vq (intV (intBin .add).f a6 (.int .i64 (.ofNat 1))) H fun a14 H =>
  g0 a14 x2 x3 a12 a7 H) (
  vq (intV (intBin .geq).f a9 a10) H fun a15 H =>
  vq (intV (intBin .add).f a6 (.int .i64 (.ofNat 1))) H fun a16 H =>
  ve (call (.f id_o_pdq) [x0, a16, x2, x3] H) fun a17 H =>
  g0 x1 a6 x3 a15 a7 H)
noncomputable def o_pdq_j36 (call : Ev.Call) (g0 : AV → AV → AV → AV → AV → Hp → R1) (x0 x1 x2 x3 x8 x9 x10 x11 : AV) (H : Hp) : R1 :=
  dz 0 H fun b19 H =>
  dq false false 0 0 (b19 + 0) H [] [] (fun _ => .val x1) (some true) fun a20 H p w =>
  dq false false 1 1 (b19 + 1) H p w (fun _ => intV (intBin .gtr).f a20 (.int .i64 (.ofNat 0))) (some true) fun a21 H p w =>
  dq false false 2 3 (b19 + 2) H p w (fun _ => .val a21) (some true) fun a22 H p w =>
  dq false false 3 7 (b19 + 3) H p w (fun _ => .val x0) (wantV true a22) fun a23 H p w =>
  dq false false 4 7 (b19 + 4) H p w (fun _ => .val x1) (wantV true a22) fun a24 H p w =>
  dq false false 5 23 (b19 + 5) H p w (fun _ => intV (intBin .sub).f a24 (.int .i64 (.ofNat 1))) (wantV true a22) fun a25 H p w =>
  dq false false 6 63 (b19 + 6) H p w (fun _ => idxS 1 a23 a25) (wantV true a22) fun a26 H p w =>
  dq true false 7 127 (b19 + 7) H p w (fun H => load1 H a26) (wantV true a22) fun a27 H p w =>
  dq false false 8 7 (b19 + 8) H p w (fun _ => .val x0) (wantV true a22) fun a28 H p w =>
  dq false false 9 7 (b19 + 9) H p w (fun _ => .val x11) (wantV true a22) fun a29 H p w =>
  dq false false 10 775 (b19 + 10) H p w (fun _ => idxS 1 a28 a29) (wantV true a22) fun a30 H p w =>
  dq true false 11 1799 (b19 + 11) H p w (fun H => load1 H a30) (wantV true a22) fun a31 H p w =>
  de 4095 H p w (call (.f id_o_less) [a27, a31] (viewH 4095 p H)) (wantV true a22) fun a32 H p w =>
  dq false false 13 8191 (b19 + 13) H p w (fun _ => (unS .not).f a32) (wantV true a22) fun a33 H p w =>
  dq false false 14 16383 (b19 + 14) H p w (fun _ => pickV a22 a33 (.bool false)) (some true) fun a34 H p w =>
  dz2 p H fun H =>
  cd a34 (
  ve (call (.f id_o_peq) [x0, x1, x2, x11] H) fun a35 H =>
  g0 a35 x2 x3 x8 x9 H) (
  o_pdq_j18 call g0 x0 x1 x2 x3 x10 x11 H)
noncomputable def o_pdq_j43 (call : Ev.Call) (q0r : Hp → R1) (g0 : AV → AV → AV → AV → AV → Hp → R1) (x0 x1 x2 x3 x8 x9 x10 x11 x12 : AV) (H : Hp) : R1 :=
  vg (wantV true x8) (.val x9) H fun a37 H =>
  vq (pickV x8 a37 (.bool false)) H fun a38 H =>
  vg (wantV true a38) (.val x12) H fun a39 H =>
  vg (wantV true a38) (intV (intBin .eql).f a39 (.int .i64 (.ofNat 1))) H fun a40 H =>
  vq (pickV a38 a40 (.bool false)) H fun a41 H =>
  cd a41 (
  ve (call (.f id_o_pins) [x0, x1, x2] H) fun a42 H =>
  cd a42 (
  q0r H) (
  o_pdq_j36 call g0 x0 x1 x2 x3 x8 x9 x10 x11 H)) (
  o_pdq_j36 call g0 x0 x1 x2 x3 x8 x9 x10 x11 H)
noncomputable def o_pdq_j49 (call : Ev.Call) (q0r : Hp → R1) (g0 : AV → AV → AV → AV → AV → Hp → R1) (x0 x1 x2 x3 x8 x9 x10 : AV) (H : Hp) : R1 :=
  ve (call (.f id_o_piv) [x0, x1, x2] H) fun a2 H =>
  vq (extr 0 a2) H fun a3 H =>
  vq (extr 1 a2) H fun a4 H =>
  vq (intV (intBin .eql).f a4 (.int .i64 (.ofNat 2))) H fun a44 H =>
  cd a44 (
  ve (call (.f id_o_rev) [x0, x1, x2] H) fun a45 H =>
  vq (intV (intBin .sub).f x2 (.int .i64 (.ofNat 1))) H fun a46 H =>
  vq (intV (intBin .sub).f a3 x1) H fun a47 H =>
  vq (intV (intBin .sub).f a46 a47) H fun a48 H =>
  o_pdq_j43 call q0r g0 x0 x1 x2 x3 x8 x9 x10 a48 (.int .i64 (.ofNat 1)) H) (
  o_pdq_j43 call q0r g0 x0 x1 x2 x3 x8 x9 x10 a3 a4 H)
noncomputable def o_pdq_j53 (call : Ev.Call) (q0r : Hp → R1) (g0 : AV → AV → AV → AV → AV → Hp → R1) (x0 x1 x2 x3 x8 x9 x10 : AV) (H : Hp) : R1 :=
  vq ((unS .not).f x8) H fun a50 H =>
  cd a50 (
  ve (call (.f id_o_brk) [x0, x1, x2] H) fun a51 H =>
  vq (intV (intBin .sub).f x3 (.int .i64 (.ofNat 1))) H fun a52 H =>
  o_pdq_j49 call q0r g0 x0 x1 x2 a52 x8 x9 x10 H) (
  o_pdq_j49 call q0r g0 x0 x1 x2 x3 x8 x9 x10 H)
noncomputable def o_pdq_j56 (call : Ev.Call) (q0r : Hp → R1) (g0 : AV → AV → AV → AV → AV → Hp → R1) (x0 x1 x2 x3 x8 x9 x10 : AV) (H : Hp) : R1 :=
  vq (intV (intBin .eql).f x3 (.int .i64 (.ofNat 0))) H fun a54 H =>
  cd a54 (
  ve (call (.f id_o_heap) [x0, x1, x2] H) fun a55 H =>
  q0r H) (
  o_pdq_j53 call q0r g0 x0 x1 x2 x3 x8 x9 x10 H)
noncomputable def o_pdq_b0 (call : Ev.Call) (q0r : Hp → R1) (x0 : AV) (g0 : AV → AV → AV → AV → AV → Hp → R1) (x1 x2 x3 x8 x9 : AV) (H : Hp) : R1 :=
  vq (intV (intBin .sub).f x2 x1) H fun a1 H =>
  vq (intV (intBin .leq).f a1 (.int .i64 (.ofNat 12))) H fun a57 H =>
  cd a57 (
  ve (call (.f id_o_ins) [x0, x1, x2] H) fun a58 H =>
  q0r H) (
  o_pdq_j56 call q0r g0 x0 x1 x2 x3 x8 x9 a1 H)
noncomputable def o_pdq_l0 (call : Ev.Call) (q0r : Hp → R1) (x0 : AV) (n : Nat) : AV → AV → AV → AV → AV → Hp → R1 :=
  Nat.rec (motive := fun _ => AV → AV → AV → AV → AV → Hp → R1) (fun _ _ _ _ _ _ => .bad) (fun _ ih => o_pdq_b0 call q0r x0 ih) n
noncomputable def o_pdq_L0 (call : Ev.Call) (q0r : Hp → R1) (x0 : AV) : AV → AV → AV → AV → AV → Hp → R1 := o_pdq_l0 call q0r x0 fuelX
noncomputable def o_pdq_c (call : Ev.Call) (x0 x1 x2 x3 : AV) (H : Hp) : R1 :=
  o_pdq_L0 call (fun H => .ok (.tup []) H) x0 x1 x2 x3 (.bool true) (.bool true) H
noncomputable def o_pdq (call : Ev.Call) (x0 x1 x2 x3 : AV) (H : Hp) : R1 := o_pdq_c call x0 x1 x2 x3 H
noncomputable def o_ins_j3 (call : Ev.Call) (g1 : AV → Hp → R1) (x6 : AV) (H : Hp) : R1 :=
  vq (intV (intBin .add).f x6 (.int .i64 (.ofNat 1))) H fun a2 H =>
  g1 a2 H
noncomputable def o_ins_j6 (call : Ev.Call) (g4 : AV → Hp → R1) (x7 : AV) (H : Hp) : R1 :=
  vq (intV (intBin .sub).f x7 (.int .i64 (.ofNat 1))) H fun a5 H =>
  g4 a5 H
noncomputable def o_ins_j26 (call : Ev.Call) (g4 : AV → Hp → R1) (x0 x7 : AV) (H : Hp) : R1 :=
  dz 0 H fun b7 H =>
  dq false false 0 0 (b7 + 0) H [] [] (fun _ => .val x0) (some true) fun a8 H p w =>
  dq false false 1 0 (b7 + 1) H p w (fun _ => .val x7) (some true) fun a9 H p w =>
  dq false false 2 0 (b7 + 2) H p w (fun _ => .val x0) (some true) fun a10 H p w =>
  dq false false 3 0 (b7 + 3) H p w (fun _ => .val x7) (some true) fun a11 H p w =>
  dq false false 4 8 (b7 + 4) H p w (fun _ => intV (intBin .sub).f a11 (.int .i64 (.ofNat 1))) (some true) fun a12 H p w =>
  dq false false 5 0 (b7 + 5) H p w (fun _ => .val x0) (some true) fun a13 H p w =>
  dq false false 6 0 (b7 + 6) H p w (fun _ => .val x7) (some true) fun a14 H p w =>
  dq false false 7 64 (b7 + 7) H p w (fun _ => intV (intBin .sub).f a14 (.int .i64 (.ofNat 1))) (some true) fun a15 H p w =>
  dq false false 8 224 (b7 + 8) H p w (fun _ => idxS 1 a13 a15) (some true) fun a16 H p w =>
  dq true false 9 480 (b7 + 9) H p w (fun H => load1 H a16) (some true) fun a17 H p w =>
  dq false false 10 0 (b7 + 10) H p w (fun _ => .val x0) (some true) fun a18 H p w =>
  dq false false 11 0 (b7 + 11) H p w (fun _ => .val x7) (some true) fun a19 H p w =>
  dq false false 12 3072 (b7 + 12) H p w (fun _ => idxS 1 a18 a19) (some true) fun a20 H p w =>
  dq true false 13 7168 (b7 + 13) H p w (fun H => load1 H a20) (some true) fun a21 H p w =>
  dq false false 14 16355 (b7 + 14) H p w (fun _ => idxS 1 a8 a9) (some true) fun a22 H p w =>
  de 32739 H p w (store1 (viewH 32739 p H) a22 a17) (some true) fun _ H p w =>
  dq false false 16 65535 (b7 + 16) H p w (fun _ => idxS 1 a10 a12) (some true) fun a24 H p w =>
  de 131071 H p w (store1 (viewH 131071 p H) a24 a21) (some true) fun _ H p w =>
  dz2 p H fun H =>
  o_ins_j6 call g4 x7 H
noncomputable def o_ins_b4 (call : Ev.Call) (q4e2 : Hp → R1) (x0 x1 : AV) (g4 : AV → Hp → R1) (x7 : AV) (H : Hp) : R1 :=
  dz 0 H fun b27 H =>
  dq false false 0 0 (b27 + 0) H [] [] (fun _ => .val x7) (some true) fun a28 H p w =>
  dq false false 1 0 (b27 + 1) H p w (fun _ => .val x1) (some true) fun a29 H p w =>
  dq false false 2 3 (b27 + 2) H p w (fun _ => intV (intBin .gtr).f a28 a29) (some true) fun a30 H p w =>
  dq false false 3 7 (b27 + 3) H p w (fun _ => .val a30) (some true) fun a31 H p w =>
  dq false false 4 15 (b27 + 4) H p w (fun _ => .val x0) (wantV true a31) fun a32 H p w =>
  dq false false 5 15 (b27 + 5) H p w (fun _ => .val x7) (wantV true a31) fun a33 H p w =>
  dq false false 6 63 (b27 + 6) H p w (fun _ => idxS 1 a32 a33) (wantV true a31) fun a34 H p w =>
  dq true false 7 127 (b27 + 7) H p w (fun H => load1 H a34) (wantV true a31) fun a35 H p w =>
  dq false false 8 15 (b27 + 8) H p w (fun _ => .val x0) (wantV true a31) fun a36 H p w =>
  dq false false 9 15 (b27 + 9) H p w (fun _ => .val x7) (wantV true a31) fun a37 H p w =>
  dq false false 10 527 (b27 + 10) H p w (fun _ => intV (intBin .sub).f a37 (.int .i64 (.ofNat 1))) (wantV true a31) fun a38 H p w =>
  dq false false 11 1807 (b27 + 11) H p w (fun _ => idxS 1 a36 a38) (wantV true a31) fun a39 H p w =>
  dq true false 12 3855 (b27 + 12) H p w (fun H => load1 H a39) (wantV true a31) fun a40 H p w =>
  de 8191 H p w (call (.f id_o_less) [a35, a40] (viewH 8191 p H)) (wantV true a31) fun a41 H p w =>
  dq false false 14 16383 (b27 + 14) H p w (fun _ => pickV a31 a41 (.bool false)) (some true) fun a42 H p w =>
  dz2 p H fun H =>
  cd a42 (
  o_ins_j26 call g4 x0 x7 H) (
  q4e2 H)
noncomputable def o_ins_l4 (call : Ev.Call) (q4e2 : Hp → R1) (x0 x1 : AV) (n : Nat) : AV → Hp → R1 :=
  Nat.rec (motive := fun _ => AV → Hp → R1) (fun _ _ => .bad) (fun _ ih => o_ins_b4 call q4e2 x0 x1 ih) n
noncomputable def o_ins_L4 (call : Ev.Call) (q4e2 : Hp → R1) (x0 x1 : AV) : AV → Hp → R1 := o_ins_l4 call q4e2 x0 x1 fuelX
noncomputable def o_ins_j43 (call : Ev.Call) (g1 : AV → Hp → R1) (x0 x1 x6 : AV) (H : Hp) : R1 :=
  o_ins_L4 call (fun H => o_ins_j3 call g1 x6 H) x0 x1 x6 H
noncomputable def o_ins_b1 (call : Ev.Call) (q1e0 : Hp → R1) (x0 x1 x2 : AV) (g1 : AV → Hp → R1) (x6 : AV) (H : Hp) : R1 :=
  vq (intV (intBin .lss).f x6 x2) H fun a44 H =>
  cd a44 (
  o_ins_j43 call g1 x0 x1 x6 H) (
  q1e0 H)
noncomputable def o_ins_l1 (call : Ev.Call) (q1e0 : Hp → R1) (x0 x1 x2 : AV) (n : Nat) : AV → Hp → R1 :=
  Nat.rec (motive := fun _ => AV → Hp → R1) (fun _ _ => .bad) (fun _ ih => o_ins_b1 call q1e0 x0 x1 x2 ih) n
noncomputable def o_ins_L1 (call : Ev.Call) (q1e0 : Hp → R1) (x0 x1 x2 : AV) : AV → Hp → R1 := o_ins_l1 call q1e0 x0 x1 x2 fuelX
noncomputable def o_ins_c (call : Ev.Call) (x0 x1 x2 : AV) (H : Hp) : R1 :=
  vq (intV (intBin .add).f x1 (.int .i64 (.ofNat 1))) H fun a0 H =>
  o_ins_L1 call (fun H => .ok (.tup []) H) x0 x1 x2 a0 H
noncomputable def o_ins (call : Ev.Call) (x0 x1 x2 : AV) (H : Hp) : R1 := o_ins_c call x0 x1 x2 H
noncomputable def o_less_c (call : Ev.Call) (x0 x1 : AV) (H : Hp) : R1 :=
  ve (call (.f id_cNaN) [x0] H) fun a0 H =>
  vg (wantV true a0) (.val x1) H fun a1 H =>
  veg (wantV true a0) (call (.f id_cNaN) [a1] H) H fun a2 H =>
  vg (wantV true a0) ((unS .not).f a2) H fun a3 H =>
  vq (pickV a0 a3 (.bool false)) H fun a4 H =>
  vg (wantV false a4) (.val x0) H fun a5 H =>
  vg (wantV false a4) (.val x1) H fun a6 H =>
  vg (wantV false a4) (intV (intBin .lss).f a5 a6) H fun a7 H =>
  vq (pickV a4 (.bool true) a7) H fun a8 H =>
  .ok a8 H
noncomputable def o_less (call : Ev.Call) (x0 x1 : AV) (H : Hp) : R1 := o_less_c call x0 x1 H
end Go.Di
end

section
namespace Go.Di
open Go.Ev
/-- what a call by a function's number comes to -/
structure LnkO (c d : Ev.Call) : Prop where
  o_Sort : ∀ (x0 : AV) (H : Hp), c (.f id_o_Sort) [x0] H = Di.o_Sort d x0 H
  o_pdq : ∀ (x0 x1 x2 x3 : AV) (H : Hp), c (.f id_o_pdq) [x0, x1, x2, x3] H = Di.o_pdq d x0 x1 x2 x3 H
  o_ins : ∀ (x0 x1 x2 : AV) (H : Hp), c (.f id_o_ins) [x0, x1, x2] H = Di.o_ins d x0 x1 x2 H
  o_less : ∀ (x0 x1 : AV) (H : Hp), c (.f id_o_less) [x0, x1] H = Di.o_less d x0 x1 H
abbrev LinksO (C : Nat → Ev.Call) : Prop := ∀ k, LnkO (C (k + 1)) (C k)
end Go.Di
end
