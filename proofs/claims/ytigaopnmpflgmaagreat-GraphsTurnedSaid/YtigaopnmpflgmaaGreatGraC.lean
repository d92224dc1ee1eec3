/-
  For countersignlaw16.GraphsTurned: the functions of the law in direct style (printed by a program). No conditions beyond those that each theorem states.
-/
import Derived.Test.YtigaopnmpflgmaaGreatEv4
import Derived.Test.YtigaopnmpflgmaaGreatGraB
set_option linter.unusedSimpArgs false
set_option linter.unusedVariables false
section
namespace Go.Di
open Go.Ev
set_option linter.unusedVariables false
def id_cmp_Compare_int : FuncId := 65
def id_cmp_Or_api_Errno : FuncId := 44
def id_cmp_Or_int : FuncId := 64
def id_cmp_isNaN_int : FuncId := 85
def id_graphs_Check : FuncId := 11
def id_graphs_Path : FuncId := 16
def id_graphs_Reach : FuncId := 19
def id_graphs_compare : FuncId := 41
def id_graphs_of : FuncId := 45
def id_graphs_sign : FuncId := 66
def id_graphs_walk : FuncId := 46
def id_law16_Graph : FuncId := 14
def id_law16_GraphsPaths : FuncId := 4
def id_law16_H_Matrix : FuncId := 13
def id_law16_list : FuncId := 17
def id_law16_lives : FuncId := 12
def id_ref16_Distance : FuncId := 15
def id_ref16_Edges : FuncId := 10
def id_ref16_Matrix : FuncId := 43
def id_ref16_New : FuncId := 30
def id_ref16_Path : FuncId := 18
def id_ref16_put : FuncId := 33
def id_slices_Clip_int_int : FuncId := 48
def id_slices_Reverse_int_int : FuncId := 47
/- countersign/countersignlaw16.GraphsPaths -/
noncomputable def law16_GraphsPaths_j31 (call : Ev.Call) (x1 x7 x8 : AV) (H : Hp) : R1 :=
  vq (loadA 2 H x8) H fun a15 H =>
  ve (call (.f id_graphs_Reach) [a15, x1] H) fun a16 H =>
  vq (extr 0 a16) H fun a17 H =>
  vq (extr 1 a16) H fun a18 H =>
  vq (intV (intBin .geq).f x1 (.int .i64 (.ofNat 0))) H fun a19 H =>
  vg (wantV true a19) (.val x1) H fun a20 H =>
  vg (wantV true a19) (fieldP 0 x7) H fun a21 H =>
  vg (wantV true a19) (load1 H a21) H fun a22 H =>
  vg (wantV true a19) (intV (intBin .lss).f a20 a22) H fun a23 H =>
  vq (pickV a19 a23 (.bool false)) H fun a24 H =>
  vg (wantV false a24) (.val a17) H fun a25 H =>
  vg (wantV false a24) (.val a18) H fun a26 H =>
  veg (wantV false a24) (call (.f id_law16_list) [a25, a26, (.nilsl), (.int .i64 (.ofNat 4))] H) H fun a27 H =>
  vq (pickV a24 (.bool true) a27) H fun a28 H =>
  veg (wantV true a28) (call (.f id_law16_lives) [] H) H fun a29 H =>
  vq (pickV a28 a29 (.bool false)) H fun a30 H =>
  .ok a30 H
noncomputable def law16_GraphsPaths_j34 (call : Ev.Call) (x1 x2 x7 x8 : AV) (H : Hp) : R1 :=
  vq (loadA 2 H x8) H fun a11 H =>
  ve (call (.f id_graphs_Path) [a11, x1, x2] H) fun a12 H =>
  vq (extr 0 a12) H fun a13 H =>
  vq (extr 1 a12) H fun a14 H =>
  ve (call (.f id_law16_list) [a13, a14, (.nilsl), (.int .i64 (.ofNat 4))] H) fun a32 H =>
  vq ((unS .not).f a32) H fun a33 H =>
  cd a33 (
  .ok (.bool false) H) (
  law16_GraphsPaths_j31 call x1 x7 x8 H)
noncomputable def law16_GraphsPaths_j50 (call : Ev.Call) (x1 x2 x7 x8 : AV) (H : Hp) : R1 :=
  vq (intV (intBin .geq).f x1 (.int .i64 (.ofNat 0))) H fun a35 H =>
  vg (wantV true a35) (.val x1) H fun a36 H =>
  vg (wantV true a35) (fieldP 0 x7) H fun a37 H =>
  vg (wantV true a35) (load1 H a37) H fun a38 H =>
  vg (wantV true a35) (intV (intBin .lss).f a36 a38) H fun a39 H =>
  vq (pickV a35 a39 (.bool false)) H fun a40 H =>
  vg (wantV true a40) (.val x2) H fun a41 H =>
  vg (wantV true a40) (intV (intBin .geq).f a41 (.int .i64 (.ofNat 0))) H fun a42 H =>
  vq (pickV a40 a42 (.bool false)) H fun a43 H =>
  vg (wantV true a43) (.val x2) H fun a44 H =>
  vg (wantV true a43) (fieldP 0 x7) H fun a45 H =>
  vg (wantV true a43) (load1 H a45) H fun a46 H =>
  vg (wantV true a43) (intV (intBin .lss).f a44 a46) H fun a47 H =>
  vq (pickV a43 a47 (.bool false)) H fun a48 H =>
  cd a48 (
  ve (call (.f id_law16_lives) [] H) fun a49 H =>
  .ok a49 H) (
  law16_GraphsPaths_j34 call x1 x2 x7 x8 H)
noncomputable def law16_GraphsPaths_j53 (call : Ev.Call) (g51 : AV → Hp → R1) (x10 : AV) (H : Hp) : R1 :=
  vq (intV (intBin .add).f x10 (.int .i64 (.ofNat 1))) H fun a52 H =>
  g51 a52 H
noncomputable def law16_GraphsPaths_j60 (call : Ev.Call) (q51r : AV → Hp → R1) (g51 : AV → Hp → R1) (x8 x10 x11 : AV) (H : Hp) : R1 :=
  vq (loadA 2 H x8) H fun a54 H =>
  ve (call (.f id_graphs_Reach) [a54, x10] H) fun a55 H =>
  vq (extr 0 a55) H fun a56 H =>
  vq (extr 1 a55) H fun a57 H =>
  ve (call (.f id_law16_list) [a56, a57, x11, (.int .i64 (.ofNat 0))] H) fun a58 H =>
  vq ((unS .not).f a58) H fun a59 H =>
  cd a59 (
  q51r (.bool false) H) (
  law16_GraphsPaths_j53 call g51 x10 H)
noncomputable def law16_GraphsPaths_j63 (call : Ev.Call) (g61 : AV → AV → Hp → R1) (x11 x12 : AV) (H : Hp) : R1 :=
  vq (intV (intBin .add).f x12 (.int .i64 (.ofNat 1))) H fun a62 H =>
  g61 x11 a62 H
noncomputable def law16_GraphsPaths_j72 (call : Ev.Call) (q61r : AV → Hp → R1) (g61 : AV → AV → Hp → R1) (x7 x10 x11 x12 x13 x14 x15 : AV) (H : Hp) : R1 :=
  vq (loadA 2 H x7) H fun a68 H =>
  ve (call (.f id_ref16_Path) [a68, x10, x12] H) fun a69 H =>
  ve (call (.f id_law16_list) [x13, x14, a69, x15] H) fun a70 H =>
  vq ((unS .not).f a70) H fun a71 H =>
  cd a71 (
  q61r (.bool false) H) (
  law16_GraphsPaths_j63 call g61 x11 x12 H)
noncomputable def law16_GraphsPaths_j80 (call : Ev.Call) (q61r : AV → Hp → R1) (g61 : AV → AV → Hp → R1) (x7 x8 x9 x10 x11 x12 : AV) (H : Hp) : R1 :=
  vq (loadA 2 H x8) H fun a64 H =>
  ve (call (.f id_graphs_Path) [a64, x10, x12] H) fun a65 H =>
  vq (extr 0 a65) H fun a66 H =>
  vq (extr 1 a65) H fun a67 H =>
  vq (fieldP 0 x7) H fun a73 H =>
  vq (load1 H a73) H fun a74 H =>
  vq (intV (intBin .mul).f x10 a74) H fun a75 H =>
  vq (intV (intBin .add).f a75 x12) H fun a76 H =>
  vq (idxS 1 x9 a76) H fun a77 H =>
  vq (load1 H a77) H fun a78 H =>
  vq (intV (intBin .lss).f a78 (.int .i64 (.ofNat 0))) H fun a79 H =>
  cd a79 (
  law16_GraphsPaths_j72 call q61r g61 x7 x10 x11 x12 a66 a67 (.int .i64 (.ofNat 8)) H) (
  law16_GraphsPaths_j72 call q61r g61 x7 x10 x11 x12 a66 a67 (.int .i64 (.ofNat 0)) H)
noncomputable def law16_GraphsPaths_j90 (call : Ev.Call) (q61r : AV → Hp → R1) (g61 : AV → AV → Hp → R1) (x7 x8 x9 x10 x11 x12 : AV) (H : Hp) : R1 :=
  vq (fieldP 0 x7) H fun a81 H =>
  vq (load1 H a81) H fun a82 H =>
  vq (intV (intBin .mul).f x10 a82) H fun a83 H =>
  vq (intV (intBin .add).f a83 x12) H fun a84 H =>
  vq (idxS 1 x9 a84) H fun a85 H =>
  vq (load1 H a85) H fun a86 H =>
  vq (intV (intBin .geq).f a86 (.int .i64 (.ofNat 0))) H fun a87 H =>
  cd a87 (
  vq (newSl 1 H.nx (setParts (reps [.int .i64 (.ofNat 0)] 1) [(0, 1, x12)])) H fun a88 H =>
  ve (appendV 1 8 H x11 (srcOfC 1 H a88)) fun a89 H =>
  law16_GraphsPaths_j80 call q61r g61 x7 x8 x9 x10 a89 x12 H) (
  law16_GraphsPaths_j80 call q61r g61 x7 x8 x9 x10 x11 x12 H)
noncomputable def law16_GraphsPaths_b61 (call : Ev.Call) (q61r : AV → Hp → R1) (q61e2 : AV → Hp → R1) (x7 x8 x9 x10 : AV) (g61 : AV → AV → Hp → R1) (x11 x12 : AV) (H : Hp) : R1 :=
  vq (fieldP 0 x7) H fun a91 H =>
  vq (load1 H a91) H fun a92 H =>
  vq (intV (intBin .lss).f x12 a92) H fun a93 H =>
  cd a93 (
  law16_GraphsPaths_j90 call q61r g61 x7 x8 x9 x10 x11 x12 H) (
  q61e2 x11 H)
noncomputable def law16_GraphsPaths_l61 (call : Ev.Call) (q61r : AV → Hp → R1) (q61e2 : AV → Hp → R1) (x7 x8 x9 x10 : AV) (n : Nat) : AV → AV → Hp → R1 :=
  Nat.rec (motive := fun _ => AV → AV → Hp → R1) (fun _ _ _ => .bad) (fun _ ih => law16_GraphsPaths_b61 call q61r q61e2 x7 x8 x9 x10 ih) n
noncomputable def law16_GraphsPaths_L61 (call : Ev.Call) (q61r : AV → Hp → R1) (q61e2 : AV → Hp → R1) (x7 x8 x9 x10 : AV) : AV → AV → Hp → R1 := law16_GraphsPaths_l61 call q61r q61e2 x7 x8 x9 x10 fuelX
noncomputable def law16_GraphsPaths_j94 (call : Ev.Call) (q51r : AV → Hp → R1) (g51 : AV → Hp → R1) (x7 x8 x9 x10 : AV) (H : Hp) : R1 :=
  law16_GraphsPaths_L61 call (fun x6 H => q51r x6 H) (fun x11 H => law16_GraphsPaths_j60 call q51r g51 x8 x10 x11 H) x7 x8 x9 x10 (.nilsl) (.int .i64 (.ofNat 0)) H
noncomputable def law16_GraphsPaths_b51 (call : Ev.Call) (q51r : AV → Hp → R1) (q51e0 : Hp → R1) (x7 x8 x9 : AV) (g51 : AV → Hp → R1) (x10 : AV) (H : Hp) : R1 :=
  vq (fieldP 0 x7) H fun a95 H =>
  vq (load1 H a95) H fun a96 H =>
  vq (intV (intBin .lss).f x10 a96) H fun a97 H =>
  cd a97 (
  law16_GraphsPaths_j94 call q51r g51 x7 x8 x9 x10 H) (
  q51e0 H)
noncomputable def law16_GraphsPaths_l51 (call : Ev.Call) (q51r : AV → Hp → R1) (q51e0 : Hp → R1) (x7 x8 x9 : AV) (n : Nat) : AV → Hp → R1 :=
  Nat.rec (motive := fun _ => AV → Hp → R1) (fun _ _ => .bad) (fun _ ih => law16_GraphsPaths_b51 call q51r q51e0 x7 x8 x9 ih) n
noncomputable def law16_GraphsPaths_L51 (call : Ev.Call) (q51r : AV → Hp → R1) (q51e0 : Hp → R1) (x7 x8 x9 : AV) : AV → Hp → R1 := law16_GraphsPaths_l51 call q51r q51e0 x7 x8 x9 fuelX
noncomputable def law16_GraphsPaths_c (call : Ev.Call) (x0 x1 x2 : AV) (H : Hp) : R1 :=
  vq (boxA 2 H.nx x0) H fun a0 H =>
  vq (loadA 2 H a0) H fun a1 H =>
  ve (call (.f id_law16_H_Matrix) [a1] H) fun a2 H =>
  vq (.new (.ptr H.nx 0) (mkBlk 0 [.int .i64 (.ofNat 0), .nilsl])) H fun a3 H =>
  ve (storeA 2 H a3 a2) fun _ H =>
  vq (loadA 2 H a3) H fun a5 H =>
  ve (call (.f id_law16_Graph) [a5] H) fun a6 H =>
  vq (.new (.ptr H.nx 0) (mkBlk 0 [.int .i64 (.ofNat 0), .nilsl])) H fun a7 H =>
  ve (storeA 2 H a7 a6) fun _ H =>
  vq (loadA 2 H a3) H fun a9 H =>
  ve (call (.f id_ref16_Distance) [a9] H) fun a10 H =>
  law16_GraphsPaths_L51 call (fun x6 H => .ok x6 H) (fun H => law16_GraphsPaths_j50 call x1 x2 a3 a7 H) a3 a7 a10 (.int .i64 (.ofNat 0)) H
noncomputable def law16_GraphsPaths (call : Ev.Call) (x0 x1 x2 : AV) (H : Hp) : R1 := law16_GraphsPaths_c call x0 x1 x2 H
/- (countersign/countersignlaw16.H).Matrix -/
noncomputable def law16_H_Matrix_j8 (call : Ev.Call) (x2 x3 x4 : AV) (H : Hp) : R1 :=
  ve (call (.f id_ref16_Matrix) [x3, x4] H) fun a6 H =>
  ve (storeA 2 H x2 a6) fun _ H =>
  finR (rV (loadA 2 H x2)) H
noncomputable def law16_H_Matrix_j11 (call : Ev.Call) (g9 : AV → AV → Hp → R1) (x4 x5 : AV) (H : Hp) : R1 :=
  vq (intV (intBin .add).f x5 (.int .i64 (.ofNat 1))) H fun a10 H =>
  g9 x4 a10 H
noncomputable def law16_H_Matrix_j44 (call : Ev.Call) (g9 : AV → AV → Hp → R1) (x1 x3 x4 x5 : AV) (H : Hp) : R1 :=
  dz 31 H fun b12 H =>
  dq false false 0 0 (b12 + 0) H [] [] (fun _ => .val x4) (some true) fun a13 H p w =>
  dq false false 1 0 (b12 + 1) H p w (fun _ => fieldP 1 x1) (some true) fun a14 H p w =>
  dq true false 2 2 (b12 + 2) H p w (fun H => load1 H a14) (some true) fun a15 H p w =>
  dq false false 3 0 (b12 + 3) H p w (fun _ => .val x5) (some true) fun a16 H p w =>
  dq false false 4 14 (b12 + 4) H p w (fun _ => idxS 3 a15 a16) (some true) fun a17 H p w =>
  dq false false 5 30 (b12 + 5) H p w (fun _ => idxA 3 1 a17 (.int .i64 (.ofNat 0))) (some true) fun a18 H p w =>
  dq true false 6 62 (b12 + 6) H p w (fun H => load1 H a18) (some true) fun a19 H p w =>
  dq false true 7 126 (b12 + 7) H p w (fun _ => convI .i64 a19) (some true) fun a20 H p w =>
  dq false false 8 0 (b12 + 8) H p w (fun _ => .val x3) (some true) fun a21 H p w =>
  dq false false 9 510 (b12 + 9) H p w (fun _ => intV (intBin .rem).f a20 a21) (some true) fun a22 H p w =>
  dq false false 10 0 (b12 + 10) H p w (fun _ => fieldP 1 x1) (some true) fun a23 H p w =>
  dq true false 11 1024 (b12 + 11) H p w (fun H => load1 H a23) (some true) fun a24 H p w =>
  dq false false 12 0 (b12 + 12) H p w (fun _ => .val x5) (some true) fun a25 H p w =>
  dq false false 13 7168 (b12 + 13) H p w (fun _ => idxS 3 a24 a25) (some true) fun a26 H p w =>
  dq false false 14 15360 (b12 + 14) H p w (fun _ => idxA 3 1 a26 (.int .i64 (.ofNat 1))) (some true) fun a27 H p w =>
  dq true false 15 31744 (b12 + 15) H p w (fun H => load1 H a27) (some true) fun a28 H p w =>
  dq false true 16 64512 (b12 + 16) H p w (fun _ => convI .i64 a28) (some true) fun a29 H p w =>
  dq false false 17 0 (b12 + 17) H p w (fun _ => .val x3) (some true) fun a30 H p w =>
  dq false false 18 261120 (b12 + 18) H p w (fun _ => intV (intBin .rem).f a29 a30) (some true) fun a31 H p w =>
  dq false false 19 0 (b12 + 19) H p w (fun _ => fieldP 1 x1) (some true) fun a32 H p w =>
  dq true false 20 524288 (b12 + 20) H p w (fun H => load1 H a32) (some true) fun a33 H p w =>
  dq false false 21 0 (b12 + 21) H p w (fun _ => .val x5) (some true) fun a34 H p w =>
  dq false false 22 3670016 (b12 + 22) H p w (fun _ => idxS 3 a33 a34) (some true) fun a35 H p w =>
  dq false false 23 7864320 (b12 + 23) H p w (fun _ => idxA 3 1 a35 (.int .i64 (.ofNat 2))) (some true) fun a36 H p w =>
  dq true false 24 16252928 (b12 + 24) H p w (fun H => load1 H a36) (some true) fun a37 H p w =>
  dq false false 25 33030144 (b12 + 25) H p w (fun _ => intV (intBin .rem).f a37 (.int .u8 (.ofNat 2))) (some true) fun a38 H p w =>
  dq false true 26 66584576 (b12 + 26) H p w (fun _ => convI .i64 a38) (some true) fun a39 H p w =>
  dq false false 27 134217726 (b12 + 27) H p w (fun _ => aggN (setParts [.int .i64 (.ofNat 0), .int .i64 (.ofNat 0), .int .i64 (.ofNat 0)] [(0, 1, a22), (1, 1, a31), (2, 1, a39)])) (some true) fun a40 H p w =>
  dq false true 28 268435454 (b12 + 28) H p w (fun _ => newSl 1 (b12 + 28) (setParts (reps [.int .i64 (.ofNat 0), .int .i64 (.ofNat 0), .int .i64 (.ofNat 0)] 1) [(0, 3, a40)])) (some true) fun a41 H p w =>
  de 536870911 H p w (appendV 3 24 (viewH 536870911 p H) a13 (srcOfC 3 (viewH 536870911 p H) a41)) (some true) fun a42 H p w =>
  dq false false 30 1073741823 (b12 + 30) H p w (fun _ => .val a42) (some true) fun a43 H p w =>
  dz2 p H fun H =>
  law16_H_Matrix_j11 call g9 a43 x5 H
noncomputable def law16_H_Matrix_b9 (call : Ev.Call) (q9e0 : AV → Hp → R1) (x1 x3 : AV) (g9 : AV → AV → Hp → R1) (x4 x5 : AV) (H : Hp) : R1 :=
  vq (intV (intBin .gtr).f x3 (.int .i64 (.ofNat 0))) H fun a45 H =>
  vg (wantV true a45) (.val x5) H fun a46 H =>
  vg (wantV true a45) (fieldP 1 x1) H fun a47 H =>
  vg (wantV true a45) (load1 H a47) H fun a48 H =>
  vg (wantV true a45) (lenSl a48) H fun a49 H =>
  vg (wantV true a45) (intV (intBin .lss).f a46 a49) H fun a50 H =>
  vq (pickV a45 a50 (.bool false)) H fun a51 H =>
  vg (wantV true a51) (.val x5) H fun a52 H =>
  vg (wantV true a51) (intV (intBin .lss).f a52 (.int .i64 (.ofNat 40))) H fun a53 H =>
  vq (pickV a51 a53 (.bool false)) H fun a54 H =>
  cd a54 (
  law16_H_Matrix_j44 call g9 x1 x3 x4 x5 H) (
  q9e0 x4 H)
noncomputable def law16_H_Matrix_l9 (call : Ev.Call) (q9e0 : AV → Hp → R1) (x1 x3 : AV) (n : Nat) : AV → AV → Hp → R1 :=
  Nat.rec (motive := fun _ => AV → AV → Hp → R1) (fun _ _ _ => .bad) (fun _ ih => law16_H_Matrix_b9 call q9e0 x1 x3 ih) n
noncomputable def law16_H_Matrix_L9 (call : Ev.Call) (q9e0 : AV → Hp → R1) (x1 x3 : AV) : AV → AV → Hp → R1 := law16_H_Matrix_l9 call q9e0 x1 x3 fuelX
noncomputable def law16_H_Matrix_c (call : Ev.Call) (x0 : AV) (H : Hp) : R1 :=
  vq (boxA 2 H.nx x0) H fun a0 H =>
  vq (.new (.ptr H.nx 0) (mkBlk 0 [.int .i64 (.ofNat 0), .nilsl])) H fun a1 H =>
  vq (fieldP 0 a0) H fun a2 H =>
  vq (load1 H a2) H fun a3 H =>
  vq (intV (intBin .rem).f a3 (.int .u8 (.ofNat 13))) H fun a4 H =>
  vq (convI .i64 a4) H fun a5 H =>
  law16_H_Matrix_L9 call (fun x4 H => law16_H_Matrix_j8 call a1 a5 x4 H) a0 a5 (.nilsl) (.int .i64 (.ofNat 0)) H
noncomputable def law16_H_Matrix (call : Ev.Call) (x0 : AV) (H : Hp) : R1 := law16_H_Matrix_c call x0 H
/- countersign/countersignlaw16.Graph -/
noncomputable def law16_Graph_j11 (call : Ev.Call) (x2 x3 : AV) (H : Hp) : R1 :=
  vq (loadA 2 H x3) H fun a9 H =>
  ve (storeA 2 H x2 a9) fun _ H =>
  finR (rV (loadA 2 H x2)) H
noncomputable def law16_Graph_j14 (call : Ev.Call) (g12 : AV → Hp → R1) (x5 : AV) (H : Hp) : R1 :=
  vq (intV (intBin .add).f x5 (.int .i64 (.ofNat 1))) H fun a13 H =>
  g12 a13 H
noncomputable def law16_Graph_j39 (call : Ev.Call) (g12 : AV → Hp → R1) (x3 x4 x5 : AV) (H : Hp) : R1 :=
  dz 23 H fun b15 H =>
  dq false false 0 0 (b15 + 0) H [] [] (fun _ => fieldP 1 x3) (some true) fun a16 H p w =>
  dq true false 1 1 (b15 + 1) H p w (fun H => load1 H a16) (some true) fun a17 H p w =>
  dq false false 2 0 (b15 + 2) H p w (fun _ => .val x4) (some true) fun a18 H p w =>
  dq false false 3 0 (b15 + 3) H p w (fun _ => .val x5) (some true) fun a19 H p w =>
  dq false false 4 12 (b15 + 4) H p w (fun _ => idxS 3 a18 a19) (some true) fun a20 H p w =>
  dq false false 5 28 (b15 + 5) H p w (fun _ => idxA 3 1 a20 (.int .i64 (.ofNat 0))) (some true) fun a21 H p w =>
  dq true false 6 60 (b15 + 6) H p w (fun H => load1 H a21) (some true) fun a22 H p w =>
  dq false false 7 0 (b15 + 7) H p w (fun _ => .val x4) (some true) fun a23 H p w =>
  dq false false 8 0 (b15 + 8) H p w (fun _ => .val x5) (some true) fun a24 H p w =>
  dq false false 9 384 (b15 + 9) H p w (fun _ => idxS 3 a23 a24) (some true) fun a25 H p w =>
  dq false false 10 896 (b15 + 10) H p w (fun _ => idxA 3 1 a25 (.int .i64 (.ofNat 1))) (some true) fun a26 H p w =>
  dq true false 11 1920 (b15 + 11) H p w (fun H => load1 H a26) (some true) fun a27 H p w =>
  dq false false 12 0 (b15 + 12) H p w (fun _ => .val x4) (some true) fun a28 H p w =>
  dq false false 13 0 (b15 + 13) H p w (fun _ => .val x5) (some true) fun a29 H p w =>
  dq false false 14 12288 (b15 + 14) H p w (fun _ => idxS 3 a28 a29) (some true) fun a30 H p w =>
  dq false false 15 28672 (b15 + 15) H p w (fun _ => idxA 3 1 a30 (.int .i64 (.ofNat 2))) (some true) fun a31 H p w =>
  dq true false 16 61440 (b15 + 16) H p w (fun H => load1 H a31) (some true) fun a32 H p w =>
  dq false false 17 126976 (b15 + 17) H p w (fun _ => intV (intBin .eql).f a32 (.int .i64 (.ofNat 1))) (some true) fun a33 H p w =>
  dq false false 18 262140 (b15 + 18) H p w (fun _ => aggN (setParts [.int .i64 (.ofNat 0), .int .i64 (.ofNat 0), .bool false] [(0, 1, a22), (1, 1, a27), (2, 1, a33)])) (some true) fun a34 H p w =>
  dq false true 19 524284 (b15 + 19) H p w (fun _ => newSl 1 (b15 + 19) (setParts (reps [.int .i64 (.ofNat 0), .int .i64 (.ofNat 0), .bool false] 1) [(0, 3, a34)])) (some true) fun a35 H p w =>
  de 1048575 H p w (appendV 3 24 (viewH 1048575 p H) a17 (srcOfC 3 (viewH 1048575 p H) a35)) (some true) fun a36 H p w =>
  dq false false 21 2097151 (b15 + 21) H p w (fun _ => fieldP 1 x3) (some true) fun a37 H p w =>
  de 4194303 H p w (store1 (viewH 4194303 p H) a37 a36) (some true) fun _ H p w =>
  dz2 p H fun H =>
  law16_Graph_j14 call g12 x5 H
noncomputable def law16_Graph_b12 (call : Ev.Call) (q12e0 : Hp → R1) (x3 x4 : AV) (g12 : AV → Hp → R1) (x5 : AV) (H : Hp) : R1 :=
  vq (lenSl x4) H fun a40 H =>
  vq (intV (intBin .lss).f x5 a40) H fun a41 H =>
  cd a41 (
  law16_Graph_j39 call g12 x3 x4 x5 H) (
  q12e0 H)
noncomputable def law16_Graph_l12 (call : Ev.Call) (q12e0 : Hp → R1) (x3 x4 : AV) (n : Nat) : AV → Hp → R1 :=
  Nat.rec (motive := fun _ => AV → Hp → R1) (fun _ _ => .bad) (fun _ ih => law16_Graph_b12 call q12e0 x3 x4 ih) n
noncomputable def law16_Graph_L12 (call : Ev.Call) (q12e0 : Hp → R1) (x3 x4 : AV) : AV → Hp → R1 := law16_Graph_l12 call q12e0 x3 x4 fuelX
noncomputable def law16_Graph_c (call : Ev.Call) (x0 : AV) (H : Hp) : R1 :=
  vq (boxA 2 H.nx x0) H fun a0 H =>
  vq (.new (.ptr H.nx 0) (mkBlk 0 [.int .i64 (.ofNat 0), .nilsl])) H fun a1 H =>
  vq (fieldP 0 a0) H fun a2 H =>
  vq (load1 H a2) H fun a3 H =>
  vq (aggN (setParts [.int .i64 (.ofNat 0), .nilsl] [(0, 1, a3)])) H fun a4 H =>
  vq (.new (.ptr H.nx 0) (mkBlk 0 [.int .i64 (.ofNat 0), .nilsl])) H fun a5 H =>
  ve (storeA 2 H a5 a4) fun _ H =>
  vq (loadA 2 H a0) H fun a7 H =>
  ve (call (.f id_ref16_Edges) [a7] H) fun a8 H =>
  law16_Graph_L12 call (fun H => law16_Graph_j11 call a1 a5 H) a5 a8 (.int .i64 (.ofNat 0)) H
noncomputable def law16_Graph (call : Ev.Call) (x0 : AV) (H : Hp) : R1 := law16_Graph_c call x0 H
/- countersign/countersignref16.Distance -/
noncomputable def ref16_Distance_j7 (call : Ev.Call) (x3 : AV) (H : Hp) : R1 :=
  .ok x3 H
noncomputable def ref16_Distance_j10 (call : Ev.Call) (g8 : AV → Hp → R1) (x6 : AV) (H : Hp) : R1 :=
  vq (intV (intBin .add).f x6 (.int .i64 (.ofNat 1))) H fun a9 H =>
  g8 a9 H
noncomputable def ref16_Distance_j13 (call : Ev.Call) (g11 : AV → Hp → R1) (x7 : AV) (H : Hp) : R1 :=
  vq (intV (intBin .add).f x7 (.int .i64 (.ofNat 1))) H fun a12 H =>
  g11 a12 H
noncomputable def ref16_Distance_j16 (call : Ev.Call) (g14 : AV → Hp → R1) (x8 : AV) (H : Hp) : R1 :=
  vq (intV (intBin .add).f x8 (.int .i64 (.ofNat 1))) H fun a15 H =>
  g14 a15 H
noncomputable def ref16_Distance_j66 (call : Ev.Call) (g14 : AV → Hp → R1) (x1 x3 x6 x7 x8 : AV) (H : Hp) : R1 :=
  vl (fieldP 0 x1) fun a17 =>
  vl (load1 H a17) fun a18 =>
  vl (intV (intBin .mul).f x7 a18) fun a19 =>
  vl (intV (intBin .add).f a19 x6) fun a20 =>
  vl (idxS 1 x3 a20) fun a21 =>
  vl (load1 H a21) fun a22 =>
  vl (fieldP 0 x1) fun a23 =>
  vl (load1 H a23) fun a24 =>
  vl (intV (intBin .mul).f x6 a24) fun a25 =>
  vl (intV (intBin .add).f a25 x8) fun a26 =>
  vl (idxS 1 x3 a26) fun a27 =>
  vl (load1 H a27) fun a28 =>
  vq (intV (intBin .geq).f a22 (.int .i64 (.ofNat 0))) H fun a29 H =>
  vg (wantV true a29) (.val a28) H fun a30 H =>
  vg (wantV true a29) (intV (intBin .geq).f a30 (.int .i64 (.ofNat 0))) H fun a31 H =>
  vq (pickV a29 a31 (.bool false)) H fun a32 H =>
  vg (wantV true a32) (.val x3) H fun a33 H =>
  vg (wantV true a32) (.val x7) H fun a34 H =>
  vg (wantV true a32) (fieldP 0 x1) H fun a35 H =>
  vg (wantV true a32) (load1 H a35) H fun a36 H =>
  vg (wantV true a32) (intV (intBin .mul).f a34 a36) H fun a37 H =>
  vg (wantV true a32) (.val x8) H fun a38 H =>
  vg (wantV true a32) (intV (intBin .add).f a37 a38) H fun a39 H =>
  vg (wantV true a32) (idxS 1 a33 a39) H fun a40 H =>
  vg (wantV true a32) (load1 H a40) H fun a41 H =>
  vg (wantV true a32) (intV (intBin .lss).f a41 (.int .i64 (.ofNat 0))) H fun a42 H =>
  vg (wantV true a32) (.val a42) H fun a43 H =>
  vg (wantV false a43) (.val a22) H fun a44 H =>
  vg (wantV false a43) (.val a28) H fun a45 H =>
  vg (wantV false a43) (intV (intBin .add).f a44 a45) H fun a46 H =>
  vg (wantV false a43) (.val x3) H fun a47 H =>
  vg (wantV false a43) (.val x7) H fun a48 H =>
  vg (wantV false a43) (fieldP 0 x1) H fun a49 H =>
  vg (wantV false a43) (load1 H a49) H fun a50 H =>
  vg (wantV false a43) (intV (intBin .mul).f a48 a50) H fun a51 H =>
  vg (wantV false a43) (.val x8) H fun a52 H =>
  vg (wantV false a43) (intV (intBin .add).f a51 a52) H fun a53 H =>
  vg (wantV false a43) (idxS 1 a47 a53) H fun a54 H =>
  vg (wantV false a43) (load1 H a54) H fun a55 H =>
  vg (wantV false a43) (intV (intBin .lss).f a46 a55) H fun a56 H =>
  vg (wantV true a32) (pickV a43 (.bool true) a56) H fun a57 H =>
  vq (pickV a32 a57 (.bool false)) H fun a58 H =>
  cd a58 (
  vq (fieldP 0 x1) H fun a59 H =>
  vq (load1 H a59) H fun a60 H =>
  vq (intV (intBin .mul).f x7 a60) H fun a61 H =>
  vq (intV (intBin .add).f a61 x8) H fun a62 H =>
  vq (intV (intBin .add).f a22 a28) H fun a63 H =>
  vq (idxS 1 x3 a62) H fun a64 H =>
  ve (store1 H a64 a63) fun _ H =>
  ref16_Distance_j16 call g14 x8 H) (
  ref16_Distance_j16 call g14 x8 H)
noncomputable def ref16_Distance_b14 (call : Ev.Call) (q14e8 : Hp → R1) (x1 x3 x6 x7 : AV) (g14 : AV → Hp → R1) (x8 : AV) (H : Hp) : R1 :=
  vq (fieldP 0 x1) H fun a67 H =>
  vq (load1 H a67) H fun a68 H =>
  vq (intV (intBin .lss).f x8 a68) H fun a69 H =>
  cd a69 (
  ref16_Distance_j66 call g14 x1 x3 x6 x7 x8 H) (
  q14e8 H)
noncomputable def ref16_Distance_l14 (call : Ev.Call) (q14e8 : Hp → R1) (x1 x3 x6 x7 : AV) (n : Nat) : AV → Hp → R1 :=
  Nat.rec (motive := fun _ => AV → Hp → R1) (fun _ _ => .bad) (fun _ ih => ref16_Distance_b14 call q14e8 x1 x3 x6 x7 ih) n
noncomputable def ref16_Distance_L14 (call : Ev.Call) (q14e8 : Hp → R1) (x1 x3 x6 x7 : AV) : AV → Hp → R1 := ref16_Distance_l14 call q14e8 x1 x3 x6 x7 fuelX
noncomputable def ref16_Distance_j70 (call : Ev.Call) (g11 : AV → Hp → R1) (x1 x3 x6 x7 : AV) (H : Hp) : R1 :=
  ref16_Distance_L14 call (fun H => ref16_Distance_j13 call g11 x7 H) x1 x3 x6 x7 (.int .i64 (.ofNat 0)) H
noncomputable def ref16_Distance_b11 (call : Ev.Call) (q11e6 : Hp → R1) (x1 x3 x6 : AV) (g11 : AV → Hp → R1) (x7 : AV) (H : Hp) : R1 :=
  vq (fieldP 0 x1) H fun a71 H =>
  vq (load1 H a71) H fun a72 H =>
  vq (intV (intBin .lss).f x7 a72) H fun a73 H =>
  cd a73 (
  ref16_Distance_j70 call g11 x1 x3 x6 x7 H) (
  q11e6 H)
noncomputable def ref16_Distance_l11 (call : Ev.Call) (q11e6 : Hp → R1) (x1 x3 x6 : AV) (n : Nat) : AV → Hp → R1 :=
  Nat.rec (motive := fun _ => AV → Hp → R1) (fun _ _ => .bad) (fun _ ih => ref16_Distance_b11 call q11e6 x1 x3 x6 ih) n
noncomputable def ref16_Distance_L11 (call : Ev.Call) (q11e6 : Hp → R1) (x1 x3 x6 : AV) : AV → Hp → R1 := ref16_Distance_l11 call q11e6 x1 x3 x6 fuelX
noncomputable def ref16_Distance_j74 (call : Ev.Call) (g8 : AV → Hp → R1) (x1 x3 x6 : AV) (H : Hp) : R1 :=
  ref16_Distance_L11 call (fun H => ref16_Distance_j10 call g8 x6 H) x1 x3 x6 (.int .i64 (.ofNat 0)) H
noncomputable def ref16_Distance_b8 (call : Ev.Call) (q8e4 : Hp → R1) (x1 x3 : AV) (g8 : AV → Hp → R1) (x6 : AV) (H : Hp) : R1 :=
  vq (fieldP 0 x1) H fun a75 H =>
  vq (load1 H a75) H fun a76 H =>
  vq (intV (intBin .lss).f x6 a76) H fun a77 H =>
  cd a77 (
  ref16_Distance_j74 call g8 x1 x3 x6 H) (
  q8e4 H)
noncomputable def ref16_Distance_l8 (call : Ev.Call) (q8e4 : Hp → R1) (x1 x3 : AV) (n : Nat) : AV → Hp → R1 :=
  Nat.rec (motive := fun _ => AV → Hp → R1) (fun _ _ => .bad) (fun _ ih => ref16_Distance_b8 call q8e4 x1 x3 ih) n
noncomputable def ref16_Distance_L8 (call : Ev.Call) (q8e4 : Hp → R1) (x1 x3 : AV) : AV → Hp → R1 := ref16_Distance_l8 call q8e4 x1 x3 fuelX
noncomputable def ref16_Distance_j78 (call : Ev.Call) (x1 x3 : AV) (H : Hp) : R1 :=
  ref16_Distance_L8 call (fun H => ref16_Distance_j7 call x3 H) x1 x3 (.int .i64 (.ofNat 0)) H
noncomputable def ref16_Distance_j81 (call : Ev.Call) (g79 : AV → Hp → R1) (x5 : AV) (H : Hp) : R1 :=
  vq (intV (intBin .add).f x5 (.int .i64 (.ofNat 1))) H fun a80 H =>
  g79 a80 H
noncomputable def ref16_Distance_j88 (call : Ev.Call) (g79 : AV → Hp → R1) (x1 x3 x5 : AV) (H : Hp) : R1 :=
  vq (fieldP 0 x1) H fun a82 H =>
  vq (load1 H a82) H fun a83 H =>
  vq (intV (intBin .mul).f x5 a83) H fun a84 H =>
  vq (intV (intBin .add).f a84 x5) H fun a85 H =>
  vq (idxS 1 x3 a85) H fun a86 H =>
  ve (store1 H a86 (.int .i64 (.ofNat 0))) fun _ H =>
  ref16_Distance_j81 call g79 x5 H
noncomputable def ref16_Distance_b79 (call : Ev.Call) (q79e2 : Hp → R1) (x1 x3 : AV) (g79 : AV → Hp → R1) (x5 : AV) (H : Hp) : R1 :=
  vq (fieldP 0 x1) H fun a89 H =>
  vq (load1 H a89) H fun a90 H =>
  vq (intV (intBin .lss).f x5 a90) H fun a91 H =>
  cd a91 (
  ref16_Distance_j88 call g79 x1 x3 x5 H) (
  q79e2 H)
noncomputable def ref16_Distance_l79 (call : Ev.Call) (q79e2 : Hp → R1) (x1 x3 : AV) (n : Nat) : AV → Hp → R1 :=
  Nat.rec (motive := fun _ => AV → Hp → R1) (fun _ _ => .bad) (fun _ ih => ref16_Distance_b79 call q79e2 x1 x3 ih) n
noncomputable def ref16_Distance_L79 (call : Ev.Call) (q79e2 : Hp → R1) (x1 x3 : AV) : AV → Hp → R1 := ref16_Distance_l79 call q79e2 x1 x3 fuelX
noncomputable def ref16_Distance_j92 (call : Ev.Call) (x1 x3 : AV) (H : Hp) : R1 :=
  ref16_Distance_L79 call (fun H => ref16_Distance_j78 call x1 x3 H) x1 x3 (.int .i64 (.ofNat 0)) H
noncomputable def ref16_Distance_j95 (call : Ev.Call) (g93 : AV → Hp → R1) (x4 : AV) (H : Hp) : R1 :=
  vq (intV (intBin .add).f x4 (.int .i64 (.ofNat 1))) H fun a94 H =>
  g93 a94 H
noncomputable def ref16_Distance_j105 (call : Ev.Call) (g93 : AV → Hp → R1) (x1 x3 x4 : AV) (H : Hp) : R1 :=
  vq (idxS 1 x3 x4) H fun a96 H =>
  ve (store1 H a96 (.int .i64 (.negSucc 0))) fun _ H =>
  vq (fieldP 1 x1) H fun a98 H =>
  vq (load1 H a98) H fun a99 H =>
  vq (idxS 1 a99 x4) H fun a100 H =>
  vq (load1 H a100) H fun a101 H =>
  vq (intV (intBin .gtr).f a101 (.int .i64 (.ofNat 0))) H fun a102 H =>
  cd a102 (
  vq (idxS 1 x3 x4) H fun a103 H =>
  ve (store1 H a103 (.int .i64 (.ofNat 1))) fun _ H =>
  ref16_Distance_j95 call g93 x4 H) (
  ref16_Distance_j95 call g93 x4 H)
noncomputable def ref16_Distance_b93 (call : Ev.Call) (q93e0 : Hp → R1) (x1 x3 : AV) (g93 : AV → Hp → R1) (x4 : AV) (H : Hp) : R1 :=
  vq (lenSl x3) H fun a106 H =>
  vq (intV (intBin .lss).f x4 a106) H fun a107 H =>
  cd a107 (
  ref16_Distance_j105 call g93 x1 x3 x4 H) (
  q93e0 H)
noncomputable def ref16_Distance_l93 (call : Ev.Call) (q93e0 : Hp → R1) (x1 x3 : AV) (n : Nat) : AV → Hp → R1 :=
  Nat.rec (motive := fun _ => AV → Hp → R1) (fun _ _ => .bad) (fun _ ih => ref16_Distance_b93 call q93e0 x1 x3 ih) n
noncomputable def ref16_Distance_L93 (call : Ev.Call) (q93e0 : Hp → R1) (x1 x3 : AV) : AV → Hp → R1 := ref16_Distance_l93 call q93e0 x1 x3 fuelX
noncomputable def ref16_Distance_c (call : Ev.Call) (x0 : AV) (H : Hp) : R1 :=
  vq (boxA 2 H.nx x0) H fun a0 H =>
  vq (fieldP 0 a0) H fun a1 H =>
  vq (load1 H a1) H fun a2 H =>
  vq (fieldP 0 a0) H fun a3 H =>
  vq (load1 H a3) H fun a4 H =>
  vq (intV (intBin .mul).f a2 a4) H fun a5 H =>
  vq (makeSl [.int .i64 (.ofNat 0)] 8 H.nx a5 a5) H fun a6 H =>
  ref16_Distance_L93 call (fun H => ref16_Distance_j92 call a0 a6 H) a0 a6 (.int .i64 (.ofNat 0)) H
noncomputable def ref16_Distance (call : Ev.Call) (x0 : AV) (H : Hp) : R1 := ref16_Distance_c call x0 H
/- countersign/graphs.Path -/
noncomputable def graphs_Path_j8 (call : Ev.Call) (x10 : AV) (H : Hp) : R1 :=
  ve (call (.f id_slices_Reverse_int_int) [x10] H) fun a6 H =>
  ve (call (.f id_slices_Clip_int_int) [x10] H) fun a7 H =>
  .ok (.tup [a7, (.int .i64 (.ofNat 0))]) H
noncomputable def graphs_Path_j14 (call : Ev.Call) (g9 : AV → AV → Hp → R1) (x9 x10 x11 : AV) (H : Hp) : R1 :=
  vq (idxA 256 1 x9 x11) H fun a10 H =>
  vq (load1 H a10) H fun a11 H =>
  vq (newSl 1 H.nx (setParts (reps [.int .i64 (.ofNat 0)] 1) [(0, 1, a11)])) H fun a12 H =>
  ve (appendV 1 8 H x10 (srcOfC 1 H a12)) fun a13 H =>
  g9 a13 a11 H
noncomputable def graphs_Path_b9 (call : Ev.Call) (q9e0 : AV → Hp → R1) (x1 x9 : AV) (g9 : AV → AV → Hp → R1) (x10 x11 : AV) (H : Hp) : R1 :=
  vq (intV (intBin .neq).f x11 x1) H fun a15 H =>
  cd a15 (
  graphs_Path_j14 call g9 x9 x10 x11 H) (
  q9e0 x10 H)
noncomputable def graphs_Path_l9 (call : Ev.Call) (q9e0 : AV → Hp → R1) (x1 x9 : AV) (n : Nat) : AV → AV → Hp → R1 :=
  Nat.rec (motive := fun _ => AV → AV → Hp → R1) (fun _ _ _ => .bad) (fun _ ih => graphs_Path_b9 call q9e0 x1 x9 ih) n
noncomputable def graphs_Path_L9 (call : Ev.Call) (q9e0 : AV → Hp → R1) (x1 x9 : AV) : AV → AV → Hp → R1 := graphs_Path_l9 call q9e0 x1 x9 fuelX
noncomputable def graphs_Path_j16 (call : Ev.Call) (x1 x2 x9 : AV) (H : Hp) : R1 :=
  vq (newSl 1 H.nx (setParts (reps [.int .i64 (.ofNat 0)] 1) [(0, 1, x2)])) H fun a5 H =>
  graphs_Path_L9 call (fun x10 H => graphs_Path_j8 call x10 H) x1 x9 a5 x2 H
noncomputable def graphs_Path_j20 (call : Ev.Call) (x1 x2 x3 : AV) (H : Hp) : R1 :=
  vq (loadA 2 H x3) H fun a1 H =>
  ve (call (.f id_graphs_walk) [a1, x1] H) fun a2 H =>
  vq (.new (.ptr H.nx 0) (mkBlk 0 (List.replicate 256 (.int .i64 (.ofNat 0))))) H fun a3 H =>
  ve (storeA 256 H a3 a2) fun _ H =>
  vq (idxA 256 1 a3 x2) H fun a17 H =>
  vq (load1 H a17) H fun a18 H =>
  vq (intV (intBin .lss).f a18 (.int .i64 (.ofNat 0))) H fun a19 H =>
  cd a19 (
  .ok (.tup [(.nilsl), (.int .i64 (.ofNat 8))]) H) (
  graphs_Path_j16 call x1 x2 a3 H)
noncomputable def graphs_Path_c (call : Ev.Call) (x0 x1 x2 : AV) (H : Hp) : R1 :=
  vq (boxA 2 H.nx x0) H fun a0 H =>
  dz 9 H fun b21 H =>
  dq true false 0 0 (b21 + 0) H [] [] (fun H => loadA 2 H a0) (some true) fun a22 H p w =>
  dq false false 1 0 (b21 + 1) H p w (fun _ => .val x1) (some true) fun a23 H p w =>
  dq true false 3 0 (b21 + 3) H p w (fun H => loadA 2 H a0) (some true) fun a24 H p w =>
  dq false false 4 0 (b21 + 4) H p w (fun _ => .val x2) (some true) fun a25 H p w =>
  de 3 H p w (call (.f id_graphs_of) [a22, a23] (viewH 3 p H)) (some true) fun a26 H p w =>
  de 31 H p w (call (.f id_graphs_of) [a24, a25] (viewH 31 p H)) (some true) fun a27 H p w =>
  dq false true 6 63 (b21 + 6) H p w (fun _ => newSl 2 (b21 + 6) (setParts (reps [.int .i64 (.ofNat 0)] 2) [(0, 1, a26), (1, 1, a27)])) (some true) fun a28 H p w =>
  de 127 H p w (call (.f id_cmp_Or_api_Errno) [a28] (viewH 127 p H)) (some true) fun a29 H p w =>
  dq false false 8 255 (b21 + 8) H p w (fun _ => .val a29) (some true) fun a30 H p w =>
  dz2 p H fun H =>
  vq (intV (intBin .neq).f a30 (.int .i64 (.ofNat 0))) H fun a31 H =>
  cd a31 (
  .ok (.tup [(.nilsl), a30]) H) (
  graphs_Path_j20 call x1 x2 a0 H)
noncomputable def graphs_Path (call : Ev.Call) (x0 x1 x2 : AV) (H : Hp) : R1 := graphs_Path_c call x0 x1 x2 H
/- countersign/countersignref16.Path -/
noncomputable def ref16_Path_j4 (call : Ev.Call) (x8 : AV) (H : Hp) : R1 :=
  .ok x8 H
noncomputable def ref16_Path_j8 (call : Ev.Call) (g5 : AV → AV → Hp → R1) (x8 x9 : AV) (H : Hp) : R1 :=
  vq (newSl 1 H.nx (setParts (reps [.int .i64 (.ofNat 0)] 1) [(0, 1, x9)])) H fun a6 H =>
  ve (appendV 1 8 H x8 (srcOfC 1 H a6)) fun a7 H =>
  g5 x9 a7 H
noncomputable def ref16_Path_j11 (call : Ev.Call) (g9 : AV → AV → Hp → R1) (x9 x10 : AV) (H : Hp) : R1 :=
  vq (intV (intBin .add).f x10 (.int .i64 (.ofNat 1))) H fun a10 H =>
  g9 x9 a10 H
noncomputable def ref16_Path_j53 (call : Ev.Call) (g9 : AV → AV → Hp → R1) (x1 x2 x3 x7 x9 x10 : AV) (H : Hp) : R1 :=
  vl (fieldP 1 x3) fun a12 =>
  vl (load1 H a12) fun a13 =>
  vl (fieldP 0 x3) fun a14 =>
  vl (load1 H a14) fun a15 =>
  vl (intV (intBin .mul).f x1 a15) fun a16 =>
  vl (intV (intBin .add).f a16 x10) fun a17 =>
  vl (idxS 1 a13 a17) fun a18 =>
  vl (load1 H a18) fun a19 =>
  vl (intV (intBin .gtr).f a19 (.int .i64 (.ofNat 0))) fun a20 =>
  vlg (wantV true a20) (.val x7) fun a21 =>
  vlg (wantV true a20) (.val x10) fun a22 =>
  vlg (wantV true a20) (fieldP 0 x3) fun a23 =>
  vlg (wantV true a20) (load1 H a23) fun a24 =>
  vlg (wantV true a20) (intV (intBin .mul).f a22 a24) fun a25 =>
  vlg (wantV true a20) (.val x2) fun a26 =>
  vlg (wantV true a20) (intV (intBin .add).f a25 a26) fun a27 =>
  vlg (wantV true a20) (idxS 1 a21 a27) fun a28 =>
  vlg (wantV true a20) (load1 H a28) fun a29 =>
  vlg (wantV true a20) (intV (intBin .geq).f a29 (.int .i64 (.ofNat 0))) fun a30 =>
  vl (pickV a20 a30 (.bool false)) fun a31 =>
  vlg (wantV true a31) (.val x7) fun a32 =>
  vlg (wantV true a31) (.val x10) fun a33 =>
  vlg (wantV true a31) (fieldP 0 x3) fun a34 =>
  vlg (wantV true a31) (load1 H a34) fun a35 =>
  vlg (wantV true a31) (intV (intBin .mul).f a33 a35) fun a36 =>
  vlg (wantV true a31) (.val x2) fun a37 =>
  vlg (wantV true a31) (intV (intBin .add).f a36 a37) fun a38 =>
  vlg (wantV true a31) (idxS 1 a32 a38) fun a39 =>
  vlg (wantV true a31) (load1 H a39) fun a40 =>
  vlg (wantV true a31) (.val x7) fun a41 =>
  vlg (wantV true a31) (.val x1) fun a42 =>
  vlg (wantV true a31) (fieldP 0 x3) fun a43 =>
  vlg (wantV true a31) (load1 H a43) fun a44 =>
  vlg (wantV true a31) (intV (intBin .mul).f a42 a44) fun a45 =>
  vlg (wantV true a31) (.val x2) fun a46 =>
  vlg (wantV true a31) (intV (intBin .add).f a45 a46) fun a47 =>
  vlg (wantV true a31) (idxS 1 a41 a47) fun a48 =>
  vlg (wantV true a31) (load1 H a48) fun a49 =>
  vlg (wantV true a31) (intV (intBin .sub).f a49 (.int .i64 (.ofNat 1))) fun a50 =>
  vlg (wantV true a31) (intV (intBin .eql).f a40 a50) fun a51 =>
  vl (pickV a31 a51 (.bool false)) fun a52 =>
  cd a52 (
  ref16_Path_j11 call g9 x10 x10 H) (
  ref16_Path_j11 call g9 x9 x10 H)
noncomputable def ref16_Path_b9 (call : Ev.Call) (q9e2 : AV → Hp → R1) (x1 x2 x3 x7 : AV) (g9 : AV → AV → Hp → R1) (x9 x10 : AV) (H : Hp) : R1 :=
  vq (fieldP 0 x3) H fun a54 H =>
  vq (load1 H a54) H fun a55 H =>
  vq (intV (intBin .lss).f x10 a55) H fun a56 H =>
  vg (wantV true a56) (.val x9) H fun a57 H =>
  vg (wantV true a56) (intV (intBin .lss).f a57 (.int .i64 (.ofNat 0))) H fun a58 H =>
  vq (pickV a56 a58 (.bool false)) H fun a59 H =>
  cd a59 (
  ref16_Path_j53 call g9 x1 x2 x3 x7 x9 x10 H) (
  q9e2 x9 H)
noncomputable def ref16_Path_l9 (call : Ev.Call) (q9e2 : AV → Hp → R1) (x1 x2 x3 x7 : AV) (n : Nat) : AV → AV → Hp → R1 :=
  Nat.rec (motive := fun _ => AV → AV → Hp → R1) (fun _ _ _ => .bad) (fun _ ih => ref16_Path_b9 call q9e2 x1 x2 x3 x7 ih) n
noncomputable def ref16_Path_L9 (call : Ev.Call) (q9e2 : AV → Hp → R1) (x1 x2 x3 x7 : AV) : AV → AV → Hp → R1 := ref16_Path_l9 call q9e2 x1 x2 x3 x7 fuelX
noncomputable def ref16_Path_j60 (call : Ev.Call) (g5 : AV → AV → Hp → R1) (x1 x2 x3 x7 x8 : AV) (H : Hp) : R1 :=
  ref16_Path_L9 call (fun x9 H => ref16_Path_j8 call g5 x8 x9 H) x1 x2 x3 x7 (.int .i64 (.negSucc 0)) (.int .i64 (.ofNat 0)) H
noncomputable def ref16_Path_b5 (call : Ev.Call) (q5e0 : AV → Hp → R1) (x2 x3 x7 : AV) (g5 : AV → AV → Hp → R1) (x1 x8 : AV) (H : Hp) : R1 :=
  vq (intV (intBin .neq).f x1 x2) H fun a61 H =>
  cd a61 (
  ref16_Path_j60 call g5 x1 x2 x3 x7 x8 H) (
  q5e0 x8 H)
noncomputable def ref16_Path_l5 (call : Ev.Call) (q5e0 : AV → Hp → R1) (x2 x3 x7 : AV) (n : Nat) : AV → AV → Hp → R1 :=
  Nat.rec (motive := fun _ => AV → AV → Hp → R1) (fun _ _ _ => .bad) (fun _ ih => ref16_Path_b5 call q5e0 x2 x3 x7 ih) n
noncomputable def ref16_Path_L5 (call : Ev.Call) (q5e0 : AV → Hp → R1) (x2 x3 x7 : AV) : AV → AV → Hp → R1 := ref16_Path_l5 call q5e0 x2 x3 x7 fuelX
noncomputable def ref16_Path_j62 (call : Ev.Call) (x1 x2 x3 x7 : AV) (H : Hp) : R1 :=
  vq (newSl 1 H.nx (setParts (reps [.int .i64 (.ofNat 0)] 1) [(0, 1, x1)])) H fun a3 H =>
  ref16_Path_L5 call (fun x8 H => ref16_Path_j4 call x8 H) x2 x3 x7 x1 a3 H
noncomputable def ref16_Path_c (call : Ev.Call) (x0 x1 x2 : AV) (H : Hp) : R1 :=
  vq (boxA 2 H.nx x0) H fun a0 H =>
  vq (loadA 2 H a0) H fun a1 H =>
  ve (call (.f id_ref16_Distance) [a1] H) fun a2 H =>
  vq (fieldP 0 a0) H fun a63 H =>
  vq (load1 H a63) H fun a64 H =>
  vq (intV (intBin .mul).f x1 a64) H fun a65 H =>
  vq (intV (intBin .add).f a65 x2) H fun a66 H =>
  vq (idxS 1 a2 a66) H fun a67 H =>
  vq (load1 H a67) H fun a68 H =>
  vq (intV (intBin .lss).f a68 (.int .i64 (.ofNat 0))) H fun a69 H =>
  cd a69 (
  .ok (.nilsl) H) (
  ref16_Path_j62 call x1 x2 a0 a2 H)
noncomputable def ref16_Path (call : Ev.Call) (x0 x1 x2 : AV) (H : Hp) : R1 := ref16_Path_c call x0 x1 x2 H
/- countersign/countersignlaw16.list -/
noncomputable def law16_list_j0 (call : Ev.Call) (H : Hp) : R1 :=
  .ok (.bool true) H
noncomputable def law16_list_j3 (call : Ev.Call) (g1 : AV → Hp → R1) (x9 : AV) (H : Hp) : R1 :=
  vq (intV (intBin .add).f x9 (.int .i64 (.ofNat 1))) H fun a2 H =>
  g1 a2 H
noncomputable def law16_list_j9 (call : Ev.Call) (q1r : AV → Hp → R1) (g1 : AV → Hp → R1) (x0 x2 x9 : AV) (H : Hp) : R1 :=
  vl (idxS 1 x0 x9) fun a4 =>
  vl (load1 H a4) fun a5 =>
  vl (idxS 1 x2 x9) fun a6 =>
  vl (load1 H a6) fun a7 =>
  vl (intV (intBin .neq).f a5 a7) fun a8 =>
  cd a8 (
  q1r (.bool false) H) (
  law16_list_j3 call g1 x9 H)
noncomputable def law16_list_b1 (call : Ev.Call) (q1r : AV → Hp → R1) (q1e0 : Hp → R1) (x0 x2 : AV) (g1 : AV → Hp → R1) (x9 : AV) (H : Hp) : R1 :=
  vq (lenSl x2) H fun a10 H =>
  vq (intV (intBin .lss).f x9 a10) H fun a11 H =>
  cd a11 (
  law16_list_j9 call q1r g1 x0 x2 x9 H) (
  q1e0 H)
noncomputable def law16_list_l1 (call : Ev.Call) (q1r : AV → Hp → R1) (q1e0 : Hp → R1) (x0 x2 : AV) (n : Nat) : AV → Hp → R1 :=
  Nat.rec (motive := fun _ => AV → Hp → R1) (fun _ _ => .bad) (fun _ ih => law16_list_b1 call q1r q1e0 x0 x2 ih) n
noncomputable def law16_list_L1 (call : Ev.Call) (q1r : AV → Hp → R1) (q1e0 : Hp → R1) (x0 x2 : AV) : AV → Hp → R1 := law16_list_l1 call q1r q1e0 x0 x2 fuelX
noncomputable def law16_list_j12 (call : Ev.Call) (x0 x2 : AV) (H : Hp) : R1 :=
  law16_list_L1 call (fun x8 H => .ok x8 H) (fun H => law16_list_j0 call H) x0 x2 (.int .i64 (.ofNat 0)) H
noncomputable def law16_list_c (call : Ev.Call) (x0 x1 x2 x3 : AV) (H : Hp) : R1 :=
  vq (intV (intBin .neq).f x1 x3) H fun a13 H =>
  vg (wantV false a13) (.val x0) H fun a14 H =>
  vg (wantV false a13) (lenSl a14) H fun a15 H =>
  vg (wantV false a13) (.val x2) H fun a16 H =>
  vg (wantV false a13) (lenSl a16) H fun a17 H =>
  vg (wantV false a13) (intV (intBin .neq).f a15 a17) H fun a18 H =>
  vq (pickV a13 (.bool true) a18) H fun a19 H =>
  vg (wantV false a19) (.val x0) H fun a20 H =>
  vg (wantV false a19) (capV a20) H fun a21 H =>
  vg (wantV false a19) (.val x0) H fun a22 H =>
  vg (wantV false a19) (lenSl a22) H fun a23 H =>
  vg (wantV false a19) (intV (intBin .neq).f a21 a23) H fun a24 H =>
  vq (pickV a19 (.bool true) a24) H fun a25 H =>
  cd a25 (
  .ok (.bool false) H) (
  law16_list_j12 call x0 x2 H)
noncomputable def law16_list (call : Ev.Call) (x0 x1 x2 x3 : AV) (H : Hp) : R1 := law16_list_c call x0 x1 x2 x3 H
/- countersign/graphs.Reach -/
noncomputable def graphs_Reach_j2 (call : Ev.Call) (x7 : AV) (H : Hp) : R1 :=
  ve (call (.f id_slices_Clip_int_int) [x7] H) fun a1 H =>
  .ok (.tup [a1, (.int .i64 (.ofNat 0))]) H
noncomputable def graphs_Reach_j8 (call : Ev.Call) (g5 : AV → AV → Hp → R1) (x7 x19 : AV) (H : Hp) : R1 :=
  vq (intV (intBin .add).f x19 (.int .i64 (.ofNat 1))) H fun a7 H =>
  g5 x7 a7 H
noncomputable def graphs_Reach_j13 (call : Ev.Call) (g5 : AV → AV → Hp → R1) (x7 x18 x19 : AV) (H : Hp) : R1 :=
  vq (idxV p1 256 1 x18 x19) H fun a9 H =>
  vq (intV (intBin .geq).f a9 (.int .i64 (.ofNat 0))) H fun a10 H =>
  cd a10 (
  vq (newSl 1 H.nx (setParts (reps [.int .i64 (.ofNat 0)] 1) [(0, 1, x19)])) H fun a11 H =>
  ve (appendV 1 8 H x7 (srcOfC 1 H a11)) fun a12 H =>
  graphs_Reach_j8 call g5 a12 x19 H) (
  graphs_Reach_j8 call g5 x7 x19 H)
noncomputable def graphs_Reach_b5 (call : Ev.Call) (q5e0 : AV → Hp → R1) (x18 : AV) (g5 : AV → AV → Hp → R1) (x7 x19 : AV) (H : Hp) : R1 :=
  vq (intV (intBin .lss).f x19 (.int .i64 (.ofNat 256))) H fun a6 H =>
  cd a6 (
  graphs_Reach_j13 call g5 x7 x18 x19 H) (
  q5e0 x7 H)
noncomputable def graphs_Reach_l5 (call : Ev.Call) (q5e0 : AV → Hp → R1) (x18 : AV) (n : Nat) : AV → AV → Hp → R1 :=
  Nat.rec (motive := fun _ => AV → AV → Hp → R1) (fun _ _ _ => .bad) (fun _ ih => graphs_Reach_b5 call q5e0 x18 ih) n
noncomputable def graphs_Reach_L5 (call : Ev.Call) (q5e0 : AV → Hp → R1) (x18 : AV) : AV → AV → Hp → R1 := graphs_Reach_l5 call q5e0 x18 fuelX
noncomputable def graphs_Reach_j14 (call : Ev.Call) (x1 x2 : AV) (H : Hp) : R1 :=
  vq (loadA 2 H x2) H fun a3 H =>
  ve (call (.f id_graphs_walk) [a3, x1] H) fun a4 H =>
  graphs_Reach_L5 call (fun x7 H => graphs_Reach_j2 call x7 H) a4 (.nilsl) (.int .i64 (.ofNat 0)) H
noncomputable def graphs_Reach_c (call : Ev.Call) (x0 x1 : AV) (H : Hp) : R1 :=
  vq (boxA 2 H.nx x0) H fun a0 H =>
  vq (loadA 2 H a0) H fun a15 H =>
  ve (call (.f id_graphs_of) [a15, x1] H) fun a16 H =>
  vq (intV (intBin .neq).f a16 (.int .i64 (.ofNat 0))) H fun a17 H =>
  cd a17 (
  .ok (.tup [(.nilsl), a16]) H) (
  graphs_Reach_j14 call x1 a0 H)
noncomputable def graphs_Reach (call : Ev.Call) (x0 x1 : AV) (H : Hp) : R1 := graphs_Reach_c call x0 x1 H
/- countersign/countersignref16.Matrix -/
noncomputable def ref16_Matrix_j6 (call : Ev.Call) (x4 x5 : AV) (H : Hp) : R1 :=
  vq (loadA 2 H x5) H fun a4 H =>
  ve (storeA 2 H x4 a4) fun _ H =>
  finR (rV (loadA 2 H x4)) H
noncomputable def ref16_Matrix_j9 (call : Ev.Call) (g7 : AV → Hp → R1) (x6 : AV) (H : Hp) : R1 :=
  vq (intV (intBin .add).f x6 (.int .i64 (.ofNat 1))) H fun a8 H =>
  g7 a8 H
noncomputable def ref16_Matrix_j29 (call : Ev.Call) (g7 : AV → Hp → R1) (x1 x5 x6 : AV) (H : Hp) : R1 :=
  dz 0 H fun b10 H =>
  dq true false 0 0 (b10 + 0) H [] [] (fun H => loadA 2 H x5) (some true) fun a11 H p w =>
  dq false false 1 0 (b10 + 1) H p w (fun _ => .val x1) (some true) fun a12 H p w =>
  dq false false 2 0 (b10 + 2) H p w (fun _ => .val x6) (some true) fun a13 H p w =>
  dq false false 3 6 (b10 + 3) H p w (fun _ => idxS 3 a12 a13) (some true) fun a14 H p w =>
  dq false false 4 14 (b10 + 4) H p w (fun _ => idxA 3 1 a14 (.int .i64 (.ofNat 0))) (some true) fun a15 H p w =>
  dq true false 5 30 (b10 + 5) H p w (fun H => load1 H a15) (some true) fun a16 H p w =>
  dq false false 6 0 (b10 + 6) H p w (fun _ => .val x1) (some true) fun a17 H p w =>
  dq false false 7 0 (b10 + 7) H p w (fun _ => .val x6) (some true) fun a18 H p w =>
  dq false false 8 192 (b10 + 8) H p w (fun _ => idxS 3 a17 a18) (some true) fun a19 H p w =>
  dq false false 9 448 (b10 + 9) H p w (fun _ => idxA 3 1 a19 (.int .i64 (.ofNat 1))) (some true) fun a20 H p w =>
  dq true false 10 960 (b10 + 10) H p w (fun H => load1 H a20) (some true) fun a21 H p w =>
  dq false false 11 0 (b10 + 11) H p w (fun _ => .val x1) (some true) fun a22 H p w =>
  dq false false 12 0 (b10 + 12) H p w (fun _ => .val x6) (some true) fun a23 H p w =>
  dq false false 13 6144 (b10 + 13) H p w (fun _ => idxS 3 a22 a23) (some true) fun a24 H p w =>
  dq false false 14 14336 (b10 + 14) H p w (fun _ => idxA 3 1 a24 (.int .i64 (.ofNat 2))) (some true) fun a25 H p w =>
  dq true false 15 30720 (b10 + 15) H p w (fun H => load1 H a25) (some true) fun a26 H p w =>
  dq false false 16 63488 (b10 + 16) H p w (fun _ => intV (intBin .eql).f a26 (.int .i64 (.ofNat 1))) (some true) fun a27 H p w =>
  de 131071 H p w (call (.f id_ref16_put) [a11, a16, a21, a27] (viewH 131071 p H)) (some true) fun a28 H p w =>
  dz2 p H fun H =>
  ref16_Matrix_j9 call g7 x6 H
noncomputable def ref16_Matrix_b7 (call : Ev.Call) (q7e0 : Hp → R1) (x1 x5 : AV) (g7 : AV → Hp → R1) (x6 : AV) (H : Hp) : R1 :=
  vq (lenSl x1) H fun a30 H =>
  vq (intV (intBin .lss).f x6 a30) H fun a31 H =>
  cd a31 (
  ref16_Matrix_j29 call g7 x1 x5 x6 H) (
  q7e0 H)
noncomputable def ref16_Matrix_l7 (call : Ev.Call) (q7e0 : Hp → R1) (x1 x5 : AV) (n : Nat) : AV → Hp → R1 :=
  Nat.rec (motive := fun _ => AV → Hp → R1) (fun _ _ => .bad) (fun _ ih => ref16_Matrix_b7 call q7e0 x1 x5 ih) n
noncomputable def ref16_Matrix_L7 (call : Ev.Call) (q7e0 : Hp → R1) (x1 x5 : AV) : AV → Hp → R1 := ref16_Matrix_l7 call q7e0 x1 x5 fuelX
noncomputable def ref16_Matrix_c (call : Ev.Call) (x0 x1 : AV) (H : Hp) : R1 :=
  vq (.new (.ptr H.nx 0) (mkBlk 0 [.int .i64 (.ofNat 0), .nilsl])) H fun a0 H =>
  ve (call (.f id_ref16_New) [x0] H) fun a1 H =>
  vq (.new (.ptr H.nx 0) (mkBlk 0 [.int .i64 (.ofNat 0), .nilsl])) H fun a2 H =>
  ve (storeA 2 H a2 a1) fun _ H =>
  ref16_Matrix_L7 call (fun H => ref16_Matrix_j6 call a0 a2 H) x1 a2 (.int .i64 (.ofNat 0)) H
noncomputable def ref16_Matrix (call : Ev.Call) (x0 x1 : AV) (H : Hp) : R1 := ref16_Matrix_c call x0 x1 H
/- countersign/countersignref16.Edges -/
noncomputable def ref16_Edges_j1 (call : Ev.Call) (x3 : AV) (H : Hp) : R1 :=
  .ok x3 H
noncomputable def ref16_Edges_j4 (call : Ev.Call) (g2 : AV → AV → Hp → R1) (x3 x4 : AV) (H : Hp) : R1 :=
  vq (intV (intBin .add).f x4 (.int .i64 (.ofNat 1))) H fun a3 H =>
  g2 x3 a3 H
noncomputable def ref16_Edges_j7 (call : Ev.Call) (g5 : AV → AV → Hp → R1) (x3 x5 : AV) (H : Hp) : R1 :=
  vq (intV (intBin .add).f x5 (.int .i64 (.ofNat 1))) H fun a6 H =>
  g5 x3 a6 H
noncomputable def ref16_Edges_j20 (call : Ev.Call) (g5 : AV → AV → Hp → R1) (x1 x3 x4 x5 : AV) (H : Hp) : R1 :=
  vq (fieldP 1 x1) H fun a8 H =>
  vq (load1 H a8) H fun a9 H =>
  vq (fieldP 0 x1) H fun a10 H =>
  vq (load1 H a10) H fun a11 H =>
  vq (intV (intBin .mul).f x4 a11) H fun a12 H =>
  vq (intV (intBin .add).f a12 x5) H fun a13 H =>
  vq (idxS 1 a9 a13) H fun a14 H =>
  vq (load1 H a14) H fun a15 H =>
  vq (intV (intBin .gtr).f a15 (.int .i64 (.ofNat 1))) H fun a16 H =>
  cd a16 (
  vq (aggN (setParts [.int .i64 (.ofNat 0), .int .i64 (.ofNat 0), .int .i64 (.ofNat 0)] [(0, 1, x4), (1, 1, x5), (2, 1, (.int .i64 (.ofNat 1)))])) H fun a17 H =>
  vq (newSl 1 H.nx (setParts (reps [.int .i64 (.ofNat 0), .int .i64 (.ofNat 0), .int .i64 (.ofNat 0)] 1) [(0, 3, a17)])) H fun a18 H =>
  ve (appendV 3 24 H x3 (srcOfC 3 H a18)) fun a19 H =>
  ref16_Edges_j7 call g5 a19 x5 H) (
  ref16_Edges_j7 call g5 x3 x5 H)
noncomputable def ref16_Edges_j34 (call : Ev.Call) (g5 : AV → AV → Hp → R1) (x1 x3 x4 x5 : AV) (H : Hp) : R1 :=
  vq (fieldP 1 x1) H fun a21 H =>
  vq (load1 H a21) H fun a22 H =>
  vq (fieldP 0 x1) H fun a23 H =>
  vq (load1 H a23) H fun a24 H =>
  vq (intV (intBin .mul).f x4 a24) H fun a25 H =>
  vq (intV (intBin .add).f a25 x5) H fun a26 H =>
  vq (idxS 1 a22 a26) H fun a27 H =>
  vq (load1 H a27) H fun a28 H =>
  vq (intV (intBin .rem).f a28 (.int .i64 (.ofNat 2))) H fun a29 H =>
  vq (intV (intBin .eql).f a29 (.int .i64 (.ofNat 1))) H fun a30 H =>
  cd a30 (
  vq (aggN (setParts [.int .i64 (.ofNat 0), .int .i64 (.ofNat 0), .int .i64 (.ofNat 0)] [(0, 1, x4), (1, 1, x5), (2, 1, (.int .i64 (.ofNat 0)))])) H fun a31 H =>
  vq (newSl 1 H.nx (setParts (reps [.int .i64 (.ofNat 0), .int .i64 (.ofNat 0), .int .i64 (.ofNat 0)] 1) [(0, 3, a31)])) H fun a32 H =>
  ve (appendV 3 24 H x3 (srcOfC 3 H a32)) fun a33 H =>
  ref16_Edges_j20 call g5 x1 a33 x4 x5 H) (
  ref16_Edges_j20 call g5 x1 x3 x4 x5 H)
noncomputable def ref16_Edges_b5 (call : Ev.Call) (q5e2 : AV → Hp → R1) (x1 x4 : AV) (g5 : AV → AV → Hp → R1) (x3 x5 : AV) (H : Hp) : R1 :=
  vq (fieldP 0 x1) H fun a35 H =>
  vq (load1 H a35) H fun a36 H =>
  vq (intV (intBin .lss).f x5 a36) H fun a37 H =>
  cd a37 (
  ref16_Edges_j34 call g5 x1 x3 x4 x5 H) (
  q5e2 x3 H)
noncomputable def ref16_Edges_l5 (call : Ev.Call) (q5e2 : AV → Hp → R1) (x1 x4 : AV) (n : Nat) : AV → AV → Hp → R1 :=
  Nat.rec (motive := fun _ => AV → AV → Hp → R1) (fun _ _ _ => .bad) (fun _ ih => ref16_Edges_b5 call q5e2 x1 x4 ih) n
noncomputable def ref16_Edges_L5 (call : Ev.Call) (q5e2 : AV → Hp → R1) (x1 x4 : AV) : AV → AV → Hp → R1 := ref16_Edges_l5 call q5e2 x1 x4 fuelX
noncomputable def ref16_Edges_j38 (call : Ev.Call) (g2 : AV → AV → Hp → R1) (x1 x3 x4 : AV) (H : Hp) : R1 :=
  ref16_Edges_L5 call (fun x3 H => ref16_Edges_j4 call g2 x3 x4 H) x1 x4 x3 (.int .i64 (.ofNat 0)) H
noncomputable def ref16_Edges_b2 (call : Ev.Call) (q2e0 : AV → Hp → R1) (x1 : AV) (g2 : AV → AV → Hp → R1) (x3 x4 : AV) (H : Hp) : R1 :=
  vq (fieldP 0 x1) H fun a39 H =>
  vq (load1 H a39) H fun a40 H =>
  vq (intV (intBin .lss).f x4 a40) H fun a41 H =>
  cd a41 (
  ref16_Edges_j38 call g2 x1 x3 x4 H) (
  q2e0 x3 H)
noncomputable def ref16_Edges_l2 (call : Ev.Call) (q2e0 : AV → Hp → R1) (x1 : AV) (n : Nat) : AV → AV → Hp → R1 :=
  Nat.rec (motive := fun _ => AV → AV → Hp → R1) (fun _ _ _ => .bad) (fun _ ih => ref16_Edges_b2 call q2e0 x1 ih) n
noncomputable def ref16_Edges_L2 (call : Ev.Call) (q2e0 : AV → Hp → R1) (x1 : AV) : AV → AV → Hp → R1 := ref16_Edges_l2 call q2e0 x1 fuelX
noncomputable def ref16_Edges_c (call : Ev.Call) (x0 : AV) (H : Hp) : R1 :=
  vq (boxA 2 H.nx x0) H fun a0 H =>
  ref16_Edges_L2 call (fun x3 H => ref16_Edges_j1 call x3 H) a0 (.nilsl) (.int .i64 (.ofNat 0)) H
noncomputable def ref16_Edges (call : Ev.Call) (x0 : AV) (H : Hp) : R1 := ref16_Edges_c call x0 H
/- countersign/graphs.of -/
noncomputable def graphs_of_j1 (call : Ev.Call) (H : Hp) : R1 :=
  .ok (.int .i64 (.ofNat 0)) H
noncomputable def graphs_of_j8 (call : Ev.Call) (x1 x2 : AV) (H : Hp) : R1 :=
  vq (intV (intBin .lss).f x1 (.int .i64 (.ofNat 0))) H fun a2 H =>
  vg (wantV false a2) (.val x1) H fun a3 H =>
  vg (wantV false a2) (fieldP 0 x2) H fun a4 H =>
  vg (wantV false a2) (load1 H a4) H fun a5 H =>
  vg (wantV false a2) (intV (intBin .geq).f a3 a5) H fun a6 H =>
  vq (pickV a2 (.bool true) a6) H fun a7 H =>
  cd a7 (
  .ok (.int .i64 (.ofNat 4)) H) (
  graphs_of_j1 call H)
noncomputable def graphs_of_c (call : Ev.Call) (x0 x1 : AV) (H : Hp) : R1 :=
  vq (boxA 2 H.nx x0) H fun a0 H =>
  vq (loadA 2 H a0) H fun a9 H =>
  ve (call (.f id_graphs_Check) [a9] H) fun a10 H =>
  vq (intV (intBin .neq).f a10 (.int .i64 (.ofNat 0))) H fun a11 H =>
  cd a11 (
  .ok a10 H) (
  graphs_of_j8 call x1 a0 H)
noncomputable def graphs_of (call : Ev.Call) (x0 x1 : AV) (H : Hp) : R1 := graphs_of_c call x0 x1 H
/- cmp.Or[countersign/api.Errno] -/
noncomputable def cmp_Or_api_Errno_j0 (call : Ev.Call) (x3 : AV) (H : Hp) : R1 :=
  .ok x3 H
noncomputable def cmp_Or_api_Errno_j5 (call : Ev.Call) (g2 : AV → Hp → R1) (x8 : AV) (H : Hp) : R1 :=
  vq (intV (intBin .add).f x8 (.int .i64 (.ofNat 1))) H fun a4 H =>
  g2 a4 H
noncomputable def cmp_Or_api_Errno_j9 (call : Ev.Call) (q2r : AV → Hp → R1) (g2 : AV → Hp → R1) (x3 x6 x8 : AV) (H : Hp) : R1 :=
  vq (idxS 1 x6 x8) H fun a6 H =>
  vq (load1 H a6) H fun a7 H =>
  vq (intV (intBin .neq).f a7 x3) H fun a8 H =>
  cd a8 (
  q2r a7 H) (
  cmp_Or_api_Errno_j5 call g2 x8 H)
noncomputable def cmp_Or_api_Errno_b2 (call : Ev.Call) (q2r : AV → Hp → R1) (q2e0 : Hp → R1) (x3 x6 x7 : AV) (g2 : AV → Hp → R1) (x8 : AV) (H : Hp) : R1 :=
  vq (intV (intBin .lss).f x8 x7) H fun a3 H =>
  cd a3 (
  cmp_Or_api_Errno_j9 call q2r g2 x3 x6 x8 H) (
  q2e0 H)
noncomputable def cmp_Or_api_Errno_l2 (call : Ev.Call) (q2r : AV → Hp → R1) (q2e0 : Hp → R1) (x3 x6 x7 : AV) (n : Nat) : AV → Hp → R1 :=
  Nat.rec (motive := fun _ => AV → Hp → R1) (fun _ _ => .bad) (fun _ ih => cmp_Or_api_Errno_b2 call q2r q2e0 x3 x6 x7 ih) n
noncomputable def cmp_Or_api_Errno_L2 (call : Ev.Call) (q2r : AV → Hp → R1) (q2e0 : Hp → R1) (x3 x6 x7 : AV) : AV → Hp → R1 := cmp_Or_api_Errno_l2 call q2r q2e0 x3 x6 x7 fuelX
noncomputable def cmp_Or_api_Errno_c (call : Ev.Call) (x0 : AV) (H : Hp) : R1 :=
  vq (lenSl x0) H fun a1 H =>
  cmp_Or_api_Errno_L2 call (fun x2 H => .ok x2 H) (fun H => cmp_Or_api_Errno_j0 call (.int .i64 (.ofNat 0)) H) (.int .i64 (.ofNat 0)) x0 a1 (.int .i64 (.ofNat 0)) H
noncomputable def cmp_Or_api_Errno (call : Ev.Call) (x0 : AV) (H : Hp) : R1 := cmp_Or_api_Errno_c call x0 H
/- countersign/graphs.walk -/
noncomputable def graphs_walk_j7 (call : Ev.Call) (x4 x5 : AV) (H : Hp) : R1 :=
  vq (loadA 256 H x5) H fun a5 H =>
  ve (storeA 256 H x4 a5) fun _ H =>
  finR (rV (loadA 256 H x4)) H
noncomputable def graphs_walk_j11 (call : Ev.Call) (g9 : AV → Hp → R1) (x7 : AV) (H : Hp) : R1 :=
  vq (sliceSl 1 x7 (some (.int .i64 (.ofNat 1))) none none) H fun a10 H =>
  g9 a10 H
noncomputable def graphs_walk_j18 (call : Ev.Call) (g15 : AV → AV → Hp → R1) (x7 x29 : AV) (H : Hp) : R1 :=
  vq (intV (intBin .add).f x29 (.int .i64 (.ofNat 1))) H fun a17 H =>
  g15 x7 a17 H
noncomputable def graphs_walk_j44 (call : Ev.Call) (g15 : AV → AV → Hp → R1) (x5 x7 x27 x29 : AV) (H : Hp) : R1 :=
  vq (idxS 3 x27 x29) H fun a19 H =>
  vq (loadA 3 H a19) H fun a20 H =>
  vq (.new (.ptr H.nx 0) (mkBlk 0 [.int .i64 (.ofNat 0), .int .i64 (.ofNat 0), .bool false])) H fun a21 H =>
  ve (storeA 3 H a21 a20) fun _ H =>
  vl (fieldP 0 a21) fun a23 =>
  vl (load1 H a23) fun a24 =>
  vl (idxS 1 x7 (.int .i64 (.ofNat 0))) fun a25 =>
  vl (load1 H a25) fun a26 =>
  vl (intV (intBin .eql).f a24 a26) fun a27 =>
  vlg (wantV true a27) (fieldP 1 a21) fun a28 =>
  vlg (wantV true a27) (load1 H a28) fun a29 =>
  vlg (wantV true a27) (idxA 256 1 x5 a29) fun a30 =>
  vlg (wantV true a27) (load1 H a30) fun a31 =>
  vlg (wantV true a27) (intV (intBin .lss).f a31 (.int .i64 (.ofNat 0))) fun a32 =>
  vl (pickV a27 a32 (.bool false)) fun a33 =>
  cd a33 (
  vq (fieldP 1 a21) H fun a34 H =>
  vq (load1 H a34) H fun a35 H =>
  vq (fieldP 0 a21) H fun a36 H =>
  vq (load1 H a36) H fun a37 H =>
  vq (idxA 256 1 x5 a35) H fun a38 H =>
  ve (store1 H a38 a37) fun _ H =>
  vq (fieldP 1 a21) H fun a40 H =>
  vq (load1 H a40) H fun a41 H =>
  vq (newSl 1 H.nx (setParts (reps [.int .i64 (.ofNat 0)] 1) [(0, 1, a41)])) H fun a42 H =>
  ve (appendV 1 8 H x7 (srcOfC 1 H a42)) fun a43 H =>
  graphs_walk_j18 call g15 a43 x29 H) (
  graphs_walk_j18 call g15 x7 x29 H)
noncomputable def graphs_walk_b15 (call : Ev.Call) (q15e4 : AV → Hp → R1) (x5 x27 x28 : AV) (g15 : AV → AV → Hp → R1) (x7 x29 : AV) (H : Hp) : R1 :=
  vq (intV (intBin .lss).f x29 x28) H fun a16 H =>
  cd a16 (
  graphs_walk_j44 call g15 x5 x7 x27 x29 H) (
  q15e4 x7 H)
noncomputable def graphs_walk_l15 (call : Ev.Call) (q15e4 : AV → Hp → R1) (x5 x27 x28 : AV) (n : Nat) : AV → AV → Hp → R1 :=
  Nat.rec (motive := fun _ => AV → AV → Hp → R1) (fun _ _ _ => .bad) (fun _ ih => graphs_walk_b15 call q15e4 x5 x27 x28 ih) n
noncomputable def graphs_walk_L15 (call : Ev.Call) (q15e4 : AV → Hp → R1) (x5 x27 x28 : AV) : AV → AV → Hp → R1 := graphs_walk_l15 call q15e4 x5 x27 x28 fuelX
noncomputable def graphs_walk_j45 (call : Ev.Call) (g9 : AV → Hp → R1) (x2 x5 x7 : AV) (H : Hp) : R1 :=
  vq (fieldP 1 x2) H fun a12 H =>
  vq (load1 H a12) H fun a13 H =>
  vq (lenSl a13) H fun a14 H =>
  graphs_walk_L15 call (fun x7 H => graphs_walk_j11 call g9 x7 H) x5 a13 a14 x7 (.int .i64 (.ofNat 0)) H
noncomputable def graphs_walk_b9 (call : Ev.Call) (q9e2 : Hp → R1) (x2 x5 : AV) (g9 : AV → Hp → R1) (x7 : AV) (H : Hp) : R1 :=
  vq (lenSl x7) H fun a46 H =>
  vq (intV (intBin .gtr).f a46 (.int .i64 (.ofNat 0))) H fun a47 H =>
  cd a47 (
  graphs_walk_j45 call g9 x2 x5 x7 H) (
  q9e2 H)
noncomputable def graphs_walk_l9 (call : Ev.Call) (q9e2 : Hp → R1) (x2 x5 : AV) (n : Nat) : AV → Hp → R1 :=
  Nat.rec (motive := fun _ => AV → Hp → R1) (fun _ _ => .bad) (fun _ ih => graphs_walk_b9 call q9e2 x2 x5 ih) n
noncomputable def graphs_walk_L9 (call : Ev.Call) (q9e2 : Hp → R1) (x2 x5 : AV) : AV → Hp → R1 := graphs_walk_l9 call q9e2 x2 x5 fuelX
noncomputable def graphs_walk_j48 (call : Ev.Call) (x1 x2 x4 x5 : AV) (H : Hp) : R1 :=
  vq (idxA 256 1 x5 x1) H fun a3 H =>
  ve (store1 H a3 x1) fun _ H =>
  vq (newSl 1 H.nx (setParts (reps [.int .i64 (.ofNat 0)] 1) [(0, 1, x1)])) H fun a8 H =>
  graphs_walk_L9 call (fun H => graphs_walk_j7 call x4 x5 H) x2 x5 a8 H
noncomputable def graphs_walk_j52 (call : Ev.Call) (g49 : AV → Hp → R1) (x10 : AV) (H : Hp) : R1 :=
  vq (intV (intBin .add).f x10 (.int .i64 (.ofNat 1))) H fun a51 H =>
  g49 a51 H
noncomputable def graphs_walk_j55 (call : Ev.Call) (g49 : AV → Hp → R1) (x5 x10 : AV) (H : Hp) : R1 :=
  vq (idxA 256 1 x5 x10) H fun a53 H =>
  ve (store1 H a53 (.int .i64 (.negSucc 0))) fun _ H =>
  graphs_walk_j52 call g49 x10 H
noncomputable def graphs_walk_b49 (call : Ev.Call) (q49e0 : Hp → R1) (x5 : AV) (g49 : AV → Hp → R1) (x10 : AV) (H : Hp) : R1 :=
  vq (intV (intBin .lss).f x10 (.int .i64 (.ofNat 256))) H fun a50 H =>
  cd a50 (
  graphs_walk_j55 call g49 x5 x10 H) (
  q49e0 H)
noncomputable def graphs_walk_l49 (call : Ev.Call) (q49e0 : Hp → R1) (x5 : AV) (n : Nat) : AV → Hp → R1 :=
  Nat.rec (motive := fun _ => AV → Hp → R1) (fun _ _ => .bad) (fun _ ih => graphs_walk_b49 call q49e0 x5 ih) n
noncomputable def graphs_walk_L49 (call : Ev.Call) (q49e0 : Hp → R1) (x5 : AV) : AV → Hp → R1 := graphs_walk_l49 call q49e0 x5 fuelX
noncomputable def graphs_walk_c (call : Ev.Call) (x0 x1 : AV) (H : Hp) : R1 :=
  vq (boxA 2 H.nx x0) H fun a0 H =>
  vq (.new (.ptr H.nx 0) (mkBlk 0 (List.replicate 256 (.int .i64 (.ofNat 0))))) H fun a1 H =>
  vq (.new (.ptr H.nx 0) (mkBlk 0 (List.replicate 256 (.int .i64 (.ofNat 0))))) H fun a2 H =>
  graphs_walk_L49 call (fun H => graphs_walk_j48 call x1 a0 a1 a2 H) a2 (.int .i64 (.ofNat 0)) H
noncomputable def graphs_walk (call : Ev.Call) (x0 x1 : AV) (H : Hp) : R1 := graphs_walk_c call x0 x1 H
/- slices.Reverse[[]int,int] -/
noncomputable def slices_Reverse_int_int_j5 (call : Ev.Call) (g2 : AV → AV → Hp → R1) (x2 x3 : AV) (H : Hp) : R1 :=
  vq (intV (intBin .add).f x2 (.int .i64 (.ofNat 1))) H fun a3 H =>
  vq (intV (intBin .sub).f x3 (.int .i64 (.ofNat 1))) H fun a4 H =>
  g2 a3 a4 H
noncomputable def slices_Reverse_int_int_j23 (call : Ev.Call) (g2 : AV → AV → Hp → R1) (x0 x2 x3 : AV) (H : Hp) : R1 :=
  dz 0 H fun b6 H =>
  dq false false 0 0 (b6 + 0) H [] [] (fun _ => .val x0) (some true) fun a7 H p w =>
  dq false false 1 0 (b6 + 1) H p w (fun _ => .val x2) (some true) fun a8 H p w =>
  dq false false 2 0 (b6 + 2) H p w (fun _ => .val x0) (some true) fun a9 H p w =>
  dq false false 3 0 (b6 + 3) H p w (fun _ => .val x3) (some true) fun a10 H p w =>
  dq false false 4 0 (b6 + 4) H p w (fun _ => .val x0) (some true) fun a11 H p w =>
  dq false false 5 0 (b6 + 5) H p w (fun _ => .val x3) (some true) fun a12 H p w =>
  dq false false 6 48 (b6 + 6) H p w (fun _ => idxS 1 a11 a12) (some true) fun a13 H p w =>
  dq true false 7 112 (b6 + 7) H p w (fun H => load1 H a13) (some true) fun a14 H p w =>
  dq false false 8 0 (b6 + 8) H p w (fun _ => .val x0) (some true) fun a15 H p w =>
  dq false false 9 0 (b6 + 9) H p w (fun _ => .val x2) (some true) fun a16 H p w =>
  dq false false 10 768 (b6 + 10) H p w (fun _ => idxS 1 a15 a16) (some true) fun a17 H p w =>
  dq true false 11 1792 (b6 + 11) H p w (fun H => load1 H a17) (some true) fun a18 H p w =>
  dq false false 12 4083 (b6 + 12) H p w (fun _ => idxS 1 a7 a8) (some true) fun a19 H p w =>
  de 8179 H p w (store1 (viewH 8179 p H) a19 a14) (some true) fun _ H p w =>
  dq false false 14 16383 (b6 + 14) H p w (fun _ => idxS 1 a9 a10) (some true) fun a21 H p w =>
  de 32767 H p w (store1 (viewH 32767 p H) a21 a18) (some true) fun _ H p w =>
  dz2 p H fun H =>
  slices_Reverse_int_int_j5 call g2 x2 x3 H
noncomputable def slices_Reverse_int_int_b2 (call : Ev.Call) (q2e0 : Hp → R1) (x0 : AV) (g2 : AV → AV → Hp → R1) (x2 x3 : AV) (H : Hp) : R1 :=
  vq (intV (intBin .lss).f x2 x3) H fun a24 H =>
  cd a24 (
  slices_Reverse_int_int_j23 call g2 x0 x2 x3 H) (
  q2e0 H)
noncomputable def slices_Reverse_int_int_l2 (call : Ev.Call) (q2e0 : Hp → R1) (x0 : AV) (n : Nat) : AV → AV → Hp → R1 :=
  Nat.rec (motive := fun _ => AV → AV → Hp → R1) (fun _ _ _ => .bad) (fun _ ih => slices_Reverse_int_int_b2 call q2e0 x0 ih) n
noncomputable def slices_Reverse_int_int_L2 (call : Ev.Call) (q2e0 : Hp → R1) (x0 : AV) : AV → AV → Hp → R1 := slices_Reverse_int_int_l2 call q2e0 x0 fuelX
noncomputable def slices_Reverse_int_int_c (call : Ev.Call) (x0 : AV) (H : Hp) : R1 :=
  vq (lenSl x0) H fun a0 H =>
  vq (intV (intBin .sub).f a0 (.int .i64 (.ofNat 1))) H fun a1 H =>
  slices_Reverse_int_int_L2 call (fun H => .ok (.tup []) H) x0 (.int .i64 (.ofNat 0)) a1 H
noncomputable def slices_Reverse_int_int (call : Ev.Call) (x0 : AV) (H : Hp) : R1 := slices_Reverse_int_int_c call x0 H
/- slices.Clip[[]int,int] -/
noncomputable def slices_Clip_int_int_c (call : Ev.Call) (x0 : AV) (H : Hp) : R1 :=
  vq (lenSl x0) H fun a0 H =>
  vq (lenSl x0) H fun a1 H =>
  vq (sliceSl 1 x0 none (some a0) (some a1)) H fun a2 H =>
  .ok a2 H
noncomputable def slices_Clip_int_int (call : Ev.Call) (x0 : AV) (H : Hp) : R1 := slices_Clip_int_int_c call x0 H
/- countersign/graphs.Check -/
noncomputable def graphs_Check_j1 (call : Ev.Call) (H : Hp) : R1 :=
  .ok (.int .i64 (.ofNat 0)) H
noncomputable def graphs_Check_j8 (call : Ev.Call) (g5 : AV → Hp → R1) (x16 : AV) (H : Hp) : R1 :=
  vq (intV (intBin .add).f x16 (.int .i64 (.ofNat 1))) H fun a7 H =>
  g5 a7 H
noncomputable def graphs_Check_m (call : Ev.Call) (q5r : AV → Hp → R1) (g5 : AV → Hp → R1) (x1 x3 x4 x16 : AV) (H : Hp) : R1 :=
  vq (fieldP 0 x4) H fun a13 H =>
  vq (load1 H a13) H fun a14 H =>
  vq (fieldP 1 x4) H fun a15 H =>
  vq (load1 H a15) H fun a16 H =>
  vq (foldV minV a14 [a16]) H fun a17 H =>
  vq (intV (intBin .lss).f a17 (.int .i64 (.ofNat 0))) H fun a18 H =>
  vg (wantV false a18) (fieldP 0 x4) H fun a19 H =>
  vg (wantV false a18) (load1 H a19) H fun a20 H =>
  vg (wantV false a18) (fieldP 1 x4) H fun a21 H =>
  vg (wantV false a18) (load1 H a21) H fun a22 H =>
  vg (wantV false a18) (foldV maxV a20 [a22]) H fun a23 H =>
  vg (wantV false a18) (fieldP 0 x1) H fun a24 H =>
  vg (wantV false a18) (load1 H a24) H fun a25 H =>
  vg (wantV false a18) (intV (intBin .geq).f a23 a25) H fun a26 H =>
  vq (pickV a18 (.bool true) a26) H fun a27 H =>
  cd a27 (
  q5r (.int .i64 (.ofNat 4)) H) (
  dz 0 H fun b28 H =>
  dq false false 0 0 (b28 + 0) H [] [] (fun _ => .val x3) (some true) fun a29 H p w =>
  dq false false 1 1 (b28 + 1) H p w (fun _ => intV (intBin .gtr).f a29 (.int .i64 (.ofNat 0))) (some true) fun a30 H p w =>
  dq false false 2 3 (b28 + 2) H p w (fun _ => .val a30) (some true) fun a31 H p w =>
  dq false false 3 7 (b28 + 3) H p w (fun _ => fieldP 1 x1) (wantV true a31) fun a32 H p w =>
  dq true false 4 15 (b28 + 4) H p w (fun H => load1 H a32) (wantV true a31) fun a33 H p w =>
  dq false false 5 7 (b28 + 5) H p w (fun _ => .val x3) (wantV true a31) fun a34 H p w =>
  dq false false 6 39 (b28 + 6) H p w (fun _ => intV (intBin .sub).f a34 (.int .i64 (.ofNat 1))) (wantV true a31) fun a35 H p w =>
  dq false false 7 127 (b28 + 7) H p w (fun _ => idxS 3 a33 a35) (wantV true a31) fun a36 H p w =>
  dq true false 8 255 (b28 + 8) H p w (fun H => loadA 3 H a36) (wantV true a31) fun a37 H p w =>
  dq true false 9 7 (b28 + 9) H p w (fun H => loadA 3 H x4) (wantV true a31) fun a38 H p w =>
  de 1023 H p w (call (.f id_graphs_compare) [a37, a38] (viewH 1023 p H)) (wantV true a31) fun a39 H p w =>
  dq false false 11 2047 (b28 + 11) H p w (fun _ => intV (intBin .geq).f a39 (.int .i64 (.ofNat 0))) (wantV true a31) fun a40 H p w =>
  dq false false 12 4095 (b28 + 12) H p w (fun _ => pickV a31 a40 (.bool false)) (some true) fun a41 H p w =>
  dq false false 13 8191 (b28 + 13) H p w (fun _ => .val a41) (some true) fun a42 H p w =>
  dz2 p H fun H =>
  cd a42 (
  q5r (.int .i64 (.ofNat 18)) H) (
  graphs_Check_j8 call g5 x16 H))
noncomputable def graphs_Check_j43 (call : Ev.Call) (q5r : AV → Hp → R1) (g5 : AV → Hp → R1) (x1 x14 x16 : AV) (H : Hp) : R1 :=
  vq (idxS 3 x14 x16) H fun a9 H =>
  vq (loadA 3 H a9) H fun a10 H =>
  vq (.new (.ptr H.nx 0) (mkBlk 0 [.int .i64 (.ofNat 0), .int .i64 (.ofNat 0), .bool false])) H fun a11 H =>
  ve (storeA 3 H a11 a10) fun _ H =>
  graphs_Check_m call q5r g5 x1 x16 a11 x16 H
noncomputable def graphs_Check_b5 (call : Ev.Call) (q5r : AV → Hp → R1) (q5e0 : Hp → R1) (x1 x14 x15 : AV) (g5 : AV → Hp → R1) (x16 : AV) (H : Hp) : R1 :=
  vq (intV (intBin .lss).f x16 x15) H fun a6 H =>
  cd a6 (
  graphs_Check_j43 call q5r g5 x1 x14 x16 H) (
  q5e0 H)
noncomputable def graphs_Check_l5 (call : Ev.Call) (q5r : AV → Hp → R1) (q5e0 : Hp → R1) (x1 x14 x15 : AV) (n : Nat) : AV → Hp → R1 :=
  Nat.rec (motive := fun _ => AV → Hp → R1) (fun _ _ => .bad) (fun _ ih => graphs_Check_b5 call q5r q5e0 x1 x14 x15 ih) n
noncomputable def graphs_Check_L5 (call : Ev.Call) (q5r : AV → Hp → R1) (q5e0 : Hp → R1) (x1 x14 x15 : AV) : AV → Hp → R1 := graphs_Check_l5 call q5r q5e0 x1 x14 x15 fuelX
noncomputable def graphs_Check_j44 (call : Ev.Call) (x1 : AV) (H : Hp) : R1 :=
  vq (fieldP 1 x1) H fun a2 H =>
  vq (load1 H a2) H fun a3 H =>
  vq (lenSl a3) H fun a4 H =>
  graphs_Check_L5 call (fun x2 H => .ok x2 H) (fun H => graphs_Check_j1 call H) x1 a3 a4 (.int .i64 (.ofNat 0)) H
noncomputable def graphs_Check_c (call : Ev.Call) (x0 : AV) (H : Hp) : R1 :=
  vq (boxA 2 H.nx x0) H fun a0 H =>
  vq (fieldP 0 a0) H fun a45 H =>
  vq (load1 H a45) H fun a46 H =>
  vq (intV (intBin .lss).f a46 (.int .i64 (.ofNat 0))) H fun a47 H =>
  vg (wantV false a47) (fieldP 0 a0) H fun a48 H =>
  vg (wantV false a47) (load1 H a48) H fun a49 H =>
  vg (wantV false a47) (intV (intBin .gtr).f a49 (.int .i64 (.ofNat 256))) H fun a50 H =>
  vq (pickV a47 (.bool true) a50) H fun a51 H =>
  cd a51 (
  .ok (.int .i64 (.ofNat 3)) H) (
  graphs_Check_j44 call a0 H)
noncomputable def graphs_Check (call : Ev.Call) (x0 : AV) (H : Hp) : R1 := graphs_Check_c call x0 H
/- countersign/countersignref16.New -/
noncomputable def ref16_New_c (call : Ev.Call) (x0 : AV) (H : Hp) : R1 :=
  vq (.new (.ptr H.nx 0) (mkBlk 0 [.int .i64 (.ofNat 0), .nilsl])) H fun a0 H =>
  vq (intV (intBin .mul).f x0 x0) H fun a1 H =>
  vq (makeSl [.int .i64 (.ofNat 0)] 8 H.nx a1 a1) H fun a2 H =>
  vq (aggN (setParts [.int .i64 (.ofNat 0), .nilsl] [(0, 1, x0), (1, 1, a2)])) H fun a3 H =>
  ve (storeA 2 H a0 a3) fun _ H =>
  finR (rV (loadA 2 H a0)) H
noncomputable def ref16_New (call : Ev.Call) (x0 : AV) (H : Hp) : R1 := ref16_New_c call x0 H
/- countersign/countersignref16.put -/
noncomputable def ref16_put_j23 (call : Ev.Call) (x1 x2 x4 x8 : AV) (H : Hp) : R1 :=
  vq (fieldP 1 x4) H fun a1 H =>
  vq (load1 H a1) H fun a2 H =>
  vq (fieldP 0 x4) H fun a3 H =>
  vq (load1 H a3) H fun a4 H =>
  vq (intV (intBin .mul).f x1 a4) H fun a5 H =>
  vq (intV (intBin .add).f a5 x2) H fun a6 H =>
  vq (idxS 1 a2 a6) H fun a7 H =>
  vq (load1 H a7) H fun a8 H =>
  vq (intV (intBin .quo).f a8 x8) H fun a9 H =>
  vq (intV (intBin .rem).f a9 (.int .i64 (.ofNat 2))) H fun a10 H =>
  vq (intV (intBin .eql).f a10 (.int .i64 (.ofNat 0))) H fun a11 H =>
  cd a11 (
  vq (fieldP 1 x4) H fun a12 H =>
  vq (load1 H a12) H fun a13 H =>
  vq (fieldP 0 x4) H fun a14 H =>
  vq (load1 H a14) H fun a15 H =>
  vq (intV (intBin .mul).f x1 a15) H fun a16 H =>
  vq (intV (intBin .add).f a16 x2) H fun a17 H =>
  vq (idxS 1 a13 a17) H fun a18 H =>
  vq (load1 H a18) H fun a19 H =>
  vq (intV (intBin .add).f a19 x8) H fun a20 H =>
  vq (idxS 1 a13 a17) H fun a21 H =>
  ve (store1 H a21 a20) fun _ H =>
  .ok (.tup []) H) (
  .ok (.tup []) H)
noncomputable def ref16_put_c (call : Ev.Call) (x0 x1 x2 x3 : AV) (H : Hp) : R1 :=
  vq (boxA 2 H.nx x0) H fun a0 H =>
  cd x3 (
  ref16_put_j23 call x1 x2 a0 (.int .i64 (.ofNat 2)) H) (
  ref16_put_j23 call x1 x2 a0 (.int .i64 (.ofNat 1)) H)
noncomputable def ref16_put (call : Ev.Call) (x0 x1 x2 x3 : AV) (H : Hp) : R1 := ref16_put_c call x0 x1 x2 x3 H
/- countersign/graphs.compare -/
noncomputable def graphs_compare_c (call : Ev.Call) (x0 x1 : AV) (H : Hp) : R1 :=
  vq (boxA 3 H.nx x0) H fun a0 H =>
  vq (boxA 3 H.nx x1) H fun a1 H =>
  dz 18 H fun b2 H =>
  dq false false 0 0 (b2 + 0) H [] [] (fun _ => fieldP 0 a0) (some true) fun a3 H p w =>
  dq true false 1 1 (b2 + 1) H p w (fun H => load1 H a3) (some true) fun a4 H p w =>
  dq false false 2 0 (b2 + 2) H p w (fun _ => fieldP 0 a1) (some true) fun a5 H p w =>
  dq true false 3 4 (b2 + 3) H p w (fun H => load1 H a5) (some true) fun a6 H p w =>
  dq false false 5 0 (b2 + 5) H p w (fun _ => fieldP 1 a0) (some true) fun a7 H p w =>
  dq true false 6 32 (b2 + 6) H p w (fun H => load1 H a7) (some true) fun a8 H p w =>
  dq false false 7 0 (b2 + 7) H p w (fun _ => fieldP 1 a1) (some true) fun a9 H p w =>
  dq true false 8 128 (b2 + 8) H p w (fun H => load1 H a9) (some true) fun a10 H p w =>
  dq true false 10 0 (b2 + 10) H p w (fun H => loadA 3 H a0) (some true) fun a11 H p w =>
  dq true false 12 0 (b2 + 12) H p w (fun H => loadA 3 H a1) (some true) fun a12 H p w =>
  de 15 H p w (call (.f id_cmp_Compare_int) [a4, a6] (viewH 15 p H)) (some true) fun a13 H p w =>
  de 511 H p w (call (.f id_cmp_Compare_int) [a8, a10] (viewH 511 p H)) (some true) fun a14 H p w =>
  de 2047 H p w (call (.f id_graphs_sign) [a11] (viewH 2047 p H)) (some true) fun a15 H p w =>
  de 8191 H p w (call (.f id_graphs_sign) [a12] (viewH 8191 p H)) (some true) fun a16 H p w =>
  de 16383 H p w (call (.f id_cmp_Compare_int) [a15, a16] (viewH 16383 p H)) (some true) fun a17 H p w =>
  dq false true 15 32767 (b2 + 15) H p w (fun _ => newSl 3 (b2 + 15) (setParts (reps [.int .i64 (.ofNat 0)] 3) [(0, 1, a13), (1, 1, a14), (2, 1, a17)])) (some true) fun a18 H p w =>
  de 65535 H p w (call (.f id_cmp_Or_int) [a18] (viewH 65535 p H)) (some true) fun a19 H p w =>
  dq false false 17 131071 (b2 + 17) H p w (fun _ => .val a19) (some true) fun a20 H p w =>
  dz2 p H fun H =>
  .ok a20 H
noncomputable def graphs_compare (call : Ev.Call) (x0 x1 : AV) (H : Hp) : R1 := graphs_compare_c call x0 x1 H
/- cmp.Compare[int] -/
noncomputable def cmp_Compare_int_j2 (call : Ev.Call) (H : Hp) : R1 :=
  .ok (.int .i64 (.ofNat 0)) H
noncomputable def cmp_Compare_int_j4 (call : Ev.Call) (x0 x1 : AV) (H : Hp) : R1 :=
  vq (intV (intBin .gtr).f x0 x1) H fun a3 H =>
  cd a3 (
  .ok (.int .i64 (.ofNat 1)) H) (
  cmp_Compare_int_j2 call H)
noncomputable def cmp_Compare_int_j6 (call : Ev.Call) (x0 x1 : AV) (H : Hp) : R1 :=
  vq (intV (intBin .lss).f x0 x1) H fun a5 H =>
  cd a5 (
  .ok (.int .i64 (.negSucc 0)) H) (
  cmp_Compare_int_j4 call x0 x1 H)
noncomputable def cmp_Compare_int_j7 (call : Ev.Call) (x0 x1 x6 : AV) (H : Hp) : R1 :=
  cd x6 (
  .ok (.int .i64 (.ofNat 1)) H) (
  cmp_Compare_int_j6 call x0 x1 H)
noncomputable def cmp_Compare_int_j8 (call : Ev.Call) (H : Hp) : R1 :=
  .ok (.int .i64 (.negSucc 0)) H
noncomputable def cmp_Compare_int_c (call : Ev.Call) (x0 x1 : AV) (H : Hp) : R1 :=
  ve (call (.f id_cmp_isNaN_int) [x0] H) fun a0 H =>
  ve (call (.f id_cmp_isNaN_int) [x1] H) fun a1 H =>
  cd a0 (
  cd a1 (
  .ok (.int .i64 (.ofNat 0)) H) (
  cmp_Compare_int_j8 call H)) (
  cmp_Compare_int_j7 call x0 x1 a1 H)
noncomputable def cmp_Compare_int (call : Ev.Call) (x0 x1 : AV) (H : Hp) : R1 := cmp_Compare_int_c call x0 x1 H
/- countersign/graphs.sign -/
noncomputable def graphs_sign_j1 (call : Ev.Call) (H : Hp) : R1 :=
  .ok (.int .i64 (.ofNat 0)) H
noncomputable def graphs_sign_c (call : Ev.Call) (x0 : AV) (H : Hp) : R1 :=
  vq (boxA 3 H.nx x0) H fun a0 H =>
  vq (fieldP 2 a0) H fun a2 H =>
  vq (load1 H a2) H fun a3 H =>
  cd a3 (
  .ok (.int .i64 (.ofNat 1)) H) (
  graphs_sign_j1 call H)
noncomputable def graphs_sign (call : Ev.Call) (x0 : AV) (H : Hp) : R1 := graphs_sign_c call x0 H
/- cmp.Or[int] -/
noncomputable def cmp_Or_int_j0 (call : Ev.Call) (x3 : AV) (H : Hp) : R1 :=
  .ok x3 H
noncomputable def cmp_Or_int_j5 (call : Ev.Call) (g2 : AV → Hp → R1) (x8 : AV) (H : Hp) : R1 :=
  vq (intV (intBin .add).f x8 (.int .i64 (.ofNat 1))) H fun a4 H =>
  g2 a4 H
noncomputable def cmp_Or_int_j9 (call : Ev.Call) (q2r : AV → Hp → R1) (g2 : AV → Hp → R1) (x3 x6 x8 : AV) (H : Hp) : R1 :=
  vq (idxS 1 x6 x8) H fun a6 H =>
  vq (load1 H a6) H fun a7 H =>
  vq (intV (intBin .neq).f a7 x3) H fun a8 H =>
  cd a8 (
  q2r a7 H) (
  cmp_Or_int_j5 call g2 x8 H)
noncomputable def cmp_Or_int_b2 (call : Ev.Call) (q2r : AV → Hp → R1) (q2e0 : Hp → R1) (x3 x6 x7 : AV) (g2 : AV → Hp → R1) (x8 : AV) (H : Hp) : R1 :=
  vq (intV (intBin .lss).f x8 x7) H fun a3 H =>
  cd a3 (
  cmp_Or_int_j9 call q2r g2 x3 x6 x8 H) (
  q2e0 H)
noncomputable def cmp_Or_int_l2 (call : Ev.Call) (q2r : AV → Hp → R1) (q2e0 : Hp → R1) (x3 x6 x7 : AV) (n : Nat) : AV → Hp → R1 :=
  Nat.rec (motive := fun _ => AV → Hp → R1) (fun _ _ => .bad) (fun _ ih => cmp_Or_int_b2 call q2r q2e0 x3 x6 x7 ih) n
noncomputable def cmp_Or_int_L2 (call : Ev.Call) (q2r : AV → Hp → R1) (q2e0 : Hp → R1) (x3 x6 x7 : AV) : AV → Hp → R1 := cmp_Or_int_l2 call q2r q2e0 x3 x6 x7 fuelX
noncomputable def cmp_Or_int_c (call : Ev.Call) (x0 : AV) (H : Hp) : R1 :=
  vq (lenSl x0) H fun a1 H =>
  cmp_Or_int_L2 call (fun x2 H => .ok x2 H) (fun H => cmp_Or_int_j0 call (.int .i64 (.ofNat 0)) H) (.int .i64 (.ofNat 0)) x0 a1 (.int .i64 (.ofNat 0)) H
noncomputable def cmp_Or_int (call : Ev.Call) (x0 : AV) (H : Hp) : R1 := cmp_Or_int_c call x0 H
/- cmp.isNaN[int] -/
noncomputable def cmp_isNaN_int_c (call : Ev.Call) (x0 : AV) (H : Hp) : R1 :=
  vq (intV (intBin .neq).f x0 x0) H fun a0 H =>
  .ok a0 H
noncomputable def cmp_isNaN_int (call : Ev.Call) (x0 : AV) (H : Hp) : R1 := cmp_isNaN_int_c call x0 H
end Go.Di
end

section
namespace Go.Di
open Go.Ev
/-- what a call by a function's number comes to -/
structure Lnk (c d : Ev.Call) : Prop where
  law16_H_Matrix : ∀ (x0 : AV) (H : Hp), c (.f id_law16_H_Matrix) [x0] H = Di.law16_H_Matrix d x0 H
  law16_Graph : ∀ (x0 : AV) (H : Hp), c (.f id_law16_Graph) [x0] H = Di.law16_Graph d x0 H
  ref16_Distance : ∀ (x0 : AV) (H : Hp), c (.f id_ref16_Distance) [x0] H = Di.ref16_Distance d x0 H
  graphs_Path : ∀ (x0 x1 x2 : AV) (H : Hp), c (.f id_graphs_Path) [x0, x1, x2] H = Di.graphs_Path d x0 x1 x2 H
  ref16_Path : ∀ (x0 x1 x2 : AV) (H : Hp), c (.f id_ref16_Path) [x0, x1, x2] H = Di.ref16_Path d x0 x1 x2 H
  law16_list : ∀ (x0 x1 x2 x3 : AV) (H : Hp), c (.f id_law16_list) [x0, x1, x2, x3] H = Di.law16_list d x0 x1 x2 x3 H
  graphs_Reach : ∀ (x0 x1 : AV) (H : Hp), c (.f id_graphs_Reach) [x0, x1] H = Di.graphs_Reach d x0 x1 H
  ref16_Matrix : ∀ (x0 x1 : AV) (H : Hp), c (.f id_ref16_Matrix) [x0, x1] H = Di.ref16_Matrix d x0 x1 H
  ref16_Edges : ∀ (x0 : AV) (H : Hp), c (.f id_ref16_Edges) [x0] H = Di.ref16_Edges d x0 H
  graphs_of : ∀ (x0 x1 : AV) (H : Hp), c (.f id_graphs_of) [x0, x1] H = Di.graphs_of d x0 x1 H
  cmp_Or_api_Errno : ∀ (x0 : AV) (H : Hp), c (.f id_cmp_Or_api_Errno) [x0] H = Di.cmp_Or_api_Errno d x0 H
  graphs_walk : ∀ (x0 x1 : AV) (H : Hp), c (.f id_graphs_walk) [x0, x1] H = Di.graphs_walk d x0 x1 H
  slices_Reverse_int_int : ∀ (x0 : AV) (H : Hp), c (.f id_slices_Reverse_int_int) [x0] H = Di.slices_Reverse_int_int d x0 H
  slices_Clip_int_int : ∀ (x0 : AV) (H : Hp), c (.f id_slices_Clip_int_int) [x0] H = Di.slices_Clip_int_int d x0 H
  graphs_Check : ∀ (x0 : AV) (H : Hp), c (.f id_graphs_Check) [x0] H = Di.graphs_Check d x0 H
  ref16_New : ∀ (x0 : AV) (H : Hp), c (.f id_ref16_New) [x0] H = Di.ref16_New d x0 H
  ref16_put : ∀ (x0 x1 x2 x3 : AV) (H : Hp), c (.f id_ref16_put) [x0, x1, x2, x3] H = Di.ref16_put d x0 x1 x2 x3 H
  graphs_compare : ∀ (x0 x1 : AV) (H : Hp), c (.f id_graphs_compare) [x0, x1] H = Di.graphs_compare d x0 x1 H
  cmp_Compare_int : ∀ (x0 x1 : AV) (H : Hp), c (.f id_cmp_Compare_int) [x0, x1] H = Di.cmp_Compare_int d x0 x1 H
  graphs_sign : ∀ (x0 : AV) (H : Hp), c (.f id_graphs_sign) [x0] H = Di.graphs_sign d x0 H
  cmp_Or_int : ∀ (x0 : AV) (H : Hp), c (.f id_cmp_Or_int) [x0] H = Di.cmp_Or_int d x0 H
  cmp_isNaN_int : ∀ (x0 : AV) (H : Hp), c (.f id_cmp_isNaN_int) [x0] H = Di.cmp_isNaN_int d x0 H
end Go.Di
end
