/-
  For countersignlaw16.GraphsTurned: the functions of the sort and of turned graphs in direct style (printed by a program). No conditions beyond those that each theorem states.
-/
import Derived.Test.YtigaopnmpflgmaaGreatGraC
set_option linter.unusedSimpArgs false
set_option linter.unusedVariables false
section
namespace Go.Di
open Go.Ev
set_option linter.unusedVariables false
def id_law16_GraphsTurned : FuncId := 5
def id_graphs_Turned : FuncId := 20
def id_law16_edges : FuncId := 9
def id_graphs_Out : FuncId := 21
def id_graphs_In : FuncId := 22
def id_graphs_ordered : FuncId := 40
def id_s_ClipE : FuncId := 49
def id_s_SortFunc : FuncId := 62
def id_s_Compact : FuncId := 63
def id_s_Len : FuncId := 84
def id_s_pdq : FuncId := 83
def id_s_Len32 : FuncId := 107
def id_s_Len64 : FuncId := 108
def id_s_ins : FuncId := 99
def id_s_heap : FuncId := 100
def id_s_brk : FuncId := 101
def id_s_piv : FuncId := 102
def id_s_rev : FuncId := 103
def id_s_pins : FuncId := 104
def id_s_peq : FuncId := 105
def id_s_part : FuncId := 106
def id_s_sift : FuncId := 119
def id_s_npow : FuncId := 120
def id_s_xorNext : FuncId := 121
def id_s_medadj : FuncId := 122
def id_s_med : FuncId := 123
def id_s_ord2 : FuncId := 129
noncomputable def law16_GraphsTurned_j44 (call : Ev.Call) (x8 x10 x23 x24 : AV) (H : Hp) : R1 :=
  vq (intV (intBin .eql).f x8 (.int .i64 (.ofNat 4))) H fun a31 H =>
  vg (wantV true a31) (.val x10) H fun a32 H =>
  vg (wantV true a31) (intV (intBin .eql).f a32 (.int .i64 (.ofNat 4))) H fun a33 H =>
  vq (pickV a31 a33 (.bool false)) H fun a34 H =>
  vg (wantV true a34) (.val x23) H fun a35 H =>
  vg (wantV true a34) (lenSl a35) H fun a36 H =>
  vg (wantV true a34) (.val x24) H fun a37 H =>
  vg (wantV true a34) (lenSl a37) H fun a38 H =>
  vg (wantV true a34) (intV (intBin .add).f a36 a38) H fun a39 H =>
  vg (wantV true a34) (intV (intBin .eql).f a39 (.int .i64 (.ofNat 0))) H fun a40 H =>
  vq (pickV a34 a40 (.bool false)) H fun a41 H =>
  veg (wantV true a41) (call (.f id_law16_lives) [] H) H fun a42 H =>
  vq (pickV a41 a42 (.bool false)) H fun a43 H =>
  .ok a43 H
noncomputable def law16_GraphsTurned_j57 (call : Ev.Call) (x1 x5 x6 : AV) (H : Hp) : R1 :=
  vq (loadA 2 H x6) H fun a23 H =>
  ve (call (.f id_graphs_Out) [a23, x1] H) fun a24 H =>
  vq (extr 0 a24) H fun a25 H =>
  vq (extr 1 a24) H fun a26 H =>
  vq (loadA 2 H x6) H fun a27 H =>
  ve (call (.f id_graphs_In) [a27, x1] H) fun a28 H =>
  vq (extr 0 a28) H fun a29 H =>
  vq (extr 1 a28) H fun a30 H =>
  vq (intV (intBin .geq).f x1 (.int .i64 (.ofNat 0))) H fun a45 H =>
  vg (wantV true a45) (.val x1) H fun a46 H =>
  vg (wantV true a45) (fieldP 0 x5) H fun a47 H =>
  vg (wantV true a45) (load1 H a47) H fun a48 H =>
  vg (wantV true a45) (intV (intBin .lss).f a46 a48) H fun a49 H =>
  vq (pickV a45 a49 (.bool false)) H fun a50 H =>
  cd a50 (
  vq (intV (intBin .eql).f a26 (.int .i64 (.ofNat 0))) H fun a51 H =>
  vg (wantV true a51) (.val a30) H fun a52 H =>
  vg (wantV true a51) (intV (intBin .eql).f a52 (.int .i64 (.ofNat 0))) H fun a53 H =>
  vq (pickV a51 a53 (.bool false)) H fun a54 H =>
  veg (wantV true a54) (call (.f id_law16_lives) [] H) H fun a55 H =>
  vq (pickV a54 a55 (.bool false)) H fun a56 H =>
  .ok a56 H) (
  law16_GraphsTurned_j44 call a26 a30 a25 a29 H)
noncomputable def law16_GraphsTurned_j60 (call : Ev.Call) (g58 : AV → Hp → R1) (x12 : AV) (H : Hp) : R1 :=
  vq (intV (intBin .add).f x12 (.int .i64 (.ofNat 1))) H fun a59 H =>
  g58 a59 H
noncomputable def law16_GraphsTurned_j75 (call : Ev.Call) (g73 : AV → Hp → R1) (x22 : AV) (H : Hp) : R1 :=
  vq (intV (intBin .add).f x22 (.int .i64 (.ofNat 1))) H fun a74 H =>
  g73 a74 H
noncomputable def law16_GraphsTurned_j105 (call : Ev.Call) (q73r : AV → Hp → R1) (g73 : AV → Hp → R1) (x12 x14 x20 x22 : AV) (H : Hp) : R1 :=
  vl (idxS 3 x20 x22) fun a76 =>
  vl (fieldP 0 a76) fun a77 =>
  vl (load1 H a77) fun a78 =>
  vl (intV (intBin .neq).f a78 x12) fun a79 =>
  vlg (wantV false a79) (.val x20) fun a80 =>
  vlg (wantV false a79) (.val x22) fun a81 =>
  vlg (wantV false a79) (idxS 3 a80 a81) fun a82 =>
  vlg (wantV false a79) (fieldP 1 a82) fun a83 =>
  vlg (wantV false a79) (load1 H a83) fun a84 =>
  vlg (wantV false a79) (.val x14) fun a85 =>
  vlg (wantV false a79) (.val x22) fun a86 =>
  vlg (wantV false a79) (idxS 3 a85 a86) fun a87 =>
  vlg (wantV false a79) (idxA 3 1 a87 (.int .i64 (.ofNat 0))) fun a88 =>
  vlg (wantV false a79) (load1 H a88) fun a89 =>
  vlg (wantV false a79) (intV (intBin .neq).f a84 a89) fun a90 =>
  vl (pickV a79 (.bool true) a90) fun a91 =>
  vlg (wantV false a91) (.val x20) fun a92 =>
  vlg (wantV false a91) (.val x22) fun a93 =>
  vlg (wantV false a91) (idxS 3 a92 a93) fun a94 =>
  vlg (wantV false a91) (fieldP 2 a94) fun a95 =>
  vlg (wantV false a91) (load1 H a95) fun a96 =>
  vlg (wantV false a91) (.val x14) fun a97 =>
  vlg (wantV false a91) (.val x22) fun a98 =>
  vlg (wantV false a91) (idxS 3 a97 a98) fun a99 =>
  vlg (wantV false a91) (idxA 3 1 a99 (.int .i64 (.ofNat 2))) fun a100 =>
  vlg (wantV false a91) (load1 H a100) fun a101 =>
  vlg (wantV false a91) (intV (intBin .eql).f a101 (.int .i64 (.ofNat 1))) fun a102 =>
  vlg (wantV false a91) (boolR true ((⟨E2.f ⟨eqBool⟩⟩ : E2).f a96 a102)) fun a103 =>
  vl (pickV a91 (.bool true) a103) fun a104 =>
  cd a104 (
  q73r (.bool false) H) (
  law16_GraphsTurned_j75 call g73 x22 H)
noncomputable def law16_GraphsTurned_b73 (call : Ev.Call) (q73r : AV → Hp → R1) (q73e4 : Hp → R1) (x12 x14 x20 : AV) (g73 : AV → Hp → R1) (x22 : AV) (H : Hp) : R1 :=
  vq (lenSl x14) H fun a106 H =>
  vq (intV (intBin .lss).f x22 a106) H fun a107 H =>
  cd a107 (
  law16_GraphsTurned_j105 call q73r g73 x12 x14 x20 x22 H) (
  q73e4 H)
noncomputable def law16_GraphsTurned_l73 (call : Ev.Call) (q73r : AV → Hp → R1) (q73e4 : Hp → R1) (x12 x14 x20 : AV) (n : Nat) : AV → Hp → R1 :=
  Nat.rec (motive := fun _ => AV → Hp → R1) (fun _ _ => .bad) (fun _ ih => law16_GraphsTurned_b73 call q73r q73e4 x12 x14 x20 ih) n
noncomputable def law16_GraphsTurned_L73 (call : Ev.Call) (q73r : AV → Hp → R1) (q73e4 : Hp → R1) (x12 x14 x20 : AV) : AV → Hp → R1 := law16_GraphsTurned_l73 call q73r q73e4 x12 x14 x20 fuelX
noncomputable def law16_GraphsTurned_j108 (call : Ev.Call) (q58r : AV → Hp → R1) (g58 : AV → Hp → R1) (x12 x14 x20 : AV) (H : Hp) : R1 :=
  law16_GraphsTurned_L73 call (fun x4 H => q58r x4 H) (fun H => law16_GraphsTurned_j60 call g58 x12 H) x12 x14 x20 (.int .i64 (.ofNat 0)) H
noncomputable def law16_GraphsTurned_j128 (call : Ev.Call) (q58r : AV → Hp → R1) (g58 : AV → Hp → R1) (x6 x7 x12 x13 x14 : AV) (H : Hp) : R1 :=
  vq (loadA 2 H x6) H fun a61 H =>
  ve (call (.f id_graphs_Out) [a61, x12] H) fun a62 H =>
  vq (extr 0 a62) H fun a63 H =>
  vq (extr 1 a62) H fun a64 H =>
  vq (loadA 2 H x6) H fun a65 H =>
  ve (call (.f id_graphs_In) [a65, x12] H) fun a66 H =>
  vq (extr 0 a66) H fun a67 H =>
  vq (extr 1 a66) H fun a68 H =>
  vq (loadA 2 H x7) H fun a69 H =>
  ve (call (.f id_graphs_Out) [a69, x12] H) fun a70 H =>
  vq (extr 0 a70) H fun a71 H =>
  vq (extr 1 a70) H fun a72 H =>
  vq (intV (intBin .add).f a64 a68) H fun a109 H =>
  vq (intV (intBin .add).f a109 a72) H fun a110 H =>
  vq (intV (intBin .neq).f a110 (.int .i64 (.ofNat 0))) H fun a111 H =>
  vg (wantV false a111) (.val a63) H fun a112 H =>
  vg (wantV false a111) (.val x13) H fun a113 H =>
  veg (wantV false a111) (call (.f id_law16_edges) [a112, a113] H) H fun a114 H =>
  vg (wantV false a111) ((unS .not).f a114) H fun a115 H =>
  vq (pickV a111 (.bool true) a115) H fun a116 H =>
  vg (wantV false a116) (.val a67) H fun a117 H =>
  vg (wantV false a116) (.val x14) H fun a118 H =>
  veg (wantV false a116) (call (.f id_law16_edges) [a117, a118] H) H fun a119 H =>
  vg (wantV false a116) ((unS .not).f a119) H fun a120 H =>
  vq (pickV a116 (.bool true) a120) H fun a121 H =>
  vg (wantV false a121) (.val a71) H fun a122 H =>
  vg (wantV false a121) (lenSl a122) H fun a123 H =>
  vg (wantV false a121) (.val x14) H fun a124 H =>
  vg (wantV false a121) (lenSl a124) H fun a125 H =>
  vg (wantV false a121) (intV (intBin .neq).f a123 a125) H fun a126 H =>
  vq (pickV a121 (.bool true) a126) H fun a127 H =>
  cd a127 (
  q58r (.bool false) H) (
  law16_GraphsTurned_j108 call q58r g58 x12 x14 a71 H)
noncomputable def law16_GraphsTurned_j131 (call : Ev.Call) (g129 : AV → AV → AV → Hp → R1) (x13 x14 x15 : AV) (H : Hp) : R1 :=
  vq (intV (intBin .add).f x15 (.int .i64 (.ofNat 1))) H fun a130 H =>
  g129 x13 x14 a130 H
noncomputable def law16_GraphsTurned_j140 (call : Ev.Call) (g129 : AV → AV → AV → Hp → R1) (x11 x12 x13 x14 x15 : AV) (H : Hp) : R1 :=
  vq (idxS 3 x11 x15) H fun a132 H =>
  vq (idxA 3 1 a132 (.int .i64 (.ofNat 1))) H fun a133 H =>
  vq (load1 H a133) H fun a134 H =>
  vq (intV (intBin .eql).f a134 x12) H fun a135 H =>
  cd a135 (
  vq (idxS 3 x11 x15) H fun a136 H =>
  vq (loadA 3 H a136) H fun a137 H =>
  vq (newSl 1 H.nx (setParts (reps [.int .i64 (.ofNat 0), .int .i64 (.ofNat 0), .int .i64 (.ofNat 0)] 1) [(0, 3, a137)])) H fun a138 H =>
  ve (appendV 3 24 H x14 (srcOfC 3 H a138)) fun a139 H =>
  law16_GraphsTurned_j131 call g129 x13 a139 x15 H) (
  law16_GraphsTurned_j131 call g129 x13 x14 x15 H)
noncomputable def law16_GraphsTurned_j149 (call : Ev.Call) (g129 : AV → AV → AV → Hp → R1) (x11 x12 x13 x14 x15 : AV) (H : Hp) : R1 :=
  vq (idxS 3 x11 x15) H fun a141 H =>
  vq (idxA 3 1 a141 (.int .i64 (.ofNat 0))) H fun a142 H =>
  vq (load1 H a142) H fun a143 H =>
  vq (intV (intBin .eql).f a143 x12) H fun a144 H =>
  cd a144 (
  vq (idxS 3 x11 x15) H fun a145 H =>
  vq (loadA 3 H a145) H fun a146 H =>
  vq (newSl 1 H.nx (setParts (reps [.int .i64 (.ofNat 0), .int .i64 (.ofNat 0), .int .i64 (.ofNat 0)] 1) [(0, 3, a146)])) H fun a147 H =>
  ve (appendV 3 24 H x13 (srcOfC 3 H a147)) fun a148 H =>
  law16_GraphsTurned_j140 call g129 x11 x12 a148 x14 x15 H) (
  law16_GraphsTurned_j140 call g129 x11 x12 x13 x14 x15 H)
noncomputable def law16_GraphsTurned_b129 (call : Ev.Call) (q129e2 : AV → AV → Hp → R1) (x11 x12 : AV) (g129 : AV → AV → AV → Hp → R1) (x13 x14 x15 : AV) (H : Hp) : R1 :=
  vq (lenSl x11) H fun a150 H =>
  vq (intV (intBin .lss).f x15 a150) H fun a151 H =>
  cd a151 (
  law16_GraphsTurned_j149 call g129 x11 x12 x13 x14 x15 H) (
  q129e2 x13 x14 H)
noncomputable def law16_GraphsTurned_l129 (call : Ev.Call) (q129e2 : AV → AV → Hp → R1) (x11 x12 : AV) (n : Nat) : AV → AV → AV → Hp → R1 :=
  Nat.rec (motive := fun _ => AV → AV → AV → Hp → R1) (fun _ _ _ _ => .bad) (fun _ ih => law16_GraphsTurned_b129 call q129e2 x11 x12 ih) n
noncomputable def law16_GraphsTurned_L129 (call : Ev.Call) (q129e2 : AV → AV → Hp → R1) (x11 x12 : AV) : AV → AV → AV → Hp → R1 := law16_GraphsTurned_l129 call q129e2 x11 x12 fuelX
noncomputable def law16_GraphsTurned_j152 (call : Ev.Call) (q58r : AV → Hp → R1) (g58 : AV → Hp → R1) (x6 x7 x11 x12 : AV) (H : Hp) : R1 :=
  law16_GraphsTurned_L129 call (fun x13 x14 H => law16_GraphsTurned_j128 call q58r g58 x6 x7 x12 x13 x14 H) x11 x12 (.nilsl) (.nilsl) (.int .i64 (.ofNat 0)) H
noncomputable def law16_GraphsTurned_b58 (call : Ev.Call) (q58r : AV → Hp → R1) (q58e0 : Hp → R1) (x5 x6 x7 x11 : AV) (g58 : AV → Hp → R1) (x12 : AV) (H : Hp) : R1 :=
  vq (fieldP 0 x5) H fun a153 H =>
  vq (load1 H a153) H fun a154 H =>
  vq (intV (intBin .lss).f x12 a154) H fun a155 H =>
  cd a155 (
  law16_GraphsTurned_j152 call q58r g58 x6 x7 x11 x12 H) (
  q58e0 H)
noncomputable def law16_GraphsTurned_l58 (call : Ev.Call) (q58r : AV → Hp → R1) (q58e0 : Hp → R1) (x5 x6 x7 x11 : AV) (n : Nat) : AV → Hp → R1 :=
  Nat.rec (motive := fun _ => AV → Hp → R1) (fun _ _ => .bad) (fun _ ih => law16_GraphsTurned_b58 call q58r q58e0 x5 x6 x7 x11 ih) n
noncomputable def law16_GraphsTurned_L58 (call : Ev.Call) (q58r : AV → Hp → R1) (q58e0 : Hp → R1) (x5 x6 x7 x11 : AV) : AV → Hp → R1 := law16_GraphsTurned_l58 call q58r q58e0 x5 x6 x7 x11 fuelX
noncomputable def law16_GraphsTurned_j156 (call : Ev.Call) (x1 x5 x6 x7 x11 : AV) (H : Hp) : R1 :=
  law16_GraphsTurned_L58 call (fun x4 H => .ok x4 H) (fun H => law16_GraphsTurned_j57 call x1 x5 x6 H) x5 x6 x7 x11 (.int .i64 (.ofNat 0)) H
noncomputable def law16_GraphsTurned_m (call : Ev.Call) (x1 a3 a7 a12 a13 a18 a19 a22 : AV) (H : Hp) : R1 :=
  vq (intV (intBin .neq).f a12 (.int .i64 (.ofNat 0))) H fun a157 H =>
  vg (wantV false a157) (.val a18) H fun a158 H =>
  vg (wantV false a157) (intV (intBin .neq).f a158 (.int .i64 (.ofNat 0))) H fun a159 H =>
  vq (pickV a157 (.bool true) a159) H fun a160 H =>
  vg (wantV false a160) (fieldP 0 a13) H fun a161 H =>
  vg (wantV false a160) (load1 H a161) H fun a162 H =>
  vg (wantV false a160) (fieldP 0 a3) H fun a163 H =>
  vg (wantV false a160) (load1 H a163) H fun a164 H =>
  vg (wantV false a160) (intV (intBin .neq).f a162 a164) H fun a165 H =>
  vq (pickV a160 (.bool true) a165) H fun a166 H =>
  vg (wantV false a166) (fieldP 0 a19) H fun a167 H =>
  vg (wantV false a166) (load1 H a167) H fun a168 H =>
  vg (wantV false a166) (fieldP 0 a3) H fun a169 H =>
  vg (wantV false a166) (load1 H a169) H fun a170 H =>
  vg (wantV false a166) (intV (intBin .neq).f a168 a170) H fun a171 H =>
  vq (pickV a166 (.bool true) a171) H fun a172 H =>
  vg (wantV false a172) (fieldP 1 a19) H fun a173 H =>
  vg (wantV false a172) (load1 H a173) H fun a174 H =>
  vg (wantV false a172) (.val a22) H fun a175 H =>
  veg (wantV false a172) (call (.f id_law16_edges) [a174, a175] H) H fun a176 H =>
  vg (wantV false a172) ((unS .not).f a176) H fun a177 H =>
  vq (pickV a172 (.bool true) a177) H fun a178 H =>
  vg (wantV false a178) (fieldP 1 a13) H fun a179 H =>
  vg (wantV false a178) (load1 H a179) H fun a180 H =>
  vg (wantV false a178) (lenSl a180) H fun a181 H =>
  vg (wantV false a178) (.val a22) H fun a182 H =>
  vg (wantV false a178) (lenSl a182) H fun a183 H =>
  vg (wantV false a178) (intV (intBin .neq).f a181 a183) H fun a184 H =>
  vq (pickV a178 (.bool true) a184) H fun a185 H =>
  vg (wantV false a185) (loadA 2 H a13) H fun a186 H =>
  veg (wantV false a185) (call (.f id_graphs_Check) [a186] H) H fun a187 H =>
  vg (wantV false a185) (intV (intBin .neq).f a187 (.int .i64 (.ofNat 0))) H fun a188 H =>
  vq (pickV a185 (.bool true) a188) H fun a189 H =>
  cd a189 (
  .ok (.bool false) H) (
  law16_GraphsTurned_j156 call x1 a3 a7 a13 a22 H)
noncomputable def law16_GraphsTurned_m40 (call : Ev.Call) (x1 a3 a7 a12 a13 a18 a19 : AV) (H : Hp) : R1 :=
  vq (loadA 2 H a3) H fun a21 H =>
  ve (call (.f id_ref16_Edges) [a21] H) fun a22 H =>
  law16_GraphsTurned_m call x1 a3 a7 a12 a13 a18 a19 a22 H
noncomputable def law16_GraphsTurned_m4 : Ev.Call → AV → AV → AV → AV → AV → AV → AV → Hp → R1 := Classical.choose (⟨law16_GraphsTurned_m40, rfl⟩ : ∃ f, f = law16_GraphsTurned_m40)
theorem law16_GraphsTurned_m4_eq : law16_GraphsTurned_m4 = law16_GraphsTurned_m40 := Classical.choose_spec (⟨law16_GraphsTurned_m40, rfl⟩ : ∃ f, f = law16_GraphsTurned_m40)
noncomputable def law16_GraphsTurned_m30 (call : Ev.Call) (x1 a3 a7 a12 a13 : AV) (H : Hp) : R1 :=
  vq (loadA 2 H a13) H fun a15 H =>
  ve (call (.f id_graphs_Turned) [a15] H) fun a16 H =>
  vq (extr 0 a16) H fun a17 H =>
  vq (extr 1 a16) H fun a18 H =>
  vq (.new (.ptr H.nx 0) (mkBlk 0 [.int .i64 (.ofNat 0), .nilsl])) H fun a19 H =>
  ve (storeA 2 H a19 a17) fun _ H =>
  law16_GraphsTurned_m4 call x1 a3 a7 a12 a13 a18 a19 H
noncomputable def law16_GraphsTurned_m3 : Ev.Call → AV → AV → AV → AV → AV → Hp → R1 := Classical.choose (⟨law16_GraphsTurned_m30, rfl⟩ : ∃ f, f = law16_GraphsTurned_m30)
theorem law16_GraphsTurned_m3_eq : law16_GraphsTurned_m3 = law16_GraphsTurned_m30 := Classical.choose_spec (⟨law16_GraphsTurned_m30, rfl⟩ : ∃ f, f = law16_GraphsTurned_m30)
noncomputable def law16_GraphsTurned_m20 (call : Ev.Call) (x1 a3 a7 : AV) (H : Hp) : R1 :=
  vq (loadA 2 H a7) H fun a9 H =>
  ve (call (.f id_graphs_Turned) [a9] H) fun a10 H =>
  vq (extr 0 a10) H fun a11 H =>
  vq (extr 1 a10) H fun a12 H =>
  vq (.new (.ptr H.nx 0) (mkBlk 0 [.int .i64 (.ofNat 0), .nilsl])) H fun a13 H =>
  ve (storeA 2 H a13 a11) fun _ H =>
  law16_GraphsTurned_m3 call x1 a3 a7 a12 a13 H
noncomputable def law16_GraphsTurned_m2 : Ev.Call → AV → AV → AV → Hp → R1 := Classical.choose (⟨law16_GraphsTurned_m20, rfl⟩ : ∃ f, f = law16_GraphsTurned_m20)
theorem law16_GraphsTurned_m2_eq : law16_GraphsTurned_m2 = law16_GraphsTurned_m20 := Classical.choose_spec (⟨law16_GraphsTurned_m20, rfl⟩ : ∃ f, f = law16_GraphsTurned_m20)
noncomputable def law16_GraphsTurned_m10 (call : Ev.Call) (x1 a3 : AV) (H : Hp) : R1 :=
  vq (loadA 2 H a3) H fun a5 H =>
  ve (call (.f id_law16_Graph) [a5] H) fun a6 H =>
  vq (.new (.ptr H.nx 0) (mkBlk 0 [.int .i64 (.ofNat 0), .nilsl])) H fun a7 H =>
  ve (storeA 2 H a7 a6) fun _ H =>
  law16_GraphsTurned_m2 call x1 a3 a7 H
noncomputable def law16_GraphsTurned_m1 : Ev.Call → AV → AV → Hp → R1 := Classical.choose (⟨law16_GraphsTurned_m10, rfl⟩ : ∃ f, f = law16_GraphsTurned_m10)
theorem law16_GraphsTurned_m1_eq : law16_GraphsTurned_m1 = law16_GraphsTurned_m10 := Classical.choose_spec (⟨law16_GraphsTurned_m10, rfl⟩ : ∃ f, f = law16_GraphsTurned_m10)
noncomputable def law16_GraphsTurned_c (call : Ev.Call) (x0 x1 : AV) (H : Hp) : R1 :=
  vq (boxA 2 H.nx x0) H fun a0 H =>
  vq (loadA 2 H a0) H fun a1 H =>
  ve (call (.f id_law16_H_Matrix) [a1] H) fun a2 H =>
  vq (.new (.ptr H.nx 0) (mkBlk 0 [.int .i64 (.ofNat 0), .nilsl])) H fun a3 H =>
  ve (storeA 2 H a3 a2) fun _ H =>
  law16_GraphsTurned_m1 call x1 a3 H
noncomputable def law16_GraphsTurned (call : Ev.Call) (x0 x1 : AV) (H : Hp) : R1 := law16_GraphsTurned_c call x0 x1 H
noncomputable def graphs_Turned_j14 (call : Ev.Call) (x2 x5 : AV) (H : Hp) : R1 :=
  vq (fieldP 1 x5) H fun a7 H =>
  vq (load1 H a7) H fun a8 H =>
  ve (call (.f id_graphs_ordered) [a8] H) fun a9 H =>
  vq (fieldP 1 x5) H fun a10 H =>
  ve (store1 H a10 a9) fun _ H =>
  vq (loadA 2 H x5) H fun a12 H =>
  ve (storeA 2 H x2 a12) fun _ H =>
  finR (tupO (consO (rV (loadA 2 H x2)) (consO (some (.int .i64 (.ofNat 0))) (some [])))) H
noncomputable def graphs_Turned_j21 (call : Ev.Call) (g18 : AV → Hp → R1) (x20 : AV) (H : Hp) : R1 :=
  vq (intV (intBin .add).f x20 (.int .i64 (.ofNat 1))) H fun a20 H =>
  g18 a20 H
noncomputable def graphs_Turned_j39 (call : Ev.Call) (g18 : AV → Hp → R1) (x5 x18 x20 : AV) (H : Hp) : R1 :=
  vq (idxS 3 x18 x20) H fun a22 H =>
  vq (loadA 3 H a22) H fun a23 H =>
  vq (.new (.ptr H.nx 0) (mkBlk 0 [.int .i64 (.ofNat 0), .int .i64 (.ofNat 0), .bool false])) H fun a24 H =>
  ve (storeA 3 H a24 a23) fun _ H =>
  vq (fieldP 1 x5) H fun a26 H =>
  vq (load1 H a26) H fun a27 H =>
  vq (fieldP 1 a24) H fun a28 H =>
  vq (load1 H a28) H fun a29 H =>
  vq (fieldP 0 a24) H fun a30 H =>
  vq (load1 H a30) H fun a31 H =>
  vq (fieldP 2 a24) H fun a32 H =>
  vq (load1 H a32) H fun a33 H =>
  vq (aggN (setParts [.int .i64 (.ofNat 0), .int .i64 (.ofNat 0), .bool false] [(0, 1, a29), (1, 1, a31), (2, 1, a33)])) H fun a34 H =>
  vq (newSl 1 H.nx (setParts (reps [.int .i64 (.ofNat 0), .int .i64 (.ofNat 0), .bool false] 1) [(0, 3, a34)])) H fun a35 H =>
  ve (appendV 3 24 H a27 (srcOfC 3 H a35)) fun a36 H =>
  vq (fieldP 1 x5) H fun a37 H =>
  ve (store1 H a37 a36) fun _ H =>
  graphs_Turned_j21 call g18 x20 H
noncomputable def graphs_Turned_b18 (call : Ev.Call) (q18e0 : Hp → R1) (x5 x18 x19 : AV) (g18 : AV → Hp → R1) (x20 : AV) (H : Hp) : R1 :=
  vq (intV (intBin .lss).f x20 x19) H fun a19 H =>
  cd a19 (
  graphs_Turned_j39 call g18 x5 x18 x20 H) (
  q18e0 H)
noncomputable def graphs_Turned_l18 (call : Ev.Call) (q18e0 : Hp → R1) (x5 x18 x19 : AV) (n : Nat) : AV → Hp → R1 :=
  Nat.rec (motive := fun _ => AV → Hp → R1) (fun _ _ => .bad) (fun _ ih => graphs_Turned_b18 call q18e0 x5 x18 x19 ih) n
noncomputable def graphs_Turned_L18 (call : Ev.Call) (q18e0 : Hp → R1) (x5 x18 x19 : AV) : AV → Hp → R1 := graphs_Turned_l18 call q18e0 x5 x18 x19 fuelX
noncomputable def graphs_Turned_j40 (call : Ev.Call) (x1 x2 : AV) (H : Hp) : R1 :=
  vq (fieldP 0 x1) H fun a2 H =>
  vq (load1 H a2) H fun a3 H =>
  vq (aggN (setParts [.int .i64 (.ofNat 0), .nilsl] [(0, 1, a3)])) H fun a4 H =>
  vq (.new (.ptr H.nx 0) (mkBlk 0 [.int .i64 (.ofNat 0), .nilsl])) H fun a5 H =>
  ve (storeA 2 H a5 a4) fun _ H =>
  vq (fieldP 1 x1) H fun a15 H =>
  vq (load1 H a15) H fun a16 H =>
  vq (lenSl a16) H fun a17 H =>
  graphs_Turned_L18 call (fun H => graphs_Turned_j14 call x2 a5 H) a5 a16 a17 (.int .i64 (.ofNat 0)) H
noncomputable def graphs_Turned_c (call : Ev.Call) (x0 : AV) (H : Hp) : R1 :=
  vq (boxA 2 H.nx x0) H fun a0 H =>
  vq (.new (.ptr H.nx 0) (mkBlk 0 [.int .i64 (.ofNat 0), .nilsl])) H fun a1 H =>
  vq (loadA 2 H a0) H fun a41 H =>
  ve (call (.f id_graphs_Check) [a41] H) fun a42 H =>
  vq (intV (intBin .neq).f a42 (.int .i64 (.ofNat 0))) H fun a43 H =>
  cd a43 (
  vq (aggN (setParts [.int .i64 (.ofNat 0), .nilsl] [])) H fun a44 H =>
  ve (storeA 2 H a1 a44) fun _ H =>
  finR (tupO (consO (rV (loadA 2 H a1)) (consO (some a42) (some [])))) H) (
  graphs_Turned_j40 call a0 a1 H)
noncomputable def graphs_Turned (call : Ev.Call) (x0 : AV) (H : Hp) : R1 := graphs_Turned_c call x0 H
noncomputable def law16_edges_j0 (call : Ev.Call) (H : Hp) : R1 :=
  .ok (.bool true) H
noncomputable def law16_edges_j3 (call : Ev.Call) (g1 : AV → Hp → R1) (x5 : AV) (H : Hp) : R1 :=
  vq (intV (intBin .add).f x5 (.int .i64 (.ofNat 1))) H fun a2 H =>
  g1 a2 H
noncomputable def law16_edges_j36 (call : Ev.Call) (q1r : AV → Hp → R1) (g1 : AV → Hp → R1) (x0 x1 x5 : AV) (H : Hp) : R1 :=
  vl (idxS 3 x0 x5) fun a4 =>
  vl (fieldP 0 a4) fun a5 =>
  vl (load1 H a5) fun a6 =>
  vl (idxS 3 x1 x5) fun a7 =>
  vl (idxA 3 1 a7 (.int .i64 (.ofNat 0))) fun a8 =>
  vl (load1 H a8) fun a9 =>
  vl (intV (intBin .neq).f a6 a9) fun a10 =>
  vlg (wantV false a10) (.val x0) fun a11 =>
  vlg (wantV false a10) (.val x5) fun a12 =>
  vlg (wantV false a10) (idxS 3 a11 a12) fun a13 =>
  vlg (wantV false a10) (fieldP 1 a13) fun a14 =>
  vlg (wantV false a10) (load1 H a14) fun a15 =>
  vlg (wantV false a10) (.val x1) fun a16 =>
  vlg (wantV false a10) (.val x5) fun a17 =>
  vlg (wantV false a10) (idxS 3 a16 a17) fun a18 =>
  vlg (wantV false a10) (idxA 3 1 a18 (.int .i64 (.ofNat 1))) fun a19 =>
  vlg (wantV false a10) (load1 H a19) fun a20 =>
  vlg (wantV false a10) (intV (intBin .neq).f a15 a20) fun a21 =>
  vl (pickV a10 (.bool true) a21) fun a22 =>
  vlg (wantV false a22) (.val x0) fun a23 =>
  vlg (wantV false a22) (.val x5) fun a24 =>
  vlg (wantV false a22) (idxS 3 a23 a24) fun a25 =>
  vlg (wantV false a22) (fieldP 2 a25) fun a26 =>
  vlg (wantV false a22) (load1 H a26) fun a27 =>
  vlg (wantV false a22) (.val x1) fun a28 =>
  vlg (wantV false a22) (.val x5) fun a29 =>
  vlg (wantV false a22) (idxS 3 a28 a29) fun a30 =>
  vlg (wantV false a22) (idxA 3 1 a30 (.int .i64 (.ofNat 2))) fun a31 =>
  vlg (wantV false a22) (load1 H a31) fun a32 =>
  vlg (wantV false a22) (intV (intBin .eql).f a32 (.int .i64 (.ofNat 1))) fun a33 =>
  vlg (wantV false a22) (boolR true ((⟨E2.f ⟨eqBool⟩⟩ : E2).f a27 a33)) fun a34 =>
  vl (pickV a22 (.bool true) a34) fun a35 =>
  cd a35 (
  q1r (.bool false) H) (
  law16_edges_j3 call g1 x5 H)
noncomputable def law16_edges_b1 (call : Ev.Call) (q1r : AV → Hp → R1) (q1e0 : Hp → R1) (x0 x1 : AV) (g1 : AV → Hp → R1) (x5 : AV) (H : Hp) : R1 :=
  vq (lenSl x1) H fun a37 H =>
  vq (intV (intBin .lss).f x5 a37) H fun a38 H =>
  cd a38 (
  law16_edges_j36 call q1r g1 x0 x1 x5 H) (
  q1e0 H)
noncomputable def law16_edges_l1 (call : Ev.Call) (q1r : AV → Hp → R1) (q1e0 : Hp → R1) (x0 x1 : AV) (n : Nat) : AV → Hp → R1 :=
  Nat.rec (motive := fun _ => AV → Hp → R1) (fun _ _ => .bad) (fun _ ih => law16_edges_b1 call q1r q1e0 x0 x1 ih) n
noncomputable def law16_edges_L1 (call : Ev.Call) (q1r : AV → Hp → R1) (q1e0 : Hp → R1) (x0 x1 : AV) : AV → Hp → R1 := law16_edges_l1 call q1r q1e0 x0 x1 fuelX
noncomputable def law16_edges_j39 (call : Ev.Call) (x0 x1 : AV) (H : Hp) : R1 :=
  law16_edges_L1 call (fun x4 H => .ok x4 H) (fun H => law16_edges_j0 call H) x0 x1 (.int .i64 (.ofNat 0)) H
noncomputable def law16_edges_c (call : Ev.Call) (x0 x1 : AV) (H : Hp) : R1 :=
  vq (lenSl x0) H fun a40 H =>
  vq (lenSl x1) H fun a41 H =>
  vq (intV (intBin .neq).f a40 a41) H fun a42 H =>
  vg (wantV false a42) (.val x0) H fun a43 H =>
  vg (wantV false a42) (capV a43) H fun a44 H =>
  vg (wantV false a42) (.val x0) H fun a45 H =>
  vg (wantV false a42) (lenSl a45) H fun a46 H =>
  vg (wantV false a42) (intV (intBin .neq).f a44 a46) H fun a47 H =>
  vq (pickV a42 (.bool true) a47) H fun a48 H =>
  cd a48 (
  .ok (.bool false) H) (
  law16_edges_j39 call x0 x1 H)
noncomputable def law16_edges (call : Ev.Call) (x0 x1 : AV) (H : Hp) : R1 := law16_edges_c call x0 x1 H
noncomputable def graphs_Out_j2 (call : Ev.Call) (x7 : AV) (H : Hp) : R1 :=
  ve (call (.f id_s_ClipE) [x7] H) fun a1 H =>
  .ok (.tup [a1, (.int .i64 (.ofNat 0))]) H
noncomputable def graphs_Out_j9 (call : Ev.Call) (g6 : AV → AV → Hp → R1) (x7 x19 : AV) (H : Hp) : R1 :=
  vq (intV (intBin .add).f x19 (.int .i64 (.ofNat 1))) H fun a8 H =>
  g6 x7 a8 H
noncomputable def graphs_Out_j20 (call : Ev.Call) (g6 : AV → AV → Hp → R1) (x1 x7 x17 x19 : AV) (H : Hp) : R1 :=
  vq (idxS 3 x17 x19) H fun a10 H =>
  vq (loadA 3 H a10) H fun a11 H =>
  vq (.new (.ptr H.nx 0) (mkBlk 0 [.int .i64 (.ofNat 0), .int .i64 (.ofNat 0), .bool false])) H fun a12 H =>
  ve (storeA 3 H a12 a11) fun _ H =>
  vq (fieldP 0 a12) H fun a14 H =>
  vq (load1 H a14) H fun a15 H =>
  vq (intV (intBin .eql).f a15 x1) H fun a16 H =>
  cd a16 (
  vq (loadA 3 H a12) H fun a17 H =>
  vq (newSl 1 H.nx (setParts (reps [.int .i64 (.ofNat 0), .int .i64 (.ofNat 0), .bool false] 1) [(0, 3, a17)])) H fun a18 H =>
  ve (appendV 3 24 H x7 (srcOfC 3 H a18)) fun a19 H =>
  graphs_Out_j9 call g6 a19 x19 H) (
  graphs_Out_j9 call g6 x7 x19 H)
noncomputable def graphs_Out_b6 (call : Ev.Call) (q6e0 : AV → Hp → R1) (x1 x17 x18 : AV) (g6 : AV → AV → Hp → R1) (x7 x19 : AV) (H : Hp) : R1 :=
  vq (intV (intBin .lss).f x19 x18) H fun a7 H =>
  cd a7 (
  graphs_Out_j20 call g6 x1 x7 x17 x19 H) (
  q6e0 x7 H)
noncomputable def graphs_Out_l6 (call : Ev.Call) (q6e0 : AV → Hp → R1) (x1 x17 x18 : AV) (n : Nat) : AV → AV → Hp → R1 :=
  Nat.rec (motive := fun _ => AV → AV → Hp → R1) (fun _ _ _ => .bad) (fun _ ih => graphs_Out_b6 call q6e0 x1 x17 x18 ih) n
noncomputable def graphs_Out_L6 (call : Ev.Call) (q6e0 : AV → Hp → R1) (x1 x17 x18 : AV) : AV → AV → Hp → R1 := graphs_Out_l6 call q6e0 x1 x17 x18 fuelX
noncomputable def graphs_Out_j21 (call : Ev.Call) (x1 x2 : AV) (H : Hp) : R1 :=
  vq (fieldP 1 x2) H fun a3 H =>
  vq (load1 H a3) H fun a4 H =>
  vq (lenSl a4) H fun a5 H =>
  graphs_Out_L6 call (fun x7 H => graphs_Out_j2 call x7 H) x1 a4 a5 (.nilsl) (.int .i64 (.ofNat 0)) H
noncomputable def graphs_Out_c (call : Ev.Call) (x0 x1 : AV) (H : Hp) : R1 :=
  vq (boxA 2 H.nx x0) H fun a0 H =>
  vq (loadA 2 H a0) H fun a22 H =>
  ve (call (.f id_graphs_of) [a22, x1] H) fun a23 H =>
  vq (intV (intBin .neq).f a23 (.int .i64 (.ofNat 0))) H fun a24 H =>
  cd a24 (
  .ok (.tup [(.nilsl), a23]) H) (
  graphs_Out_j21 call x1 a0 H)
noncomputable def graphs_Out (call : Ev.Call) (x0 x1 : AV) (H : Hp) : R1 := graphs_Out_c call x0 x1 H
noncomputable def graphs_In_j2 (call : Ev.Call) (x7 : AV) (H : Hp) : R1 :=
  ve (call (.f id_s_ClipE) [x7] H) fun a1 H =>
  .ok (.tup [a1, (.int .i64 (.ofNat 0))]) H
noncomputable def graphs_In_j9 (call : Ev.Call) (g6 : AV → AV → Hp → R1) (x7 x19 : AV) (H : Hp) : R1 :=
  vq (intV (intBin .add).f x19 (.int .i64 (.ofNat 1))) H fun a8 H =>
  g6 x7 a8 H
noncomputable def graphs_In_j20 (call : Ev.Call) (g6 : AV → AV → Hp → R1) (x1 x7 x17 x19 : AV) (H : Hp) : R1 :=
  vq (idxS 3 x17 x19) H fun a10 H =>
  vq (loadA 3 H a10) H fun a11 H =>
  vq (.new (.ptr H.nx 0) (mkBlk 0 [.int .i64 (.ofNat 0), .int .i64 (.ofNat 0), .bool false])) H fun a12 H =>
  ve (storeA 3 H a12 a11) fun _ H =>
  vq (fieldP 1 a12) H fun a14 H =>
  vq (load1 H a14) H fun a15 H =>
  vq (intV (intBin .eql).f a15 x1) H fun a16 H =>
  cd a16 (
  vq (loadA 3 H a12) H fun a17 H =>
  vq (newSl 1 H.nx (setParts (reps [.int .i64 (.ofNat 0), .int .i64 (.ofNat 0), .bool false] 1) [(0, 3, a17)])) H fun a18 H =>
  ve (appendV 3 24 H x7 (srcOfC 3 H a18)) fun a19 H =>
  graphs_In_j9 call g6 a19 x19 H) (
  graphs_In_j9 call g6 x7 x19 H)
noncomputable def graphs_In_b6 (call : Ev.Call) (q6e0 : AV → Hp → R1) (x1 x17 x18 : AV) (g6 : AV → AV → Hp → R1) (x7 x19 : AV) (H : Hp) : R1 :=
  vq (intV (intBin .lss).f x19 x18) H fun a7 H =>
  cd a7 (
  graphs_In_j20 call g6 x1 x7 x17 x19 H) (
  q6e0 x7 H)
noncomputable def graphs_In_l6 (call : Ev.Call) (q6e0 : AV → Hp → R1) (x1 x17 x18 : AV) (n : Nat) : AV → AV → Hp → R1 :=
  Nat.rec (motive := fun _ => AV → AV → Hp → R1) (fun _ _ _ => .bad) (fun _ ih => graphs_In_b6 call q6e0 x1 x17 x18 ih) n
noncomputable def graphs_In_L6 (call : Ev.Call) (q6e0 : AV → Hp → R1) (x1 x17 x18 : AV) : AV → AV → Hp → R1 := graphs_In_l6 call q6e0 x1 x17 x18 fuelX
noncomputable def graphs_In_j21 (call : Ev.Call) (x1 x2 : AV) (H : Hp) : R1 :=
  vq (fieldP 1 x2) H fun a3 H =>
  vq (load1 H a3) H fun a4 H =>
  vq (lenSl a4) H fun a5 H =>
  graphs_In_L6 call (fun x7 H => graphs_In_j2 call x7 H) x1 a4 a5 (.nilsl) (.int .i64 (.ofNat 0)) H
noncomputable def graphs_In_c (call : Ev.Call) (x0 x1 : AV) (H : Hp) : R1 :=
  vq (boxA 2 H.nx x0) H fun a0 H =>
  vq (loadA 2 H a0) H fun a22 H =>
  ve (call (.f id_graphs_of) [a22, x1] H) fun a23 H =>
  vq (intV (intBin .neq).f a23 (.int .i64 (.ofNat 0))) H fun a24 H =>
  cd a24 (
  .ok (.tup [(.nilsl), a23]) H) (
  graphs_In_j21 call x1 a0 H)
noncomputable def graphs_In (call : Ev.Call) (x0 x1 : AV) (H : Hp) : R1 := graphs_In_c call x0 x1 H
noncomputable def graphs_ordered_c (call : Ev.Call) (x0 : AV) (H : Hp) : R1 :=
  ve (call (.f id_s_SortFunc) [x0, (.fn id_graphs_compare [] [])] H) fun a0 H =>
  ve (call (.f id_s_Compact) [x0] H) fun a1 H =>
  ve (call (.f id_s_ClipE) [a1] H) fun a2 H =>
  .ok a2 H
noncomputable def graphs_ordered (call : Ev.Call) (x0 : AV) (H : Hp) : R1 := graphs_ordered_c call x0 H
noncomputable def s_ClipE_c (call : Ev.Call) (x0 : AV) (H : Hp) : R1 :=
  vq (lenSl x0) H fun a0 H =>
  vq (lenSl x0) H fun a1 H =>
  vq (sliceSl 3 x0 none (some a0) (some a1)) H fun a2 H =>
  .ok a2 H
noncomputable def s_ClipE (call : Ev.Call) (x0 : AV) (H : Hp) : R1 := s_ClipE_c call x0 H
noncomputable def s_SortFunc_c (call : Ev.Call) (x0 x1 : AV) (H : Hp) : R1 :=
  vq (lenSl x0) H fun a0 H =>
  vq (convI .u64 a0) H fun a1 H =>
  ve (call (.f id_s_Len) [a1] H) fun a2 H =>
  ve (call (.f id_s_pdq) [x0, (.int .i64 (.ofNat 0)), a0, a2, x1] H) fun a3 H =>
  .ok (.tup []) H
noncomputable def s_SortFunc (call : Ev.Call) (x0 x1 : AV) (H : Hp) : R1 := s_SortFunc_c call x0 x1 H
noncomputable def s_Compact_j0 (call : Ev.Call) (x0 : AV) (H : Hp) : R1 :=
  .ok x0 H
noncomputable def s_Compact_j3 (call : Ev.Call) (g1 : AV → Hp → R1) (x3 : AV) (H : Hp) : R1 :=
  vq (intV (intBin .add).f x3 (.int .i64 (.ofNat 1))) H fun a2 H =>
  g1 a2 H
noncomputable def s_Compact_j14 (call : Ev.Call) (q1r : AV → Hp → R1) (x0 x3 : AV) (H : Hp) : R1 :=
  vq (sliceSl 3 x0 (some x3) none none) H fun a11 H =>
  ve (clearSl [.int .i64 (.ofNat 0), .int .i64 (.ofNat 0), .bool false] H a11) fun _ H =>
  vq (sliceSl 3 x0 none (some x3) none) H fun a13 H =>
  q1r a13 H
noncomputable def s_Compact_j17 (call : Ev.Call) (g15 : AV → AV → Hp → R1) (x3 x5 : AV) (H : Hp) : R1 :=
  vq (intV (intBin .add).f x5 (.int .i64 (.ofNat 1))) H fun a16 H =>
  g15 x3 a16 H
noncomputable def s_Compact_j29 (call : Ev.Call) (g15 : AV → AV → Hp → R1) (x0 x3 x4 x5 : AV) (H : Hp) : R1 :=
  vl (idxS 3 x4 x5) fun a18 =>
  vl (loadA 3 H a18) fun a19 =>
  vl (intV (intBin .sub).f x5 (.int .i64 (.ofNat 1))) fun a20 =>
  vl (idxS 3 x4 a20) fun a21 =>
  vl (loadA 3 H a21) fun a22 =>
  vl (boolR true ((⟨E2.f ⟨eqAgg (eqFields [(p1, ⟨eqInt⟩, 0), (p1, ⟨eqInt⟩, 1), (p1, ⟨eqBool⟩, 2)])⟩⟩ : E2).f a19 a22)) fun a23 =>
  cd a23 (
  vq (idxS 3 x4 x5) H fun a24 H =>
  vq (loadA 3 H a24) H fun a25 H =>
  vq (idxS 3 x0 x3) H fun a26 H =>
  ve (storeA 3 H a26 a25) fun _ H =>
  vq (intV (intBin .add).f x3 (.int .i64 (.ofNat 1))) H fun a28 H =>
  s_Compact_j17 call g15 a28 x5 H) (
  s_Compact_j17 call g15 x3 x5 H)
noncomputable def s_Compact_b15 (call : Ev.Call) (q15e2 : AV → Hp → R1) (x0 x4 : AV) (g15 : AV → AV → Hp → R1) (x3 x5 : AV) (H : Hp) : R1 :=
  vq (lenSl x4) H fun a30 H =>
  vq (intV (intBin .lss).f x5 a30) H fun a31 H =>
  cd a31 (
  s_Compact_j29 call g15 x0 x3 x4 x5 H) (
  q15e2 x3 H)
noncomputable def s_Compact_l15 (call : Ev.Call) (q15e2 : AV → Hp → R1) (x0 x4 : AV) (n : Nat) : AV → AV → Hp → R1 :=
  Nat.rec (motive := fun _ => AV → AV → Hp → R1) (fun _ _ _ => .bad) (fun _ ih => s_Compact_b15 call q15e2 x0 x4 ih) n
noncomputable def s_Compact_L15 (call : Ev.Call) (q15e2 : AV → Hp → R1) (x0 x4 : AV) : AV → AV → Hp → R1 := s_Compact_l15 call q15e2 x0 x4 fuelX
noncomputable def s_Compact_j32 (call : Ev.Call) (q1r : AV → Hp → R1) (g1 : AV → Hp → R1) (x0 x3 : AV) (H : Hp) : R1 :=
  vl (idxS 3 x0 x3) fun a4 =>
  vl (loadA 3 H a4) fun a5 =>
  vl (intV (intBin .sub).f x3 (.int .i64 (.ofNat 1))) fun a6 =>
  vl (idxS 3 x0 a6) fun a7 =>
  vl (loadA 3 H a7) fun a8 =>
  vl (boolR false ((⟨E2.f ⟨eqAgg (eqFields [(p1, ⟨eqInt⟩, 0), (p1, ⟨eqInt⟩, 1), (p1, ⟨eqBool⟩, 2)])⟩⟩ : E2).f a5 a8)) fun a9 =>
  cd a9 (
  vq (sliceSl 3 x0 (some x3) none none) H fun a10 H =>
  s_Compact_L15 call (fun x3 H => s_Compact_j14 call q1r x0 x3 H) x0 a10 x3 (.int .i64 (.ofNat 1)) H) (
  s_Compact_j3 call g1 x3 H)
noncomputable def s_Compact_b1 (call : Ev.Call) (q1r : AV → Hp → R1) (q1e0 : Hp → R1) (x0 : AV) (g1 : AV → Hp → R1) (x3 : AV) (H : Hp) : R1 :=
  vq (lenSl x0) H fun a33 H =>
  vq (intV (intBin .lss).f x3 a33) H fun a34 H =>
  cd a34 (
  s_Compact_j32 call q1r g1 x0 x3 H) (
  q1e0 H)
noncomputable def s_Compact_l1 (call : Ev.Call) (q1r : AV → Hp → R1) (q1e0 : Hp → R1) (x0 : AV) (n : Nat) : AV → Hp → R1 :=
  Nat.rec (motive := fun _ => AV → Hp → R1) (fun _ _ => .bad) (fun _ ih => s_Compact_b1 call q1r q1e0 x0 ih) n
noncomputable def s_Compact_L1 (call : Ev.Call) (q1r : AV → Hp → R1) (q1e0 : Hp → R1) (x0 : AV) : AV → Hp → R1 := s_Compact_l1 call q1r q1e0 x0 fuelX
noncomputable def s_Compact_j35 (call : Ev.Call) (x0 : AV) (H : Hp) : R1 :=
  s_Compact_L1 call (fun x2 H => .ok x2 H) (fun H => s_Compact_j0 call x0 H) x0 (.int .i64 (.ofNat 1)) H
noncomputable def s_Compact_c (call : Ev.Call) (x0 : AV) (H : Hp) : R1 :=
  vq (lenSl x0) H fun a36 H =>
  vq (intV (intBin .lss).f a36 (.int .i64 (.ofNat 2))) H fun a37 H =>
  cd a37 (
  .ok x0 H) (
  s_Compact_j35 call x0 H)
noncomputable def s_Compact (call : Ev.Call) (x0 : AV) (H : Hp) : R1 := s_Compact_c call x0 H
noncomputable def s_Len_j1 (call : Ev.Call) (x0 : AV) (H : Hp) : R1 :=
  ve (call (.f id_s_Len64) [x0] H) fun a0 H =>
  .ok a0 H
noncomputable def s_Len_c (call : Ev.Call) (x0 : AV) (H : Hp) : R1 :=
  cd (.bool false) (
  vq (convI .u32 x0) H fun a2 H =>
  ve (call (.f id_s_Len32) [a2] H) fun a3 H =>
  .ok a3 H) (
  s_Len_j1 call x0 H)
noncomputable def s_Len (call : Ev.Call) (x0 : AV) (H : Hp) : R1 := s_Len_c call x0 H
noncomputable def s_pdq_j18 (call : Ev.Call) (g0 : AV → AV → AV → AV → AV → Hp → R1) (x0 x1 x2 x3 x4 x12 x13 : AV) (H : Hp) : R1 :=
  ve (call (.f id_s_part) [x0, x1, x2, x13, x4] H) fun a5 H =>
  vq (extr 0 a5) H fun a6 H =>
  vq (extr 1 a5) H fun a7 H =>
  vq (intV (intBin .sub).f a6 x1) H fun a8 H =>
  vq (intV (intBin .sub).f x2 a6) H fun a9 H =>
  vq (intV (intBin .quo).f x12 (.int .i64 (.ofNat 8))) H fun a10 H =>
  vq (intV (intBin .lss).f a8 a9) H fun a11 H =>
  cd a11 (
  vq (intV (intBin .geq).f a8 a10) H fun a12 H =>
  ve (call (.f id_s_pdq) [x0, x1, a6, x3, x4] H) fun a13 H =>
  vq (intV (intBin .add).f a6 (.int .i64 (.ofNat 1))) H fun a14 H =>
  g0 a14 x2 x3 a12 a7 H) (
  vq (intV (intBin .geq).f a9 a10) H fun a15 H =>
  vq (intV (intBin .add).f a6 (.int .i64 (.ofNat 1))) H fun a16 H =>
  ve (call (.f id_s_pdq) [x0, a16, x2, x3, x4] H) fun a17 H =>
  g0 x1 a6 x3 a15 a7 H)
noncomputable def s_pdq_j38 (call : Ev.Call) (g0 : AV → AV → AV → AV → AV → Hp → R1) (x0 x1 x2 x3 x4 x10 x11 x12 x13 : AV) (H : Hp) : R1 :=
  dz 0 H fun b19 H =>
  dq false false 0 0 (b19 + 0) H [] [] (fun _ => .val x1) (some true) fun a20 H p w =>
  dq false false 1 1 (b19 + 1) H p w (fun _ => intV (intBin .gtr).f a20 (.int .i64 (.ofNat 0))) (some true) fun a21 H p w =>
  dq false false 2 3 (b19 + 2) H p w (fun _ => .val a21) (some true) fun a22 H p w =>
  dq false false 3 7 (b19 + 3) H p w (fun _ => .val x4) (wantV true a22) fun a23 H p w =>
  dq false false 4 7 (b19 + 4) H p w (fun _ => .val x0) (wantV true a22) fun a24 H p w =>
  dq false false 5 7 (b19 + 5) H p w (fun _ => .val x1) (wantV true a22) fun a25 H p w =>
  dq false false 6 39 (b19 + 6) H p w (fun _ => intV (intBin .sub).f a25 (.int .i64 (.ofNat 1))) (wantV true a22) fun a26 H p w =>
  dq false false 7 119 (b19 + 7) H p w (fun _ => idxS 3 a24 a26) (wantV true a22) fun a27 H p w =>
  dq true false 8 247 (b19 + 8) H p w (fun H => loadA 3 H a27) (wantV true a22) fun a28 H p w =>
  dq false false 9 7 (b19 + 9) H p w (fun _ => .val x0) (wantV true a22) fun a29 H p w =>
  dq false false 10 7 (b19 + 10) H p w (fun _ => .val x13) (wantV true a22) fun a30 H p w =>
  dq false false 11 1543 (b19 + 11) H p w (fun _ => idxS 3 a29 a30) (wantV true a22) fun a31 H p w =>
  dq true false 12 3591 (b19 + 12) H p w (fun H => loadA 3 H a31) (wantV true a22) fun a32 H p w =>
  de 8191 H p w (callV call a23 [a28, a32] (viewH 8191 p H)) (wantV true a22) fun a33 H p w =>
  dq false false 14 16383 (b19 + 14) H p w (fun _ => intV (intBin .lss).f a33 (.int .i64 (.ofNat 0))) (wantV true a22) fun a34 H p w =>
  dq false false 15 32767 (b19 + 15) H p w (fun _ => (unS .not).f a34) (wantV true a22) fun a35 H p w =>
  dq false false 16 65535 (b19 + 16) H p w (fun _ => pickV a22 a35 (.bool false)) (some true) fun a36 H p w =>
  dz2 p H fun H =>
  cd a36 (
  ve (call (.f id_s_peq) [x0, x1, x2, x13, x4] H) fun a37 H =>
  g0 a37 x2 x3 x10 x11 H) (
  s_pdq_j18 call g0 x0 x1 x2 x3 x4 x12 x13 H)
noncomputable def s_pdq_j45 (call : Ev.Call) (q0r : Hp → R1) (g0 : AV → AV → AV → AV → AV → Hp → R1) (x0 x1 x2 x3 x4 x10 x11 x12 x13 x14 : AV) (H : Hp) : R1 :=
  vg (wantV true x10) (.val x11) H fun a39 H =>
  vq (pickV x10 a39 (.bool false)) H fun a40 H =>
  vg (wantV true a40) (.val x14) H fun a41 H =>
  vg (wantV true a40) (intV (intBin .eql).f a41 (.int .i64 (.ofNat 1))) H fun a42 H =>
  vq (pickV a40 a42 (.bool false)) H fun a43 H =>
  cd a43 (
  ve (call (.f id_s_pins) [x0, x1, x2, x4] H) fun a44 H =>
  cd a44 (
  q0r H) (
  s_pdq_j38 call g0 x0 x1 x2 x3 x4 x10 x11 x12 x13 H)) (
  s_pdq_j38 call g0 x0 x1 x2 x3 x4 x10 x11 x12 x13 H)
noncomputable def s_pdq_j51 (call : Ev.Call) (q0r : Hp → R1) (g0 : AV → AV → AV → AV → AV → Hp → R1) (x0 x1 x2 x3 x4 x10 x11 x12 : AV) (H : Hp) : R1 :=
  ve (call (.f id_s_piv) [x0, x1, x2, x4] H) fun a2 H =>
  vq (extr 0 a2) H fun a3 H =>
  vq (extr 1 a2) H fun a4 H =>
  vq (intV (intBin .eql).f a4 (.int .i64 (.ofNat 2))) H fun a46 H =>
  cd a46 (
  ve (call (.f id_s_rev) [x0, x1, x2, x4] H) fun a47 H =>
  vq (intV (intBin .sub).f x2 (.int .i64 (.ofNat 1))) H fun a48 H =>
  vq (intV (intBin .sub).f a3 x1) H fun a49 H =>
  vq (intV (intBin .sub).f a48 a49) H fun a50 H =>
  s_pdq_j45 call q0r g0 x0 x1 x2 x3 x4 x10 x11 x12 a50 (.int .i64 (.ofNat 1)) H) (
  s_pdq_j45 call q0r g0 x0 x1 x2 x3 x4 x10 x11 x12 a3 a4 H)
noncomputable def s_pdq_j55 (call : Ev.Call) (q0r : Hp → R1) (g0 : AV → AV → AV → AV → AV → Hp → R1) (x0 x1 x2 x3 x4 x10 x11 x12 : AV) (H : Hp) : R1 :=
  vq ((unS .not).f x10) H fun a52 H =>
  cd a52 (
  ve (call (.f id_s_brk) [x0, x1, x2, x4] H) fun a53 H =>
  vq (intV (intBin .sub).f x3 (.int .i64 (.ofNat 1))) H fun a54 H =>
  s_pdq_j51 call q0r g0 x0 x1 x2 a54 x4 x10 x11 x12 H) (
  s_pdq_j51 call q0r g0 x0 x1 x2 x3 x4 x10 x11 x12 H)
noncomputable def s_pdq_j58 (call : Ev.Call) (q0r : Hp → R1) (g0 : AV → AV → AV → AV → AV → Hp → R1) (x0 x1 x2 x3 x4 x10 x11 x12 : AV) (H : Hp) : R1 :=
  vq (intV (intBin .eql).f x3 (.int .i64 (.ofNat 0))) H fun a56 H =>
  cd a56 (
  ve (call (.f id_s_heap) [x0, x1, x2, x4] H) fun a57 H =>
  q0r H) (
  s_pdq_j55 call q0r g0 x0 x1 x2 x3 x4 x10 x11 x12 H)
noncomputable def s_pdq_b0 (call : Ev.Call) (q0r : Hp → R1) (x0 x4 : AV) (g0 : AV → AV → AV → AV → AV → Hp → R1) (x1 x2 x3 x10 x11 : AV) (H : Hp) : R1 :=
  vq (intV (intBin .sub).f x2 x1) H fun a1 H =>
  vq (intV (intBin .leq).f a1 (.int .i64 (.ofNat 12))) H fun a59 H =>
  cd a59 (
  ve (call (.f id_s_ins) [x0, x1, x2, x4] H) fun a60 H =>
  q0r H) (
  s_pdq_j58 call q0r g0 x0 x1 x2 x3 x4 x10 x11 a1 H)
noncomputable def s_pdq_l0 (call : Ev.Call) (q0r : Hp → R1) (x0 x4 : AV) (n : Nat) : AV → AV → AV → AV → AV → Hp → R1 :=
  Nat.rec (motive := fun _ => AV → AV → AV → AV → AV → Hp → R1) (fun _ _ _ _ _ _ => .bad) (fun _ ih => s_pdq_b0 call q0r x0 x4 ih) n
noncomputable def s_pdq_L0 (call : Ev.Call) (q0r : Hp → R1) (x0 x4 : AV) : AV → AV → AV → AV → AV → Hp → R1 := s_pdq_l0 call q0r x0 x4 fuelX
noncomputable def s_pdq_c (call : Ev.Call) (x0 x1 x2 x3 x4 : AV) (H : Hp) : R1 :=
  s_pdq_L0 call (fun H => .ok (.tup []) H) x0 x4 x1 x2 x3 (.bool true) (.bool true) H
noncomputable def s_pdq (call : Ev.Call) (x0 x1 x2 x3 x4 : AV) (H : Hp) : R1 := s_pdq_c call x0 x1 x2 x3 x4 H
noncomputable def s_Len32_j4 (call : Ev.Call) (x0 x2 : AV) (H : Hp) : R1 :=
  vq (convI .u8 x0) H fun a0 H =>
  vq (idxStr (.str 256 1013866857139168856493015739252390649739422828853819106890363778118420553376247557433637691341895324351018602695588957474325319502760499485336098898398377509666851054660423406800006203933793007272033180812049178612605246075062580585469430410618860250057463399279570354286669047577758927328864388992123306212451509403152394148136105363817402562688186708175358218852349079190158732807302672745370040257219644697201681238697346923541678507645485296520536209706771857694240900605172937619415410180424934769249448772944216470541052485265558808433676546390051204254346932932316488017972311616136051587427851453983453479168) a0) H fun a1 H =>
  vq (convI .i64 a1) H fun a2 H =>
  vq (intV (intBin .add).f x2 a2) H fun a3 H =>
  .ok a3 H
noncomputable def s_Len32_j8 (call : Ev.Call) (x0 x2 : AV) (H : Hp) : R1 :=
  vq (intV (intBin .geq).f x0 (.int .u32 (.ofNat 256))) H fun a5 H =>
  cd a5 (
  vq (shiftV (shiftBin .shr).f x0 (.int .u64 (.ofNat 8))) H fun a6 H =>
  vq (intV (intBin .add).f x2 (.int .i64 (.ofNat 8))) H fun a7 H =>
  s_Len32_j4 call a6 a7 H) (
  s_Len32_j4 call x0 x2 H)
noncomputable def s_Len32_c (call : Ev.Call) (x0 : AV) (H : Hp) : R1 :=
  vq (intV (intBin .geq).f x0 (.int .u32 (.ofNat 65536))) H fun a9 H =>
  cd a9 (
  vq (shiftV (shiftBin .shr).f x0 (.int .u64 (.ofNat 16))) H fun a10 H =>
  s_Len32_j8 call a10 (.int .i64 (.ofNat 16)) H) (
  s_Len32_j8 call x0 (.int .i64 (.ofNat 0)) H)
noncomputable def s_Len32 (call : Ev.Call) (x0 : AV) (H : Hp) : R1 := s_Len32_c call x0 H
noncomputable def s_Len64_j4 (call : Ev.Call) (x0 x2 : AV) (H : Hp) : R1 :=
  vq (convI .u8 x0) H fun a0 H =>
  vq (idxStr (.str 256 1013866857139168856493015739252390649739422828853819106890363778118420553376247557433637691341895324351018602695588957474325319502760499485336098898398377509666851054660423406800006203933793007272033180812049178612605246075062580585469430410618860250057463399279570354286669047577758927328864388992123306212451509403152394148136105363817402562688186708175358218852349079190158732807302672745370040257219644697201681238697346923541678507645485296520536209706771857694240900605172937619415410180424934769249448772944216470541052485265558808433676546390051204254346932932316488017972311616136051587427851453983453479168) a0) H fun a1 H =>
  vq (convI .i64 a1) H fun a2 H =>
  vq (intV (intBin .add).f x2 a2) H fun a3 H =>
  .ok a3 H
noncomputable def s_Len64_j8 (call : Ev.Call) (x0 x2 : AV) (H : Hp) : R1 :=
  vq (intV (intBin .geq).f x0 (.int .u64 (.ofNat 256))) H fun a5 H =>
  cd a5 (
  vq (shiftV (shiftBin .shr).f x0 (.int .u64 (.ofNat 8))) H fun a6 H =>
  vq (intV (intBin .add).f x2 (.int .i64 (.ofNat 8))) H fun a7 H =>
  s_Len64_j4 call a6 a7 H) (
  s_Len64_j4 call x0 x2 H)
noncomputable def s_Len64_j12 (call : Ev.Call) (x0 x2 : AV) (H : Hp) : R1 :=
  vq (intV (intBin .geq).f x0 (.int .u64 (.ofNat 65536))) H fun a9 H =>
  cd a9 (
  vq (shiftV (shiftBin .shr).f x0 (.int .u64 (.ofNat 16))) H fun a10 H =>
  vq (intV (intBin .add).f x2 (.int .i64 (.ofNat 16))) H fun a11 H =>
  s_Len64_j8 call a10 a11 H) (
  s_Len64_j8 call x0 x2 H)
noncomputable def s_Len64_c (call : Ev.Call) (x0 : AV) (H : Hp) : R1 :=
  vq (intV (intBin .geq).f x0 (.int .u64 (.ofNat 4294967296))) H fun a13 H =>
  cd a13 (
  vq (shiftV (shiftBin .shr).f x0 (.int .u64 (.ofNat 32))) H fun a14 H =>
  s_Len64_j12 call a14 (.int .i64 (.ofNat 32)) H) (
  s_Len64_j12 call x0 (.int .i64 (.ofNat 0)) H)
noncomputable def s_Len64 (call : Ev.Call) (x0 : AV) (H : Hp) : R1 := s_Len64_c call x0 H
noncomputable def s_ins_j3 (call : Ev.Call) (g1 : AV → Hp → R1) (x8 : AV) (H : Hp) : R1 :=
  vq (intV (intBin .add).f x8 (.int .i64 (.ofNat 1))) H fun a2 H =>
  g1 a2 H
noncomputable def s_ins_j6 (call : Ev.Call) (g4 : AV → Hp → R1) (x9 : AV) (H : Hp) : R1 :=
  vq (intV (intBin .sub).f x9 (.int .i64 (.ofNat 1))) H fun a5 H =>
  g4 a5 H
noncomputable def s_ins_j26 (call : Ev.Call) (g4 : AV → Hp → R1) (x0 x9 : AV) (H : Hp) : R1 :=
  dz 0 H fun b7 H =>
  dq false false 0 0 (b7 + 0) H [] [] (fun _ => .val x0) (some true) fun a8 H p w =>
  dq false false 1 0 (b7 + 1) H p w (fun _ => .val x9) (some true) fun a9 H p w =>
  dq false false 2 0 (b7 + 2) H p w (fun _ => .val x0) (some true) fun a10 H p w =>
  dq false false 3 0 (b7 + 3) H p w (fun _ => .val x9) (some true) fun a11 H p w =>
  dq false false 4 8 (b7 + 4) H p w (fun _ => intV (intBin .sub).f a11 (.int .i64 (.ofNat 1))) (some true) fun a12 H p w =>
  dq false false 5 0 (b7 + 5) H p w (fun _ => .val x0) (some true) fun a13 H p w =>
  dq false false 6 0 (b7 + 6) H p w (fun _ => .val x9) (some true) fun a14 H p w =>
  dq false false 7 64 (b7 + 7) H p w (fun _ => intV (intBin .sub).f a14 (.int .i64 (.ofNat 1))) (some true) fun a15 H p w =>
  dq false false 8 224 (b7 + 8) H p w (fun _ => idxS 3 a13 a15) (some true) fun a16 H p w =>
  dq true false 9 480 (b7 + 9) H p w (fun H => loadA 3 H a16) (some true) fun a17 H p w =>
  dq false false 10 0 (b7 + 10) H p w (fun _ => .val x0) (some true) fun a18 H p w =>
  dq false false 11 0 (b7 + 11) H p w (fun _ => .val x9) (some true) fun a19 H p w =>
  dq false false 12 3072 (b7 + 12) H p w (fun _ => idxS 3 a18 a19) (some true) fun a20 H p w =>
  dq true false 13 7168 (b7 + 13) H p w (fun H => loadA 3 H a20) (some true) fun a21 H p w =>
  dq false false 14 16355 (b7 + 14) H p w (fun _ => idxS 3 a8 a9) (some true) fun a22 H p w =>
  de 32739 H p w (storeA 3 (viewH 32739 p H) a22 a17) (some true) fun _ H p w =>
  dq false false 16 65535 (b7 + 16) H p w (fun _ => idxS 3 a10 a12) (some true) fun a24 H p w =>
  de 131071 H p w (storeA 3 (viewH 131071 p H) a24 a21) (some true) fun _ H p w =>
  dz2 p H fun H =>
  s_ins_j6 call g4 x9 H
noncomputable def s_ins_b4 (call : Ev.Call) (q4e2 : Hp → R1) (x0 x1 x3 : AV) (g4 : AV → Hp → R1) (x9 : AV) (H : Hp) : R1 :=
  dz 0 H fun b27 H =>
  dq false false 0 0 (b27 + 0) H [] [] (fun _ => .val x9) (some true) fun a28 H p w =>
  dq false false 1 0 (b27 + 1) H p w (fun _ => .val x1) (some true) fun a29 H p w =>
  dq false false 2 3 (b27 + 2) H p w (fun _ => intV (intBin .gtr).f a28 a29) (some true) fun a30 H p w =>
  dq false false 3 7 (b27 + 3) H p w (fun _ => .val a30) (some true) fun a31 H p w =>
  dq false false 4 15 (b27 + 4) H p w (fun _ => .val x3) (wantV true a31) fun a32 H p w =>
  dq false false 5 15 (b27 + 5) H p w (fun _ => .val x0) (wantV true a31) fun a33 H p w =>
  dq false false 6 15 (b27 + 6) H p w (fun _ => .val x9) (wantV true a31) fun a34 H p w =>
  dq false false 7 111 (b27 + 7) H p w (fun _ => idxS 3 a33 a34) (wantV true a31) fun a35 H p w =>
  dq true false 8 239 (b27 + 8) H p w (fun H => loadA 3 H a35) (wantV true a31) fun a36 H p w =>
  dq false false 9 15 (b27 + 9) H p w (fun _ => .val x0) (wantV true a31) fun a37 H p w =>
  dq false false 10 15 (b27 + 10) H p w (fun _ => .val x9) (wantV true a31) fun a38 H p w =>
  dq false false 11 1039 (b27 + 11) H p w (fun _ => intV (intBin .sub).f a38 (.int .i64 (.ofNat 1))) (wantV true a31) fun a39 H p w =>
  dq false false 12 3599 (b27 + 12) H p w (fun _ => idxS 3 a37 a39) (wantV true a31) fun a40 H p w =>
  dq true false 13 7695 (b27 + 13) H p w (fun H => loadA 3 H a40) (wantV true a31) fun a41 H p w =>
  de 16383 H p w (callV call a32 [a36, a41] (viewH 16383 p H)) (wantV true a31) fun a42 H p w =>
  dq false false 15 32767 (b27 + 15) H p w (fun _ => intV (intBin .lss).f a42 (.int .i64 (.ofNat 0))) (wantV true a31) fun a43 H p w =>
  dq false false 16 65535 (b27 + 16) H p w (fun _ => pickV a31 a43 (.bool false)) (some true) fun a44 H p w =>
  dz2 p H fun H =>
  cd a44 (
  s_ins_j26 call g4 x0 x9 H) (
  q4e2 H)
noncomputable def s_ins_l4 (call : Ev.Call) (q4e2 : Hp → R1) (x0 x1 x3 : AV) (n : Nat) : AV → Hp → R1 :=
  Nat.rec (motive := fun _ => AV → Hp → R1) (fun _ _ => .bad) (fun _ ih => s_ins_b4 call q4e2 x0 x1 x3 ih) n
noncomputable def s_ins_L4 (call : Ev.Call) (q4e2 : Hp → R1) (x0 x1 x3 : AV) : AV → Hp → R1 := s_ins_l4 call q4e2 x0 x1 x3 fuelX
noncomputable def s_ins_j45 (call : Ev.Call) (g1 : AV → Hp → R1) (x0 x1 x3 x8 : AV) (H : Hp) : R1 :=
  s_ins_L4 call (fun H => s_ins_j3 call g1 x8 H) x0 x1 x3 x8 H
noncomputable def s_ins_b1 (call : Ev.Call) (q1e0 : Hp → R1) (x0 x1 x2 x3 : AV) (g1 : AV → Hp → R1) (x8 : AV) (H : Hp) : R1 :=
  vq (intV (intBin .lss).f x8 x2) H fun a46 H =>
  cd a46 (
  s_ins_j45 call g1 x0 x1 x3 x8 H) (
  q1e0 H)
noncomputable def s_ins_l1 (call : Ev.Call) (q1e0 : Hp → R1) (x0 x1 x2 x3 : AV) (n : Nat) : AV → Hp → R1 :=
  Nat.rec (motive := fun _ => AV → Hp → R1) (fun _ _ => .bad) (fun _ ih => s_ins_b1 call q1e0 x0 x1 x2 x3 ih) n
noncomputable def s_ins_L1 (call : Ev.Call) (q1e0 : Hp → R1) (x0 x1 x2 x3 : AV) : AV → Hp → R1 := s_ins_l1 call q1e0 x0 x1 x2 x3 fuelX
noncomputable def s_ins_c (call : Ev.Call) (x0 x1 x2 x3 : AV) (H : Hp) : R1 :=
  vq (intV (intBin .add).f x1 (.int .i64 (.ofNat 1))) H fun a0 H =>
  s_ins_L1 call (fun H => .ok (.tup []) H) x0 x1 x2 x3 a0 H
noncomputable def s_ins (call : Ev.Call) (x0 x1 x2 x3 : AV) (H : Hp) : R1 := s_ins_c call x0 x1 x2 x3 H
noncomputable def s_heap_j4 (call : Ev.Call) (g2 : AV → Hp → R1) (x12 : AV) (H : Hp) : R1 :=
  vq (intV (intBin .sub).f x12 (.int .i64 (.ofNat 1))) H fun a3 H =>
  g2 a3 H
noncomputable def s_heap_j27 (call : Ev.Call) (g2 : AV → Hp → R1) (x0 x3 x8 x9 x12 : AV) (H : Hp) : R1 :=
  dz 0 H fun b5 H =>
  dq false false 0 0 (b5 + 0) H [] [] (fun _ => .val x0) (some true) fun a6 H p w =>
  dq false false 1 0 (b5 + 1) H p w (fun _ => .val x8) (some true) fun a7 H p w =>
  dq false false 2 0 (b5 + 2) H p w (fun _ => .val x0) (some true) fun a8 H p w =>
  dq false false 3 0 (b5 + 3) H p w (fun _ => .val x8) (some true) fun a9 H p w =>
  dq false false 4 0 (b5 + 4) H p w (fun _ => .val x12) (some true) fun a10 H p w =>
  dq false false 5 24 (b5 + 5) H p w (fun _ => intV (intBin .add).f a9 a10) (some true) fun a11 H p w =>
  dq false false 6 0 (b5 + 6) H p w (fun _ => .val x0) (some true) fun a12 H p w =>
  dq false false 7 0 (b5 + 7) H p w (fun _ => .val x8) (some true) fun a13 H p w =>
  dq false false 8 0 (b5 + 8) H p w (fun _ => .val x12) (some true) fun a14 H p w =>
  dq false false 9 384 (b5 + 9) H p w (fun _ => intV (intBin .add).f a13 a14) (some true) fun a15 H p w =>
  dq false false 10 960 (b5 + 10) H p w (fun _ => idxS 3 a12 a15) (some true) fun a16 H p w =>
  dq true false 11 1984 (b5 + 11) H p w (fun H => loadA 3 H a16) (some true) fun a17 H p w =>
  dq false false 12 0 (b5 + 12) H p w (fun _ => .val x0) (some true) fun a18 H p w =>
  dq false false 13 0 (b5 + 13) H p w (fun _ => .val x8) (some true) fun a19 H p w =>
  dq false false 14 12288 (b5 + 14) H p w (fun _ => idxS 3 a18 a19) (some true) fun a20 H p w =>
  dq true false 15 28672 (b5 + 15) H p w (fun H => loadA 3 H a20) (some true) fun a21 H p w =>
  dq false false 16 65475 (b5 + 16) H p w (fun _ => idxS 3 a6 a7) (some true) fun a22 H p w =>
  de 131011 H p w (storeA 3 (viewH 131011 p H) a22 a17) (some true) fun _ H p w =>
  dq false false 18 262143 (b5 + 18) H p w (fun _ => idxS 3 a8 a11) (some true) fun a24 H p w =>
  de 524287 H p w (storeA 3 (viewH 524287 p H) a24 a21) (some true) fun _ H p w =>
  dz2 p H fun H =>
  ve (call (.f id_s_sift) [x0, x9, x12, x8, x3] H) fun a26 H =>
  s_heap_j4 call g2 x12 H
noncomputable def s_heap_b2 (call : Ev.Call) (q2e2 : Hp → R1) (x0 x3 x8 x9 : AV) (g2 : AV → Hp → R1) (x12 : AV) (H : Hp) : R1 :=
  vq (intV (intBin .geq).f x12 (.int .i64 (.ofNat 0))) H fun a28 H =>
  cd a28 (
  s_heap_j27 call g2 x0 x3 x8 x9 x12 H) (
  q2e2 H)
noncomputable def s_heap_l2 (call : Ev.Call) (q2e2 : Hp → R1) (x0 x3 x8 x9 : AV) (n : Nat) : AV → Hp → R1 :=
  Nat.rec (motive := fun _ => AV → Hp → R1) (fun _ _ => .bad) (fun _ ih => s_heap_b2 call q2e2 x0 x3 x8 x9 ih) n
noncomputable def s_heap_L2 (call : Ev.Call) (q2e2 : Hp → R1) (x0 x3 x8 x9 : AV) : AV → Hp → R1 := s_heap_l2 call q2e2 x0 x3 x8 x9 fuelX
noncomputable def s_heap_j29 (call : Ev.Call) (x0 x3 x8 x9 x10 : AV) (H : Hp) : R1 :=
  vq (intV (intBin .sub).f x10 (.int .i64 (.ofNat 1))) H fun a1 H =>
  s_heap_L2 call (fun H => .ok (.tup []) H) x0 x3 x8 x9 a1 H
noncomputable def s_heap_j34 (call : Ev.Call) (g32 : AV → Hp → R1) (x11 : AV) (H : Hp) : R1 :=
  vq (intV (intBin .sub).f x11 (.int .i64 (.ofNat 1))) H fun a33 H =>
  g32 a33 H
noncomputable def s_heap_j36 (call : Ev.Call) (g32 : AV → Hp → R1) (x0 x3 x8 x10 x11 : AV) (H : Hp) : R1 :=
  ve (call (.f id_s_sift) [x0, x11, x10, x8, x3] H) fun a35 H =>
  s_heap_j34 call g32 x11 H
noncomputable def s_heap_b32 (call : Ev.Call) (q32e0 : Hp → R1) (x0 x3 x8 x10 : AV) (g32 : AV → Hp → R1) (x11 : AV) (H : Hp) : R1 :=
  vq (intV (intBin .geq).f x11 (.int .i64 (.ofNat 0))) H fun a37 H =>
  cd a37 (
  s_heap_j36 call g32 x0 x3 x8 x10 x11 H) (
  q32e0 H)
noncomputable def s_heap_l32 (call : Ev.Call) (q32e0 : Hp → R1) (x0 x3 x8 x10 : AV) (n : Nat) : AV → Hp → R1 :=
  Nat.rec (motive := fun _ => AV → Hp → R1) (fun _ _ => .bad) (fun _ ih => s_heap_b32 call q32e0 x0 x3 x8 x10 ih) n
noncomputable def s_heap_L32 (call : Ev.Call) (q32e0 : Hp → R1) (x0 x3 x8 x10 : AV) : AV → Hp → R1 := s_heap_l32 call q32e0 x0 x3 x8 x10 fuelX
noncomputable def s_heap_c (call : Ev.Call) (x0 x1 x2 x3 : AV) (H : Hp) : R1 :=
  vq (intV (intBin .sub).f x2 x1) H fun a0 H =>
  vq (intV (intBin .sub).f a0 (.int .i64 (.ofNat 1))) H fun a30 H =>
  vq (intV (intBin .quo).f a30 (.int .i64 (.ofNat 2))) H fun a31 H =>
  s_heap_L32 call (fun H => s_heap_j29 call x0 x3 x1 (.int .i64 (.ofNat 0)) a0 H) x0 x3 x1 a0 a31 H
noncomputable def s_heap (call : Ev.Call) (x0 x1 x2 x3 : AV) (H : Hp) : R1 := s_heap_c call x0 x1 x2 x3 H
noncomputable def s_brk_j12 (call : Ev.Call) (g10 : AV → Hp → R1) (x11 : AV) (H : Hp) : R1 :=
  vq (intV (intBin .add).f x11 (.int .i64 (.ofNat 1))) H fun a11 H =>
  g10 a11 H
noncomputable def s_brk_j38 (call : Ev.Call) (g10 : AV → Hp → R1) (x0 x1 x11 x12 : AV) (H : Hp) : R1 :=
  dz 0 H fun b17 H =>
  dq false false 0 0 (b17 + 0) H [] [] (fun _ => .val x0) (some true) fun a18 H p w =>
  dq false false 1 0 (b17 + 1) H p w (fun _ => .val x11) (some true) fun a19 H p w =>
  dq false false 2 0 (b17 + 2) H p w (fun _ => .val x0) (some true) fun a20 H p w =>
  dq false false 3 0 (b17 + 3) H p w (fun _ => .val x1) (some true) fun a21 H p w =>
  dq false false 4 0 (b17 + 4) H p w (fun _ => .val x12) (some true) fun a22 H p w =>
  dq false false 5 24 (b17 + 5) H p w (fun _ => intV (intBin .add).f a21 a22) (some true) fun a23 H p w =>
  dq false false 6 0 (b17 + 6) H p w (fun _ => .val x0) (some true) fun a24 H p w =>
  dq false false 7 0 (b17 + 7) H p w (fun _ => .val x1) (some true) fun a25 H p w =>
  dq false false 8 0 (b17 + 8) H p w (fun _ => .val x12) (some true) fun a26 H p w =>
  dq false false 9 384 (b17 + 9) H p w (fun _ => intV (intBin .add).f a25 a26) (some true) fun a27 H p w =>
  dq false false 10 960 (b17 + 10) H p w (fun _ => idxS 3 a24 a27) (some true) fun a28 H p w =>
  dq true false 11 1984 (b17 + 11) H p w (fun H => loadA 3 H a28) (some true) fun a29 H p w =>
  dq false false 12 0 (b17 + 12) H p w (fun _ => .val x0) (some true) fun a30 H p w =>
  dq false false 13 0 (b17 + 13) H p w (fun _ => .val x11) (some true) fun a31 H p w =>
  dq false false 14 12288 (b17 + 14) H p w (fun _ => idxS 3 a30 a31) (some true) fun a32 H p w =>
  dq true false 15 28672 (b17 + 15) H p w (fun H => loadA 3 H a32) (some true) fun a33 H p w =>
  dq false false 16 65475 (b17 + 16) H p w (fun _ => idxS 3 a18 a19) (some true) fun a34 H p w =>
  de 131011 H p w (storeA 3 (viewH 131011 p H) a34 a29) (some true) fun _ H p w =>
  dq false false 18 262143 (b17 + 18) H p w (fun _ => idxS 3 a20 a23) (some true) fun a36 H p w =>
  de 524287 H p w (storeA 3 (viewH 524287 p H) a36 a33) (some true) fun _ H p w =>
  dz2 p H fun H =>
  s_brk_j12 call g10 x11 H
noncomputable def s_brk_j41 (call : Ev.Call) (g10 : AV → Hp → R1) (x0 x1 x8 x9 x10 x11 : AV) (H : Hp) : R1 :=
  ve (call (.f id_s_xorNext) [x9] H) fun a13 H =>
  vq (intV (intBin .sub).f x10 (.int .u64 (.ofNat 1))) H fun a14 H =>
  vq (intV (intBin .and).f a13 a14) H fun a15 H =>
  vq (convI .i64 a15) H fun a16 H =>
  vq (intV (intBin .geq).f a16 x8) H fun a39 H =>
  cd a39 (
  vq (intV (intBin .sub).f a16 x8) H fun a40 H =>
  s_brk_j38 call g10 x0 x1 x11 a40 H) (
  s_brk_j38 call g10 x0 x1 x11 a16 H)
noncomputable def s_brk_b10 (call : Ev.Call) (q10e0 : Hp → R1) (x0 x1 x8 x9 x10 : AV) (g10 : AV → Hp → R1) (x11 : AV) (H : Hp) : R1 :=
  vq (intV (intBin .quo).f x8 (.int .i64 (.ofNat 4))) H fun a42 H =>
  vq (intV (intBin .mul).f a42 (.int .i64 (.ofNat 2))) H fun a43 H =>
  vq (intV (intBin .add).f x1 a43) H fun a44 H =>
  vq (intV (intBin .add).f a44 (.int .i64 (.ofNat 1))) H fun a45 H =>
  vq (intV (intBin .leq).f x11 a45) H fun a46 H =>
  cd a46 (
  s_brk_j41 call g10 x0 x1 x8 x9 x10 x11 H) (
  q10e0 H)
noncomputable def s_brk_l10 (call : Ev.Call) (q10e0 : Hp → R1) (x0 x1 x8 x9 x10 : AV) (n : Nat) : AV → Hp → R1 :=
  Nat.rec (motive := fun _ => AV → Hp → R1) (fun _ _ => .bad) (fun _ ih => s_brk_b10 call q10e0 x0 x1 x8 x9 x10 ih) n
noncomputable def s_brk_L10 (call : Ev.Call) (q10e0 : Hp → R1) (x0 x1 x8 x9 x10 : AV) : AV → Hp → R1 := s_brk_l10 call q10e0 x0 x1 x8 x9 x10 fuelX
noncomputable def s_brk_c (call : Ev.Call) (x0 x1 x2 : AV) (H : Hp) : R1 :=
  vq (intV (intBin .sub).f x2 x1) H fun a0 H =>
  vq (intV (intBin .geq).f a0 (.int .i64 (.ofNat 8))) H fun a1 H =>
  cd a1 (
  vq (convI .u64 a0) H fun a2 H =>
  vq (.new (.ptr H.nx 0) (mkBlk 0 [.int .u64 (.ofNat 0)])) H fun a3 H =>
  ve (store1 H a3 a2) fun _ H =>
  ve (call (.f id_s_npow) [a0] H) fun a5 H =>
  vq (intV (intBin .quo).f a0 (.int .i64 (.ofNat 4))) H fun a6 H =>
  vq (intV (intBin .mul).f a6 (.int .i64 (.ofNat 2))) H fun a7 H =>
  vq (intV (intBin .add).f x1 a7) H fun a8 H =>
  vq (intV (intBin .sub).f a8 (.int .i64 (.ofNat 1))) H fun a9 H =>
  s_brk_L10 call (fun H => .ok (.tup []) H) x0 x1 a0 a3 a5 a9 H) (
  .ok (.tup []) H)
noncomputable def s_brk (call : Ev.Call) (x0 x1 x2 x3 : AV) (H : Hp) : R1 := s_brk_c call x0 x1 x2 H
noncomputable def s_piv_j14 (call : Ev.Call) (x11 x13 : AV) (H : Hp) : R1 :=
  vq (load1 H x11) H fun a11 H =>
  vq (intV (intBin .eql).f a11 (.int .i64 (.ofNat 0))) H fun a12 H =>
  cd a12 (
  .ok (.tup [x13, (.int .i64 (.ofNat 1))]) H) (
  vq (intV (intBin .eql).f a11 (.int .i64 (.ofNat 12))) H fun a13 H =>
  cd a13 (
  .ok (.tup [x13, (.int .i64 (.ofNat 2))]) H) (
  .ok (.tup [x13, (.int .i64 (.ofNat 0))]) H))
noncomputable def s_piv_j17 (call : Ev.Call) (x0 x3 x11 x12 x13 x14 : AV) (H : Hp) : R1 :=
  ve (call (.f id_s_med) [x0, x12, x13, x14, x11, x3] H) fun a16 H =>
  s_piv_j14 call x11 a16 H
noncomputable def s_piv_c (call : Ev.Call) (x0 x1 x2 x3 : AV) (H : Hp) : R1 :=
  vq (intV (intBin .sub).f x2 x1) H fun a0 H =>
  vq (.new (.ptr H.nx 0) (mkBlk 0 [.int .i64 (.ofNat 0)])) H fun a1 H =>
  vq (intV (intBin .quo).f a0 (.int .i64 (.ofNat 4))) H fun a2 H =>
  vq (intV (intBin .mul).f a2 (.int .i64 (.ofNat 1))) H fun a3 H =>
  vq (intV (intBin .add).f x1 a3) H fun a4 H =>
  vq (intV (intBin .quo).f a0 (.int .i64 (.ofNat 4))) H fun a5 H =>
  vq (intV (intBin .mul).f a5 (.int .i64 (.ofNat 2))) H fun a6 H =>
  vq (intV (intBin .add).f x1 a6) H fun a7 H =>
  vq (intV (intBin .quo).f a0 (.int .i64 (.ofNat 4))) H fun a8 H =>
  vq (intV (intBin .mul).f a8 (.int .i64 (.ofNat 3))) H fun a9 H =>
  vq (intV (intBin .add).f x1 a9) H fun a10 H =>
  vq (intV (intBin .geq).f a0 (.int .i64 (.ofNat 8))) H fun a15 H =>
  cd a15 (
  vq (intV (intBin .geq).f a0 (.int .i64 (.ofNat 50))) H fun a18 H =>
  cd a18 (
  ve (call (.f id_s_medadj) [x0, a4, a1, x3] H) fun a19 H =>
  ve (call (.f id_s_medadj) [x0, a7, a1, x3] H) fun a20 H =>
  ve (call (.f id_s_medadj) [x0, a10, a1, x3] H) fun a21 H =>
  s_piv_j17 call x0 x3 a1 a19 a20 a21 H) (
  s_piv_j17 call x0 x3 a1 a4 a7 a10 H)) (
  s_piv_j14 call a1 a7 H)
noncomputable def s_piv (call : Ev.Call) (x0 x1 x2 x3 : AV) (H : Hp) : R1 := s_piv_c call x0 x1 x2 x3 H
noncomputable def s_rev_j21 (call : Ev.Call) (g1 : AV → AV → Hp → R1) (x0 x8 x9 : AV) (H : Hp) : R1 :=
  dz 0 H fun b2 H =>
  dq false false 0 0 (b2 + 0) H [] [] (fun _ => .val x0) (some true) fun a3 H p w =>
  dq false false 1 0 (b2 + 1) H p w (fun _ => .val x8) (some true) fun a4 H p w =>
  dq false false 2 0 (b2 + 2) H p w (fun _ => .val x0) (some true) fun a5 H p w =>
  dq false false 3 0 (b2 + 3) H p w (fun _ => .val x9) (some true) fun a6 H p w =>
  dq false false 4 0 (b2 + 4) H p w (fun _ => .val x0) (some true) fun a7 H p w =>
  dq false false 5 0 (b2 + 5) H p w (fun _ => .val x9) (some true) fun a8 H p w =>
  dq false false 6 48 (b2 + 6) H p w (fun _ => idxS 3 a7 a8) (some true) fun a9 H p w =>
  dq true false 7 112 (b2 + 7) H p w (fun H => loadA 3 H a9) (some true) fun a10 H p w =>
  dq false false 8 0 (b2 + 8) H p w (fun _ => .val x0) (some true) fun a11 H p w =>
  dq false false 9 0 (b2 + 9) H p w (fun _ => .val x8) (some true) fun a12 H p w =>
  dq false false 10 768 (b2 + 10) H p w (fun _ => idxS 3 a11 a12) (some true) fun a13 H p w =>
  dq true false 11 1792 (b2 + 11) H p w (fun H => loadA 3 H a13) (some true) fun a14 H p w =>
  dq false false 12 4083 (b2 + 12) H p w (fun _ => idxS 3 a3 a4) (some true) fun a15 H p w =>
  de 8179 H p w (storeA 3 (viewH 8179 p H) a15 a10) (some true) fun _ H p w =>
  dq false false 14 16383 (b2 + 14) H p w (fun _ => idxS 3 a5 a6) (some true) fun a17 H p w =>
  de 32767 H p w (storeA 3 (viewH 32767 p H) a17 a14) (some true) fun _ H p w =>
  dz2 p H fun H =>
  vq (intV (intBin .add).f x8 (.int .i64 (.ofNat 1))) H fun a19 H =>
  vq (intV (intBin .sub).f x9 (.int .i64 (.ofNat 1))) H fun a20 H =>
  g1 a19 a20 H
noncomputable def s_rev_b1 (call : Ev.Call) (q1e0 : Hp → R1) (x0 : AV) (g1 : AV → AV → Hp → R1) (x8 x9 : AV) (H : Hp) : R1 :=
  vq (intV (intBin .lss).f x8 x9) H fun a22 H =>
  cd a22 (
  s_rev_j21 call g1 x0 x8 x9 H) (
  q1e0 H)
noncomputable def s_rev_l1 (call : Ev.Call) (q1e0 : Hp → R1) (x0 : AV) (n : Nat) : AV → AV → Hp → R1 :=
  Nat.rec (motive := fun _ => AV → AV → Hp → R1) (fun _ _ _ => .bad) (fun _ ih => s_rev_b1 call q1e0 x0 ih) n
noncomputable def s_rev_L1 (call : Ev.Call) (q1e0 : Hp → R1) (x0 : AV) : AV → AV → Hp → R1 := s_rev_l1 call q1e0 x0 fuelX
noncomputable def s_rev_c (call : Ev.Call) (x0 x1 x2 : AV) (H : Hp) : R1 :=
  vq (intV (intBin .sub).f x2 (.int .i64 (.ofNat 1))) H fun a0 H =>
  s_rev_L1 call (fun H => .ok (.tup []) H) x0 x1 a0 H
noncomputable def s_rev (call : Ev.Call) (x0 x1 x2 x3 : AV) (H : Hp) : R1 := s_rev_c call x0 x1 x2 H
noncomputable def s_pins_j1 (call : Ev.Call) (H : Hp) : R1 :=
  .ok (.bool false) H
noncomputable def s_pins_j4 (call : Ev.Call) (g2 : AV → AV → Hp → R1) (x9 x10 : AV) (H : Hp) : R1 :=
  vq (intV (intBin .add).f x10 (.int .i64 (.ofNat 1))) H fun a3 H =>
  g2 x9 a3 H
noncomputable def s_pins_j29 (call : Ev.Call) (g27 : AV → Hp → R1) (x12 : AV) (H : Hp) : R1 :=
  vq (intV (intBin .add).f x12 (.int .i64 (.ofNat 1))) H fun a28 H =>
  g27 a28 H
noncomputable def s_pins_j49 (call : Ev.Call) (g27 : AV → Hp → R1) (x0 x12 : AV) (H : Hp) : R1 :=
  dz 0 H fun b30 H =>
  dq false false 0 0 (b30 + 0) H [] [] (fun _ => .val x0) (some true) fun a31 H p w =>
  dq false false 1 0 (b30 + 1) H p w (fun _ => .val x12) (some true) fun a32 H p w =>
  dq false false 2 0 (b30 + 2) H p w (fun _ => .val x0) (some true) fun a33 H p w =>
  dq false false 3 0 (b30 + 3) H p w (fun _ => .val x12) (some true) fun a34 H p w =>
  dq false false 4 8 (b30 + 4) H p w (fun _ => intV (intBin .sub).f a34 (.int .i64 (.ofNat 1))) (some true) fun a35 H p w =>
  dq false false 5 0 (b30 + 5) H p w (fun _ => .val x0) (some true) fun a36 H p w =>
  dq false false 6 0 (b30 + 6) H p w (fun _ => .val x12) (some true) fun a37 H p w =>
  dq false false 7 64 (b30 + 7) H p w (fun _ => intV (intBin .sub).f a37 (.int .i64 (.ofNat 1))) (some true) fun a38 H p w =>
  dq false false 8 224 (b30 + 8) H p w (fun _ => idxS 3 a36 a38) (some true) fun a39 H p w =>
  dq true false 9 480 (b30 + 9) H p w (fun H => loadA 3 H a39) (some true) fun a40 H p w =>
  dq false false 10 0 (b30 + 10) H p w (fun _ => .val x0) (some true) fun a41 H p w =>
  dq false false 11 0 (b30 + 11) H p w (fun _ => .val x12) (some true) fun a42 H p w =>
  dq false false 12 3072 (b30 + 12) H p w (fun _ => idxS 3 a41 a42) (some true) fun a43 H p w =>
  dq true false 13 7168 (b30 + 13) H p w (fun H => loadA 3 H a43) (some true) fun a44 H p w =>
  dq false false 14 16355 (b30 + 14) H p w (fun _ => idxS 3 a31 a32) (some true) fun a45 H p w =>
  de 32739 H p w (storeA 3 (viewH 32739 p H) a45 a40) (some true) fun _ H p w =>
  dq false false 16 65535 (b30 + 16) H p w (fun _ => idxS 3 a33 a35) (some true) fun a47 H p w =>
  de 131071 H p w (storeA 3 (viewH 131071 p H) a47 a44) (some true) fun _ H p w =>
  dz2 p H fun H =>
  s_pins_j29 call g27 x12 H
noncomputable def s_pins_j64 (call : Ev.Call) (q27e6 : Hp → R1) (g27 : AV → Hp → R1) (x0 x3 x12 : AV) (H : Hp) : R1 :=
  dz 0 H fun b50 H =>
  dq false false 0 0 (b50 + 0) H [] [] (fun _ => .val x3) (some true) fun a51 H p w =>
  dq false false 1 0 (b50 + 1) H p w (fun _ => .val x0) (some true) fun a52 H p w =>
  dq false false 2 0 (b50 + 2) H p w (fun _ => .val x12) (some true) fun a53 H p w =>
  dq false false 3 6 (b50 + 3) H p w (fun _ => idxS 3 a52 a53) (some true) fun a54 H p w =>
  dq true false 4 14 (b50 + 4) H p w (fun H => loadA 3 H a54) (some true) fun a55 H p w =>
  dq false false 5 0 (b50 + 5) H p w (fun _ => .val x0) (some true) fun a56 H p w =>
  dq false false 6 0 (b50 + 6) H p w (fun _ => .val x12) (some true) fun a57 H p w =>
  dq false false 7 64 (b50 + 7) H p w (fun _ => intV (intBin .sub).f a57 (.int .i64 (.ofNat 1))) (some true) fun a58 H p w =>
  dq false false 8 224 (b50 + 8) H p w (fun _ => idxS 3 a56 a58) (some true) fun a59 H p w =>
  dq true false 9 480 (b50 + 9) H p w (fun H => loadA 3 H a59) (some true) fun a60 H p w =>
  de 1023 H p w (callV call a51 [a55, a60] (viewH 1023 p H)) (some true) fun a61 H p w =>
  dq false false 11 2047 (b50 + 11) H p w (fun _ => intV (intBin .lss).f a61 (.int .i64 (.ofNat 0))) (some true) fun a62 H p w =>
  dq false false 12 4095 (b50 + 12) H p w (fun _ => (unS .not).f a62) (some true) fun a63 H p w =>
  dz2 p H fun H =>
  cd a63 (
  q27e6 H) (
  s_pins_j49 call g27 x0 x12 H)
noncomputable def s_pins_b27 (call : Ev.Call) (q27e6 : Hp → R1) (x0 x2 x3 : AV) (g27 : AV → Hp → R1) (x12 : AV) (H : Hp) : R1 :=
  vq (intV (intBin .lss).f x12 x2) H fun a65 H =>
  cd a65 (
  s_pins_j64 call q27e6 g27 x0 x3 x12 H) (
  q27e6 H)
noncomputable def s_pins_l27 (call : Ev.Call) (q27e6 : Hp → R1) (x0 x2 x3 : AV) (n : Nat) : AV → Hp → R1 :=
  Nat.rec (motive := fun _ => AV → Hp → R1) (fun _ _ => .bad) (fun _ ih => s_pins_b27 call q27e6 x0 x2 x3 ih) n
noncomputable def s_pins_L27 (call : Ev.Call) (q27e6 : Hp → R1) (x0 x2 x3 : AV) : AV → Hp → R1 := s_pins_l27 call q27e6 x0 x2 x3 fuelX
noncomputable def s_pins_j66 (call : Ev.Call) (g2 : AV → AV → Hp → R1) (x0 x2 x3 x9 x10 : AV) (H : Hp) : R1 :=
  vq (intV (intBin .sub).f x2 x9) H fun a24 H =>
  vq (intV (intBin .geq).f a24 (.int .i64 (.ofNat 2))) H fun a25 H =>
  cd a25 (
  vq (intV (intBin .add).f x9 (.int .i64 (.ofNat 1))) H fun a26 H =>
  s_pins_L27 call (fun H => s_pins_j4 call g2 x9 x10 H) x0 x2 x3 a26 H) (
  s_pins_j4 call g2 x9 x10 H)
noncomputable def s_pins_j72 (call : Ev.Call) (g70 : AV → Hp → R1) (x11 : AV) (H : Hp) : R1 :=
  vq (intV (intBin .sub).f x11 (.int .i64 (.ofNat 1))) H fun a71 H =>
  g70 a71 H
noncomputable def s_pins_j92 (call : Ev.Call) (g70 : AV → Hp → R1) (x0 x11 : AV) (H : Hp) : R1 :=
  dz 0 H fun b73 H =>
  dq false false 0 0 (b73 + 0) H [] [] (fun _ => .val x0) (some true) fun a74 H p w =>
  dq false false 1 0 (b73 + 1) H p w (fun _ => .val x11) (some true) fun a75 H p w =>
  dq false false 2 0 (b73 + 2) H p w (fun _ => .val x0) (some true) fun a76 H p w =>
  dq false false 3 0 (b73 + 3) H p w (fun _ => .val x11) (some true) fun a77 H p w =>
  dq false false 4 8 (b73 + 4) H p w (fun _ => intV (intBin .sub).f a77 (.int .i64 (.ofNat 1))) (some true) fun a78 H p w =>
  dq false false 5 0 (b73 + 5) H p w (fun _ => .val x0) (some true) fun a79 H p w =>
  dq false false 6 0 (b73 + 6) H p w (fun _ => .val x11) (some true) fun a80 H p w =>
  dq false false 7 64 (b73 + 7) H p w (fun _ => intV (intBin .sub).f a80 (.int .i64 (.ofNat 1))) (some true) fun a81 H p w =>
  dq false false 8 224 (b73 + 8) H p w (fun _ => idxS 3 a79 a81) (some true) fun a82 H p w =>
  dq true false 9 480 (b73 + 9) H p w (fun H => loadA 3 H a82) (some true) fun a83 H p w =>
  dq false false 10 0 (b73 + 10) H p w (fun _ => .val x0) (some true) fun a84 H p w =>
  dq false false 11 0 (b73 + 11) H p w (fun _ => .val x11) (some true) fun a85 H p w =>
  dq false false 12 3072 (b73 + 12) H p w (fun _ => idxS 3 a84 a85) (some true) fun a86 H p w =>
  dq true false 13 7168 (b73 + 13) H p w (fun H => loadA 3 H a86) (some true) fun a87 H p w =>
  dq false false 14 16355 (b73 + 14) H p w (fun _ => idxS 3 a74 a75) (some true) fun a88 H p w =>
  de 32739 H p w (storeA 3 (viewH 32739 p H) a88 a83) (some true) fun _ H p w =>
  dq false false 16 65535 (b73 + 16) H p w (fun _ => idxS 3 a76 a78) (some true) fun a90 H p w =>
  de 131071 H p w (storeA 3 (viewH 131071 p H) a90 a87) (some true) fun _ H p w =>
  dz2 p H fun H =>
  s_pins_j72 call g70 x11 H
noncomputable def s_pins_j107 (call : Ev.Call) (q70e4 : Hp → R1) (g70 : AV → Hp → R1) (x0 x3 x11 : AV) (H : Hp) : R1 :=
  dz 0 H fun b93 H =>
  dq false false 0 0 (b93 + 0) H [] [] (fun _ => .val x3) (some true) fun a94 H p w =>
  dq false false 1 0 (b93 + 1) H p w (fun _ => .val x0) (some true) fun a95 H p w =>
  dq false false 2 0 (b93 + 2) H p w (fun _ => .val x11) (some true) fun a96 H p w =>
  dq false false 3 6 (b93 + 3) H p w (fun _ => idxS 3 a95 a96) (some true) fun a97 H p w =>
  dq true false 4 14 (b93 + 4) H p w (fun H => loadA 3 H a97) (some true) fun a98 H p w =>
  dq false false 5 0 (b93 + 5) H p w (fun _ => .val x0) (some true) fun a99 H p w =>
  dq false false 6 0 (b93 + 6) H p w (fun _ => .val x11) (some true) fun a100 H p w =>
  dq false false 7 64 (b93 + 7) H p w (fun _ => intV (intBin .sub).f a100 (.int .i64 (.ofNat 1))) (some true) fun a101 H p w =>
  dq false false 8 224 (b93 + 8) H p w (fun _ => idxS 3 a99 a101) (some true) fun a102 H p w =>
  dq true false 9 480 (b93 + 9) H p w (fun H => loadA 3 H a102) (some true) fun a103 H p w =>
  de 1023 H p w (callV call a94 [a98, a103] (viewH 1023 p H)) (some true) fun a104 H p w =>
  dq false false 11 2047 (b93 + 11) H p w (fun _ => intV (intBin .lss).f a104 (.int .i64 (.ofNat 0))) (some true) fun a105 H p w =>
  dq false false 12 4095 (b93 + 12) H p w (fun _ => (unS .not).f a105) (some true) fun a106 H p w =>
  dz2 p H fun H =>
  cd a106 (
  q70e4 H) (
  s_pins_j92 call g70 x0 x11 H)
noncomputable def s_pins_b70 (call : Ev.Call) (q70e4 : Hp → R1) (x0 x3 : AV) (g70 : AV → Hp → R1) (x11 : AV) (H : Hp) : R1 :=
  vq (intV (intBin .geq).f x11 (.int .i64 (.ofNat 1))) H fun a108 H =>
  cd a108 (
  s_pins_j107 call q70e4 g70 x0 x3 x11 H) (
  q70e4 H)
noncomputable def s_pins_l70 (call : Ev.Call) (q70e4 : Hp → R1) (x0 x3 : AV) (n : Nat) : AV → Hp → R1 :=
  Nat.rec (motive := fun _ => AV → Hp → R1) (fun _ _ => .bad) (fun _ ih => s_pins_b70 call q70e4 x0 x3 ih) n
noncomputable def s_pins_L70 (call : Ev.Call) (q70e4 : Hp → R1) (x0 x3 : AV) : AV → Hp → R1 := s_pins_l70 call q70e4 x0 x3 fuelX
noncomputable def s_pins_j109 (call : Ev.Call) (g2 : AV → AV → Hp → R1) (x0 x1 x2 x3 x9 x10 : AV) (H : Hp) : R1 :=
  dz 0 H fun b5 H =>
  dq false false 0 0 (b5 + 0) H [] [] (fun _ => .val x0) (some true) fun a6 H p w =>
  dq false false 1 0 (b5 + 1) H p w (fun _ => .val x9) (some true) fun a7 H p w =>
  dq false false 2 0 (b5 + 2) H p w (fun _ => .val x0) (some true) fun a8 H p w =>
  dq false false 3 0 (b5 + 3) H p w (fun _ => .val x9) (some true) fun a9 H p w =>
  dq false false 4 8 (b5 + 4) H p w (fun _ => intV (intBin .sub).f a9 (.int .i64 (.ofNat 1))) (some true) fun a10 H p w =>
  dq false false 5 0 (b5 + 5) H p w (fun _ => .val x0) (some true) fun a11 H p w =>
  dq false false 6 0 (b5 + 6) H p w (fun _ => .val x9) (some true) fun a12 H p w =>
  dq false false 7 64 (b5 + 7) H p w (fun _ => intV (intBin .sub).f a12 (.int .i64 (.ofNat 1))) (some true) fun a13 H p w =>
  dq false false 8 224 (b5 + 8) H p w (fun _ => idxS 3 a11 a13) (some true) fun a14 H p w =>
  dq true false 9 480 (b5 + 9) H p w (fun H => loadA 3 H a14) (some true) fun a15 H p w =>
  dq false false 10 0 (b5 + 10) H p w (fun _ => .val x0) (some true) fun a16 H p w =>
  dq false false 11 0 (b5 + 11) H p w (fun _ => .val x9) (some true) fun a17 H p w =>
  dq false false 12 3072 (b5 + 12) H p w (fun _ => idxS 3 a16 a17) (some true) fun a18 H p w =>
  dq true false 13 7168 (b5 + 13) H p w (fun H => loadA 3 H a18) (some true) fun a19 H p w =>
  dq false false 14 16355 (b5 + 14) H p w (fun _ => idxS 3 a6 a7) (some true) fun a20 H p w =>
  de 32739 H p w (storeA 3 (viewH 32739 p H) a20 a15) (some true) fun _ H p w =>
  dq false false 16 65535 (b5 + 16) H p w (fun _ => idxS 3 a8 a10) (some true) fun a22 H p w =>
  de 131071 H p w (storeA 3 (viewH 131071 p H) a22 a19) (some true) fun _ H p w =>
  dz2 p H fun H =>
  vq (intV (intBin .sub).f x9 x1) H fun a67 H =>
  vq (intV (intBin .geq).f a67 (.int .i64 (.ofNat 2))) H fun a68 H =>
  cd a68 (
  vq (intV (intBin .sub).f x9 (.int .i64 (.ofNat 1))) H fun a69 H =>
  s_pins_L70 call (fun H => s_pins_j66 call g2 x0 x2 x3 x9 x10 H) x0 x3 a69 H) (
  s_pins_j66 call g2 x0 x2 x3 x9 x10 H)
noncomputable def s_pins_j112 (call : Ev.Call) (q2r : AV → Hp → R1) (g2 : AV → AV → Hp → R1) (x0 x1 x2 x3 x9 x10 : AV) (H : Hp) : R1 :=
  vq (intV (intBin .sub).f x2 x1) H fun a110 H =>
  vq (intV (intBin .lss).f a110 (.int .i64 (.ofNat 50))) H fun a111 H =>
  cd a111 (
  q2r (.bool false) H) (
  s_pins_j109 call g2 x0 x1 x2 x3 x9 x10 H)
noncomputable def s_pins_j114 (call : Ev.Call) (q2r : AV → Hp → R1) (g2 : AV → AV → Hp → R1) (x0 x1 x2 x3 x9 x10 : AV) (H : Hp) : R1 :=
  vq (intV (intBin .eql).f x9 x2) H fun a113 H =>
  cd a113 (
  q2r (.bool true) H) (
  s_pins_j112 call q2r g2 x0 x1 x2 x3 x9 x10 H)
noncomputable def s_pins_j117 (call : Ev.Call) (g115 : AV → Hp → R1) (x9 : AV) (H : Hp) : R1 :=
  vq (intV (intBin .add).f x9 (.int .i64 (.ofNat 1))) H fun a116 H =>
  g115 a116 H
noncomputable def s_pins_b115 (call : Ev.Call) (q115e2 : AV → Hp → R1) (x0 x2 x3 : AV) (g115 : AV → Hp → R1) (x9 : AV) (H : Hp) : R1 :=
  dz 0 H fun b118 H =>
  dq false false 0 0 (b118 + 0) H [] [] (fun _ => .val x9) (some true) fun a119 H p w =>
  dq false false 1 0 (b118 + 1) H p w (fun _ => .val x2) (some true) fun a120 H p w =>
  dq false false 2 3 (b118 + 2) H p w (fun _ => intV (intBin .lss).f a119 a120) (some true) fun a121 H p w =>
  dq false false 3 7 (b118 + 3) H p w (fun _ => .val a121) (some true) fun a122 H p w =>
  dq false false 4 15 (b118 + 4) H p w (fun _ => .val x3) (wantV true a122) fun a123 H p w =>
  dq false false 5 15 (b118 + 5) H p w (fun _ => .val x0) (wantV true a122) fun a124 H p w =>
  dq false false 6 15 (b118 + 6) H p w (fun _ => .val x9) (wantV true a122) fun a125 H p w =>
  dq false false 7 111 (b118 + 7) H p w (fun _ => idxS 3 a124 a125) (wantV true a122) fun a126 H p w =>
  dq true false 8 239 (b118 + 8) H p w (fun H => loadA 3 H a126) (wantV true a122) fun a127 H p w =>
  dq false false 9 15 (b118 + 9) H p w (fun _ => .val x0) (wantV true a122) fun a128 H p w =>
  dq false false 10 15 (b118 + 10) H p w (fun _ => .val x9) (wantV true a122) fun a129 H p w =>
  dq false false 11 1039 (b118 + 11) H p w (fun _ => intV (intBin .sub).f a129 (.int .i64 (.ofNat 1))) (wantV true a122) fun a130 H p w =>
  dq false false 12 3599 (b118 + 12) H p w (fun _ => idxS 3 a128 a130) (wantV true a122) fun a131 H p w =>
  dq true false 13 7695 (b118 + 13) H p w (fun H => loadA 3 H a131) (wantV true a122) fun a132 H p w =>
  de 16383 H p w (callV call a123 [a127, a132] (viewH 16383 p H)) (wantV true a122) fun a133 H p w =>
  dq false false 15 32767 (b118 + 15) H p w (fun _ => intV (intBin .lss).f a133 (.int .i64 (.ofNat 0))) (wantV true a122) fun a134 H p w =>
  dq false false 16 65535 (b118 + 16) H p w (fun _ => (unS .not).f a134) (wantV true a122) fun a135 H p w =>
  dq false false 17 131071 (b118 + 17) H p w (fun _ => pickV a122 a135 (.bool false)) (some true) fun a136 H p w =>
  dz2 p H fun H =>
  cd a136 (
  s_pins_j117 call g115 x9 H) (
  q115e2 x9 H)
noncomputable def s_pins_l115 (call : Ev.Call) (q115e2 : AV → Hp → R1) (x0 x2 x3 : AV) (n : Nat) : AV → Hp → R1 :=
  Nat.rec (motive := fun _ => AV → Hp → R1) (fun _ _ => .bad) (fun _ ih => s_pins_b115 call q115e2 x0 x2 x3 ih) n
noncomputable def s_pins_L115 (call : Ev.Call) (q115e2 : AV → Hp → R1) (x0 x2 x3 : AV) : AV → Hp → R1 := s_pins_l115 call q115e2 x0 x2 x3 fuelX
noncomputable def s_pins_j137 (call : Ev.Call) (q2r : AV → Hp → R1) (g2 : AV → AV → Hp → R1) (x0 x1 x2 x3 x9 x10 : AV) (H : Hp) : R1 :=
  s_pins_L115 call (fun x9 H => s_pins_j114 call q2r g2 x0 x1 x2 x3 x9 x10 H) x0 x2 x3 x9 H
noncomputable def s_pins_b2 (call : Ev.Call) (q2r : AV → Hp → R1) (q2e0 : Hp → R1) (x0 x1 x2 x3 : AV) (g2 : AV → AV → Hp → R1) (x9 x10 : AV) (H : Hp) : R1 :=
  vq (intV (intBin .lss).f x10 (.int .i64 (.ofNat 5))) H fun a138 H =>
  cd a138 (
  s_pins_j137 call q2r g2 x0 x1 x2 x3 x9 x10 H) (
  q2e0 H)
noncomputable def s_pins_l2 (call : Ev.Call) (q2r : AV → Hp → R1) (q2e0 : Hp → R1) (x0 x1 x2 x3 : AV) (n : Nat) : AV → AV → Hp → R1 :=
  Nat.rec (motive := fun _ => AV → AV → Hp → R1) (fun _ _ _ => .bad) (fun _ ih => s_pins_b2 call q2r q2e0 x0 x1 x2 x3 ih) n
noncomputable def s_pins_L2 (call : Ev.Call) (q2r : AV → Hp → R1) (q2e0 : Hp → R1) (x0 x1 x2 x3 : AV) : AV → AV → Hp → R1 := s_pins_l2 call q2r q2e0 x0 x1 x2 x3 fuelX
noncomputable def s_pins_c (call : Ev.Call) (x0 x1 x2 x3 : AV) (H : Hp) : R1 :=
  vq (intV (intBin .add).f x1 (.int .i64 (.ofNat 1))) H fun a0 H =>
  s_pins_L2 call (fun x8 H => .ok x8 H) (fun H => s_pins_j1 call H) x0 x1 x2 x3 a0 (.int .i64 (.ofNat 0)) H
noncomputable def s_pins (call : Ev.Call) (x0 x1 x2 x3 : AV) (H : Hp) : R1 := s_pins_c call x0 x1 x2 x3 H
noncomputable def s_peq_j19 (call : Ev.Call) (x11 : AV) (H : Hp) : R1 :=
  .ok x11 H
noncomputable def s_peq_j40 (call : Ev.Call) (g20 : AV → AV → Hp → R1) (x0 x11 x12 : AV) (H : Hp) : R1 :=
  dz 0 H fun b21 H =>
  dq false false 0 0 (b21 + 0) H [] [] (fun _ => .val x0) (some true) fun a22 H p w =>
  dq false false 1 0 (b21 + 1) H p w (fun _ => .val x11) (some true) fun a23 H p w =>
  dq false false 2 0 (b21 + 2) H p w (fun _ => .val x0) (some true) fun a24 H p w =>
  dq false false 3 0 (b21 + 3) H p w (fun _ => .val x12) (some true) fun a25 H p w =>
  dq false false 4 0 (b21 + 4) H p w (fun _ => .val x0) (some true) fun a26 H p w =>
  dq false false 5 0 (b21 + 5) H p w (fun _ => .val x12) (some true) fun a27 H p w =>
  dq false false 6 48 (b21 + 6) H p w (fun _ => idxS 3 a26 a27) (some true) fun a28 H p w =>
  dq true false 7 112 (b21 + 7) H p w (fun H => loadA 3 H a28) (some true) fun a29 H p w =>
  dq false false 8 0 (b21 + 8) H p w (fun _ => .val x0) (some true) fun a30 H p w =>
  dq false false 9 0 (b21 + 9) H p w (fun _ => .val x11) (some true) fun a31 H p w =>
  dq false false 10 768 (b21 + 10) H p w (fun _ => idxS 3 a30 a31) (some true) fun a32 H p w =>
  dq true false 11 1792 (b21 + 11) H p w (fun H => loadA 3 H a32) (some true) fun a33 H p w =>
  dq false false 12 4083 (b21 + 12) H p w (fun _ => idxS 3 a22 a23) (some true) fun a34 H p w =>
  de 8179 H p w (storeA 3 (viewH 8179 p H) a34 a29) (some true) fun _ H p w =>
  dq false false 14 16383 (b21 + 14) H p w (fun _ => idxS 3 a24 a25) (some true) fun a36 H p w =>
  de 32767 H p w (storeA 3 (viewH 32767 p H) a36 a33) (some true) fun _ H p w =>
  dz2 p H fun H =>
  vq (intV (intBin .add).f x11 (.int .i64 (.ofNat 1))) H fun a38 H =>
  vq (intV (intBin .sub).f x12 (.int .i64 (.ofNat 1))) H fun a39 H =>
  g20 a38 a39 H
noncomputable def s_peq_j42 (call : Ev.Call) (q20e0 : AV → Hp → R1) (g20 : AV → AV → Hp → R1) (x0 x11 x12 : AV) (H : Hp) : R1 :=
  vq (intV (intBin .gtr).f x11 x12) H fun a41 H =>
  cd a41 (
  q20e0 x11 H) (
  s_peq_j40 call g20 x0 x11 x12 H)
noncomputable def s_peq_j45 (call : Ev.Call) (g43 : AV → Hp → R1) (x12 : AV) (H : Hp) : R1 :=
  vq (intV (intBin .sub).f x12 (.int .i64 (.ofNat 1))) H fun a44 H =>
  g43 a44 H
noncomputable def s_peq_b43 (call : Ev.Call) (q43e4 : AV → Hp → R1) (x0 x1 x4 x11 : AV) (g43 : AV → Hp → R1) (x12 : AV) (H : Hp) : R1 :=
  dz 0 H fun b46 H =>
  dq false false 0 0 (b46 + 0) H [] [] (fun _ => .val x11) (some true) fun a47 H p w =>
  dq false false 1 0 (b46 + 1) H p w (fun _ => .val x12) (some true) fun a48 H p w =>
  dq false false 2 3 (b46 + 2) H p w (fun _ => intV (intBin .leq).f a47 a48) (some true) fun a49 H p w =>
  dq false false 3 7 (b46 + 3) H p w (fun _ => .val a49) (some true) fun a50 H p w =>
  dq false false 4 15 (b46 + 4) H p w (fun _ => .val x4) (wantV true a50) fun a51 H p w =>
  dq false false 5 15 (b46 + 5) H p w (fun _ => .val x0) (wantV true a50) fun a52 H p w =>
  dq false false 6 15 (b46 + 6) H p w (fun _ => .val x1) (wantV true a50) fun a53 H p w =>
  dq false false 7 111 (b46 + 7) H p w (fun _ => idxS 3 a52 a53) (wantV true a50) fun a54 H p w =>
  dq true false 8 239 (b46 + 8) H p w (fun H => loadA 3 H a54) (wantV true a50) fun a55 H p w =>
  dq false false 9 15 (b46 + 9) H p w (fun _ => .val x0) (wantV true a50) fun a56 H p w =>
  dq false false 10 15 (b46 + 10) H p w (fun _ => .val x12) (wantV true a50) fun a57 H p w =>
  dq false false 11 1551 (b46 + 11) H p w (fun _ => idxS 3 a56 a57) (wantV true a50) fun a58 H p w =>
  dq true false 12 3599 (b46 + 12) H p w (fun H => loadA 3 H a58) (wantV true a50) fun a59 H p w =>
  de 8191 H p w (callV call a51 [a55, a59] (viewH 8191 p H)) (wantV true a50) fun a60 H p w =>
  dq false false 14 16383 (b46 + 14) H p w (fun _ => intV (intBin .lss).f a60 (.int .i64 (.ofNat 0))) (wantV true a50) fun a61 H p w =>
  dq false false 15 32767 (b46 + 15) H p w (fun _ => pickV a50 a61 (.bool false)) (some true) fun a62 H p w =>
  dz2 p H fun H =>
  cd a62 (
  s_peq_j45 call g43 x12 H) (
  q43e4 x12 H)
noncomputable def s_peq_l43 (call : Ev.Call) (q43e4 : AV → Hp → R1) (x0 x1 x4 x11 : AV) (n : Nat) : AV → Hp → R1 :=
  Nat.rec (motive := fun _ => AV → Hp → R1) (fun _ _ => .bad) (fun _ ih => s_peq_b43 call q43e4 x0 x1 x4 x11 ih) n
noncomputable def s_peq_L43 (call : Ev.Call) (q43e4 : AV → Hp → R1) (x0 x1 x4 x11 : AV) : AV → Hp → R1 := s_peq_l43 call q43e4 x0 x1 x4 x11 fuelX
noncomputable def s_peq_j63 (call : Ev.Call) (q20e0 : AV → Hp → R1) (g20 : AV → AV → Hp → R1) (x0 x1 x4 x11 x12 : AV) (H : Hp) : R1 :=
  s_peq_L43 call (fun x12 H => s_peq_j42 call q20e0 g20 x0 x11 x12 H) x0 x1 x4 x11 x12 H
noncomputable def s_peq_j66 (call : Ev.Call) (g64 : AV → Hp → R1) (x11 : AV) (H : Hp) : R1 :=
  vq (intV (intBin .add).f x11 (.int .i64 (.ofNat 1))) H fun a65 H =>
  g64 a65 H
noncomputable def s_peq_b64 (call : Ev.Call) (q64e2 : AV → Hp → R1) (x0 x1 x4 x12 : AV) (g64 : AV → Hp → R1) (x11 : AV) (H : Hp) : R1 :=
  dz 0 H fun b67 H =>
  dq false false 0 0 (b67 + 0) H [] [] (fun _ => .val x11) (some true) fun a68 H p w =>
  dq false false 1 0 (b67 + 1) H p w (fun _ => .val x12) (some true) fun a69 H p w =>
  dq false false 2 3 (b67 + 2) H p w (fun _ => intV (intBin .leq).f a68 a69) (some true) fun a70 H p w =>
  dq false false 3 7 (b67 + 3) H p w (fun _ => .val a70) (some true) fun a71 H p w =>
  dq false false 4 15 (b67 + 4) H p w (fun _ => .val x4) (wantV true a71) fun a72 H p w =>
  dq false false 5 15 (b67 + 5) H p w (fun _ => .val x0) (wantV true a71) fun a73 H p w =>
  dq false false 6 15 (b67 + 6) H p w (fun _ => .val x1) (wantV true a71) fun a74 H p w =>
  dq false false 7 111 (b67 + 7) H p w (fun _ => idxS 3 a73 a74) (wantV true a71) fun a75 H p w =>
  dq true false 8 239 (b67 + 8) H p w (fun H => loadA 3 H a75) (wantV true a71) fun a76 H p w =>
  dq false false 9 15 (b67 + 9) H p w (fun _ => .val x0) (wantV true a71) fun a77 H p w =>
  dq false false 10 15 (b67 + 10) H p w (fun _ => .val x11) (wantV true a71) fun a78 H p w =>
  dq false false 11 1551 (b67 + 11) H p w (fun _ => idxS 3 a77 a78) (wantV true a71) fun a79 H p w =>
  dq true false 12 3599 (b67 + 12) H p w (fun H => loadA 3 H a79) (wantV true a71) fun a80 H p w =>
  de 8191 H p w (callV call a72 [a76, a80] (viewH 8191 p H)) (wantV true a71) fun a81 H p w =>
  dq false false 14 16383 (b67 + 14) H p w (fun _ => intV (intBin .lss).f a81 (.int .i64 (.ofNat 0))) (wantV true a71) fun a82 H p w =>
  dq false false 15 32767 (b67 + 15) H p w (fun _ => (unS .not).f a82) (wantV true a71) fun a83 H p w =>
  dq false false 16 65535 (b67 + 16) H p w (fun _ => pickV a71 a83 (.bool false)) (some true) fun a84 H p w =>
  dz2 p H fun H =>
  cd a84 (
  s_peq_j66 call g64 x11 H) (
  q64e2 x11 H)
noncomputable def s_peq_l64 (call : Ev.Call) (q64e2 : AV → Hp → R1) (x0 x1 x4 x12 : AV) (n : Nat) : AV → Hp → R1 :=
  Nat.rec (motive := fun _ => AV → Hp → R1) (fun _ _ => .bad) (fun _ ih => s_peq_b64 call q64e2 x0 x1 x4 x12 ih) n
noncomputable def s_peq_L64 (call : Ev.Call) (q64e2 : AV → Hp → R1) (x0 x1 x4 x12 : AV) : AV → Hp → R1 := s_peq_l64 call q64e2 x0 x1 x4 x12 fuelX
noncomputable def s_peq_b20 (call : Ev.Call) (q20e0 : AV → Hp → R1) (x0 x1 x4 : AV) (g20 : AV → AV → Hp → R1) (x11 x12 : AV) (H : Hp) : R1 :=
  s_peq_L64 call (fun x11 H => s_peq_j63 call q20e0 g20 x0 x1 x4 x11 x12 H) x0 x1 x4 x12 x11 H
noncomputable def s_peq_l20 (call : Ev.Call) (q20e0 : AV → Hp → R1) (x0 x1 x4 : AV) (n : Nat) : AV → AV → Hp → R1 :=
  Nat.rec (motive := fun _ => AV → AV → Hp → R1) (fun _ _ _ => .bad) (fun _ ih => s_peq_b20 call q20e0 x0 x1 x4 ih) n
noncomputable def s_peq_L20 (call : Ev.Call) (q20e0 : AV → Hp → R1) (x0 x1 x4 : AV) : AV → AV → Hp → R1 := s_peq_l20 call q20e0 x0 x1 x4 fuelX
noncomputable def s_peq_c (call : Ev.Call) (x0 x1 x2 x3 x4 : AV) (H : Hp) : R1 :=
  dz 0 H fun b0 H =>
  dq false false 0 0 (b0 + 0) H [] [] (fun _ => .val x0) (some true) fun a1 H p w =>
  dq false false 1 0 (b0 + 1) H p w (fun _ => .val x1) (some true) fun a2 H p w =>
  dq false false 2 0 (b0 + 2) H p w (fun _ => .val x0) (some true) fun a3 H p w =>
  dq false false 3 0 (b0 + 3) H p w (fun _ => .val x3) (some true) fun a4 H p w =>
  dq false false 4 0 (b0 + 4) H p w (fun _ => .val x0) (some true) fun a5 H p w =>
  dq false false 5 0 (b0 + 5) H p w (fun _ => .val x3) (some true) fun a6 H p w =>
  dq false false 6 48 (b0 + 6) H p w (fun _ => idxS 3 a5 a6) (some true) fun a7 H p w =>
  dq true false 7 112 (b0 + 7) H p w (fun H => loadA 3 H a7) (some true) fun a8 H p w =>
  dq false false 8 0 (b0 + 8) H p w (fun _ => .val x0) (some true) fun a9 H p w =>
  dq false false 9 0 (b0 + 9) H p w (fun _ => .val x1) (some true) fun a10 H p w =>
  dq false false 10 768 (b0 + 10) H p w (fun _ => idxS 3 a9 a10) (some true) fun a11 H p w =>
  dq true false 11 1792 (b0 + 11) H p w (fun H => loadA 3 H a11) (some true) fun a12 H p w =>
  dq false false 12 4083 (b0 + 12) H p w (fun _ => idxS 3 a1 a2) (some true) fun a13 H p w =>
  de 8179 H p w (storeA 3 (viewH 8179 p H) a13 a8) (some true) fun _ H p w =>
  dq false false 14 16383 (b0 + 14) H p w (fun _ => idxS 3 a3 a4) (some true) fun a15 H p w =>
  de 32767 H p w (storeA 3 (viewH 32767 p H) a15 a12) (some true) fun _ H p w =>
  dz2 p H fun H =>
  vq (intV (intBin .add).f x1 (.int .i64 (.ofNat 1))) H fun a17 H =>
  vq (intV (intBin .sub).f x2 (.int .i64 (.ofNat 1))) H fun a18 H =>
  s_peq_L20 call (fun x11 H => s_peq_j19 call x11 H) x0 x1 x4 a17 a18 H
noncomputable def s_peq (call : Ev.Call) (x0 x1 x2 x3 x4 : AV) (H : Hp) : R1 := s_peq_c call x0 x1 x2 x3 x4 H
noncomputable def s_part_j55 (call : Ev.Call) (x0 x1 x13 : AV) (H : Hp) : R1 :=
  dz 0 H fun b38 H =>
  dq false false 0 0 (b38 + 0) H [] [] (fun _ => .val x0) (some true) fun a39 H p w =>
  dq false false 1 0 (b38 + 1) H p w (fun _ => .val x13) (some true) fun a40 H p w =>
  dq false false 2 0 (b38 + 2) H p w (fun _ => .val x0) (some true) fun a41 H p w =>
  dq false false 3 0 (b38 + 3) H p w (fun _ => .val x1) (some true) fun a42 H p w =>
  dq false false 4 0 (b38 + 4) H p w (fun _ => .val x0) (some true) fun a43 H p w =>
  dq false false 5 0 (b38 + 5) H p w (fun _ => .val x1) (some true) fun a44 H p w =>
  dq false false 6 48 (b38 + 6) H p w (fun _ => idxS 3 a43 a44) (some true) fun a45 H p w =>
  dq true false 7 112 (b38 + 7) H p w (fun H => loadA 3 H a45) (some true) fun a46 H p w =>
  dq false false 8 0 (b38 + 8) H p w (fun _ => .val x0) (some true) fun a47 H p w =>
  dq false false 9 0 (b38 + 9) H p w (fun _ => .val x13) (some true) fun a48 H p w =>
  dq false false 10 768 (b38 + 10) H p w (fun _ => idxS 3 a47 a48) (some true) fun a49 H p w =>
  dq true false 11 1792 (b38 + 11) H p w (fun H => loadA 3 H a49) (some true) fun a50 H p w =>
  dq false false 12 4083 (b38 + 12) H p w (fun _ => idxS 3 a39 a40) (some true) fun a51 H p w =>
  de 8179 H p w (storeA 3 (viewH 8179 p H) a51 a46) (some true) fun _ H p w =>
  dq false false 14 16383 (b38 + 14) H p w (fun _ => idxS 3 a41 a42) (some true) fun a53 H p w =>
  de 32767 H p w (storeA 3 (viewH 32767 p H) a53 a50) (some true) fun _ H p w =>
  dz2 p H fun H =>
  .ok (.tup [x13, (.bool false)]) H
noncomputable def s_part_j76 (call : Ev.Call) (g56 : AV → AV → Hp → R1) (x0 x12 x13 : AV) (H : Hp) : R1 :=
  dz 0 H fun b57 H =>
  dq false false 0 0 (b57 + 0) H [] [] (fun _ => .val x0) (some true) fun a58 H p w =>
  dq false false 1 0 (b57 + 1) H p w (fun _ => .val x12) (some true) fun a59 H p w =>
  dq false false 2 0 (b57 + 2) H p w (fun _ => .val x0) (some true) fun a60 H p w =>
  dq false false 3 0 (b57 + 3) H p w (fun _ => .val x13) (some true) fun a61 H p w =>
  dq false false 4 0 (b57 + 4) H p w (fun _ => .val x0) (some true) fun a62 H p w =>
  dq false false 5 0 (b57 + 5) H p w (fun _ => .val x13) (some true) fun a63 H p w =>
  dq false false 6 48 (b57 + 6) H p w (fun _ => idxS 3 a62 a63) (some true) fun a64 H p w =>
  dq true false 7 112 (b57 + 7) H p w (fun H => loadA 3 H a64) (some true) fun a65 H p w =>
  dq false false 8 0 (b57 + 8) H p w (fun _ => .val x0) (some true) fun a66 H p w =>
  dq false false 9 0 (b57 + 9) H p w (fun _ => .val x12) (some true) fun a67 H p w =>
  dq false false 10 768 (b57 + 10) H p w (fun _ => idxS 3 a66 a67) (some true) fun a68 H p w =>
  dq true false 11 1792 (b57 + 11) H p w (fun H => loadA 3 H a68) (some true) fun a69 H p w =>
  dq false false 12 4083 (b57 + 12) H p w (fun _ => idxS 3 a58 a59) (some true) fun a70 H p w =>
  de 8179 H p w (storeA 3 (viewH 8179 p H) a70 a65) (some true) fun _ H p w =>
  dq false false 14 16383 (b57 + 14) H p w (fun _ => idxS 3 a60 a61) (some true) fun a72 H p w =>
  de 32767 H p w (storeA 3 (viewH 32767 p H) a72 a69) (some true) fun _ H p w =>
  dz2 p H fun H =>
  vq (intV (intBin .add).f x12 (.int .i64 (.ofNat 1))) H fun a74 H =>
  vq (intV (intBin .sub).f x13 (.int .i64 (.ofNat 1))) H fun a75 H =>
  g56 a74 a75 H
noncomputable def s_part_j78 (call : Ev.Call) (q56e4 : AV → Hp → R1) (g56 : AV → AV → Hp → R1) (x0 x12 x13 : AV) (H : Hp) : R1 :=
  vq (intV (intBin .gtr).f x12 x13) H fun a77 H =>
  cd a77 (
  q56e4 x13 H) (
  s_part_j76 call g56 x0 x12 x13 H)
noncomputable def s_part_j81 (call : Ev.Call) (g79 : AV → Hp → R1) (x13 : AV) (H : Hp) : R1 :=
  vq (intV (intBin .sub).f x13 (.int .i64 (.ofNat 1))) H fun a80 H =>
  g79 a80 H
noncomputable def s_part_b79 (call : Ev.Call) (q79e8 : AV → Hp → R1) (x0 x1 x4 x12 : AV) (g79 : AV → Hp → R1) (x13 : AV) (H : Hp) : R1 :=
  dz 0 H fun b82 H =>
  dq false false 0 0 (b82 + 0) H [] [] (fun _ => .val x12) (some true) fun a83 H p w =>
  dq false false 1 0 (b82 + 1) H p w (fun _ => .val x13) (some true) fun a84 H p w =>
  dq false false 2 3 (b82 + 2) H p w (fun _ => intV (intBin .leq).f a83 a84) (some true) fun a85 H p w =>
  dq false false 3 7 (b82 + 3) H p w (fun _ => .val a85) (some true) fun a86 H p w =>
  dq false false 4 15 (b82 + 4) H p w (fun _ => .val x4) (wantV true a86) fun a87 H p w =>
  dq false false 5 15 (b82 + 5) H p w (fun _ => .val x0) (wantV true a86) fun a88 H p w =>
  dq false false 6 15 (b82 + 6) H p w (fun _ => .val x13) (wantV true a86) fun a89 H p w =>
  dq false false 7 111 (b82 + 7) H p w (fun _ => idxS 3 a88 a89) (wantV true a86) fun a90 H p w =>
  dq true false 8 239 (b82 + 8) H p w (fun H => loadA 3 H a90) (wantV true a86) fun a91 H p w =>
  dq false false 9 15 (b82 + 9) H p w (fun _ => .val x0) (wantV true a86) fun a92 H p w =>
  dq false false 10 15 (b82 + 10) H p w (fun _ => .val x1) (wantV true a86) fun a93 H p w =>
  dq false false 11 1551 (b82 + 11) H p w (fun _ => idxS 3 a92 a93) (wantV true a86) fun a94 H p w =>
  dq true false 12 3599 (b82 + 12) H p w (fun H => loadA 3 H a94) (wantV true a86) fun a95 H p w =>
  de 8191 H p w (callV call a87 [a91, a95] (viewH 8191 p H)) (wantV true a86) fun a96 H p w =>
  dq false false 14 16383 (b82 + 14) H p w (fun _ => intV (intBin .lss).f a96 (.int .i64 (.ofNat 0))) (wantV true a86) fun a97 H p w =>
  dq false false 15 32767 (b82 + 15) H p w (fun _ => (unS .not).f a97) (wantV true a86) fun a98 H p w =>
  dq false false 16 65535 (b82 + 16) H p w (fun _ => pickV a86 a98 (.bool false)) (some true) fun a99 H p w =>
  dz2 p H fun H =>
  cd a99 (
  s_part_j81 call g79 x13 H) (
  q79e8 x13 H)
noncomputable def s_part_l79 (call : Ev.Call) (q79e8 : AV → Hp → R1) (x0 x1 x4 x12 : AV) (n : Nat) : AV → Hp → R1 :=
  Nat.rec (motive := fun _ => AV → Hp → R1) (fun _ _ => .bad) (fun _ ih => s_part_b79 call q79e8 x0 x1 x4 x12 ih) n
noncomputable def s_part_L79 (call : Ev.Call) (q79e8 : AV → Hp → R1) (x0 x1 x4 x12 : AV) : AV → Hp → R1 := s_part_l79 call q79e8 x0 x1 x4 x12 fuelX
noncomputable def s_part_j100 (call : Ev.Call) (q56e4 : AV → Hp → R1) (g56 : AV → AV → Hp → R1) (x0 x1 x4 x12 x13 : AV) (H : Hp) : R1 :=
  s_part_L79 call (fun x13 H => s_part_j78 call q56e4 g56 x0 x12 x13 H) x0 x1 x4 x12 x13 H
noncomputable def s_part_j103 (call : Ev.Call) (g101 : AV → Hp → R1) (x12 : AV) (H : Hp) : R1 :=
  vq (intV (intBin .add).f x12 (.int .i64 (.ofNat 1))) H fun a102 H =>
  g101 a102 H
noncomputable def s_part_b101 (call : Ev.Call) (q101e6 : AV → Hp → R1) (x0 x1 x4 x13 : AV) (g101 : AV → Hp → R1) (x12 : AV) (H : Hp) : R1 :=
  dz 0 H fun b104 H =>
  dq false false 0 0 (b104 + 0) H [] [] (fun _ => .val x12) (some true) fun a105 H p w =>
  dq false false 1 0 (b104 + 1) H p w (fun _ => .val x13) (some true) fun a106 H p w =>
  dq false false 2 3 (b104 + 2) H p w (fun _ => intV (intBin .leq).f a105 a106) (some true) fun a107 H p w =>
  dq false false 3 7 (b104 + 3) H p w (fun _ => .val a107) (some true) fun a108 H p w =>
  dq false false 4 15 (b104 + 4) H p w (fun _ => .val x4) (wantV true a108) fun a109 H p w =>
  dq false false 5 15 (b104 + 5) H p w (fun _ => .val x0) (wantV true a108) fun a110 H p w =>
  dq false false 6 15 (b104 + 6) H p w (fun _ => .val x12) (wantV true a108) fun a111 H p w =>
  dq false false 7 111 (b104 + 7) H p w (fun _ => idxS 3 a110 a111) (wantV true a108) fun a112 H p w =>
  dq true false 8 239 (b104 + 8) H p w (fun H => loadA 3 H a112) (wantV true a108) fun a113 H p w =>
  dq false false 9 15 (b104 + 9) H p w (fun _ => .val x0) (wantV true a108) fun a114 H p w =>
  dq false false 10 15 (b104 + 10) H p w (fun _ => .val x1) (wantV true a108) fun a115 H p w =>
  dq false false 11 1551 (b104 + 11) H p w (fun _ => idxS 3 a114 a115) (wantV true a108) fun a116 H p w =>
  dq true false 12 3599 (b104 + 12) H p w (fun H => loadA 3 H a116) (wantV true a108) fun a117 H p w =>
  de 8191 H p w (callV call a109 [a113, a117] (viewH 8191 p H)) (wantV true a108) fun a118 H p w =>
  dq false false 14 16383 (b104 + 14) H p w (fun _ => intV (intBin .lss).f a118 (.int .i64 (.ofNat 0))) (wantV true a108) fun a119 H p w =>
  dq false false 15 32767 (b104 + 15) H p w (fun _ => pickV a108 a119 (.bool false)) (some true) fun a120 H p w =>
  dz2 p H fun H =>
  cd a120 (
  s_part_j103 call g101 x12 H) (
  q101e6 x12 H)
noncomputable def s_part_l101 (call : Ev.Call) (q101e6 : AV → Hp → R1) (x0 x1 x4 x13 : AV) (n : Nat) : AV → Hp → R1 :=
  Nat.rec (motive := fun _ => AV → Hp → R1) (fun _ _ => .bad) (fun _ ih => s_part_b101 call q101e6 x0 x1 x4 x13 ih) n
noncomputable def s_part_L101 (call : Ev.Call) (q101e6 : AV → Hp → R1) (x0 x1 x4 x13 : AV) : AV → Hp → R1 := s_part_l101 call q101e6 x0 x1 x4 x13 fuelX
noncomputable def s_part_b56 (call : Ev.Call) (q56e4 : AV → Hp → R1) (x0 x1 x4 : AV) (g56 : AV → AV → Hp → R1) (x12 x13 : AV) (H : Hp) : R1 :=
  s_part_L101 call (fun x12 H => s_part_j100 call q56e4 g56 x0 x1 x4 x12 x13 H) x0 x1 x4 x13 x12 H
noncomputable def s_part_l56 (call : Ev.Call) (q56e4 : AV → Hp → R1) (x0 x1 x4 : AV) (n : Nat) : AV → AV → Hp → R1 :=
  Nat.rec (motive := fun _ => AV → AV → Hp → R1) (fun _ _ _ => .bad) (fun _ ih => s_part_b56 call q56e4 x0 x1 x4 ih) n
noncomputable def s_part_L56 (call : Ev.Call) (q56e4 : AV → Hp → R1) (x0 x1 x4 : AV) : AV → AV → Hp → R1 := s_part_l56 call q56e4 x0 x1 x4 fuelX
noncomputable def s_part_j121 (call : Ev.Call) (x0 x1 x4 x12 x13 : AV) (H : Hp) : R1 :=
  dz 0 H fun b19 H =>
  dq false false 0 0 (b19 + 0) H [] [] (fun _ => .val x0) (some true) fun a20 H p w =>
  dq false false 1 0 (b19 + 1) H p w (fun _ => .val x12) (some true) fun a21 H p w =>
  dq false false 2 0 (b19 + 2) H p w (fun _ => .val x0) (some true) fun a22 H p w =>
  dq false false 3 0 (b19 + 3) H p w (fun _ => .val x13) (some true) fun a23 H p w =>
  dq false false 4 0 (b19 + 4) H p w (fun _ => .val x0) (some true) fun a24 H p w =>
  dq false false 5 0 (b19 + 5) H p w (fun _ => .val x13) (some true) fun a25 H p w =>
  dq false false 6 48 (b19 + 6) H p w (fun _ => idxS 3 a24 a25) (some true) fun a26 H p w =>
  dq true false 7 112 (b19 + 7) H p w (fun H => loadA 3 H a26) (some true) fun a27 H p w =>
  dq false false 8 0 (b19 + 8) H p w (fun _ => .val x0) (some true) fun a28 H p w =>
  dq false false 9 0 (b19 + 9) H p w (fun _ => .val x12) (some true) fun a29 H p w =>
  dq false false 10 768 (b19 + 10) H p w (fun _ => idxS 3 a28 a29) (some true) fun a30 H p w =>
  dq true false 11 1792 (b19 + 11) H p w (fun H => loadA 3 H a30) (some true) fun a31 H p w =>
  dq false false 12 4083 (b19 + 12) H p w (fun _ => idxS 3 a20 a21) (some true) fun a32 H p w =>
  de 8179 H p w (storeA 3 (viewH 8179 p H) a32 a27) (some true) fun _ H p w =>
  dq false false 14 16383 (b19 + 14) H p w (fun _ => idxS 3 a22 a23) (some true) fun a34 H p w =>
  de 32767 H p w (storeA 3 (viewH 32767 p H) a34 a31) (some true) fun _ H p w =>
  dz2 p H fun H =>
  vq (intV (intBin .add).f x12 (.int .i64 (.ofNat 1))) H fun a36 H =>
  vq (intV (intBin .sub).f x13 (.int .i64 (.ofNat 1))) H fun a37 H =>
  s_part_L56 call (fun x13 H => s_part_j55 call x0 x1 x13 H) x0 x1 x4 a36 a37 H
noncomputable def s_part_j140 (call : Ev.Call) (x0 x1 x4 x12 x13 : AV) (H : Hp) : R1 :=
  vq (intV (intBin .gtr).f x12 x13) H fun a122 H =>
  cd a122 (
  dz 0 H fun b123 H =>
  dq false false 0 0 (b123 + 0) H [] [] (fun _ => .val x0) (some true) fun a124 H p w =>
  dq false false 1 0 (b123 + 1) H p w (fun _ => .val x13) (some true) fun a125 H p w =>
  dq false false 2 0 (b123 + 2) H p w (fun _ => .val x0) (some true) fun a126 H p w =>
  dq false false 3 0 (b123 + 3) H p w (fun _ => .val x1) (some true) fun a127 H p w =>
  dq false false 4 0 (b123 + 4) H p w (fun _ => .val x0) (some true) fun a128 H p w =>
  dq false false 5 0 (b123 + 5) H p w (fun _ => .val x1) (some true) fun a129 H p w =>
  dq false false 6 48 (b123 + 6) H p w (fun _ => idxS 3 a128 a129) (some true) fun a130 H p w =>
  dq true false 7 112 (b123 + 7) H p w (fun H => loadA 3 H a130) (some true) fun a131 H p w =>
  dq false false 8 0 (b123 + 8) H p w (fun _ => .val x0) (some true) fun a132 H p w =>
  dq false false 9 0 (b123 + 9) H p w (fun _ => .val x13) (some true) fun a133 H p w =>
  dq false false 10 768 (b123 + 10) H p w (fun _ => idxS 3 a132 a133) (some true) fun a134 H p w =>
  dq true false 11 1792 (b123 + 11) H p w (fun H => loadA 3 H a134) (some true) fun a135 H p w =>
  dq false false 12 4083 (b123 + 12) H p w (fun _ => idxS 3 a124 a125) (some true) fun a136 H p w =>
  de 8179 H p w (storeA 3 (viewH 8179 p H) a136 a131) (some true) fun _ H p w =>
  dq false false 14 16383 (b123 + 14) H p w (fun _ => idxS 3 a126 a127) (some true) fun a138 H p w =>
  de 32767 H p w (storeA 3 (viewH 32767 p H) a138 a135) (some true) fun _ H p w =>
  dz2 p H fun H =>
  .ok (.tup [x13, (.bool true)]) H) (
  s_part_j121 call x0 x1 x4 x12 x13 H)
noncomputable def s_part_j143 (call : Ev.Call) (g141 : AV → Hp → R1) (x13 : AV) (H : Hp) : R1 :=
  vq (intV (intBin .sub).f x13 (.int .i64 (.ofNat 1))) H fun a142 H =>
  g141 a142 H
noncomputable def s_part_b141 (call : Ev.Call) (q141e2 : AV → Hp → R1) (x0 x1 x4 x12 : AV) (g141 : AV → Hp → R1) (x13 : AV) (H : Hp) : R1 :=
  dz 0 H fun b144 H =>
  dq false false 0 0 (b144 + 0) H [] [] (fun _ => .val x12) (some true) fun a145 H p w =>
  dq false false 1 0 (b144 + 1) H p w (fun _ => .val x13) (some true) fun a146 H p w =>
  dq false false 2 3 (b144 + 2) H p w (fun _ => intV (intBin .leq).f a145 a146) (some true) fun a147 H p w =>
  dq false false 3 7 (b144 + 3) H p w (fun _ => .val a147) (some true) fun a148 H p w =>
  dq false false 4 15 (b144 + 4) H p w (fun _ => .val x4) (wantV true a148) fun a149 H p w =>
  dq false false 5 15 (b144 + 5) H p w (fun _ => .val x0) (wantV true a148) fun a150 H p w =>
  dq false false 6 15 (b144 + 6) H p w (fun _ => .val x13) (wantV true a148) fun a151 H p w =>
  dq false false 7 111 (b144 + 7) H p w (fun _ => idxS 3 a150 a151) (wantV true a148) fun a152 H p w =>
  dq true false 8 239 (b144 + 8) H p w (fun H => loadA 3 H a152) (wantV true a148) fun a153 H p w =>
  dq false false 9 15 (b144 + 9) H p w (fun _ => .val x0) (wantV true a148) fun a154 H p w =>
  dq false false 10 15 (b144 + 10) H p w (fun _ => .val x1) (wantV true a148) fun a155 H p w =>
  dq false false 11 1551 (b144 + 11) H p w (fun _ => idxS 3 a154 a155) (wantV true a148) fun a156 H p w =>
  dq true false 12 3599 (b144 + 12) H p w (fun H => loadA 3 H a156) (wantV true a148) fun a157 H p w =>
  de 8191 H p w (callV call a149 [a153, a157] (viewH 8191 p H)) (wantV true a148) fun a158 H p w =>
  dq false false 14 16383 (b144 + 14) H p w (fun _ => intV (intBin .lss).f a158 (.int .i64 (.ofNat 0))) (wantV true a148) fun a159 H p w =>
  dq false false 15 32767 (b144 + 15) H p w (fun _ => (unS .not).f a159) (wantV true a148) fun a160 H p w =>
  dq false false 16 65535 (b144 + 16) H p w (fun _ => pickV a148 a160 (.bool false)) (some true) fun a161 H p w =>
  dz2 p H fun H =>
  cd a161 (
  s_part_j143 call g141 x13 H) (
  q141e2 x13 H)
noncomputable def s_part_l141 (call : Ev.Call) (q141e2 : AV → Hp → R1) (x0 x1 x4 x12 : AV) (n : Nat) : AV → Hp → R1 :=
  Nat.rec (motive := fun _ => AV → Hp → R1) (fun _ _ => .bad) (fun _ ih => s_part_b141 call q141e2 x0 x1 x4 x12 ih) n
noncomputable def s_part_L141 (call : Ev.Call) (q141e2 : AV → Hp → R1) (x0 x1 x4 x12 : AV) : AV → Hp → R1 := s_part_l141 call q141e2 x0 x1 x4 x12 fuelX
noncomputable def s_part_j162 (call : Ev.Call) (x0 x1 x4 x12 x13 : AV) (H : Hp) : R1 :=
  s_part_L141 call (fun x13 H => s_part_j140 call x0 x1 x4 x12 x13 H) x0 x1 x4 x12 x13 H
noncomputable def s_part_j165 (call : Ev.Call) (g163 : AV → Hp → R1) (x12 : AV) (H : Hp) : R1 :=
  vq (intV (intBin .add).f x12 (.int .i64 (.ofNat 1))) H fun a164 H =>
  g163 a164 H
noncomputable def s_part_b163 (call : Ev.Call) (q163e0 : AV → Hp → R1) (x0 x1 x4 x13 : AV) (g163 : AV → Hp → R1) (x12 : AV) (H : Hp) : R1 :=
  dz 0 H fun b166 H =>
  dq false false 0 0 (b166 + 0) H [] [] (fun _ => .val x12) (some true) fun a167 H p w =>
  dq false false 1 0 (b166 + 1) H p w (fun _ => .val x13) (some true) fun a168 H p w =>
  dq false false 2 3 (b166 + 2) H p w (fun _ => intV (intBin .leq).f a167 a168) (some true) fun a169 H p w =>
  dq false false 3 7 (b166 + 3) H p w (fun _ => .val a169) (some true) fun a170 H p w =>
  dq false false 4 15 (b166 + 4) H p w (fun _ => .val x4) (wantV true a170) fun a171 H p w =>
  dq false false 5 15 (b166 + 5) H p w (fun _ => .val x0) (wantV true a170) fun a172 H p w =>
  dq false false 6 15 (b166 + 6) H p w (fun _ => .val x12) (wantV true a170) fun a173 H p w =>
  dq false false 7 111 (b166 + 7) H p w (fun _ => idxS 3 a172 a173) (wantV true a170) fun a174 H p w =>
  dq true false 8 239 (b166 + 8) H p w (fun H => loadA 3 H a174) (wantV true a170) fun a175 H p w =>
  dq false false 9 15 (b166 + 9) H p w (fun _ => .val x0) (wantV true a170) fun a176 H p w =>
  dq false false 10 15 (b166 + 10) H p w (fun _ => .val x1) (wantV true a170) fun a177 H p w =>
  dq false false 11 1551 (b166 + 11) H p w (fun _ => idxS 3 a176 a177) (wantV true a170) fun a178 H p w =>
  dq true false 12 3599 (b166 + 12) H p w (fun H => loadA 3 H a178) (wantV true a170) fun a179 H p w =>
  de 8191 H p w (callV call a171 [a175, a179] (viewH 8191 p H)) (wantV true a170) fun a180 H p w =>
  dq false false 14 16383 (b166 + 14) H p w (fun _ => intV (intBin .lss).f a180 (.int .i64 (.ofNat 0))) (wantV true a170) fun a181 H p w =>
  dq false false 15 32767 (b166 + 15) H p w (fun _ => pickV a170 a181 (.bool false)) (some true) fun a182 H p w =>
  dz2 p H fun H =>
  cd a182 (
  s_part_j165 call g163 x12 H) (
  q163e0 x12 H)
noncomputable def s_part_l163 (call : Ev.Call) (q163e0 : AV → Hp → R1) (x0 x1 x4 x13 : AV) (n : Nat) : AV → Hp → R1 :=
  Nat.rec (motive := fun _ => AV → Hp → R1) (fun _ _ => .bad) (fun _ ih => s_part_b163 call q163e0 x0 x1 x4 x13 ih) n
noncomputable def s_part_L163 (call : Ev.Call) (q163e0 : AV → Hp → R1) (x0 x1 x4 x13 : AV) : AV → Hp → R1 := s_part_l163 call q163e0 x0 x1 x4 x13 fuelX
noncomputable def s_part_c (call : Ev.Call) (x0 x1 x2 x3 x4 : AV) (H : Hp) : R1 :=
  dz 0 H fun b0 H =>
  dq false false 0 0 (b0 + 0) H [] [] (fun _ => .val x0) (some true) fun a1 H p w =>
  dq false false 1 0 (b0 + 1) H p w (fun _ => .val x1) (some true) fun a2 H p w =>
  dq false false 2 0 (b0 + 2) H p w (fun _ => .val x0) (some true) fun a3 H p w =>
  dq false false 3 0 (b0 + 3) H p w (fun _ => .val x3) (some true) fun a4 H p w =>
  dq false false 4 0 (b0 + 4) H p w (fun _ => .val x0) (some true) fun a5 H p w =>
  dq false false 5 0 (b0 + 5) H p w (fun _ => .val x3) (some true) fun a6 H p w =>
  dq false false 6 48 (b0 + 6) H p w (fun _ => idxS 3 a5 a6) (some true) fun a7 H p w =>
  dq true false 7 112 (b0 + 7) H p w (fun H => loadA 3 H a7) (some true) fun a8 H p w =>
  dq false false 8 0 (b0 + 8) H p w (fun _ => .val x0) (some true) fun a9 H p w =>
  dq false false 9 0 (b0 + 9) H p w (fun _ => .val x1) (some true) fun a10 H p w =>
  dq false false 10 768 (b0 + 10) H p w (fun _ => idxS 3 a9 a10) (some true) fun a11 H p w =>
  dq true false 11 1792 (b0 + 11) H p w (fun H => loadA 3 H a11) (some true) fun a12 H p w =>
  dq false false 12 4083 (b0 + 12) H p w (fun _ => idxS 3 a1 a2) (some true) fun a13 H p w =>
  de 8179 H p w (storeA 3 (viewH 8179 p H) a13 a8) (some true) fun _ H p w =>
  dq false false 14 16383 (b0 + 14) H p w (fun _ => idxS 3 a3 a4) (some true) fun a15 H p w =>
  de 32767 H p w (storeA 3 (viewH 32767 p H) a15 a12) (some true) fun _ H p w =>
  dz2 p H fun H =>
  vq (intV (intBin .add).f x1 (.int .i64 (.ofNat 1))) H fun a17 H =>
  vq (intV (intBin .sub).f x2 (.int .i64 (.ofNat 1))) H fun a18 H =>
  s_part_L163 call (fun x12 H => s_part_j162 call x0 x1 x4 x12 a18 H) x0 x1 x4 a18 a17 H
noncomputable def s_part (call : Ev.Call) (x0 x1 x2 x3 x4 : AV) (H : Hp) : R1 := s_part_c call x0 x1 x2 x3 x4 H
noncomputable def s_sift_j28 (call : Ev.Call) (g0 : AV → Hp → R1) (x0 x3 x10 x11 : AV) (H : Hp) : R1 :=
  dz 0 H fun b3 H =>
  dq false false 0 0 (b3 + 0) H [] [] (fun _ => .val x0) (some true) fun a4 H p w =>
  dq false false 1 0 (b3 + 1) H p w (fun _ => .val x3) (some true) fun a5 H p w =>
  dq false false 2 0 (b3 + 2) H p w (fun _ => .val x10) (some true) fun a6 H p w =>
  dq false false 3 6 (b3 + 3) H p w (fun _ => intV (intBin .add).f a5 a6) (some true) fun a7 H p w =>
  dq false false 4 0 (b3 + 4) H p w (fun _ => .val x0) (some true) fun a8 H p w =>
  dq false false 5 0 (b3 + 5) H p w (fun _ => .val x3) (some true) fun a9 H p w =>
  dq false false 6 0 (b3 + 6) H p w (fun _ => .val x11) (some true) fun a10 H p w =>
  dq false false 7 96 (b3 + 7) H p w (fun _ => intV (intBin .add).f a9 a10) (some true) fun a11 H p w =>
  dq false false 8 0 (b3 + 8) H p w (fun _ => .val x0) (some true) fun a12 H p w =>
  dq false false 9 0 (b3 + 9) H p w (fun _ => .val x3) (some true) fun a13 H p w =>
  dq false false 10 0 (b3 + 10) H p w (fun _ => .val x11) (some true) fun a14 H p w =>
  dq false false 11 1536 (b3 + 11) H p w (fun _ => intV (intBin .add).f a13 a14) (some true) fun a15 H p w =>
  dq false false 12 3840 (b3 + 12) H p w (fun _ => idxS 3 a12 a15) (some true) fun a16 H p w =>
  dq true false 13 7936 (b3 + 13) H p w (fun H => loadA 3 H a16) (some true) fun a17 H p w =>
  dq false false 14 0 (b3 + 14) H p w (fun _ => .val x0) (some true) fun a18 H p w =>
  dq false false 15 0 (b3 + 15) H p w (fun _ => .val x3) (some true) fun a19 H p w =>
  dq false false 16 0 (b3 + 16) H p w (fun _ => .val x10) (some true) fun a20 H p w =>
  dq false false 17 98304 (b3 + 17) H p w (fun _ => intV (intBin .add).f a19 a20) (some true) fun a21 H p w =>
  dq false false 18 245760 (b3 + 18) H p w (fun _ => idxS 3 a18 a21) (some true) fun a22 H p w =>
  dq true false 19 507904 (b3 + 19) H p w (fun H => loadA 3 H a22) (some true) fun a23 H p w =>
  dq false false 20 1048335 (b3 + 20) H p w (fun _ => idxS 3 a4 a7) (some true) fun a24 H p w =>
  de 2096911 H p w (storeA 3 (viewH 2096911 p H) a24 a17) (some true) fun _ H p w =>
  dq false false 22 4194303 (b3 + 22) H p w (fun _ => idxS 3 a8 a11) (some true) fun a26 H p w =>
  de 8388607 H p w (storeA 3 (viewH 8388607 p H) a26 a23) (some true) fun _ H p w =>
  dz2 p H fun H =>
  g0 x11 H
noncomputable def s_sift_j46 (call : Ev.Call) (q0r : Hp → R1) (g0 : AV → Hp → R1) (x0 x3 x4 x10 x11 : AV) (H : Hp) : R1 :=
  dz 0 H fun b29 H =>
  dq false false 0 0 (b29 + 0) H [] [] (fun _ => .val x4) (some true) fun a30 H p w =>
  dq false false 1 0 (b29 + 1) H p w (fun _ => .val x0) (some true) fun a31 H p w =>
  dq false false 2 0 (b29 + 2) H p w (fun _ => .val x3) (some true) fun a32 H p w =>
  dq false false 3 0 (b29 + 3) H p w (fun _ => .val x10) (some true) fun a33 H p w =>
  dq false false 4 12 (b29 + 4) H p w (fun _ => intV (intBin .add).f a32 a33) (some true) fun a34 H p w =>
  dq false false 5 30 (b29 + 5) H p w (fun _ => idxS 3 a31 a34) (some true) fun a35 H p w =>
  dq true false 6 62 (b29 + 6) H p w (fun H => loadA 3 H a35) (some true) fun a36 H p w =>
  dq false false 7 0 (b29 + 7) H p w (fun _ => .val x0) (some true) fun a37 H p w =>
  dq false false 8 0 (b29 + 8) H p w (fun _ => .val x3) (some true) fun a38 H p w =>
  dq false false 9 0 (b29 + 9) H p w (fun _ => .val x11) (some true) fun a39 H p w =>
  dq false false 10 768 (b29 + 10) H p w (fun _ => intV (intBin .add).f a38 a39) (some true) fun a40 H p w =>
  dq false false 11 1920 (b29 + 11) H p w (fun _ => idxS 3 a37 a40) (some true) fun a41 H p w =>
  dq true false 12 3968 (b29 + 12) H p w (fun H => loadA 3 H a41) (some true) fun a42 H p w =>
  de 8191 H p w (callV call a30 [a36, a42] (viewH 8191 p H)) (some true) fun a43 H p w =>
  dq false false 14 16383 (b29 + 14) H p w (fun _ => intV (intBin .lss).f a43 (.int .i64 (.ofNat 0))) (some true) fun a44 H p w =>
  dq false false 15 32767 (b29 + 15) H p w (fun _ => (unS .not).f a44) (some true) fun a45 H p w =>
  dz2 p H fun H =>
  cd a45 (
  q0r H) (
  s_sift_j28 call g0 x0 x3 x10 x11 H)
noncomputable def s_sift_j71 (call : Ev.Call) (q0r : Hp → R1) (g0 : AV → Hp → R1) (x0 x2 x3 x4 x10 x11 : AV) (H : Hp) : R1 :=
  dz 0 H fun b47 H =>
  dq false false 0 0 (b47 + 0) H [] [] (fun _ => .val x11) (some true) fun a48 H p w =>
  dq false false 1 1 (b47 + 1) H p w (fun _ => intV (intBin .add).f a48 (.int .i64 (.ofNat 1))) (some true) fun a49 H p w =>
  dq false false 2 0 (b47 + 2) H p w (fun _ => .val x2) (some true) fun a50 H p w =>
  dq false false 3 7 (b47 + 3) H p w (fun _ => intV (intBin .lss).f a49 a50) (some true) fun a51 H p w =>
  dq false false 4 15 (b47 + 4) H p w (fun _ => .val a51) (some true) fun a52 H p w =>
  dq false false 5 31 (b47 + 5) H p w (fun _ => .val x4) (wantV true a52) fun a53 H p w =>
  dq false false 6 31 (b47 + 6) H p w (fun _ => .val x0) (wantV true a52) fun a54 H p w =>
  dq false false 7 31 (b47 + 7) H p w (fun _ => .val x3) (wantV true a52) fun a55 H p w =>
  dq false false 8 31 (b47 + 8) H p w (fun _ => .val x11) (wantV true a52) fun a56 H p w =>
  dq false false 9 415 (b47 + 9) H p w (fun _ => intV (intBin .add).f a55 a56) (wantV true a52) fun a57 H p w =>
  dq false false 10 991 (b47 + 10) H p w (fun _ => idxS 3 a54 a57) (wantV true a52) fun a58 H p w =>
  dq true false 11 2015 (b47 + 11) H p w (fun H => loadA 3 H a58) (wantV true a52) fun a59 H p w =>
  dq false false 12 31 (b47 + 12) H p w (fun _ => .val x0) (wantV true a52) fun a60 H p w =>
  dq false false 13 31 (b47 + 13) H p w (fun _ => .val x3) (wantV true a52) fun a61 H p w =>
  dq false false 14 31 (b47 + 14) H p w (fun _ => .val x11) (wantV true a52) fun a62 H p w =>
  dq false false 15 24607 (b47 + 15) H p w (fun _ => intV (intBin .add).f a61 a62) (wantV true a52) fun a63 H p w =>
  dq false false 16 57375 (b47 + 16) H p w (fun _ => intV (intBin .add).f a63 (.int .i64 (.ofNat 1))) (wantV true a52) fun a64 H p w =>
  dq false false 17 127007 (b47 + 17) H p w (fun _ => idxS 3 a60 a64) (wantV true a52) fun a65 H p w =>
  dq true false 18 258079 (b47 + 18) H p w (fun H => loadA 3 H a65) (wantV true a52) fun a66 H p w =>
  de 524287 H p w (callV call a53 [a59, a66] (viewH 524287 p H)) (wantV true a52) fun a67 H p w =>
  dq false false 20 1048575 (b47 + 20) H p w (fun _ => intV (intBin .lss).f a67 (.int .i64 (.ofNat 0))) (wantV true a52) fun a68 H p w =>
  dq false false 21 2097151 (b47 + 21) H p w (fun _ => pickV a52 a68 (.bool false)) (some true) fun a69 H p w =>
  dz2 p H fun H =>
  cd a69 (
  vq (intV (intBin .add).f x11 (.int .i64 (.ofNat 1))) H fun a70 H =>
  s_sift_j46 call q0r g0 x0 x3 x4 x10 a70 H) (
  s_sift_j46 call q0r g0 x0 x3 x4 x10 x11 H)
noncomputable def s_sift_b0 (call : Ev.Call) (q0e0 : Hp → R1) (q0r : Hp → R1) (x0 x2 x3 x4 : AV) (g0 : AV → Hp → R1) (x10 : AV) (H : Hp) : R1 :=
  vq (intV (intBin .mul).f (.int .i64 (.ofNat 2)) x10) H fun a1 H =>
  vq (intV (intBin .add).f a1 (.int .i64 (.ofNat 1))) H fun a2 H =>
  vq (intV (intBin .geq).f a2 x2) H fun a72 H =>
  cd a72 (
  q0e0 H) (
  s_sift_j71 call q0r g0 x0 x2 x3 x4 x10 a2 H)
noncomputable def s_sift_l0 (call : Ev.Call) (q0e0 : Hp → R1) (q0r : Hp → R1) (x0 x2 x3 x4 : AV) (n : Nat) : AV → Hp → R1 :=
  Nat.rec (motive := fun _ => AV → Hp → R1) (fun _ _ => .bad) (fun _ ih => s_sift_b0 call q0e0 q0r x0 x2 x3 x4 ih) n
noncomputable def s_sift_L0 (call : Ev.Call) (q0e0 : Hp → R1) (q0r : Hp → R1) (x0 x2 x3 x4 : AV) : AV → Hp → R1 := s_sift_l0 call q0e0 q0r x0 x2 x3 x4 fuelX
noncomputable def s_sift_c (call : Ev.Call) (x0 x1 x2 x3 x4 : AV) (H : Hp) : R1 :=
  s_sift_L0 call (fun H => .ok (.tup []) H) (fun H => .ok (.tup []) H) x0 x2 x3 x4 x1 H
noncomputable def s_sift (call : Ev.Call) (x0 x1 x2 x3 x4 : AV) (H : Hp) : R1 := s_sift_c call x0 x1 x2 x3 x4 H
noncomputable def s_npow_c (call : Ev.Call) (x0 : AV) (H : Hp) : R1 :=
  vq (convI .u64 x0) H fun a0 H =>
  ve (call (.f id_s_Len) [a0] H) fun a1 H =>
  vq (shiftV (shiftBin .shl).f (.int .u64 (.ofNat 1)) a1) H fun a2 H =>
  .ok a2 H
noncomputable def s_npow (call : Ev.Call) (x0 : AV) (H : Hp) : R1 := s_npow_c call x0 H
noncomputable def s_xorNext_c (call : Ev.Call) (x0 : AV) (H : Hp) : R1 :=
  dz 0 H fun b0 H =>
  dq false false 0 0 (b0 + 0) H [] [] (fun _ => .val x0) (some true) fun a1 H p w =>
  dq false false 1 1 (b0 + 1) H p w (fun _ => nilC a1) (some true) fun a2 H p w =>
  dq true false 2 3 (b0 + 2) H p w (fun H => load1 H a2) (some true) fun a3 H p w =>
  dq false false 3 0 (b0 + 3) H p w (fun _ => .val x0) (some true) fun a4 H p w =>
  dq false false 4 8 (b0 + 4) H p w (fun _ => nilC a4) (some true) fun a5 H p w =>
  dq true false 5 24 (b0 + 5) H p w (fun H => load1 H a5) (some true) fun a6 H p w =>
  dq false false 6 56 (b0 + 6) H p w (fun _ => shiftV (shiftBin .shl).f a6 (.int .u64 (.ofNat 13))) (some true) fun a7 H p w =>
  dq false false 7 127 (b0 + 7) H p w (fun _ => intV (intBin .xor).f a3 a7) (some true) fun a8 H p w =>
  dq false false 8 255 (b0 + 8) H p w (fun _ => nilC a1) (some true) fun a9 H p w =>
  de 511 H p w (store1 (viewH 511 p H) a9 a8) (some true) fun _ H p w =>
  dz2 p H fun H =>
  dz 0 H fun b11 H =>
  dq false false 0 0 (b11 + 0) H [] [] (fun _ => .val x0) (some true) fun a12 H p w =>
  dq false false 1 1 (b11 + 1) H p w (fun _ => nilC a12) (some true) fun a13 H p w =>
  dq true false 2 3 (b11 + 2) H p w (fun H => load1 H a13) (some true) fun a14 H p w =>
  dq false false 3 0 (b11 + 3) H p w (fun _ => .val x0) (some true) fun a15 H p w =>
  dq false false 4 8 (b11 + 4) H p w (fun _ => nilC a15) (some true) fun a16 H p w =>
  dq true false 5 24 (b11 + 5) H p w (fun H => load1 H a16) (some true) fun a17 H p w =>
  dq false false 6 56 (b11 + 6) H p w (fun _ => shiftV (shiftBin .shr).f a17 (.int .u64 (.ofNat 7))) (some true) fun a18 H p w =>
  dq false false 7 127 (b11 + 7) H p w (fun _ => intV (intBin .xor).f a14 a18) (some true) fun a19 H p w =>
  dq false false 8 255 (b11 + 8) H p w (fun _ => nilC a12) (some true) fun a20 H p w =>
  de 511 H p w (store1 (viewH 511 p H) a20 a19) (some true) fun _ H p w =>
  dz2 p H fun H =>
  dz 0 H fun b22 H =>
  dq false false 0 0 (b22 + 0) H [] [] (fun _ => .val x0) (some true) fun a23 H p w =>
  dq false false 1 1 (b22 + 1) H p w (fun _ => nilC a23) (some true) fun a24 H p w =>
  dq true false 2 3 (b22 + 2) H p w (fun H => load1 H a24) (some true) fun a25 H p w =>
  dq false false 3 0 (b22 + 3) H p w (fun _ => .val x0) (some true) fun a26 H p w =>
  dq false false 4 8 (b22 + 4) H p w (fun _ => nilC a26) (some true) fun a27 H p w =>
  dq true false 5 24 (b22 + 5) H p w (fun H => load1 H a27) (some true) fun a28 H p w =>
  dq false false 6 56 (b22 + 6) H p w (fun _ => shiftV (shiftBin .shl).f a28 (.int .u64 (.ofNat 17))) (some true) fun a29 H p w =>
  dq false false 7 127 (b22 + 7) H p w (fun _ => intV (intBin .xor).f a25 a29) (some true) fun a30 H p w =>
  dq false false 8 255 (b22 + 8) H p w (fun _ => nilC a23) (some true) fun a31 H p w =>
  de 511 H p w (store1 (viewH 511 p H) a31 a30) (some true) fun _ H p w =>
  dz2 p H fun H =>
  vq (nilC x0) H fun a33 H =>
  vq (load1 H a33) H fun a34 H =>
  .ok a34 H
noncomputable def s_xorNext (call : Ev.Call) (x0 : AV) (H : Hp) : R1 := s_xorNext_c call x0 H
noncomputable def s_medadj_c (call : Ev.Call) (x0 x1 x2 x3 : AV) (H : Hp) : R1 :=
  vq (intV (intBin .sub).f x1 (.int .i64 (.ofNat 1))) H fun a0 H =>
  vq (intV (intBin .add).f x1 (.int .i64 (.ofNat 1))) H fun a1 H =>
  ve (call (.f id_s_med) [x0, a0, x1, a1, x2, x3] H) fun a2 H =>
  .ok a2 H
noncomputable def s_medadj (call : Ev.Call) (x0 x1 x2 x3 : AV) (H : Hp) : R1 := s_medadj_c call x0 x1 x2 x3 H
noncomputable def s_med_c (call : Ev.Call) (x0 x1 x2 x3 x4 x5 : AV) (H : Hp) : R1 :=
  ve (call (.f id_s_ord2) [x0, x1, x2, x4, x5] H) fun a0 H =>
  vq (extr 0 a0) H fun a1 H =>
  vq (extr 1 a0) H fun a2 H =>
  ve (call (.f id_s_ord2) [x0, a2, x3, x4, x5] H) fun a3 H =>
  vq (extr 0 a3) H fun a4 H =>
  vq (extr 1 a3) H fun a5 H =>
  ve (call (.f id_s_ord2) [x0, a1, a4, x4, x5] H) fun a6 H =>
  vq (extr 0 a6) H fun a7 H =>
  vq (extr 1 a6) H fun a8 H =>
  .ok a8 H
noncomputable def s_med (call : Ev.Call) (x0 x1 x2 x3 x4 x5 : AV) (H : Hp) : R1 := s_med_c call x0 x1 x2 x3 x4 x5 H
noncomputable def s_ord2_j0 (call : Ev.Call) (x1 x2 : AV) (H : Hp) : R1 :=
  .ok (.tup [x1, x2]) H
noncomputable def s_ord2_c (call : Ev.Call) (x0 x1 x2 x3 x4 : AV) (H : Hp) : R1 :=
  dz 0 H fun b1 H =>
  dq false false 0 0 (b1 + 0) H [] [] (fun _ => .val x4) (some true) fun a2 H p w =>
  dq false false 1 0 (b1 + 1) H p w (fun _ => .val x0) (some true) fun a3 H p w =>
  dq false false 2 0 (b1 + 2) H p w (fun _ => .val x2) (some true) fun a4 H p w =>
  dq false false 3 6 (b1 + 3) H p w (fun _ => idxS 3 a3 a4) (some true) fun a5 H p w =>
  dq true false 4 14 (b1 + 4) H p w (fun H => loadA 3 H a5) (some true) fun a6 H p w =>
  dq false false 5 0 (b1 + 5) H p w (fun _ => .val x0) (some true) fun a7 H p w =>
  dq false false 6 0 (b1 + 6) H p w (fun _ => .val x1) (some true) fun a8 H p w =>
  dq false false 7 96 (b1 + 7) H p w (fun _ => idxS 3 a7 a8) (some true) fun a9 H p w =>
  dq true false 8 224 (b1 + 8) H p w (fun H => loadA 3 H a9) (some true) fun a10 H p w =>
  de 511 H p w (callV call a2 [a6, a10] (viewH 511 p H)) (some true) fun a11 H p w =>
  dq false false 10 1023 (b1 + 10) H p w (fun _ => intV (intBin .lss).f a11 (.int .i64 (.ofNat 0))) (some true) fun a12 H p w =>
  dz2 p H fun H =>
  cd a12 (
  vq (nilC x3) H fun a13 H =>
  vq (load1 H a13) H fun a14 H =>
  vq (intV (intBin .add).f a14 (.int .i64 (.ofNat 1))) H fun a15 H =>
  vq (nilC x3) H fun a16 H =>
  ve (store1 H a16 a15) fun _ H =>
  .ok (.tup [x2, x1]) H) (
  s_ord2_j0 call x1 x2 H)
noncomputable def s_ord2 (call : Ev.Call) (x0 x1 x2 x3 x4 : AV) (H : Hp) : R1 := s_ord2_c call x0 x1 x2 x3 x4 H
end Go.Di
end

section
namespace Go.Di
open Go.Ev
/-- what a call by a function's number comes to: the functions of the sort and of turned graphs -/
structure LnkS (c d : Ev.Call) : Prop where
  law16_GraphsTurned : ∀ (x0 x1 : AV) (H : Hp), c (.f id_law16_GraphsTurned) [x0, x1] H = Di.law16_GraphsTurned d x0 x1 H
  graphs_Turned : ∀ (x0 : AV) (H : Hp), c (.f id_graphs_Turned) [x0] H = Di.graphs_Turned d x0 H
  law16_edges : ∀ (x0 x1 : AV) (H : Hp), c (.f id_law16_edges) [x0, x1] H = Di.law16_edges d x0 x1 H
  graphs_Out : ∀ (x0 x1 : AV) (H : Hp), c (.f id_graphs_Out) [x0, x1] H = Di.graphs_Out d x0 x1 H
  graphs_In : ∀ (x0 x1 : AV) (H : Hp), c (.f id_graphs_In) [x0, x1] H = Di.graphs_In d x0 x1 H
  graphs_ordered : ∀ (x0 : AV) (H : Hp), c (.f id_graphs_ordered) [x0] H = Di.graphs_ordered d x0 H
  s_ClipE : ∀ (x0 : AV) (H : Hp), c (.f id_s_ClipE) [x0] H = Di.s_ClipE d x0 H
  s_SortFunc : ∀ (x0 x1 : AV) (H : Hp), c (.f id_s_SortFunc) [x0, x1] H = Di.s_SortFunc d x0 x1 H
  s_Compact : ∀ (x0 : AV) (H : Hp), c (.f id_s_Compact) [x0] H = Di.s_Compact d x0 H
  s_Len : ∀ (x0 : AV) (H : Hp), c (.f id_s_Len) [x0] H = Di.s_Len d x0 H
  s_pdq : ∀ (x0 x1 x2 x3 x4 : AV) (H : Hp), c (.f id_s_pdq) [x0, x1, x2, x3, x4] H = Di.s_pdq d x0 x1 x2 x3 x4 H
  s_Len32 : ∀ (x0 : AV) (H : Hp), c (.f id_s_Len32) [x0] H = Di.s_Len32 d x0 H
  s_Len64 : ∀ (x0 : AV) (H : Hp), c (.f id_s_Len64) [x0] H = Di.s_Len64 d x0 H
  s_ins : ∀ (x0 x1 x2 x3 : AV) (H : Hp), c (.f id_s_ins) [x0, x1, x2, x3] H = Di.s_ins d x0 x1 x2 x3 H
  s_heap : ∀ (x0 x1 x2 x3 : AV) (H : Hp), c (.f id_s_heap) [x0, x1, x2, x3] H = Di.s_heap d x0 x1 x2 x3 H
  s_brk : ∀ (x0 x1 x2 x3 : AV) (H : Hp), c (.f id_s_brk) [x0, x1, x2, x3] H = Di.s_brk d x0 x1 x2 x3 H
  s_piv : ∀ (x0 x1 x2 x3 : AV) (H : Hp), c (.f id_s_piv) [x0, x1, x2, x3] H = Di.s_piv d x0 x1 x2 x3 H
  s_rev : ∀ (x0 x1 x2 x3 : AV) (H : Hp), c (.f id_s_rev) [x0, x1, x2, x3] H = Di.s_rev d x0 x1 x2 x3 H
  s_pins : ∀ (x0 x1 x2 x3 : AV) (H : Hp), c (.f id_s_pins) [x0, x1, x2, x3] H = Di.s_pins d x0 x1 x2 x3 H
  s_peq : ∀ (x0 x1 x2 x3 x4 : AV) (H : Hp), c (.f id_s_peq) [x0, x1, x2, x3, x4] H = Di.s_peq d x0 x1 x2 x3 x4 H
  s_part : ∀ (x0 x1 x2 x3 x4 : AV) (H : Hp), c (.f id_s_part) [x0, x1, x2, x3, x4] H = Di.s_part d x0 x1 x2 x3 x4 H
  s_sift : ∀ (x0 x1 x2 x3 x4 : AV) (H : Hp), c (.f id_s_sift) [x0, x1, x2, x3, x4] H = Di.s_sift d x0 x1 x2 x3 x4 H
  s_npow : ∀ (x0 : AV) (H : Hp), c (.f id_s_npow) [x0] H = Di.s_npow d x0 H
  s_xorNext : ∀ (x0 : AV) (H : Hp), c (.f id_s_xorNext) [x0] H = Di.s_xorNext d x0 H
  s_medadj : ∀ (x0 x1 x2 x3 : AV) (H : Hp), c (.f id_s_medadj) [x0, x1, x2, x3] H = Di.s_medadj d x0 x1 x2 x3 H
  s_med : ∀ (x0 x1 x2 x3 x4 x5 : AV) (H : Hp), c (.f id_s_med) [x0, x1, x2, x3, x4, x5] H = Di.s_med d x0 x1 x2 x3 x4 x5 H
  s_ord2 : ∀ (x0 x1 x2 x3 x4 : AV) (H : Hp), c (.f id_s_ord2) [x0, x1, x2, x3, x4] H = Di.s_ord2 d x0 x1 x2 x3 x4 H
abbrev LinksS (C : Nat → Ev.Call) : Prop := ∀ k, LnkS (C (k + 1)) (C k)
end Go.Di
end
