/-
 For StrataOf: the direct functions are what the evaluator computes, part 1. No conditions beyond those that each theorem states.
-/
import Derived.Test.YtighkibjecdbnaaGreatConB
import Derived.Test.YtighkibjecdbnaaGreatConC
import Derived.Test.YtighkibjecdbnaaGreatProg
import Derived.KernelRfl
set_option linter.unusedSimpArgs false
set_option linter.unusedVariables false
noncomputable section
namespace Go.Di
open Go.Ev Go.Proofs
set_option maxRecDepth 100000
variable (call:Ev.Call) (x0 x1 x2 x3 x4 x5 x6 x7:AV) (H:Hp)
def qoi(call:Ev.Call)(k5:Nat)(k8:Nat)(L:TT AV (gV (Tryz.f6.ntmps+1))):=fun x10 H=>qk4 call (fun H=>qk6 call (fun x8 H=>qii call (fun H=>qn8 call (G L 2) (G L 3) H) (G L 3) k5 x8 H) (G L 8) H) (G L 9) k8 x10 H
def qoh(call:Ev.Call)(k61:Nat)(L:TT AV (gV (Tryz.f6.ntmps+1))):=fun x4 H=>qih call (fun H=>qk5 call (G L 2) (G L 3) H) (G L 1) (G L 3) k61 x4 H
def qog(call:Ev.Call)(k5:Nat)(L:TT AV (gV (Tryz.f6.ntmps+1))):=fun x8 H=>qii call (fun H=>qn8 call (G L 2) (G L 3) H) (G L 3) k5 x8 H
def zb4(call:Ev.Call)(k5:Nat)(k8:Nat)(L:TT AV (gV (Tryz.f6.ntmps+1))):=fun bY H=>qym call (qoi call k5 k8 L) (G L 9) (G L 10) bY H
def zb3(call:Ev.Call)(k5:Nat)(k8:Nat)(k16:Nat)(L:TT AV (gV (Tryz.f6.ntmps+1))):=fun bY bI H=>qk3 call (zb4 call k5 k8 L) (G L 9) (G L 10) k16 bY bI H
theorem zjw:(aT Tryz.prog 6).f call [x0] H=zAc call x0 H :=
 (dB Tryz.func6 (by kernel_rfl) (D:=fun L H=>zr9 call (G L 0) H)
 (Lk.of (Lk.seq (Lk.seq (Lk.cst qk0 (fun x L H=>x call (G L 1) (G L 2) (G L 3) H) (Lk.of (Lk.seq (Lk.cst qoa (fun x L H=>x call (G L 2) (G L 3) H) (Lk.of (Lk.seq (Lk.cst qt5 (fun x L H=>x call (G L 2) (G L 3) H) (Lk.of Lk.self (fun L H=>by kernel_rfl))) (Lk.seq (Lk.block (Lk.loop (D:=fun k5 L H=>qii call (fun H=>qn8 call (G L 2) (G L 3) H) (G L 3) k5 (G L 8) H) (fun _ _=>by kernel_rfl) (fun k5=>Lk.of (Lk.seq (Lk.cst qob (fun x L H=>x call (qog call k5 L) (G L 3) (G L 8) H) (Lk.of (Lk.seq (Lk.cst qof (fun x L H=>x call (qog call k5 L) (G L 8) H) (Lk.of Lk.self (fun L H=>by kernel_rfl))) (Lk.block (Lk.seq (Lk.cst qn3 (fun x L H=>x call (qog call k5 L) (G L 8) (G L 9) H) (Lk.of (Lk.seq (Lk.block (Lk.loop (D:=fun k8 L H=>qk4 call (fun H=>qk6 call (qog call k5 L) (G L 8) H) (G L 9) k8 (G L 10) H) (fun _ _=>by kernel_rfl) (fun k8=>Lk.of (Lk.seq (Lk.cst qoc (fun x L H=>x call (qoi call k5 k8 L) (G L 9) (G L 10) H) (Lk.of (Lk.seq (Lk.cst qil (fun x L H=>x call (qoi call k5 k8 L) (G L 10) H) (Lk.of Lk.self (fun L H=>by kernel_rfl))) (Lk.block (Lk.seq (Lk.cst qn5 (fun x L H=>x call (qoi call k5 k8 L) (G L 9) (G L 10) (G L 11) H) (Lk.of (Lk.seq (Lk.cst qoe (fun x L H=>x call (qoi call k5 k8 L) (G L 9) (G L 10) (G L 11) H) (Lk.of Lk.self (fun L H=>by kernel_rfl))) (Lk.seq (Lk.block (Lk.loop (D:=fun k16 L H=>qk3 call (zb4 call k5 k8 L) (G L 9) (G L 10) k16 (G L 11) (G L 12) H) (fun _ _=>by kernel_rfl) (fun k16=>Lk.of (Lk.seq (Lk.cst qod (fun x L H=>x call (zb3 call k5 k8 k16 L) (G L 9) (G L 10) (G L 11) (G L 12) H) (Lk.of (Lk.seq (Lk.cst qik (fun x L H=>x call (zb3 call k5 k8 k16 L) (G L 11) (G L 12) H) (Lk.of Lk.self (fun L H=>by kernel_rfl))) Lk.self) (fun L H=>by kernel_rfl))) (Lk.seq (Lk.cst qn6 (fun x L H=>x call (zb3 call k5 k8 k16 L) (zb4 call k5 k8 L) (G L 9) (G L 10) (G L 11) (G L 12) (G L 90) H) (Lk.of Lk.self (fun L H=>by kernel_rfl))) Lk.self)) (fun L H=>by kernel_rfl)))) Lk.self)) (fun L H=>by kernel_rfl))) Lk.self))) (fun L H=>by kernel_rfl))) (Lk.seq (Lk.cst qn4 (fun x L H=>x call (qoi call k5 k8 L) (fun H=>qk6 call (qog call k5 L) (G L 8) H) (G L 9) (G L 10) (G L 78) H) (Lk.of Lk.self (fun L H=>by kernel_rfl))) Lk.self)) (fun L H=>by kernel_rfl)))) Lk.self) (fun L H=>by kernel_rfl))) Lk.self))) (fun L H=>by kernel_rfl))) (Lk.seq (Lk.cst qn2 (fun x L H=>x call (qog call k5 L) (fun H=>qn8 call (G L 2) (G L 3) H) (G L 3) (G L 8) (G L 66) H) (Lk.of Lk.self (fun L H=>by kernel_rfl))) Lk.self)) (fun L H=>by kernel_rfl)))) Lk.self)) (fun L H=>by kernel_rfl))) (Lk.seq (Lk.block (Lk.loop (D:=fun k61 L H=>qih call (fun H=>qk5 call (G L 2) (G L 3) H) (G L 1) (G L 3) k61 (G L 4) H) (fun _ _=>by kernel_rfl) (fun k61=>Lk.of (Lk.seq (Lk.cst qgs (fun x L H=>x call (qoh call k61 L) (G L 1) (G L 3) (G L 4) H) (Lk.of (Lk.seq (Lk.cst qn9 (fun x L H=>x call (qoh call k61 L) (G L 4) H) (Lk.of Lk.self (fun L H=>by kernel_rfl))) (Lk.block (Lk.seq (Lk.cst qn7 (fun x L H=>x call (qoh call k61 L) (G L 1) (G L 3) (G L 4) H) (Lk.of (Lk.seq (Lk.cst qn0 (fun x L H=>x call (qoh call k61 L) (G L 1) (G L 3) (G L 4) (G L 5) H) (Lk.of (Lk.seq (Lk.cst qn1 (fun x L H=>x call (qoh call k61 L) (G L 1) (G L 4) (G L 5) (G L 7) H) (Lk.of Lk.self (fun L H=>by kernel_rfl))) Lk.self) (fun L H=>by kernel_rfl))) Lk.self) (fun L H=>by kernel_rfl))) Lk.self))) (fun L H=>by kernel_rfl))) (Lk.seq (Lk.cst qk2 (fun x L H=>x call (qoh call k61 L) (fun H=>qk5 call (G L 2) (G L 3) H) (G L 1) (G L 3) (G L 4) (G L 19) H) (Lk.of Lk.self (fun L H=>by kernel_rfl))) Lk.self)) (fun L H=>by kernel_rfl)))) Lk.self)) (fun L H=>by kernel_rfl))) Lk.self) Lk.self) (fun L H=>by kernel_rfl)) H).trans (by kernel_rfl)
theorem ziu:(aT Tryz.prog 40).f call [x0] H=zBj call x0 H :=
 (dB Tryz.func40 (by kernel_rfl) (D:=fun L H=>zre call (G L 0) H)
 (Lk.of (Lk.seq (Lk.seq (Lk.seq (Lk.seq (Lk.seq (Lk.seq Lk.self (Lk.seq (Lk.block (Lk.loop (D:=fun k7 L H=>qtw call (fun x2 H=> .ok x2 H) (fun H=>q0x call H) (G L 4) (G L 26) (G L 27) k7 (G L 5) (G L 28) H) (fun _ _=>by kernel_rfl) (fun k7=>Lk.of (Lk.seq (Lk.seq (Lk.seq Lk.self (Lk.block (Lk.seq (Lk.seq (Lk.block (Lk.loop (D:=fun k18 L H=>qqg call (fun x2 H=> .ok x2 H) (fun x5 H=>qxr call (fun x5 x28 H=>qtw call (fun x2 H=> .ok x2 H) (fun H=>q0x call H) (G L 4) (G L 26) (G L 27) k7 x5 x28 H) x5 (G L 28) H) (G L 4) (G L 7) (G L 34) k18 (G L 5) (G L 35) H) (fun _ _=>by kernel_rfl) (fun k18=>Lk.of Lk.self (fun L H=>by kernel_rfl)))) Lk.self) Lk.self))) Lk.self) Lk.self) (fun L H=>by kernel_rfl)))) Lk.self)) Lk.self) Lk.self) Lk.self) Lk.self) Lk.self) (fun L H=>by kernel_rfl)) H).trans (by kernel_rfl)
theorem zik:(aT Tryz.prog 61).f call [x0] H=zBr call x0 H :=
 (dB Tryz.func61 (by kernel_rfl) (D:=fun L H=>zq7 call (G L 0) H)
 (Lk.of (Lk.seq (Lk.seq (Lk.seq Lk.self (Lk.seq (Lk.block (Lk.loop (D:=fun k10 L H=>qkk call (fun H=>q80 call (G L 3) H) (G L 3) (G L 16) (G L 17) k10 (G L 18) H) (fun _ _=>by kernel_rfl) (fun k10=>Lk.of (Lk.seq (Lk.seq (Lk.seq Lk.self (Lk.block (Lk.seq (Lk.seq (Lk.seq (Lk.block (Lk.loop (D:=fun k31 L H=>qqd call (fun H=>qxh call (fun x18 H=>qkk call (fun H=>q80 call (G L 3) H) (G L 3) (G L 16) (G L 17) k10 x18 H) (G L 18) H) (G L 3) (G L 5) (G L 32) k31 (G L 33) H) (fun _ _=>by kernel_rfl) (fun k31=>Lk.of Lk.self (fun L H=>by kernel_rfl)))) Lk.self) Lk.self) Lk.self))) Lk.self) Lk.self) (fun L H=>by kernel_rfl)))) Lk.self)) Lk.self) Lk.self) (fun L H=>by kernel_rfl)) H).trans (by kernel_rfl)
theorem zjr:(aT Tryz.prog 11).f call [x0] H=zAh call x0 H :=
 (dB Tryz.func11 (by kernel_rfl) (D:=fun L H=>zr4 call (G L 0) H)
 (Lk.of (Lk.seq (Lk.seq (Lk.seq Lk.self (Lk.seq (Lk.block (Lk.loop (D:=fun k2 L H=>qt1 call (fun x3 H=>za8 call x3 H) (G L 1) k2 (G L 3) (G L 4) H) (fun _ _=>by kernel_rfl) (fun k2=>Lk.of (Lk.seq (Lk.seq Lk.self (Lk.block (Lk.seq (Lk.block (Lk.loop (D:=fun k5 L H=>q1j call (fun x3 H=>za5 call (fun x3 x4 H=>qt1 call (fun x3 H=>za8 call x3 H) (G L 1) k2 x3 x4 H) x3 (G L 4) H) (G L 1) (G L 4) k5 (G L 3) (G L 5) H) (fun _ _=>by kernel_rfl) (fun k5=>Lk.of Lk.self (fun L H=>by kernel_rfl)))) Lk.self))) Lk.self) (fun L H=>by kernel_rfl)))) Lk.self)) Lk.self) Lk.self) (fun L H=>by kernel_rfl)) H).trans (by kernel_rfl)
theorem zib:(aT Tryz.prog 66).f call [x0,x1,x2,x3] H=zBy call x0 x1 x2 x3 H :=
 (dB Tryz.func66 (by kernel_rfl) (D:=fun L H=>zq2 call (G L 0) (G L 1) (G L 2) (G L 3) H)
 (Lk.of (Lk.seq (Lk.seq (Lk.seq Lk.self (Lk.seq (Lk.seq (Lk.cond (Lk.seq (Lk.block (Lk.loop (D:=fun k8 L H=>qtu call (fun x9 H=>q0v call x9 H) (G L 0) (G L 3) (G L 22) (G L 23) k8 (G L 9) (G L 24) H) (fun _ _=>by kernel_rfl) (fun k8=>Lk.of Lk.self (fun L H=>by kernel_rfl)))) Lk.self) Lk.self) Lk.self) Lk.self)) Lk.self) Lk.self) (fun L H=>by kernel_rfl)) H).trans (by kernel_rfl)
theorem zi7:(aT Tryz.prog 34).f call [x0,x1,x2] H=zAy call x0 x1 x2 H :=
 (dB Tryz.func34 (by kernel_rfl) (D:=fun L H=>zro call (G L 0) (G L 1) (G L 2) H)
 (Lk.of (Lk.seq (Lk.seq (Lk.seq Lk.self (Lk.seq (Lk.block (Lk.loop (D:=fun k7 L H=>qtx call (fun x7 H=>eG (jC (iY (rV (aX 6 H (G L 6))) (iY (some x7) (some [])))) H) (fun H=>q00 call (G L 6) H) (G L 2) (G L 3) (G L 6) (G L 8) k7 (G L 9) H) (fun _ _=>by kernel_rfl) (fun k7=>Lk.of Lk.self (fun L H=>by kernel_rfl)))) Lk.self)) Lk.self) Lk.self) (fun L H=>by kernel_rfl)) H).trans (by kernel_rfl)
theorem zi5:(aT Tryz.prog 35).f call [x0,x1,x2] H=zAz call x0 x1 x2 H :=
 (dB Tryz.func35 (by kernel_rfl) (D:=fun L H=>zi6 call (G L 0) (G L 1) (G L 2) H)
 (Lk.of (Lk.seq (Lk.seq (Lk.seq (Lk.seq (Lk.seq Lk.self (Lk.seq (Lk.block (Lk.loop (D:=fun k15 L H=>qqn call (fun x0 x8 H=>qqp call x0 (G L 7) x8 H) (G L 2) (G L 4) k15 (G L 0) (G L 8) (G L 9) H) (fun _ _=>by kernel_rfl) (fun k15=>Lk.of Lk.self (fun L H=>by kernel_rfl)))) Lk.self)) Lk.self) Lk.self) Lk.self) Lk.self) (fun L H=>by kernel_rfl)) H).trans (by kernel_rfl)
theorem zhb:(aT Tryz.prog 171).f call [x0,x1] H=zDj call x0 x1 H :=
 (dB Tryz.func171 (by kernel_rfl) (D:=fun L H=>zp8 call (G L 0) (G L 1) H)
 (Lk.of (Lk.seq (Lk.seq Lk.self (Lk.seq (Lk.block (Lk.loop (D:=fun k2 L H=>q0i call (fun x4 H=> .ok x4 H) (fun H=>znj call H) (G L 0) (G L 1) (G L 7) k2 (G L 8) H) (fun _ _=>by kernel_rfl) (fun k2=>Lk.of Lk.self (fun L H=>by kernel_rfl)))) Lk.self)) Lk.self) (fun L H=>by kernel_rfl)) H).trans (by kernel_rfl)
theorem zg4:(aT Tryz.prog 186).f call [x0,x1] H=zDq call x0 x1 H :=
 (dB Tryz.func186 (by kernel_rfl) (D:=fun L H=>zp2 call (G L 0) (G L 1) H)
 (Lk.of (Lk.seq (Lk.block (Lk.loop (D:=fun k2 L H=>q0f call (fun H=> .ok (.aZ []) H) (fun H=> .ok (.aZ []) H) (G L 0) (G L 5) (G L 6) k2 (G L 7) H) (fun _ _=>by kernel_rfl) (fun k2=>Lk.of Lk.self (fun L H=>by kernel_rfl)))) Lk.self) (fun L H=>by kernel_rfl)) H).trans (by kernel_rfl)
theorem zh7:(aT Tryz.prog 74).f call [x0] H=zCd call x0 H :=
 (dB Tryz.func74 (by kernel_rfl) (D:=fun L H=>zqy call (G L 0) H)
 (Lk.of (Lk.seq (Lk.seq (Lk.seq Lk.self (Lk.seq (Lk.block (Lk.loop (D:=fun k5 L H=>q0t call (fun x2 H=> .ok x2 H) (fun H=>zn3 call H) (G L 1) (G L 14) (G L 15) k5 (G L 16) H) (fun _ _=>by kernel_rfl) (fun k5=>Lk.of Lk.self (fun L H=>by kernel_rfl)))) Lk.self)) Lk.self) Lk.self) (fun L H=>by kernel_rfl)) H).trans (by kernel_rfl)
theorem zhy:(aT Tryz.prog 92).f call [x0] H=zCn call x0 H :=
 (dB Tryz.func92 (by kernel_rfl) (D:=fun L H=>zqp call (G L 0) H)
 (Lk.of (Lk.seq (Lk.seq Lk.self (Lk.seq (Lk.block (Lk.loop (D:=fun k2 L H=>q0p call (fun x2 H=> .ok x2 H) (fun H=>znz call H) (G L 6) (G L 7) k2 (G L 8) H) (fun _ _=>by kernel_rfl) (fun k2=>Lk.of Lk.self (fun L H=>by kernel_rfl)))) Lk.self)) Lk.self) (fun L H=>by kernel_rfl)) H).trans (by kernel_rfl)
theorem zhe:(aT Tryz.prog 124).f call [x0,x1] H=zDf call x0 x1 H :=
 (dB Tryz.func124 (by kernel_rfl) (D:=fun L H=>zqb call (G L 0) (G L 1) H)
 (Lk.of Lk.self (fun L H=>by kernel_rfl)) H).trans (by kernel_rfl)
theorem zhv:(aT Tryz.prog 102).f call [x0] H=zCp call x0 H :=
 (dB Tryz.func102 (by kernel_rfl) (D:=fun L H=>zqo call (G L 0) H)
 (Lk.of Lk.self (fun L H=>by kernel_rfl)) H).trans (by kernel_rfl)
theorem zh1:(aT Tryz.prog 94).f call [x0,x1] H=zCk call x0 x1 H :=
 (dB Tryz.func94 (by kernel_rfl) (D:=fun L H=>zqs call (G L 0) (G L 1) H)
 (Lk.of Lk.self (fun L H=>by kernel_rfl)) H).trans (by kernel_rfl)
theorem zhh:(aT Tryz.prog 143).f call [x0,x1] H=zDd call x0 x1 H :=
 (dB Tryz.func143 (by kernel_rfl) (D:=fun L H=>zqc call (G L 0) (G L 1) H)
 (Lk.of Lk.self (fun L H=>by kernel_rfl)) H).trans (by kernel_rfl)
theorem ziv:(aT Tryz.prog 60).f call [x0,x1,x2] H=zBi call x0 x1 x2 H :=
 (dB Tryz.func60 (by kernel_rfl) (D:=fun L H=>zrf call (G L 0) (G L 1) (G L 2) H)
 (Lk.of Lk.self (fun L H=>by kernel_rfl)) H).trans (by kernel_rfl)
theorem zii:(aT Tryz.prog 89).f call [x0,x1,x2] H=zBt call x0 x1 x2 H :=
 (dB Tryz.func89 (by kernel_rfl) (D:=fun L H=>zvb call (G L 0) (G L 1) (G L 2) H)
 (Lk.of Lk.self (fun L H=>by kernel_rfl)) H).trans (by kernel_rfl)
theorem zhp:(aT Tryz.prog 113).f call [x0,x1] H=zCv call x0 x1 H :=
 (dB Tryz.func113 (by kernel_rfl) (D:=fun L H=>zu5 call (G L 0) (G L 1) H)
 (Lk.of Lk.self (fun L H=>by kernel_rfl)) H).trans (by kernel_rfl)
theorem ziq:(aT Tryz.prog 44).f call [x0] H=zBn call x0 H :=
 (dB Tryz.func44 (by kernel_rfl) (D:=fun L H=>zvd call (G L 0) H)
 (Lk.of Lk.self (fun L H=>by kernel_rfl)) H).trans (by kernel_rfl)
theorem zhs:(aT Tryz.prog 106).f call [x0] H=zCs call x0 H :=
 (dB Tryz.func106 (by kernel_rfl) (D:=fun L H=>zql call (G L 0) H)
 (Lk.of Lk.self (fun L H=>by kernel_rfl)) H).trans (by kernel_rfl)
theorem zji:(aT Tryz.prog 26).f call [x0] H=zAo call x0 H :=
 (dB Tryz.func26 (by kernel_rfl) (D:=fun L H=>zry call (G L 0) H)
 (Lk.of Lk.self (fun L H=>by kernel_rfl)) H).trans (by kernel_rfl)
theorem zie:(aT Tryz.prog 64).f call [x0] H=zBw call x0 H :=
 (dB Tryz.func64 (by kernel_rfl) (D:=fun L H=>zq3 call (G L 0) H)
 (Lk.of Lk.self (fun L H=>by kernel_rfl)) H).trans (by kernel_rfl)
def zoo(call:Ev.Call)(k21:Nat)(k32:Nat)(L:TT AV (gV (Tryz.f18.ntmps+1))):=fun H=>qx6 call (fun x70 H=>qks call (fun H=>qqy call (fun x63 H=>qif call (fun H=>qkt call (G L 2) (G L 10) H) (G L 1) (G L 5) (G L 10) (G L 61) (G L 62) k21 x63 H) (G L 63) H) (G L 1) (G L 5) (G L 10) (G L 12) (G L 68) (G L 69) k32 x70 H) (G L 70) H
def zon(call:Ev.Call)(k21:Nat)(k32:Nat)(k46:Nat)(L:TT AV (gV (Tryz.f18.ntmps+1))):=fun H=>qgp call (fun x82 H=>qie call (zoo call k21 k32 L) (G L 1) (G L 5) (G L 10) (G L 12) (G L 14) (G L 80) (G L 81) k46 x82 H) (G L 82) H
theorem zjc:(aT Tryz.prog 18).f call [x0] H=zAt call x0 H :=
 (dB Tryz.func18 (by kernel_rfl) (D:=fun L H=>zrt call (G L 0) H)
 (Lk.of (Lk.seq (Lk.seq (Lk.seq (Lk.seq (Lk.seq (Lk.seq Lk.self (Lk.seq (Lk.block (Lk.loop (D:=fun k21 L H=>qif call (fun H=>qkt call (G L 2) (G L 10) H) (G L 1) (G L 5) (G L 10) (G L 61) (G L 62) k21 (G L 63) H) (fun _ _=>by kernel_rfl) (fun k21=>Lk.of (Lk.seq (Lk.seq (Lk.seq Lk.self (Lk.block (Lk.seq (Lk.seq (Lk.block (Lk.loop (D:=fun k32 L H=>qks call (fun H=>qqy call (fun x63 H=>qif call (fun H=>qkt call (G L 2) (G L 10) H) (G L 1) (G L 5) (G L 10) (G L 61) (G L 62) k21 x63 H) (G L 63) H) (G L 1) (G L 5) (G L 10) (G L 12) (G L 68) (G L 69) k32 (G L 70) H) (fun _ _=>by kernel_rfl) (fun k32=>Lk.of (Lk.seq (Lk.seq (Lk.seq Lk.self (Lk.block (Lk.seq (Lk.seq (Lk.seq (Lk.block (Lk.loop (D:=fun k46 L H=>qie call (zoo call k21 k32 L) (G L 1) (G L 5) (G L 10) (G L 12) (G L 14) (G L 80) (G L 81) k46 (G L 82) H) (fun _ _=>by kernel_rfl) (fun k46=>Lk.of (Lk.seq (Lk.seq (Lk.seq Lk.self (Lk.block (Lk.seq (Lk.seq (Lk.seq (Lk.block (Lk.seq (Lk.cond (Lk.seq (Lk.block (Lk.loop (D:=fun k60 L H=>qqw call (zon call k21 k32 k46 L) (G L 19) (G L 92) (G L 93) k60 (G L 94) H) (fun _ _=>by kernel_rfl) (fun k60=>Lk.of Lk.self (fun L H=>by kernel_rfl)))) Lk.self) (Lk.seq (Lk.cond Lk.self (Lk.seq (Lk.cond (Lk.seq (Lk.seq (Lk.block (Lk.loop (D:=fun k95 L H=>qqv call (zon call k21 k32 k46 L) (G L 18) (G L 19) (G L 129) (G L 130) k95 (G L 131) H) (fun _ _=>by kernel_rfl) (fun k95=>Lk.of Lk.self (fun L H=>by kernel_rfl)))) Lk.self) Lk.self) Lk.self) Lk.self)) Lk.self)) Lk.self)) Lk.self) Lk.self) Lk.self))) Lk.self) Lk.self) (fun L H=>by kernel_rfl)))) Lk.self) Lk.self) Lk.self))) Lk.self) Lk.self) (fun L H=>by kernel_rfl)))) Lk.self) Lk.self))) Lk.self) Lk.self) (fun L H=>by kernel_rfl)))) Lk.self)) Lk.self) (Lk.seq (Lk.block (Lk.loop (D:=fun aF5 L H=>qg7 call (fun H=>qjq call (G L 1) (G L 2) (G L 5) H) (G L 5) (G L 34) (G L 35) aF5 (G L 36) H) (fun _ _=>by kernel_rfl) (fun aF5=>Lk.of (Lk.seq (Lk.seq (Lk.seq Lk.self (Lk.block (Lk.seq (Lk.seq (Lk.block (Lk.loop (D:=fun aIM L H=>qjp call (fun H=>qqz call (fun yI H=>qg7 call (fun H=>qjq call (G L 1) (G L 2) (G L 5) H) (G L 5) (G L 34) (G L 35) aF5 yI H) (G L 36) H) (G L 5) (G L 7) (G L 41) (G L 42) aIM (G L 43) H) (fun _ _=>by kernel_rfl) (fun aIM=>Lk.of Lk.self (fun L H=>by kernel_rfl)))) Lk.self) Lk.self))) Lk.self) Lk.self) (fun L H=>by kernel_rfl)))) Lk.self)) Lk.self) Lk.self) Lk.self) (fun L H=>by kernel_rfl)) H).trans (by kernel_rfl)
theorem zho:(aT Tryz.prog 114).f call [x0,x1,x2,x3] H=zCw call x0 x1 x2 x3 H :=
 (qfl Tryz.func114 (by kernel_rfl) (by kernel_rfl) (by kernel_rfl) (by kernel_rfl) (D:=fun L H=>zqj call (G L 0) (G L 1) (G L 2) (G L 3) H)
 (Lk.of (Lk.seq (Lk.seq (Lk.block (Lk.loop (D:=fun k5 L H=>qns call (fun H=> .ok (.aZ []) H) (fun H=> .ok (.aZ []) H) (G L 0) (G L 1) (G L 2) (G L 3) (G L 5) (G L 16) k5 (G L 17) H) (fun _ _=>by kernel_rfl) (fun k5=>Lk.of (Lk.seq (Lk.seq (Lk.seq (Lk.self) (Lk.block (Lk.seq (Lk.seq (Lk.seq (Lk.block (Lk.loop (D:=fun k14 L H=>qkd call (fun H=> .ok (.aZ []) H) (fun H=>q0k call (fun gH H=>qns call (fun H=> .ok (.aZ []) H) (fun H=> .ok (.aZ []) H) (G L 0) (G L 1) (G L 2) (G L 3) (G L 5) (G L 16) k5 gH H) (G L 17) H) (G L 0) (G L 1) (G L 5) (G L 6) (G L 54) k14 (G L 55) H) (fun _ _=>by kernel_rfl) (fun k14=>Lk.of (Lk.seq (Lk.seq (Lk.seq (Lk.self) (Lk.block (Lk.seq (Lk.seq (Lk.cond (Lk.seq (Lk.seq Lk.self Lk.self) Lk.self) Lk.self) Lk.self) Lk.self))) Lk.self) Lk.self) (fun L H=>by kernel_rfl)))) Lk.self) (Lk.seq (Lk.block (Lk.loop (D:=fun k39 L H=>qkc call (fun H=>qw0 call (fun H=> .ok (.aZ []) H) (fun gH H=>qns call (fun H=> .ok (.aZ []) H) (fun H=> .ok (.aZ []) H) (G L 0) (G L 1) (G L 2) (G L 3) (G L 5) (G L 16) k5 gH H) (G L 0) (G L 1) (G L 5) (G L 6) (G L 17) H) (G L 3) (G L 5) (G L 6) (G L 23) (G L 24) k39 (G L 25) H) (fun _ _=>by kernel_rfl) (fun k39=>Lk.of (Lk.seq (Lk.seq (Lk.seq (Lk.self) Lk.self) Lk.self) Lk.self) (fun L H=>by kernel_rfl)))) Lk.self)) Lk.self))) Lk.self) Lk.self) (fun L H=>by kernel_rfl)))) Lk.self) Lk.self) (fun L H=>by kernel_rfl)) H).trans (by kernel_rfl)
theorem zh9:(aT Tryz.prog 70).f call [x0] H=zCb call x0 H :=
 (dB Tryz.func70 (by kernel_rfl) (D:=fun L H=>zq0 call (G L 0) H)
 (Lk.of (Lk.seq (Lk.seq (Lk.seq Lk.self (Lk.seq (Lk.block (Lk.loop (D:=fun k1 L H=>q0u call (fun x2 H=> .ok x2 H) (fun H=>zn6 call (G L 0) H) (G L 0) k1 (G L 3) H) (fun _ _=>by kernel_rfl) (fun k1=>Lk.of (Lk.seq (Lk.seq Lk.self (Lk.block (Lk.seq (Lk.cond (Lk.seq (Lk.seq Lk.self (Lk.seq (Lk.block (Lk.loop (D:=fun k15 L H=>qki call (fun x3 H=>qqb call (fun x2 H=> .ok x2 H) (G L 0) x3 H) (G L 0) (G L 4) k15 (G L 3) (G L 5) H) (fun _ _=>by kernel_rfl) (fun k15=>Lk.of Lk.self (fun L H=>by kernel_rfl)))) Lk.self)) Lk.self) Lk.self) Lk.self))) Lk.self) (fun L H=>by kernel_rfl)))) Lk.self)) Lk.self) Lk.self) (fun L H=>by kernel_rfl)) H).trans (by kernel_rfl)
theorem zih:(aT Tryz.prog 62).f call [x0] H=zBu call x0 H :=
 (dB Tryz.func62 (by kernel_rfl) (D:=fun L H=>zq5 call (G L 0) H)
 (Lk.of (Lk.seq (Lk.seq (Lk.seq Lk.self (Lk.seq (Lk.block (Lk.loop (D:=fun k5 L H=>qtv call (fun x2 H=> .ok x2 H) (fun H=>q8t call H) (G L 13) (G L 14) k5 (G L 15) H) (fun _ _=>by kernel_rfl) (fun k5=>Lk.of (Lk.seq (Lk.seq (Lk.seq Lk.self (Lk.block (Lk.seq (Lk.seq (Lk.seq (Lk.block (Lk.loop (D:=fun k16 L H=>qqc call (fun x2 H=> .ok x2 H) (fun H=>q8m call (fun mW H=>qtv call (fun x2 H=> .ok x2 H) (fun H=>q8t call H) (G L 13) (G L 14) k5 mW H) (G L 15) H) (G L 30) (G L 31) k16 (G L 32) H) (fun _ _=>by kernel_rfl) (fun k16=>Lk.of Lk.self (fun L H=>by kernel_rfl)))) Lk.self) Lk.self) Lk.self))) Lk.self) Lk.self) (fun L H=>by kernel_rfl)))) Lk.self)) Lk.self) Lk.self) (fun L H=>by kernel_rfl)) H).trans (by kernel_rfl)
theorem zi3:(aT Tryz.prog 37).f call [x0,x1,x2,x3] H=zBb call x0 x1 x2 x3 H :=
 (dB Tryz.func37 (by kernel_rfl) (D:=fun L H=>zrm call (G L 0) (G L 1) (G L 2) (G L 3) H)
 (Lk.of (Lk.seq (Lk.seq (Lk.seq (Lk.seq Lk.self (Lk.seq (Lk.block (Lk.loop (D:=fun k8 L H=>qkp call (fun x9 H=>q9s call x9 H) (G L 3) (G L 4) (G L 10) k8 (G L 9) (G L 12) H) (fun _ _=>by kernel_rfl) (fun k8=>Lk.of (Lk.seq (Lk.cst qnv (fun x L H=>x call (fun x9 bI H=>qkp call (fun x9 H=>q9s call x9 H) (G L 3) (G L 4) (G L 10) k8 x9 bI H) (G L 3) (G L 4) (G L 9) (G L 10) (G L 12) H) (Lk.of Lk.self (fun L H=>by kernel_rfl))) Lk.self) (fun L H=>by kernel_rfl)))) Lk.self)) Lk.self) Lk.self) Lk.self) (fun L H=>by kernel_rfl)) H).trans (by kernel_rfl)
theorem zg5:(aT Tryz.prog 156).f call [x0,x1] H=zDp call x0 x1 H :=
 (dB Tryz.func156 (by kernel_rfl) (D:=fun L H=>zp3 call (G L 0) (G L 1) H)
 (Lk.of (Lk.seq (Lk.seq Lk.self (Lk.seq (Lk.block (Lk.loop (D:=fun k2 L H=>q0g call (fun x4 H=> .ok x4 H) (fun H=>q6v call H) (G L 0) (G L 1) (G L 7) k2 (G L 8) H) (fun _ _=>by kernel_rfl) (fun k2=>Lk.of Lk.self (fun L H=>by kernel_rfl)))) Lk.self)) Lk.self) (fun L H=>by kernel_rfl)) H).trans (by kernel_rfl)
theorem zg8:(aT Tryz.prog 155).f call [x0,x1] H=zDm call x0 x1 H :=
 (dB Tryz.func155 (by kernel_rfl) (D:=fun L H=>zp6 call (G L 0) (G L 1) H)
 (Lk.of (Lk.seq (Lk.seq Lk.self (Lk.seq (Lk.block (Lk.loop (D:=fun k3 L H=>q0h call (fun x4 H=> .ok x4 H) (fun H=>q6y call H) (G L 0) (G L 3) (G L 7) k3 (G L 8) H) (fun _ _=>by kernel_rfl) (fun k3=>Lk.of Lk.self (fun L H=>by kernel_rfl)))) Lk.self)) Lk.self) (fun L H=>by kernel_rfl)) H).trans (by kernel_rfl)
theorem zhf:(aT Tryz.prog 144).f call [x0,x1] H=zDe call x0 x1 H :=
 (dB Tryz.func144 (by kernel_rfl) (D:=fun L H=>zhg call (G L 0) (G L 1) H)
 (Lk.of (Lk.seq (Lk.seq (Lk.seq (Lk.seq Lk.self (Lk.seq (Lk.block (Lk.loop (D:=fun k27 L H=>qpw call (fun H=>qwu call (G L 0) (G L 4) (G L 5) H) (G L 0) (G L 35) (G L 36) k27 (G L 37) H) (fun _ _=>by kernel_rfl) (fun k27=>Lk.of Lk.self (fun L H=>by kernel_rfl)))) Lk.self)) Lk.self) Lk.self) Lk.self) (fun L H=>by kernel_rfl)) H).trans (by kernel_rfl)
theorem zjm:(aT Tryz.prog 14).f call [x0,x1] H=zAk call x0 x1 H :=
 (dB Tryz.func14 (by kernel_rfl) (D:=fun L H=>zjn call (G L 0) (G L 1) H)
 (Lk.of (Lk.seq (Lk.seq (Lk.seq (Lk.seq Lk.self (Lk.seq (Lk.block (Lk.loop (D:=fun k6 L H=>q1g call (fun x6 H=>zaw call x6 H) (G L 1) (G L 18) (G L 19) k6 (G L 6) (G L 20) H) (fun _ _=>by kernel_rfl) (fun k6=>Lk.of Lk.self (fun L H=>by kernel_rfl)))) Lk.self)) Lk.self) Lk.self) Lk.self) (fun L H=>by kernel_rfl)) H).trans (by kernel_rfl)
theorem zh3:(aT Tryz.prog 91).f call [x0] H=zCi call x0 H :=
 (dB Tryz.func91 (by kernel_rfl) (D:=fun L H=>zqu call (G L 0) H)
 (Lk.of (Lk.seq (Lk.seq (Lk.seq Lk.self (Lk.seq (Lk.block (Lk.loop (D:=fun k8 L H=>q0q call (fun x2 H=> .ok x2 H) (fun H=>q7t call (G L 1) H) (G L 16) (G L 17) k8 (G L 18) H) (fun _ _=>by kernel_rfl) (fun k8=>Lk.of Lk.self (fun L H=>by kernel_rfl)))) Lk.self)) Lk.self) Lk.self) (fun L H=>by kernel_rfl)) H).trans (by kernel_rfl)
theorem zjg:(aT Tryz.prog 27).f call [x0,x1,x2,x3,x4] H=zAp call x0 x1 x2 x3 x4 H :=
 (dB Tryz.func27 (by kernel_rfl) (D:=fun L H=>zjh call (G L 0) (G L 1) (G L 2) (G L 3) (G L 4) H)
 (Lk.of (Lk.seq (Lk.seq (Lk.seq (Lk.seq (Lk.seq (Lk.seq (Lk.of (E:=fun L H=>qgq call (G L 1) (G L 2) (G L 3) (G L 4) (G L 5) (G L 10) (G L 13) H) Lk.self (fun L H=>by kernel_rfl)) Lk.self) Lk.self) Lk.self) Lk.self) Lk.self) Lk.self) (fun L H=>by kernel_rfl)) H).trans (by kernel_rfl)
theorem zij:(aT Tryz.prog 46).f call [x0,x1] H=zBs call x0 x1 H :=
 (dB Tryz.func46 (by kernel_rfl) (D:=fun L H=>zq6 call (G L 0) (G L 1) H)
 (Lk.of (Lk.seq (Lk.seq Lk.self (Lk.seq (Lk.block (Lk.loop (D:=fun k2 L H=>q0w call (fun x4 H=> .ok x4 H) (fun H=>q8x call H) (G L 1) (G L 2) k2 (G L 5) H) (fun _ _=>by kernel_rfl) (fun k2=>Lk.of Lk.self (fun L H=>by kernel_rfl)))) Lk.self)) Lk.self) (fun L H=>by kernel_rfl)) H).trans (by kernel_rfl)
theorem zis:(aT Tryz.prog 42).f call [x0,x1,x2,x3,x4,x5,x6] H=zBl call x0 x1 x2 x3 x4 x5 x6 H :=
 (dB Tryz.func42 (by kernel_rfl) (D:=fun L H=>zrc call (G L 0) (G L 1) (G L 2) (G L 3) (G L 4) (G L 5) (G L 6) H)
 (Lk.of Lk.self (fun L H=>by kernel_rfl)) H).trans (by kernel_rfl)
theorem zh8:(aT Tryz.prog 69).f call [x0] H=zCc call x0 H :=
 (dB Tryz.func69 (by kernel_rfl) (D:=fun L H=>zqz call (G L 0) H)
 (Lk.of Lk.self (fun L H=>by kernel_rfl)) H).trans (by kernel_rfl)
theorem zir:(aT Tryz.prog 43).f call [x0,x1,x2,x3] H=zBm call x0 x1 x2 x3 H :=
 (dB Tryz.func43 (by kernel_rfl) (D:=fun L H=>zrb call (G L 0) (G L 1) (G L 2) (G L 3) H)
 (Lk.of Lk.self (fun L H=>by kernel_rfl)) H).trans (by kernel_rfl)
theorem zi9:(aT Tryz.prog 32).f call [x0,x1] H=zAw call x0 x1 H :=
 (dB Tryz.func32 (by kernel_rfl) (D:=fun L H=>zrq call (G L 0) (G L 1) H)
 (Lk.of Lk.self (fun L H=>by kernel_rfl)) H).trans (by kernel_rfl)
theorem zha:(aT Tryz.prog 173).f call [x0] H=zDk call x0 H :=
 (dB Tryz.func173 (by kernel_rfl) (D:=fun L H=>zp7 call (G L 0) H)
 (Lk.of Lk.self (fun L H=>by kernel_rfl)) H).trans (by kernel_rfl)
theorem zhd:(aT Tryz.prog 126).f call [x0,x1] H=zDg call x0 x1 H :=
 (dB Tryz.func126 (by kernel_rfl) (D:=fun L H=>zqa call (G L 0) (G L 1) H)
 (Lk.of Lk.self (fun L H=>by kernel_rfl)) H).trans (by kernel_rfl)
theorem zg3:(aT Tryz.prog 185).f call [x0] H=zDr call x0 H :=
 (dB Tryz.func185 (by kernel_rfl) (D:=fun L H=>zu3 call (G L 0) H)
 (Lk.of Lk.self (fun L H=>by kernel_rfl)) H).trans (by kernel_rfl)
theorem zja:(aT Tryz.prog 31).f call [x0,x1] H=zAv call x0 x1 H :=
 (dB Tryz.func31 (by kernel_rfl) (D:=fun L H=>zrr call (G L 0) (G L 1) H)
 (Lk.of Lk.self (fun L H=>by kernel_rfl)) H).trans (by kernel_rfl)
theorem zju:(aT Tryz.prog 8).f call [x0] H=zAe call x0 H :=
 (dB Tryz.func8 (by kernel_rfl) (D:=fun L H=>zr7 call (G L 0) H)
 (Lk.of Lk.self (fun L H=>by kernel_rfl)) H).trans (by kernel_rfl)
theorem ziw:(aT Tryz.prog 59).f call [x0] H=zBh call x0 H :=
 (dB Tryz.func59 (by kernel_rfl) (D:=fun L H=>zrg call (G L 0) H)
 (Lk.of Lk.self (fun L H=>by kernel_rfl)) H).trans (by kernel_rfl)
theorem ziz:(aT Tryz.prog 56).f call [x0] H=zBe call x0 H :=
 (dB Tryz.func56 (by kernel_rfl) (D:=fun L H=>zrk call (G L 0) H)
 (Lk.of Lk.self (fun L H=>by kernel_rfl)) H).trans (by kernel_rfl)
theorem q1s:(aT Tryz.prog 3).f call [x0,x1,x2] H=zAa call x0 x1 x2 H :=
 (dB Tryz.func3 (by kernel_rfl) (D:=fun L H=>zsa call (G L 0) (G L 1) (G L 2) H)
 (Lk.of (Lk.seq (Lk.seq (Lk.cst qk9 (fun x L H=>x call (G L 1) (G L 3) (G L 5) H) (Lk.of (Lk.seq (Lk.seq (Lk.seq (Lk.cst qlb (fun x L H=>x call (G L 1) (G L 5) (G L 7) (G L 8) H) (Lk.of (Lk.seq (Lk.seq (Lk.seq (Lk.seq (Lk.cst qoj (fun x L H=>x call (G L 1) (G L 5) (G L 7) (G L 8) (G L 10) (G L 13) H) (Lk.of (Lk.seq (Lk.seq (Lk.cst qok (fun x L H=>x call (G L 1) (G L 5) (G L 7) (G L 8) (G L 13) H) (Lk.of (Lk.seq (Lk.seq (Lk.cst qol (fun x L H=>x call (G L 5) (G L 7) (G L 8) H) (Lk.of (Lk.seq (Lk.seq (Lk.cst qom (fun x L H=>x call (G L 9) H) (Lk.of Lk.self (fun L H=>by kernel_rfl))) Lk.self) Lk.self) (fun L H=>by kernel_rfl))) Lk.self) Lk.self) (fun L H=>by kernel_rfl))) (Lk.seq (Lk.block (Lk.loop (D:=fun k60 L H=>qk7 call (fun x6 H=> .ok x6 H) (fun H=>qk8 call (G L 1) (G L 5) (G L 7) (G L 8) (G L 13) H) (G L 8) (G L 10) (G L 13) k60 (G L 17) H) (fun _ _=>by kernel_rfl) (fun k60=>Lk.of (Lk.seq (Lk.seq Lk.self (Lk.block (Lk.seq (Lk.seq Lk.self (Lk.seq (Lk.block (Lk.loop (D:=fun k76 L H=>qrt call (fun x18 H=>qyt call (fun x6 H=> .ok x6 H) (fun gH H=>qk7 call (fun x6 H=> .ok x6 H) (fun H=>qk8 call (G L 1) (G L 5) (G L 7) (G L 8) (G L 13) H) (G L 8) (G L 10) (G L 13) k60 gH H) (G L 8) (G L 17) x18 H) (G L 10) (G L 17) k76 (G L 18) (G L 19) H) (fun _ _=>by kernel_rfl) (fun k76=>Lk.of Lk.self (fun L H=>by kernel_rfl)))) Lk.self)) Lk.self))) Lk.self) (fun L H=>by kernel_rfl)))) Lk.self)) Lk.self) (fun L H=>by kernel_rfl))) (Lk.seq (Lk.block (Lk.loop (D:=fun k94 L H=>qrs call (fun x6 H=> .ok x6 H) (fun dV H=>qys call (G L 1) (G L 5) (G L 7) (G L 8) (G L 10) dV H) (G L 8) (G L 10) (G L 12) k94 (G L 13) (G L 14) H) (fun _ _=>by kernel_rfl) (fun k94=>Lk.of Lk.self (fun L H=>by kernel_rfl)))) Lk.self)) Lk.self) Lk.self) Lk.self) (fun L H=>by kernel_rfl))) Lk.self) Lk.self) Lk.self) (fun L H=>by kernel_rfl))) Lk.self) Lk.self) (fun L H=>by kernel_rfl)) H).trans (by kernel_rfl)
def zo8(call:Ev.Call)(k11:Nat)(L:TT AV (gV (Tryz.f10.ntmps+1))):=fun H=>qyf call (fun x5 H=>qky call (fun H=>qq9 call (G L 2) (G L 4) H) (G L 1) (G L 3) (G L 4) k11 x5 H) (G L 5) H
def zo7(call:Ev.Call)(k11:Nat)(k36:Nat)(L:TT AV (gV (Tryz.f10.ntmps+1))):=fun H=>qgr call (fun x9 H=>qig call (zo8 call k11 L) (G L 1) (G L 3) (G L 4) (G L 5) (G L 6) (G L 8) k36 x9 H) (G L 9) H
theorem zjt:(aT Tryz.prog 10).f call [x0] H=zAf call x0 H :=
 (dB Tryz.func10 (by kernel_rfl) (D:=fun L H=>zr6 call (G L 0) H)
 (Lk.of (Lk.seq (Lk.seq (Lk.seq (Lk.seq Lk.self (Lk.seq (Lk.block (Lk.loop (D:=fun k11 L H=>qky call (fun H=>qq9 call (G L 2) (G L 4) H) (G L 1) (G L 3) (G L 4) k11 (G L 5) H) (fun _ _=>by kernel_rfl) (fun k11=>Lk.of (Lk.seq (Lk.seq Lk.self (Lk.block (Lk.seq (Lk.seq (Lk.seq (Lk.block (Lk.loop (D:=fun k36 L H=>qig call (zo8 call k11 L) (G L 1) (G L 3) (G L 4) (G L 5) (G L 6) (G L 8) k36 (G L 9) H) (fun _ _=>by kernel_rfl) (fun k36=>Lk.of (Lk.seq (Lk.seq Lk.self (Lk.block (Lk.seq (Lk.block (Lk.seq (Lk.cond (Lk.seq (Lk.block (Lk.loop (D:=fun k43 L H=>qq7 call (zo7 call k11 k36 L) (G L 1) (G L 4) (G L 5) (G L 6) (G L 8) (G L 9) k43 (G L 10) H) (fun _ _=>by kernel_rfl) (fun k43=>Lk.of Lk.self (fun L H=>by kernel_rfl)))) Lk.self) (Lk.seq (Lk.cond Lk.self (Lk.seq (Lk.cond (Lk.seq (Lk.seq (Lk.block (Lk.loop (D:=fun aJ9 L H=>qjr call (zo7 call k11 k36 L) (G L 1) (G L 4) (G L 5) (G L 8) (G L 9) (G L 11) aJ9 (G L 12) H) (fun _ _=>by kernel_rfl) (fun aJ9=>Lk.of Lk.self (fun L H=>by kernel_rfl)))) Lk.self) Lk.self) Lk.self) Lk.self)) Lk.self)) Lk.self)) Lk.self))) Lk.self) (fun L H=>by kernel_rfl)))) Lk.self) Lk.self) Lk.self))) Lk.self) (fun L H=>by kernel_rfl)))) Lk.self)) Lk.self) Lk.self) Lk.self) (fun L H=>by kernel_rfl)) H).trans (by kernel_rfl)
def zoe(call:Ev.Call)(k16:Nat)(L:TT AV (gV (Tryz.f58.ntmps+1))):=fun x9 H=>qxu call (fun x9 x10 H=>qko call (fun x9 H=>qqi call (G L 2) (G L 3) (G L 8) x9 H) (G L 1) (G L 3) (G L 4) k16 x9 x10 H) x9 (G L 10) H
theorem zix:(aT Tryz.prog 58).f call [x0,x1,x2,x3] H=zBg call x0 x1 x2 x3 H :=
 (dB Tryz.func58 (by kernel_rfl) (D:=fun L H=>zrh call (G L 0) (G L 1) (G L 2) (G L 3) H)
 (Lk.of (Lk.seq (Lk.seq (Lk.seq Lk.self (Lk.seq (Lk.block (Lk.loop (D:=fun k16 L H=>qko call (fun x9 H=>qqi call (G L 2) (G L 3) (G L 8) x9 H) (G L 1) (G L 3) (G L 4) k16 (G L 9) (G L 10) H) (fun _ _=>by kernel_rfl) (fun k16=>Lk.of (Lk.seq (Lk.seq Lk.self (Lk.block (Lk.seq (Lk.seq (Lk.block (Lk.loop (D:=fun k21 L H=>qkn call (zoe call k16 L) (G L 1) (G L 3) (G L 4) (G L 10) (G L 11) k21 (G L 9) (G L 12) H) (fun _ _=>by kernel_rfl) (fun k21=>Lk.of (Lk.seq (Lk.seq Lk.self (Lk.block (Lk.seq (Lk.block (Lk.loop (D:=fun k24 L H=>qqh call (fun x9 H=>qxt call (fun x9 bI H=>qkn call (zoe call k16 L) (G L 1) (G L 3) (G L 4) (G L 10) (G L 11) k21 x9 bI H) x9 (G L 12) H) (G L 1) (G L 3) (G L 4) (G L 10) (G L 11) (G L 12) k24 (G L 9) (G L 13) H) (fun _ _=>by kernel_rfl) (fun k24=>Lk.of Lk.self (fun L H=>by kernel_rfl)))) Lk.self))) Lk.self) (fun L H=>by kernel_rfl)))) Lk.self) Lk.self))) Lk.self) (fun L H=>by kernel_rfl)))) Lk.self)) Lk.self) Lk.self) (fun L H=>by kernel_rfl)) H).trans (by kernel_rfl)
theorem zh5:(aT Tryz.prog 75).f call [x0,x1] H=zCf call x0 x1 H :=
 (dB Tryz.func75 (by kernel_rfl) (D:=fun L H=>zqw call (G L 0) (G L 1) H)
 (Lk.of (Lk.seq (Lk.seq (Lk.seq (Lk.seq Lk.self (Lk.seq (Lk.block (Lk.loop (D:=fun k12 L H=>qkh call (fun H=>q0r call (G L 2) (G L 3) (G L 5) H) (G L 5) (G L 15) (G L 16) k12 (G L 17) H) (fun _ _=>by kernel_rfl) (fun k12=>Lk.of (Lk.seq (Lk.seq (Lk.seq Lk.self (Lk.block (Lk.seq (Lk.seq (Lk.block (Lk.loop (D:=fun k19 L H=>qp7 call (fun H=>qw8 call (fun gH H=>qkh call (fun H=>q0r call (G L 2) (G L 3) (G L 5) H) (G L 5) (G L 15) (G L 16) k12 gH H) (G L 17) H) (G L 5) (G L 6) (G L 22) (G L 23) k19 (G L 24) H) (fun _ _=>by kernel_rfl) (fun k19=>Lk.of Lk.self (fun L H=>by kernel_rfl)))) Lk.self) Lk.self))) Lk.self) Lk.self) (fun L H=>by kernel_rfl)))) Lk.self)) Lk.self) Lk.self) Lk.self) (fun L H=>by kernel_rfl)) H).trans (by kernel_rfl)
theorem zje:(aT Tryz.prog 29).f call [x0,x1] H=zAr call x0 x1 H :=
 (dB Tryz.func29 (by kernel_rfl) (D:=fun L H=>zrw call (G L 0) (G L 1) H)
 (Lk.of (Lk.seq (Lk.seq (Lk.seq (Lk.seq Lk.self (Lk.seq (Lk.cond (Lk.seq (Lk.seq Lk.self (Lk.seq (Lk.block (Lk.loop (D:=fun k19 L H=>qq3 call (fun x7 H=>qyc call (G L 1) (G L 2) (G L 5) x7 H) (G L 1) (G L 2) k19 (G L 7) (G L 8) H) (fun _ _=>by kernel_rfl) (fun k19=>Lk.of Lk.self (fun L H=>by kernel_rfl)))) Lk.self)) Lk.self) Lk.self) Lk.self)) (Lk.seq (Lk.block (Lk.loop (D:=fun k36 L H=>qq2 call (fun x5 H=>qq5 call (G L 1) (G L 2) x5 H) (G L 1) (G L 2) k36 (G L 5) (G L 6) H) (fun _ _=>by kernel_rfl) (fun k36=>Lk.of Lk.self (fun L H=>by kernel_rfl)))) Lk.self)) Lk.self) Lk.self) (fun L H=>by kernel_rfl)) H).trans (by kernel_rfl)
theorem zh6:(aT Tryz.prog 76).f call [x0] H=zCe call x0 H :=
 (dB Tryz.func76 (by kernel_rfl) (D:=fun L H=>zqx call (G L 0) H)
 (Lk.of (Lk.seq (Lk.seq (Lk.seq (Lk.seq Lk.self (Lk.seq (Lk.block (Lk.loop (D:=fun k7 L H=>q0s call (fun H=>q73 call (G L 3) H) (G L 3) (G L 29) k7 (G L 30) H) (fun _ _=>by kernel_rfl) (fun k7=>Lk.of Lk.self (fun L H=>by kernel_rfl)))) Lk.self)) (Lk.seq (Lk.block (Lk.loop (D:=fun k21 L H=>qp8 call (fun H=>qxb call (G L 1) (G L 3) H) (G L 3) (G L 8) (G L 9) k21 (G L 10) H) (fun _ _=>by kernel_rfl) (fun k21=>Lk.of Lk.self (fun L H=>by kernel_rfl)))) Lk.self)) Lk.self) Lk.self) (fun L H=>by kernel_rfl)) H).trans (by kernel_rfl)
theorem zg2:(aT Tryz.prog 157).f call [x0,x1] H=zDs call x0 x1 H :=
 (dB Tryz.func157 (by kernel_rfl) (D:=fun L H=>zp1 call (G L 0) (G L 1) H)
 (Lk.of (Lk.seq (Lk.seq Lk.self (Lk.seq (Lk.block (Lk.loop (D:=fun k2 L H=>qtn call (fun x4 H=> .ok x4 H) (fun H=>q6q call H) (G L 0) (G L 1) (G L 7) k2 (G L 8) H) (fun _ _=>by kernel_rfl) (fun k2=>Lk.of Lk.self (fun L H=>by kernel_rfl)))) Lk.self)) Lk.self) (fun L H=>by kernel_rfl)) H).trans (by kernel_rfl)
theorem ziy:(aT Tryz.prog 57).f call [x0,x1,x2,x3] H=zBf call x0 x1 x2 x3 H :=
 (dB Tryz.func57 (by kernel_rfl) (D:=fun L H=>zrj call (G L 0) (G L 1) (G L 2) (G L 3) H)
 (Lk.of (Lk.seq (Lk.seq (Lk.seq Lk.self (Lk.seq (Lk.block (Lk.loop (D:=fun k12 L H=>qqj call (fun x9 H=>q9o call (G L 2) (G L 8) x9 H) (G L 1) (G L 3) (G L 4) k12 (G L 9) (G L 10) H) (fun _ _=>by kernel_rfl) (fun k12=>Lk.of Lk.self (fun L H=>by kernel_rfl)))) Lk.self)) Lk.self) Lk.self) (fun L H=>by kernel_rfl)) H).trans (by kernel_rfl)
theorem zjv:(aT Tryz.prog 7).f call [x0] H=zAd call x0 H :=
 (dB Tryz.func7 (by kernel_rfl) (D:=fun L H=>zr8 call (G L 0) H)
 (Lk.of (Lk.seq (Lk.seq (Lk.seq (Lk.seq (Lk.seq (Lk.seq (Lk.seq Lk.self (Lk.seq (Lk.block (Lk.loop (D:=fun k23 L H=>qrb call (fun H=>qyj call (G L 2) (G L 7) H) (G L 1) (G L 6) (G L 7) (G L 33) k23 (G L 34) H) (fun _ _=>by kernel_rfl) (fun k23=>Lk.of Lk.self (fun L H=>by kernel_rfl)))) Lk.self)) Lk.self) Lk.self) Lk.self) Lk.self) Lk.self) Lk.self) (fun L H=>by kernel_rfl)) H).trans (by kernel_rfl)
theorem zjk:(aT Tryz.prog 16).f call [x0,x1,x2] H=zAm call x0 x1 x2 H :=
 (dB Tryz.func16 (by kernel_rfl) (D:=fun L H=>zr0 call (G L 0) (G L 1) (G L 2) H)
 (Lk.of (Lk.seq (Lk.seq (Lk.seq Lk.self (Lk.seq (Lk.block (Lk.loop (D:=fun k4 L H=>qtz call (fun x6 H=> .ok x6 H) (fun H=>zaq call H) (G L 1) (G L 2) (G L 7) k4 (G L 8) H) (fun _ _=>by kernel_rfl) (fun k4=>Lk.of Lk.self (fun L H=>by kernel_rfl)))) Lk.self)) Lk.self) Lk.self) (fun L H=>by kernel_rfl)) H).trans (by kernel_rfl)
theorem zjo:(aT Tryz.prog 13).f call [x0] H=zAj call x0 H :=
 (dB Tryz.func13 (by kernel_rfl) (D:=fun L H=>zr2 call (G L 0) H)
 (Lk.of (Lk.seq (Lk.seq (Lk.seq Lk.self (Lk.seq (Lk.block (Lk.loop (D:=fun k5 L H=>q1i call (fun x3 H=>zoy call x3 H) (G L 7) (G L 8) k5 (G L 3) (G L 9) H) (fun _ _=>by kernel_rfl) (fun k5=>Lk.of Lk.self (fun L H=>by kernel_rfl)))) Lk.self)) Lk.self) Lk.self) (fun L H=>by kernel_rfl)) H).trans (by kernel_rfl)
theorem zi2:(aT Tryz.prog 38).f call [x0] H=zBc call x0 H :=
 (dB Tryz.func38 (by kernel_rfl) (D:=fun L H=>zrl call (G L 0) H)
 (Lk.of (Lk.seq (Lk.seq (Lk.seq Lk.self (Lk.seq (Lk.block (Lk.loop (D:=fun k2 L H=>q0y call (fun x3 H=>zoi call x3 H) (G L 6) (G L 7) k2 (G L 3) (G L 8) H) (fun _ _=>by kernel_rfl) (fun k2=>Lk.of Lk.self (fun L H=>by kernel_rfl)))) Lk.self)) Lk.self) Lk.self) (fun L H=>by kernel_rfl)) H).trans (by kernel_rfl)
theorem zhc:(aT Tryz.prog 125).f call [x0,x1] H=zDh call x0 x1 H :=
 (dB Tryz.func125 (by kernel_rfl) (D:=fun L H=>zp9 call (G L 0) (G L 1) H)
 (Lk.of Lk.self (fun L H=>by kernel_rfl)) H).trans (by kernel_rfl)
theorem zh0:(aT Tryz.prog 96).f call [x0,x1,x2,x3] H=zCl call x0 x1 x2 x3 H :=
 (dB Tryz.func96 (by kernel_rfl) (D:=fun L H=>zqr call (G L 0) (G L 1) (G L 2) (G L 3) H)
 (Lk.of Lk.self (fun L H=>by kernel_rfl)) H).trans (by kernel_rfl)
theorem zif:(aT Tryz.prog 63).f call [x0,x1,x2] H=zBv call x0 x1 x2 H :=
 (dB Tryz.func63 (by kernel_rfl) (D:=fun L H=>zq4 call (G L 0) (G L 1) (G L 2) H)
 (Lk.of Lk.self (fun L H=>by kernel_rfl)) H).trans (by kernel_rfl)
theorem zhu:(aT Tryz.prog 103).f call [x0] H=zCq call x0 H :=
 (dB Tryz.func103 (by kernel_rfl) (D:=fun L H=>zqn call (G L 0) H)
 (Lk.of Lk.self (fun L H=>by kernel_rfl)) H).trans (by kernel_rfl)
theorem zi4:(aT Tryz.prog 36).f call [x0,x1,x2,x3] H=zBa call x0 x1 x2 x3 H :=
 (dB Tryz.func36 (by kernel_rfl) (D:=fun L H=>zrn call (G L 0) (G L 1) (G L 2) (G L 3) H)
 (Lk.of Lk.self (fun L H=>by kernel_rfl)) H).trans (by kernel_rfl)
theorem zh4:(aT Tryz.prog 77).f call [x0] H=zCg call x0 H :=
 (dB Tryz.func77 (by kernel_rfl) (D:=fun L H=>zqv call (G L 0) H)
 (Lk.of Lk.self (fun L H=>by kernel_rfl)) H).trans (by kernel_rfl)
theorem zia:(aT Tryz.prog 67).f call [x0,x1] H=zBz call x0 x1 H :=
 (dB Tryz.func67 (by kernel_rfl) (D:=fun L H=>zq1 call (G L 0) (G L 1) H)
 (Lk.of Lk.self (fun L H=>by kernel_rfl)) H).trans (by kernel_rfl)
theorem zhk:(aT Tryz.prog 99).f call [x0,x1] H=zDa call x0 x1 H :=
 (dB Tryz.func99 (by kernel_rfl) (D:=fun L H=>zqf call (G L 0) (G L 1) H)
 (Lk.of Lk.self (fun L H=>by kernel_rfl)) H).trans (by kernel_rfl)
theorem zhi:(aT Tryz.prog 130).f call [x0] H=zDc call x0 H :=
 (dB Tryz.func130 (by kernel_rfl) (D:=fun L H=>zqd call (G L 0) H)
 (Lk.of Lk.self (fun L H=>by kernel_rfl)) H).trans (by kernel_rfl)
theorem zhj:(aT Tryz.prog 101).f call [x0] H=zDb call x0 H :=
 (dB Tryz.func101 (by kernel_rfl) (D:=fun L H=>zqe call (G L 0) H)
 (Lk.of Lk.self (fun L H=>by kernel_rfl)) H).trans (by kernel_rfl)
theorem zil:(aT Tryz.prog 54).f call [x0] H=zBq call x0 H :=
 (dB Tryz.func54 (by kernel_rfl) (D:=fun L H=>zq8 call (G L 0) H)
 (Lk.of Lk.self (fun L H=>by kernel_rfl)) H).trans (by kernel_rfl)
theorem zi8:(aT Tryz.prog 33).f call [x0] H=zAx call x0 H :=
 (dB Tryz.func33 (by kernel_rfl) (D:=fun L H=>zrp call (G L 0) H)
 (Lk.of Lk.self (fun L H=>by kernel_rfl)) H).trans (by kernel_rfl)
def q95(call:Ev.Call)(k11:Nat)(L:TT AV (gV (Tryz.f23.ntmps+1))):=fun q8 H=>qic call (fun H=>q02 call (G L 8) H) (G L 1) (G L 4) (G L 8) (G L 39) (G L 40) k11 q8 H
theorem zjb:(aT Tryz.prog 23).f call [x0] H=zAu call x0 H :=
 (dB Tryz.func23 (by kernel_rfl) (D:=fun L H=>zrs call (G L 0) H)
 (Lk.of (Lk.seq (Lk.seq (Lk.seq (Lk.cst qnw (fun x L H=>x call (G L 1) (G L 4) H) (Lk.of (Lk.seq (Lk.cst qnx (fun x L H=>x call (G L 1) (G L 4) H) (Lk.of (Lk.seq (Lk.seq (Lk.cst qid (fun x L H=>x call (G L 1) (G L 4) (G L 8) H) (Lk.of (Lk.seq Lk.self (Lk.seq (Lk.block (Lk.loop (D:=fun k11 L H=>qic call (fun H=>q02 call (G L 8) H) (G L 1) (G L 4) (G L 8) (G L 39) (G L 40) k11 (G L 41) H) (fun _ _=>by kernel_rfl) (fun k11=>Lk.of (Lk.seq (Lk.seq (Lk.seq Lk.self (Lk.block (Lk.seq (Lk.seq (Lk.seq (Lk.seq (Lk.block (Lk.loop (D:=fun k18 L H=>qqq call (fun H=>qx2 call (q95 call k11 L) (G L 41) H) (G L 8) (G L 11) (G L 83) (G L 84) k18 (G L 85) H) (fun _ _=>by kernel_rfl) (fun k18=>Lk.of Lk.self (fun L H=>by kernel_rfl)))) Lk.self) (Lk.seq (Lk.block (Lk.loop (D:=fun k32 L H=>qib call (fun bY H=>qqu call (q95 call k11 L) (G L 8) (G L 10) bY (G L 41) H) (G L 4) (G L 8) (G L 9) (G L 47) (G L 48) k32 (G L 11) (G L 49) H) (fun _ _=>by kernel_rfl) (fun k32=>Lk.of (Lk.seq (Lk.seq (Lk.cst qny (fun x L H=>x call (fun bY x49 H=>qib call (fun bY H=>qqu call (q95 call k11 L) (G L 8) (G L 10) bY (G L 41) H) (G L 4) (G L 8) (G L 9) (G L 47) (G L 48) k32 bY x49 H) (G L 4) (G L 8) (G L 9) (G L 11) (G L 47) (G L 49) H) (Lk.of Lk.self (fun L H=>by kernel_rfl))) Lk.self) Lk.self) (fun L H=>by kernel_rfl)))) Lk.self)) Lk.self) Lk.self))) Lk.self) Lk.self) (fun L H=>by kernel_rfl)))) Lk.self)) (fun L H=>by kernel_rfl))) Lk.self) Lk.self) (fun L H=>by kernel_rfl))) Lk.self) (fun L H=>by kernel_rfl))) Lk.self) Lk.self) Lk.self) (fun L H=>by kernel_rfl)) H).trans (by kernel_rfl)
def qts(call:Ev.Call)(k1:Nat)(L:TT AV (gV (Tryz.f95.ntmps+1))):=fun bI H=>qnq call (fun x4 H=> .ok x4 H) (fun H=>q0j call H) (G L 0) (G L 1) (G L 10) (G L 11) k1 bI H
theorem zhm:(aT Tryz.prog 95).f call [x0,x1] H=zCy call x0 x1 H :=
 (dB Tryz.func95 (by kernel_rfl) (D:=fun L H=>zqh call (G L 0) (G L 1) H)
 (Lk.of (Lk.seq (Lk.seq (Lk.cst qtr (fun x L H=>x call H) (Lk.of Lk.self (fun L H=>by kernel_rfl))) (Lk.seq (Lk.cst qnn (fun x L H=>x call (G L 0) (G L 1) (G L 10) (G L 11) (G L 12) H) (Lk.of (Lk.block (Lk.loop (D:=fun k1 L H=>qnq call (fun x4 H=> .ok x4 H) (fun H=>q0j call H) (G L 0) (G L 1) (G L 10) (G L 11) k1 (G L 12) H) (fun _ _=>by kernel_rfl) (fun k1=>Lk.of (Lk.seq (Lk.seq (Lk.cst qnr (fun x L H=>x call (fun x4 H=> .ok x4 H) (qts call k1 L) (G L 0) (G L 1) (G L 10) (G L 12) H) (Lk.of (Lk.seq (Lk.cst qtq (fun x L H=>x call (qts call k1 L) (G L 12) H) (Lk.of Lk.self (fun L H=>by kernel_rfl))) (Lk.block (Lk.seq (Lk.cst qno (fun x L H=>x call (fun x4 H=> .ok x4 H) (qts call k1 L) (G L 0) (G L 1) (G L 5) (G L 6) (G L 12) H) (Lk.of (Lk.block (Lk.seq (Lk.cst qnp (fun x L H=>x call (fun x4 H=> .ok x4 H) (qts call k1 L) (G L 1) (G L 5) (G L 6) (G L 12) (G L 17) H) (Lk.of (Lk.cond Lk.self (Lk.seq (Lk.cst qtp (fun x L H=>x call (fun x4 H=> .ok x4 H) (qts call k1 L) (G L 12) (G L 40) H) (Lk.of Lk.self (fun L H=>by kernel_rfl))) Lk.self)) (fun L H=>by kernel_rfl))) Lk.self)) (fun L H=>by kernel_rfl))) Lk.self))) (fun L H=>by kernel_rfl))) Lk.self) Lk.self) (fun L H=>by kernel_rfl)))) (fun L H=>by kernel_rfl))) Lk.self)) Lk.self) (fun L H=>by kernel_rfl)) H).trans (by kernel_rfl)
theorem zjs:(aT Tryz.prog 9).f call [x0] H=zAg call x0 H :=
 (qfl Tryz.func9 (by kernel_rfl) (by kernel_rfl) (by kernel_rfl) (by kernel_rfl) (D:=fun L H=>zr5 call (G L 0) H)
 (Lk.of (Lk.seq (Lk.seq (Lk.seq (Lk.self) (Lk.seq (Lk.block (Lk.loop (D:=fun k5 L H=>qku call (fun x2 x3 H=> .ok (.aZ [x2,x3]) H) (fun H=>qt3 call (G L 4) H) (G L 1) (G L 4) k5 (G L 5) H) (fun _ _=>by kernel_rfl) (fun k5=>Lk.of (Lk.seq (Lk.block (Lk.seq (Lk.seq (Lk.block (Lk.loop (D:=fun k6 L H=>qt2 call (fun x2 x3 H=> .ok (.aZ [x2,x3]) H) (fun x5 H=>qku call (fun x2 x3 H=> .ok (.aZ [x2,x3]) H) (fun H=>qt3 call (G L 4) H) (G L 1) (G L 4) k5 x5 H) (G L 1) (G L 4) k6 (G L 5) (G L 6) H) (fun _ _=>by kernel_rfl) (fun k6=>Lk.of (Lk.seq (Lk.seq (Lk.self) (Lk.block (Lk.seq (Lk.block (Lk.loop (D:=fun k9 L H=>qnz call (fun x2 x3 H=> .ok (.aZ [x2,x3]) H) (fun x5 H=>zbb call (fun x5 x6 H=>qt2 call (fun x2 x3 H=> .ok (.aZ [x2,x3]) H) (fun x5 H=>qku call (fun x2 x3 H=> .ok (.aZ [x2,x3]) H) (fun H=>qt3 call (G L 4) H) (G L 1) (G L 4) k5 x5 H) (G L 1) (G L 4) k6 x5 x6 H) x5 (G L 6) H) (G L 1) (G L 4) (G L 6) k9 (G L 5) (G L 7) H) (fun _ _=>by kernel_rfl) (fun k9=>Lk.of (Lk.seq (Lk.seq (Lk.self) (Lk.block (Lk.seq (Lk.seq (Lk.seq (Lk.seq (Lk.self) Lk.self) Lk.self) Lk.self) Lk.self))) Lk.self) (fun L H=>by kernel_rfl)))) Lk.self))) Lk.self) (fun L H=>by kernel_rfl)))) Lk.self) Lk.self)) Lk.self) (fun L H=>by kernel_rfl)))) Lk.self)) Lk.self) Lk.self) (fun L H=>by kernel_rfl)) H).trans (by kernel_rfl)
theorem zhq:(aT Tryz.prog 115).f call [x0,x1] H=zCu call x0 x1 H :=
 (dB Tryz.func115 (by kernel_rfl) (D:=fun L H=>zu6 call (G L 0) (G L 1) H)
 (Lk.of (Lk.scope (Lk.seq (Lk.seq (Lk.seq (Lk.block (Lk.loop (D:=fun k3 L H=>qnt call (fun H=> .ok (.aZ []) H) (G L 0) k3 (G L 4) H) (fun _ _=>by kernel_rfl) (fun k3=>Lk.of (Lk.seq (Lk.block (Lk.seq (Lk.seq Lk.self (Lk.block (Lk.loop (D:=fun k42 L H=>qp2 call (fun x4 H=>qnt call (fun H=> .ok (.aZ []) H) (G L 0) k3 x4 H) (fun x4 H=>qp3 call (fun x4 H=>qnt call (fun H=> .ok (.aZ []) H) (G L 0) k3 x4 H) (G L 0) x4 (G L 5) H) (G L 0) (G L 5) k42 (G L 4) H) (fun _ _=>by kernel_rfl) (fun k42=>Lk.of (Lk.seq (Lk.block (Lk.seq (Lk.seq (Lk.seq Lk.self Lk.self) Lk.self) Lk.self)) Lk.self) (fun L H=>by kernel_rfl))))) Lk.self)) Lk.self) (fun L H=>by kernel_rfl)))) Lk.self) Lk.self) Lk.self)) (fun L H=>by kernel_rfl)) H).trans (by kernel_rfl)
theorem qnh:(aT Tryz.prog 83).f call [x0] H=jG call x0 H :=
 (dB Tryz.func83 (by kernel_rfl) (D:=fun L H=>qg1 call (G L 0) H)
 (Lk.of (Lk.seq (Lk.seq (Lk.seq Lk.self (Lk.seq (Lk.block (Lk.loop (D:=fun k1 L H=>qdx call (fun x2 H=> .ok x2 H) (fun H=>qfd call (G L 0) H) (G L 0) k1 (G L 3) H) (fun _ _=>by kernel_rfl) (fun k1=>Lk.of (Lk.seq (Lk.seq Lk.self (Lk.block (Lk.seq (Lk.cond (Lk.seq (Lk.seq Lk.self (Lk.seq (Lk.block (Lk.loop (D:=fun k15 L H=>qda call (fun x3 H=>qes call (fun x2 H=> .ok x2 H) (G L 0) x3 H) (G L 0) (G L 4) k15 (G L 3) (G L 5) H) (fun _ _=>by kernel_rfl) (fun k15=>Lk.of Lk.self (fun L H=>by kernel_rfl)))) Lk.self)) Lk.self) Lk.self) Lk.self))) Lk.self) (fun L H=>by kernel_rfl)))) Lk.self)) Lk.self) Lk.self) (fun L H=>by kernel_rfl)) H).trans (by kernel_rfl)
theorem zhw:(aT Tryz.prog 100).f call [x0,x1,x2,x3,x4,x5,x6] H=zCo call x0 x1 x2 x3 x4 x5 x6 H :=
 (dB Tryz.func100 (by kernel_rfl) (D:=fun L H=>zhx call (G L 0) (G L 1) (G L 2) (G L 3) (G L 4) (G L 5) (G L 6) H)
 (Lk.of (Lk.seq (Lk.seq (Lk.seq (Lk.seq (Lk.seq (Lk.seq (Lk.seq (Lk.seq Lk.self (Lk.seq (Lk.block (Lk.loop (D:=fun k37 L H=>qp4 call (fun x10 H=> .ok x10 H) (fun bI H=>qke call (G L 3) (G L 11) bI H) (G L 0) (G L 1) (G L 2) (G L 3) (G L 6) (G L 51) k37 (G L 12) (G L 52) H) (fun _ _=>by kernel_rfl) (fun k37=>Lk.of Lk.self (fun L H=>by kernel_rfl)))) Lk.self)) Lk.self) Lk.self) Lk.self) Lk.self) Lk.self) Lk.self) Lk.self) (fun L H=>by kernel_rfl)) H).trans (by kernel_rfl)
theorem zim:(aT Tryz.prog 53).f call [x0] H=zBp call x0 H :=
 (dB Tryz.func53 (by kernel_rfl) (D:=fun L H=>zq9 call (G L 0) H)
 (Lk.of (Lk.seq (Lk.seq (Lk.seq (Lk.cst qnu (fun x L H=>x call (G L 1) (G L 4) H) (Lk.of (Lk.seq (Lk.seq Lk.self (Lk.seq (Lk.block (Lk.loop (D:=fun k14 L H=>qqe call (fun x6 H=>q86 call x6 H) (G L 4) (G L 18) (G L 19) k14 (G L 6) (G L 20) H) (fun _ _=>by kernel_rfl) (fun k14=>Lk.of Lk.self (fun L H=>by kernel_rfl)))) Lk.self)) Lk.self) (fun L H=>by kernel_rfl))) Lk.self) Lk.self) Lk.self) (fun L H=>by kernel_rfl)) H).trans (by kernel_rfl)
theorem zhl:(aT Tryz.prog 97).f call [x0,x1,x2] H=zCz call x0 x1 x2 H :=
 (dB Tryz.func97 (by kernel_rfl) (D:=fun L H=>zqg call (G L 0) (G L 1) (G L 2) H)
 (Lk.of (Lk.seq (Lk.seq Lk.self (Lk.seq (Lk.block (Lk.loop (D:=fun k2 L H=>qto call (fun x6 x7 H=> .ok (.aZ [x6,x7]) H) (fun x6 H=>znl call x6 H) (G L 0) (G L 1) (G L 11) (G L 12) k2 (G L 6) (G L 13) H) (fun _ _=>by kernel_rfl) (fun k2=>Lk.of Lk.self (fun L H=>by kernel_rfl)))) Lk.self)) Lk.self) (fun L H=>by kernel_rfl)) H).trans (by kernel_rfl)
theorem zjq:(aT Tryz.prog 12).f call [x0,x1,x2] H=zAi call x0 x1 x2 H :=
 (dB Tryz.func12 (by kernel_rfl) (D:=fun L H=>zr3 call (G L 0) (G L 1) (G L 2) H)
 (Lk.of (Lk.seq (Lk.seq Lk.self (Lk.seq (Lk.block (Lk.loop (D:=fun k5 L H=>qt0 call (fun x6 x7 H=> .ok (.aZ [x6,x7]) H) (fun H=>za3 call H) (G L 1) (G L 2) (G L 11) (G L 12) k5 (G L 13) H) (fun _ _=>by kernel_rfl) (fun k5=>Lk.of Lk.self (fun L H=>by kernel_rfl)))) Lk.self)) Lk.self) (fun L H=>by kernel_rfl)) H).trans (by kernel_rfl)
theorem zjl:(aT Tryz.prog 15).f call [x0,x1,x2,x3] H=zAl call x0 x1 x2 x3 H :=
 (dB Tryz.func15 (by kernel_rfl) (D:=fun L H=>zr1 call (G L 0) (G L 1) (G L 2) (G L 3) H)
 (Lk.of (Lk.seq (Lk.seq (Lk.seq Lk.self (Lk.seq (Lk.block (Lk.loop (D:=fun k1 L H=>q1f call (fun x8 H=> .ok x8 H) (fun H=>zou call H) (G L 0) (G L 2) k1 (G L 9) H) (fun _ _=>by kernel_rfl) (fun k1=>Lk.of Lk.self (fun L H=>by kernel_rfl)))) Lk.self)) Lk.self) Lk.self) (fun L H=>by kernel_rfl)) H).trans (by kernel_rfl)
theorem zjd:(aT Tryz.prog 30).f call [x0,x1,x2] H=zAs call x0 x1 x2 H :=
 (dB Tryz.func30 (by kernel_rfl) (D:=fun L H=>zru call (G L 0) (G L 1) (G L 2) H)
 (Lk.of (Lk.seq (Lk.seq (Lk.seq Lk.self (Lk.seq (Lk.block (Lk.loop (D:=fun k4 L H=>q1e call (fun x6 H=> .ok x6 H) (fun H=>zah call H) (G L 1) (G L 2) (G L 7) k4 (G L 8) H) (fun _ _=>by kernel_rfl) (fun k4=>Lk.of Lk.self (fun L H=>by kernel_rfl)))) Lk.self)) Lk.self) Lk.self) (fun L H=>by kernel_rfl)) H).trans (by kernel_rfl)
theorem zhr:(aT Tryz.prog 104).f call [x0] H=zCt call x0 H :=
 (dB Tryz.func104 (by kernel_rfl) (D:=fun L H=>zqk call (G L 0) H)
 (Lk.of (Lk.seq (Lk.seq (Lk.seq Lk.self (Lk.seq (Lk.block (Lk.loop (D:=fun k2 L H=>q0o call (fun x2 H=> .ok x2 H) (fun H=>q7p call (G L 3) H) (G L 3) (G L 6) (G L 7) k2 (G L 8) H) (fun _ _=>by kernel_rfl) (fun k2=>Lk.of Lk.self (fun L H=>by kernel_rfl)))) Lk.self)) Lk.self) Lk.self) (fun L H=>by kernel_rfl)) H).trans (by kernel_rfl)
theorem zg6:(aT Tryz.prog 127).f call [x0,x1] H=zDo call x0 x1 H :=
 (dB Tryz.func127 (by kernel_rfl) (D:=fun L H=>zp4 call (G L 0) (G L 1) H)
 (Lk.of Lk.self (fun L H=>by kernel_rfl)) H).trans (by kernel_rfl)
theorem zh2:(aT Tryz.prog 93).f call [x0,x1,x2,x3] H=zCj call x0 x1 x2 x3 H :=
 (dB Tryz.func93 (by kernel_rfl) (D:=fun L H=>zqt call (G L 0) (G L 1) (G L 2) (G L 3) H)
 (Lk.of Lk.self (fun L H=>by kernel_rfl)) H).trans (by kernel_rfl)
theorem zhz:(aT Tryz.prog 98).f call [x0,x1,x2] H=zCm call x0 x1 x2 H :=
 (dB Tryz.func98 (by kernel_rfl) (D:=fun L H=>zqq call (G L 0) (G L 1) (G L 2) H)
 (Lk.of Lk.self (fun L H=>by kernel_rfl)) H).trans (by kernel_rfl)
theorem zic:(aT Tryz.prog 65).f call [x0,x1,x2] H=zBx call x0 x1 x2 H :=
 (dB Tryz.func65 (by kernel_rfl) (D:=fun L H=>zid call (G L 0) (G L 1) (G L 2) H)
 (Lk.of Lk.self (fun L H=>by kernel_rfl)) H).trans (by kernel_rfl)
theorem zg7:(aT Tryz.prog 128).f call [x0,x1] H=zDn call x0 x1 H :=
 (dB Tryz.func128 (by kernel_rfl) (D:=fun L H=>zp5 call (G L 0) (G L 1) H)
 (Lk.of Lk.self (fun L H=>by kernel_rfl)) H).trans (by kernel_rfl)
theorem zht:(aT Tryz.prog 105).f call [x0,x1] H=zCr call x0 x1 H :=
 (dB Tryz.func105 (by kernel_rfl) (D:=fun L H=>zqm call (G L 0) (G L 1) H)
 (Lk.of Lk.self (fun L H=>by kernel_rfl)) H).trans (by kernel_rfl)
theorem zi0:(aT Tryz.prog 39).f call [x0] H=zBd call x0 H :=
 (dB Tryz.func39 (by kernel_rfl) (D:=fun L H=>zi1 call (G L 0) H)
 (Lk.of Lk.self (fun L H=>by kernel_rfl)) H).trans (by kernel_rfl)
theorem zg9:(aT Tryz.prog 172).f call [x0] H=zDl call x0 H :=
 (dB Tryz.func172 (by kernel_rfl) (D:=fun L H=>zu4 call (G L 0) H)
 (Lk.of Lk.self (fun L H=>by kernel_rfl)) H).trans (by kernel_rfl)
theorem zjj:(aT Tryz.prog 25).f call [x0] H=zAn call x0 H :=
 (dB Tryz.func25 (by kernel_rfl) (D:=fun L H=>zrz call (G L 0) H)
 (Lk.of Lk.self (fun L H=>by kernel_rfl)) H).trans (by kernel_rfl)
theorem zhn:(aT Tryz.prog 123).f call [x0] H=zCx call x0 H :=
 (dB Tryz.func123 (by kernel_rfl) (D:=fun L H=>zqi call (G L 0) H)
 (Lk.of Lk.self (fun L H=>by kernel_rfl)) H).trans (by kernel_rfl)
theorem zit:(aT Tryz.prog 41).f call [x0] H=zBk call x0 H :=
 (dB Tryz.func41 (by kernel_rfl) (D:=fun L H=>zrd call (G L 0) H)
 (Lk.of Lk.self (fun L H=>by kernel_rfl)) H).trans (by kernel_rfl)
theorem zjf:(aT Tryz.prog 28).f call [x0] H=zAq call x0 H :=
 (dB Tryz.func28 (by kernel_rfl) (D:=fun L H=>zrx call (G L 0) H)
 (Lk.of Lk.self (fun L H=>by kernel_rfl)) H).trans (by kernel_rfl)
end Go.Di
end
noncomputable section
namespace Go.Di
open Go.Ev Go.Proofs
set_option maxRecDepth 100000
theorem Lk.range{P:Program}{d n:Nat}{call:Ev.Call}{K:Kt d}{f:Operand}{ps:Array Tmp}{sa bd:Code}(hn:(jV sa&&jV bd)=true) :
  Lk P d n call (.rangeFunc f ps sa bd) K (fun L H=>fin (endLoop H.nx (qhx call ((aI d n f).f L) [.yield H.nx] (aR H (.loop true none d n L ps.toList sa bd))) L) K):=fun L H=>by
 have e:den P d n (.rangeFunc f ps sa bd)=⟨fun call L H=>endLoop H.nx (qhx call ((aI d n f).f L) [.yield H.nx] (aR H (.loop true none d n L ps.toList sa bd))) L⟩:=by
  simp only[den,hn]
 rw[e]
def qls(n:Nat):Code->LP
 | .seq a b=>match qls n a with
  |⟨0,_,_,_⟩=>qls n b
  |p=>p
 | .block _ b=>qls n b
 | .rangeFunc _ ps sa bd=>⟨n,ps.toList,sa,bd⟩
 |_=>⟨0,[],.skip,.skip⟩
def LAc:LP:=qls 13 (codeOf Tryz.f190)
def LOc:LP:=qls 53 (codeOf Tryz.f48)
theorem qnl(call:Ev.Call)(x0 x1:AV)(H:Hp):(aT Tryz.prog 190).f call [x0,x1] H=jI LAc call x0 x1 H :=
 (qfl Tryz.func190 (by kernel_rfl) (by kernel_rfl) (by kernel_rfl) (by kernel_rfl) (D:=fun L H=>qg6 LAc call L (G L 0) (G L 1) H)
 (Lk.of (Lk.seq (Lk.seq (Lk.of (E:=fun L H=>qfs call (G L 2) H) Lk.self (fun L H=>by kernel_rfl)) (Lk.seq (Lk.block (Lk.of (E:=fun L H=>qg5 LAc call L (G L 6) H) (Lk.range (by kernel_rfl)) (fun L H=>by kernel_rfl))) Lk.self)) Lk.self) (fun L H=>by kernel_rfl)) H).trans (by kernel_rfl)
theorem zio(call:Ev.Call)(x0:AV)(H:Hp):(aT Tryz.prog 48).f call [x0] H=zBo LOc call x0 H :=
 (qfl Tryz.func48 (by kernel_rfl) (by kernel_rfl) (by kernel_rfl) (by kernel_rfl) (D:=fun L H=>zra LOc call L (G L 0) H)
 (Lk.of (Lk.seq (Lk.seq (Lk.of (E:=fun L H=>qxl LOc call L (G L 1) (G L 2) H) (Lk.seq (Lk.seq (Lk.of (E:=fun L H=>qkm LOc call L (G L 1) H) (Lk.seq (Lk.of (E:=fun L H=>qxo call (G L 2) (G L 5) H) Lk.self (fun L H=>by kernel_rfl)) (Lk.seq (Lk.block (Lk.of (E:=fun L H=>zin LOc call L (G L 25) H) (Lk.range (by kernel_rfl)) (fun L H=>by kernel_rfl))) Lk.self)) (fun L H=>by kernel_rfl)) Lk.self) Lk.self) (fun L H=>by kernel_rfl)) Lk.self) Lk.self) (fun L H=>by kernel_rfl)) H).trans (by kernel_rfl)
theorem qt7{P:Program}{call:Ev.Call}{l:Nat}{v:AV}{H:Hp}{L L1:TT AV 2}(p:LP)(h:H.get l=p.blk true L)(hps:(Nat.beq p.ps.length 1&&p.ps.all fun q=>Nat.blt q p.n)=true)
  (has:(den P 2 p.n p.aC).f call (qe6 ((setter 2 p.n).f L .undef) p.ps [v]) H= .ok .normal L1 H) :
  qgh P call l [v] H=endRound l ((den P 2 p.n p.bd).f call L1 (H.put l (p.blk false L))):=by
 unfold qgh
 have hl:([v]:List AV).length=1:=rfl
 simp only[h,LP.blk,hl,hps,cond_true,has]
theorem qjj(l:Nat)(r:Rc 2):endRound l r=fin r (fun e L H=>endRound l (.ok e L H)):=by cases r<;>rfl
theorem qnb(call:Ev.Call)(L:TT AV 2)(l:Nat)(v:AV)(H:Hp)(h:H.get l=LAc.blk true L):qgh Tryz.prog call l [v] H=dY call l L (G L 2) v (H.put l (LAc.blk false L)):=by
 rw[qt7 LAc h (by kernel_rfl) (L1:=(setter 2 5).f (qe6 ((setter 2 13).f L .undef) [7] [v]) v) (by kernel_rfl),qjj]
 exact(Lk.of (c:=LAc.bd) (P:=Tryz.prog) (n:=13) (E:=fun M H=>dY call l L (G M 2) (G M 5) H) Lk.self (fun M H=>by kernel_rfl) _ _).trans (by kernel_rfl)
theorem q88(call:Ev.Call)(L:TT AV 2)(l:Nat)(v:AV)(H:Hp)(h:H.get l=LOc.blk true L):qgh Tryz.prog call l [v] H=rC call l L (G L 5) v (H.put l (LOc.blk false L)):=by
 rw[qt7 LOc h (by kernel_rfl) (L1:=(setter 2 6).f (qe6 ((setter 2 53).f L .undef) [26] [v]) v) (by kernel_rfl),qjj]
 have key:Lk Tryz.prog 2 53 call LOc.bd (fun e L H=>endRound l (.ok e L H)) (fun M H=>rC call l L (G M 5) (G M 6) H) :=
  Lk.of (c:=LOc.bd) (Lk.block (Lk.seq (Lk.of (E:=fun M H=>qgo call l L (G M 5) (G M 6) H) Lk.self (fun M H=>by kernel_rfl)) (Lk.seq (Lk.block (Lk.of (E:=fun M H=>qxq call (fun H=>qgo call l L (G M 5) (G M 6) H) (G M 5) (G M 27) (G M 28) (G M 29) H) (Lk.loop (D:=fun k27 M H=>qh7 call (fun H=>qgo call l L (G M 5) (G M 6) H) (G M 5) (G M 27) (G M 28) k27 (G M 29) H) (fun _ _=>by kernel_rfl) (fun k27=>Lk.of (Lk.seq (Lk.seq (Lk.of (E:=fun M H=>qxm call (fun x29 H=>qh7 call (fun H=>qgo call l L (G M 5) (G M 6) H) (G M 5) (G M 27) (G M 28) k27 x29 H) (G M 5) (G M 27) (G M 29) H) (Lk.seq (Lk.of (E:=fun M H=>qxn call (fun x29 H=>qh7 call (fun H=>qgo call l L (G M 5) (G M 6) H) (G M 5) (G M 27) (G M 28) k27 x29 H) (G M 29) H) Lk.self (fun M H=>by kernel_rfl)) Lk.self) (fun M H=>by kernel_rfl)) Lk.self) Lk.self) (fun M H=>by kernel_rfl))) (fun _ _=>by kernel_rfl))) Lk.self))) (fun M H=>by kernel_rfl)
 exact(key _ _).trans (by kernel_rfl)
end Go.Di
end
