/-
 For FitsCheck: the direct functions are what the evaluator computes, part 1. No conditions beyond those that each theorem states.
-/
import Derived.Test.YtbfjjkjiokfdgaaGreatConB
import Derived.Test.YtbfjjkjiokfdgaaGreatConC
import Derived.Test.YtbfjjkjiokfdgaaGreatProg
import Derived.KernelRfl
set_option linter.unusedSimpArgs false
set_option linter.unusedVariables false
noncomputable section
namespace Go.Di
open Go.Ev Go.Proofs
set_option maxRecDepth 100000
variable (call:Ev.Call) (x0 x1 x2 x3 x4 x5 x6 x7:AV) (H:Hp)
def qpg(call:Ev.Call)(k5:Nat)(k8:Nat)(L:TT AV (iE (Tryz.f24.ntmps+1))):=fun x10 H=>ql5 call (fun H=>ql7 call (fun x8 H=>qi1 call (fun H=>qo6 call (G L 2) (G L 3) H) (G L 3) k5 x8 H) (G L 8) H) (G L 9) k8 x10 H
def qpf(call:Ev.Call)(k61:Nat)(L:TT AV (iE (Tryz.f24.ntmps+1))):=fun x4 H=>qi0 call (fun H=>ql6 call (G L 2) (G L 3) H) (G L 1) (G L 3) k61 x4 H
def qpe(call:Ev.Call)(k5:Nat)(L:TT AV (iE (Tryz.f24.ntmps+1))):=fun x8 H=>qi1 call (fun H=>qo6 call (G L 2) (G L 3) H) (G L 3) k5 x8 H
def zcq(call:Ev.Call)(k5:Nat)(k8:Nat)(L:TT AV (iE (Tryz.f24.ntmps+1))):=fun bO H=>qzw call (qpg call k5 k8 L) (G L 9) (G L 10) bO H
def zcp(call:Ev.Call)(k5:Nat)(k8:Nat)(k16:Nat)(L:TT AV (iE (Tryz.f24.ntmps+1))):=fun bO bK H=>ql4 call (zcq call k5 k8 L) (G L 9) (G L 10) k16 bO bK H
theorem zk1:(aR Tryz.prog 24).f call [x0] H=zAc call x0 H:=
 (dU Tryz.func24 (by kernel_rfl) (D:=fun L H=>zti call (G L 0) H)
 (Lk.of (Lk.seq (Lk.seq (Lk.cst ql1 (fun x L H=>x call (G L 1) (G L 2) (G L 3) H) (Lk.of (Lk.seq (Lk.cst qo8 (fun x L H=>x call (G L 2) (G L 3) H) (Lk.of (Lk.seq (Lk.cst qul (fun x L H=>x call (G L 2) (G L 3) H) (Lk.of Lk.self (fun L H=>by kernel_rfl))) (Lk.seq (Lk.block (Lk.loop (D:=fun k5 L H=>qi1 call (fun H=>qo6 call (G L 2) (G L 3) H) (G L 3) k5 (G L 8) H) (fun _ _=>by kernel_rfl) (fun k5=>Lk.of (Lk.seq (Lk.cst qo9 (fun x L H=>x call (qpe call k5 L) (G L 3) (G L 8) H) (Lk.of (Lk.seq (Lk.cst qpd (fun x L H=>x call (qpe call k5 L) (G L 8) H) (Lk.of Lk.self (fun L H=>by kernel_rfl))) (Lk.block (Lk.seq (Lk.cst qo1 (fun x L H=>x call (qpe call k5 L) (G L 8) (G L 9) H) (Lk.of (Lk.seq (Lk.block (Lk.loop (D:=fun k8 L H=>ql5 call (fun H=>ql7 call (qpe call k5 L) (G L 8) H) (G L 9) k8 (G L 10) H) (fun _ _=>by kernel_rfl) (fun k8=>Lk.of (Lk.seq (Lk.cst qpa (fun x L H=>x call (qpg call k5 k8 L) (G L 9) (G L 10) H) (Lk.of (Lk.seq (Lk.cst qi4 (fun x L H=>x call (qpg call k5 k8 L) (G L 10) H) (Lk.of Lk.self (fun L H=>by kernel_rfl))) (Lk.block (Lk.seq (Lk.cst qo3 (fun x L H=>x call (qpg call k5 k8 L) (G L 9) (G L 10) (G L 11) H) (Lk.of (Lk.seq (Lk.cst qpc (fun x L H=>x call (qpg call k5 k8 L) (G L 9) (G L 10) (G L 11) H) (Lk.of Lk.self (fun L H=>by kernel_rfl))) (Lk.seq (Lk.block (Lk.loop (D:=fun k16 L H=>ql4 call (zcq call k5 k8 L) (G L 9) (G L 10) k16 (G L 11) (G L 12) H) (fun _ _=>by kernel_rfl) (fun k16=>Lk.of (Lk.seq (Lk.cst qpb (fun x L H=>x call (zcp call k5 k8 k16 L) (G L 9) (G L 10) (G L 11) (G L 12) H) (Lk.of (Lk.seq (Lk.cst qi3 (fun x L H=>x call (zcp call k5 k8 k16 L) (G L 11) (G L 12) H) (Lk.of Lk.self (fun L H=>by kernel_rfl))) Lk.self) (fun L H=>by kernel_rfl))) (Lk.seq (Lk.cst qo4 (fun x L H=>x call (zcp call k5 k8 k16 L) (zcq call k5 k8 L) (G L 9) (G L 10) (G L 11) (G L 12) (G L 90) H) (Lk.of Lk.self (fun L H=>by kernel_rfl))) Lk.self)) (fun L H=>by kernel_rfl)))) Lk.self)) (fun L H=>by kernel_rfl))) Lk.self))) (fun L H=>by kernel_rfl))) (Lk.seq (Lk.cst qo2 (fun x L H=>x call (qpg call k5 k8 L) (fun H=>ql7 call (qpe call k5 L) (G L 8) H) (G L 9) (G L 10) (G L 78) H) (Lk.of Lk.self (fun L H=>by kernel_rfl))) Lk.self)) (fun L H=>by kernel_rfl)))) Lk.self) (fun L H=>by kernel_rfl))) Lk.self))) (fun L H=>by kernel_rfl))) (Lk.seq (Lk.cst qo0 (fun x L H=>x call (qpe call k5 L) (fun H=>qo6 call (G L 2) (G L 3) H) (G L 3) (G L 8) (G L 66) H) (Lk.of Lk.self (fun L H=>by kernel_rfl))) Lk.self)) (fun L H=>by kernel_rfl)))) Lk.self)) (fun L H=>by kernel_rfl))) (Lk.seq (Lk.block (Lk.loop (D:=fun k61 L H=>qi0 call (fun H=>ql6 call (G L 2) (G L 3) H) (G L 1) (G L 3) k61 (G L 4) H) (fun _ _=>by kernel_rfl) (fun k61=>Lk.of (Lk.seq (Lk.cst qg3 (fun x L H=>x call (qpf call k61 L) (G L 1) (G L 3) (G L 4) H) (Lk.of (Lk.seq (Lk.cst qo7 (fun x L H=>x call (qpf call k61 L) (G L 4) H) (Lk.of Lk.self (fun L H=>by kernel_rfl))) (Lk.block (Lk.seq (Lk.cst qo5 (fun x L H=>x call (qpf call k61 L) (G L 1) (G L 3) (G L 4) H) (Lk.of (Lk.seq (Lk.cst qoy (fun x L H=>x call (qpf call k61 L) (G L 1) (G L 3) (G L 4) (G L 5) H) (Lk.of (Lk.seq (Lk.cst qoz (fun x L H=>x call (qpf call k61 L) (G L 1) (G L 4) (G L 5) (G L 7) H) (Lk.of Lk.self (fun L H=>by kernel_rfl))) Lk.self) (fun L H=>by kernel_rfl))) Lk.self) (fun L H=>by kernel_rfl))) Lk.self))) (fun L H=>by kernel_rfl))) (Lk.seq (Lk.cst ql3 (fun x L H=>x call (qpf call k61 L) (fun H=>ql6 call (G L 2) (G L 3) H) (G L 1) (G L 3) (G L 4) (G L 19) H) (Lk.of Lk.self (fun L H=>by kernel_rfl))) Lk.self)) (fun L H=>by kernel_rfl)))) Lk.self)) (fun L H=>by kernel_rfl))) Lk.self) Lk.self) (fun L H=>by kernel_rfl)) H).trans (by kernel_rfl)
theorem zhv:(aR Tryz.prog 106).f call [x0,x1] H=zEv call x0 x1 H:=
 (lJ Tryz.func106 (by kernel_rfl) (by kernel_rfl) (by kernel_rfl) (by kernel_rfl) (D:=fun L H=>zqu call (G L 0) (G L 1) H)
 (Lk.of (Lk.seq (Lk.seq (Lk.of (E:=fun L H=>qjw call (G L 0) (G L 1) H) (Lk.seq (Lk.of (E:=fun L H=>q7n call (G L 0) (G L 1) H) (Lk.seq (Lk.of (E:=fun L H=>zod call H) Lk.self (fun L H=>by kernel_rfl)) Lk.self) (fun L H=>by kernel_rfl)) Lk.self) (fun L H=>by kernel_rfl)) (Lk.seq (Lk.block (Lk.of (E:=fun L H=>q7p call (fun x4 H=>.ok x4 H) (fun H=>qjw call (G L 0) (G L 1) H) (G L 0) (G L 1) (G L 5) H) (Lk.loop (D:=fun k9 L H=>qk8 call (fun x4 H=>.ok x4 H) (fun H=>qjw call (G L 0) (G L 1) H) (G L 0) (G L 1) k9 (G L 5) H) (fun _ _=>by kernel_rfl) (fun k9=>Lk.of (Lk.seq (Lk.of (E:=fun L H=>qxd call (fun x4 H=>.ok x4 H) (fun x5 H=>qk8 call (fun x4 H=>.ok x4 H) (fun H=>qjw call (G L 0) (G L 1) H) (G L 0) (G L 1) k9 x5 H) (G L 0) (G L 1) (G L 5) H) (Lk.seq (Lk.of (E:=fun L H=>qxf call (fun x5 H=>qk8 call (fun x4 H=>.ok x4 H) (fun H=>qjw call (G L 0) (G L 1) H) (G L 0) (G L 1) k9 x5 H) (G L 5) H) Lk.self (fun L H=>by kernel_rfl)) (Lk.block (Lk.seq (Lk.of (E:=fun L H=>qxe call (fun x4 H=>.ok x4 H) (fun x5 H=>qk8 call (fun x4 H=>.ok x4 H) (fun H=>qjw call (G L 0) (G L 1) H) (G L 0) (G L 1) k9 x5 H) (G L 0) (G L 1) (G L 5) H) Lk.self (fun L H=>by kernel_rfl)) Lk.self))) (fun L H=>by kernel_rfl)) Lk.self) (fun L H=>by kernel_rfl))) (fun _ _=>by kernel_rfl))) Lk.self)) Lk.self) (fun L H=>by kernel_rfl)) H).trans (by kernel_rfl)
theorem zih:(aR Tryz.prog 17).f call [x0,x1] H=zEa call x0 x1 H:=
 (lJ Tryz.func17 (by kernel_rfl) (by kernel_rfl) (by kernel_rfl) (by kernel_rfl) (D:=fun L H=>zrf call (G L 0) (G L 1) H)
 (Lk.of (Lk.seq (Lk.seq (Lk.of (E:=fun L H=>qxw call (G L 1) (G L 2) (G L 4) (G L 5) H) (Lk.seq (Lk.seq (Lk.of (E:=fun L H=>qlc call (G L 4) (G L 5) H) Lk.self (fun L H=>by kernel_rfl)) (Lk.seq (Lk.block (Lk.of (E:=fun L H=>q8b call (fun x4 x5 H=>qlc call x4 x5 H) (G L 8) (G L 18) (G L 19) (G L 4) (G L 5) (G L 20) H) (Lk.loop (D:=fun k7 L H=>qoi call (fun x4 x5 H=>qlc call x4 x5 H) (G L 8) (G L 18) (G L 19) k7 (G L 4) (G L 5) (G L 20) H) (fun _ _=>by kernel_rfl) (fun k7=>Lk.of (Lk.seq (Lk.seq (Lk.of (E:=fun L H=>qxx call (fun x4 x5 x20 H=>qoi call (fun x4 x5 H=>qlc call x4 x5 H) (G L 8) (G L 18) (G L 19) k7 x4 x5 x20 H) (G L 4) (G L 5) (G L 8) (G L 18) (G L 20) H) (Lk.seq (Lk.of (E:=fun L H=>qld call (fun x4 x5 x20 H=>qoi call (fun x4 x5 H=>qlc call x4 x5 H) (G L 8) (G L 18) (G L 19) k7 x4 x5 x20 H) (G L 4) (G L 5) (G L 20) H) Lk.self (fun L H=>by kernel_rfl)) Lk.self) (fun L H=>by kernel_rfl)) Lk.self) Lk.self) (fun L H=>by kernel_rfl))) (fun _ _=>by kernel_rfl))) Lk.self)) Lk.self) (fun L H=>by kernel_rfl)) Lk.self) Lk.self) (fun L H=>by kernel_rfl)) H).trans (by kernel_rfl)
theorem zh7:(aR Tryz.prog 54).f call [x0,x1] H=zEj call x0 x1 H:=
 (lJ Tryz.func54 (by kernel_rfl) (by kernel_rfl) (by kernel_rfl) (by kernel_rfl) (D:=fun L H=>zq6 call (G L 0) (G L 1) H)
 (Lk.of (Lk.seq (Lk.seq (Lk.of (E:=fun L H=>qk9 call H) Lk.self (fun L H=>by kernel_rfl)) (Lk.seq (Lk.block (Lk.of (E:=fun L H=>q70 call (fun x4 H=>.ok x4 H) (fun H=>qk9 call H) (G L 0) (G L 3) (G L 5) H) (Lk.loop (D:=fun k2 L H=>qoc call (fun x4 H=>.ok x4 H) (fun H=>qk9 call H) (G L 0) (G L 3) k2 (G L 5) H) (fun _ _=>by kernel_rfl) (fun k2=>Lk.of (Lk.seq (Lk.of (E:=fun L H=>q7x call (fun x4 H=>.ok x4 H) (fun x5 H=>qoc call (fun x4 H=>.ok x4 H) (fun H=>qk9 call H) (G L 0) (G L 3) k2 x5 H) (G L 0) (G L 3) (G L 5) H) (Lk.seq (Lk.of (E:=fun L H=>q7y call (fun x5 H=>qoc call (fun x4 H=>.ok x4 H) (fun H=>qk9 call H) (G L 0) (G L 3) k2 x5 H) (G L 5) H) Lk.self (fun L H=>by kernel_rfl)) Lk.self) (fun L H=>by kernel_rfl)) Lk.self) (fun L H=>by kernel_rfl))) (fun _ _=>by kernel_rfl))) Lk.self)) Lk.self) (fun L H=>by kernel_rfl)) H).trans (by kernel_rfl)
theorem zjb:(aR Tryz.prog 150).f call [x0,x1] H=zCu call x0 x1 H:=
 (dU Tryz.func150 (by kernel_rfl) (D:=fun L H=>zwm call (G L 0) (G L 1) H)
 (Lk.of (Lk.scope (Lk.seq (Lk.seq (Lk.seq (Lk.block (Lk.loop (D:=fun k3 L H=>qot call (fun H=>.ok (.bG []) H) (G L 0) k3 (G L 4) H) (fun _ _=>by kernel_rfl) (fun k3=>Lk.of (Lk.seq (Lk.block (Lk.seq (Lk.seq Lk.self (Lk.block (Lk.loop (D:=fun k42 L H=>qq0 call (fun x4 H=>qot call (fun H=>.ok (.bG []) H) (G L 0) k3 x4 H) (fun x4 H=>qq1 call (fun x4 H=>qot call (fun H=>.ok (.bG []) H) (G L 0) k3 x4 H) (G L 0) x4 (G L 5) H) (G L 0) (G L 5) k42 (G L 4) H) (fun _ _=>by kernel_rfl) (fun k42=>Lk.of (Lk.seq (Lk.block (Lk.seq (Lk.seq (Lk.seq Lk.self Lk.self) Lk.self) Lk.self)) Lk.self) (fun L H=>by kernel_rfl))))) Lk.self)) Lk.self) (fun L H=>by kernel_rfl)))) Lk.self) Lk.self) Lk.self)) (fun L H=>by kernel_rfl)) H).trans (by kernel_rfl)
theorem zj5:(aR Tryz.prog 108).f call [x0] H=zBr call x0 H:=
 (dU Tryz.func108 (by kernel_rfl) (D:=fun L H=>zsr call (G L 0) H)
 (Lk.of (Lk.seq (Lk.seq (Lk.seq Lk.self (Lk.seq (Lk.block (Lk.loop (D:=fun k10 L H=>qlr call (fun H=>zar call (G L 3) H) (G L 3) (G L 16) (G L 17) k10 (G L 18) H) (fun _ _=>by kernel_rfl) (fun k10=>Lk.of (Lk.seq (Lk.seq (Lk.seq Lk.self (Lk.block (Lk.seq (Lk.seq (Lk.seq (Lk.block (Lk.loop (D:=fun k31 L H=>qrb call (fun H=>qyx call (fun x18 H=>qlr call (fun H=>zar call (G L 3) H) (G L 3) (G L 16) (G L 17) k10 x18 H) (G L 18) H) (G L 3) (G L 5) (G L 32) k31 (G L 33) H) (fun _ _=>by kernel_rfl) (fun k31=>Lk.of Lk.self (fun L H=>by kernel_rfl)))) Lk.self) Lk.self) Lk.self))) Lk.self) Lk.self) (fun L H=>by kernel_rfl)))) Lk.self)) Lk.self) Lk.self) (fun L H=>by kernel_rfl)) H).trans (by kernel_rfl)
theorem zjh:(aR Tryz.prog 140).f call [x0,x1,x2,x3,x4,x5,x6] H=zCo call x0 x1 x2 x3 x4 x5 x6 H:=
 (dU Tryz.func140 (by kernel_rfl) (D:=fun L H=>zji call (G L 0) (G L 1) (G L 2) (G L 3) (G L 4) (G L 5) (G L 6) H)
 (Lk.of (Lk.seq (Lk.seq (Lk.seq (Lk.seq (Lk.seq (Lk.seq (Lk.seq (Lk.seq Lk.self (Lk.seq (Lk.block (Lk.loop (D:=fun k37 L H=>qq2 call (fun x10 H=>.ok x10 H) (fun bK H=>qll call (G L 3) (G L 11) bK H) (G L 0) (G L 1) (G L 2) (G L 3) (G L 6) (G L 51) k37 (G L 12) (G L 52) H) (fun _ _=>by kernel_rfl) (fun k37=>Lk.of Lk.self (fun L H=>by kernel_rfl)))) Lk.self)) Lk.self) Lk.self) Lk.self) Lk.self) Lk.self) Lk.self) Lk.self) (fun L H=>by kernel_rfl)) H).trans (by kernel_rfl)
theorem ziq:(aR Tryz.prog 198).f call [x0,x1] H=zDp call x0 x1 H:=
 (dU Tryz.func198 (by kernel_rfl) (D:=fun L H=>zrn call (G L 0) (G L 1) H)
 (Lk.of (Lk.seq (Lk.seq Lk.self (Lk.seq (Lk.block (Lk.loop (D:=fun k2 L H=>q1o call (fun x4 H=>.ok x4 H) (fun H=>q8l call H) (G L 0) (G L 1) (G L 7) k2 (G L 8) H) (fun _ _=>by kernel_rfl) (fun k2=>Lk.of Lk.self (fun L H=>by kernel_rfl)))) Lk.self)) Lk.self) (fun L H=>by kernel_rfl)) H).trans (by kernel_rfl)
theorem zki:(aR Tryz.prog 77).f call [x0,x1,x2,x3] H=zBf call x0 x1 x2 x3 H:=
 (dU Tryz.func77 (by kernel_rfl) (D:=fun L H=>zs4 call (G L 0) (G L 1) (G L 2) (G L 3) H)
 (Lk.of (Lk.seq (Lk.seq (Lk.seq Lk.self (Lk.seq (Lk.block (Lk.loop (D:=fun k12 L H=>qrh call (fun x9 H=>zbf call (G L 2) (G L 8) x9 H) (G L 1) (G L 3) (G L 4) k12 (G L 9) (G L 10) H) (fun _ _=>by kernel_rfl) (fun k12=>Lk.of Lk.self (fun L H=>by kernel_rfl)))) Lk.self)) Lk.self) Lk.self) (fun L H=>by kernel_rfl)) H).trans (by kernel_rfl)
theorem zkn:(aR Tryz.prog 81).f call [x0,x1,x2] H=zAz call x0 x1 x2 H:=
 (dU Tryz.func81 (by kernel_rfl) (D:=fun L H=>zko call (G L 0) (G L 1) (G L 2) H)
 (Lk.of (Lk.seq (Lk.seq (Lk.seq (Lk.seq (Lk.seq Lk.self (Lk.seq (Lk.block (Lk.loop (D:=fun k15 L H=>qrj call (fun x0 x8 H=>qrl call x0 (G L 7) x8 H) (G L 2) (G L 4) k15 (G L 0) (G L 8) (G L 9) H) (fun _ _=>by kernel_rfl) (fun k15=>Lk.of Lk.self (fun L H=>by kernel_rfl)))) Lk.self)) Lk.self) Lk.self) Lk.self) Lk.self) (fun L H=>by kernel_rfl)) H).trans (by kernel_rfl)
theorem zkv:(aR Tryz.prog 49).f call [x0,x1,x2,x3,x4] H=zAp call x0 x1 x2 x3 x4 H:=
 (dU Tryz.func49 (by kernel_rfl) (D:=fun L H=>zkw call (G L 0) (G L 1) (G L 2) (G L 3) (G L 4) H)
 (Lk.of (Lk.seq (Lk.seq (Lk.seq (Lk.seq (Lk.seq (Lk.seq (Lk.of (E:=fun L H=>qg2 call (G L 1) (G L 2) (G L 3) (G L 4) (G L 5) (G L 10) (G L 13) H) Lk.self (fun L H=>by kernel_rfl)) Lk.self) Lk.self) Lk.self) Lk.self) Lk.self) Lk.self) (fun L H=>by kernel_rfl)) H).trans (by kernel_rfl)
theorem zjc:(aR Tryz.prog 93).f call [x0] H=zCt call x0 H:=
 (dU Tryz.func93 (by kernel_rfl) (D:=fun L H=>zr4 call (G L 0) H)
 (Lk.of (Lk.seq (Lk.seq (Lk.seq Lk.self (Lk.seq (Lk.block (Lk.loop (D:=fun k2 L H=>q1y call (fun x2 H=>.ok x2 H) (fun H=>q9f call (G L 3) H) (G L 3) (G L 6) (G L 7) k2 (G L 8) H) (fun _ _=>by kernel_rfl) (fun k2=>Lk.of Lk.self (fun L H=>by kernel_rfl)))) Lk.self)) Lk.self) Lk.self) (fun L H=>by kernel_rfl)) H).trans (by kernel_rfl)
theorem zhw:(aR Tryz.prog 105).f call [x0,x1] H=zEu call x0 x1 H:=
 (lJ Tryz.func105 (by kernel_rfl) (by kernel_rfl) (by kernel_rfl) (by kernel_rfl) (D:=fun L H=>zqv call (G L 0) (G L 1) H)
 (Lk.of (Lk.seq (Lk.seq (Lk.of (E:=fun L H=>q7q call (G L 2) (G L 3) H) Lk.self (fun L H=>by kernel_rfl)) Lk.self) Lk.self) (fun L H=>by kernel_rfl)) H).trans (by kernel_rfl)
theorem zh6:(aR Tryz.prog 55).f call [x0,x1] H=zEk call x0 x1 H:=
 (lJ Tryz.func55 (by kernel_rfl) (by kernel_rfl) (by kernel_rfl) (by kernel_rfl) (D:=fun L H=>zq5 call (G L 0) (G L 1) H)
 (Lk.of (Lk.seq (Lk.seq (Lk.of (E:=fun L H=>q7w call (G L 2) (G L 3) H) Lk.self (fun L H=>by kernel_rfl)) Lk.self) Lk.self) (fun L H=>by kernel_rfl)) H).trans (by kernel_rfl)
theorem zh3:(aR Tryz.prog 64).f call [x0] H=zEn call x0 H:=
 (lJ Tryz.func64 (by kernel_rfl) (by kernel_rfl) (by kernel_rfl) (by kernel_rfl) (D:=fun L H=>zq2 call (G L 0) H)
 (Lk.of (Lk.seq (Lk.seq (Lk.of (E:=fun L H=>q7v call (G L 1) H) Lk.self (fun L H=>by kernel_rfl)) Lk.self) Lk.self) (fun L H=>by kernel_rfl)) H).trans (by kernel_rfl)
theorem zjl:(aR Tryz.prog 136).f call [x0,x1,x2,x3] H=zCl call x0 x1 x2 x3 H:=
 (dU Tryz.func136 (by kernel_rfl) (D:=fun L H=>zsb call (G L 0) (G L 1) (G L 2) (G L 3) H)
 (Lk.of Lk.self (fun L H=>by kernel_rfl)) H).trans (by kernel_rfl)
theorem zjg:(aR Tryz.prog 142).f call [x0] H=zCp call x0 H:=
 (dU Tryz.func142 (by kernel_rfl) (D:=fun L H=>zr8 call (G L 0) H)
 (Lk.of Lk.self (fun L H=>by kernel_rfl)) H).trans (by kernel_rfl)
theorem zjf:(aR Tryz.prog 143).f call [x0] H=zCq call x0 H:=
 (dU Tryz.func143 (by kernel_rfl) (D:=fun L H=>zr7 call (G L 0) H)
 (Lk.of Lk.self (fun L H=>by kernel_rfl)) H).trans (by kernel_rfl)
theorem zic:(aR Tryz.prog 40).f call [x0] H=zEe call x0 H:=
 (lJ Tryz.func40 (by kernel_rfl) (by kernel_rfl) (by kernel_rfl) (by kernel_rfl) (D:=fun L H=>zrb call (G L 0) H)
 (Lk.of Lk.self (fun L H=>by kernel_rfl)) H).trans (by kernel_rfl)
theorem zh5:(aR Tryz.prog 67).f call [x0] H=zEl call x0 H:=
 (lJ Tryz.func67 (by kernel_rfl) (by kernel_rfl) (by kernel_rfl) (by kernel_rfl) (D:=fun L H=>zq4 call (G L 0) H)
 (Lk.of Lk.self (fun L H=>by kernel_rfl)) H).trans (by kernel_rfl)
theorem zje:(aR Tryz.prog 144).f call [x0,x1] H=zCr call x0 x1 H:=
 (dU Tryz.func144 (by kernel_rfl) (D:=fun L H=>zr6 call (G L 0) (G L 1) H)
 (Lk.of Lk.self (fun L H=>by kernel_rfl)) H).trans (by kernel_rfl)
theorem ziy:(aR Tryz.prog 167).f call [x0,x1] H=zDg call x0 x1 H:=
 (dU Tryz.func167 (by kernel_rfl) (D:=fun L H=>zru call (G L 0) (G L 1) H)
 (Lk.of Lk.self (fun L H=>by kernel_rfl)) H).trans (by kernel_rfl)
theorem ziu:(aR Tryz.prog 212).f call [x0] H=zDl call x0 H:=
 (dU Tryz.func212 (by kernel_rfl) (D:=fun L H=>zwk call (G L 0) H)
 (Lk.of Lk.self (fun L H=>by kernel_rfl)) H).trans (by kernel_rfl)
theorem zka:(aR Tryz.prog 88).f call [x0] H=zBn call x0 H:=
 (dU Tryz.func88 (by kernel_rfl) (D:=fun L H=>zwt call (G L 0) H)
 (Lk.of Lk.self (fun L H=>by kernel_rfl)) H).trans (by kernel_rfl)
theorem zkg:(aR Tryz.prog 79).f call [x0] H=zBh call x0 H:=
 (dU Tryz.func79 (by kernel_rfl) (D:=fun L H=>zs1 call (G L 0) H)
 (Lk.of Lk.self (fun L H=>by kernel_rfl)) H).trans (by kernel_rfl)
theorem zj0:(aR Tryz.prog 110).f call [x0] H=zBw call x0 H:=
 (dU Tryz.func110 (by kernel_rfl) (D:=fun L H=>zsn call (G L 0) H)
 (Lk.of Lk.self (fun L H=>by kernel_rfl)) H).trans (by kernel_rfl)
theorem zid:(aR Tryz.prog 26).f call [x0] H=zEd call x0 H:=
 (lJ Tryz.func26 (by kernel_rfl) (by kernel_rfl) (by kernel_rfl) (by kernel_rfl) (D:=fun L H=>zrc call (G L 0) H)
 (Lk.of (Lk.seq (Lk.seq (Lk.seq (Lk.of (E:=fun L H=>yG call (G L 3) H) Lk.self (fun L H=>by kernel_rfl)) (Lk.seq (Lk.block (Lk.of (E:=fun L H=>q75 call (fun x3 H=>yG call x3 H) (G L 0) (G L 3) (G L 4) H) (Lk.loop (D:=fun k1 L H=>yR call (fun x3 H=>yG call x3 H) (G L 0) k1 (G L 3) (G L 4) H) (fun _ _=>by kernel_rfl) (fun k1=>Lk.of (Lk.seq (Lk.of (E:=fun L H=>qxo call (fun x3 x4 H=>yR call (fun x3 H=>yG call x3 H) (G L 0) k1 x3 x4 H) (G L 0) (G L 3) (G L 4) H) (Lk.seq (Lk.of (E:=fun L H=>qod call (fun x3 x4 H=>yR call (fun x3 H=>yG call x3 H) (G L 0) k1 x3 x4 H) (G L 3) (G L 4) H) Lk.self (fun L H=>by kernel_rfl)) (Lk.block (Lk.seq (Lk.of (E:=fun L H=>qxp call (fun x3 x4 H=>yR call (fun x3 H=>yG call x3 H) (G L 0) k1 x3 x4 H) (G L 0) (G L 3) (G L 4) H) (Lk.seq (Lk.seq (Lk.seq (Lk.of (E:=fun L H=>qfg call (fun x3 x4 H=>yR call (fun x3 H=>yG call x3 H) (G L 0) k1 x3 x4 H) (G L 0) (G L 4) (G L 5) (G L 6) H) (Lk.seq (Lk.of (E:=fun L H=>qt7 call (fun x3 x4 H=>yR call (fun x3 H=>yG call x3 H) (G L 0) k1 x3 x4 H) (G L 4) (G L 5) H) Lk.self (fun L H=>by kernel_rfl)) Lk.self) (fun L H=>by kernel_rfl)) (Lk.seq (Lk.block (Lk.of (E:=fun L H=>qxt call (fun x5 x6 H=>qfg call (fun x3 x4 H=>yR call (fun x3 H=>yG call x3 H) (G L 0) k1 x3 x4 H) (G L 0) (G L 4) x5 x6 H) (G L 0) (G L 3) (G L 4) (G L 5) (G L 6) (G L 7) H) (Lk.loop (D:=fun k11 L H=>qff call (fun x5 x6 H=>qfg call (fun x3 x4 H=>yR call (fun x3 H=>yG call x3 H) (G L 0) k1 x3 x4 H) (G L 0) (G L 4) x5 x6 H) (G L 0) (G L 3) (G L 4) k11 (G L 5) (G L 6) (G L 7) H) (fun _ _=>by kernel_rfl) (fun k11=>Lk.of (Lk.seq (Lk.of (E:=fun L H=>qxq call (fun x5 x6 x7 H=>qff call (fun x5 x6 H=>qfg call (fun x3 x4 H=>yR call (fun x3 H=>yG call x3 H) (G L 0) k1 x3 x4 H) (G L 0) (G L 4) x5 x6 H) (G L 0) (G L 3) (G L 4) k11 x5 x6 x7 H) (G L 0) (G L 3) (G L 4) (G L 5) (G L 6) (G L 7) H) (Lk.seq (Lk.of (E:=fun L H=>qxr call (fun x5 x6 x7 H=>qff call (fun x5 x6 H=>qfg call (fun x3 x4 H=>yR call (fun x3 H=>yG call x3 H) (G L 0) k1 x3 x4 H) (G L 0) (G L 4) x5 x6 H) (G L 0) (G L 3) (G L 4) k11 x5 x6 x7 H) (G L 5) (G L 6) (G L 7) H) Lk.self (fun L H=>by kernel_rfl)) (Lk.block (Lk.seq (Lk.of (E:=fun L H=>qlb call (fun x5 x6 x7 H=>qff call (fun x5 x6 H=>qfg call (fun x3 x4 H=>yR call (fun x3 H=>yG call x3 H) (G L 0) k1 x3 x4 H) (G L 0) (G L 4) x5 x6 H) (G L 0) (G L 3) (G L 4) k11 x5 x6 x7 H) (G L 3) (G L 5) (G L 6) (G L 7) H) Lk.self (fun L H=>by kernel_rfl)) Lk.self))) (fun L H=>by kernel_rfl)) Lk.self) (fun L H=>by kernel_rfl))) (fun _ _=>by kernel_rfl))) Lk.self)) Lk.self) Lk.self) (fun L H=>by kernel_rfl)) Lk.self))) (fun L H=>by kernel_rfl)) Lk.self) (fun L H=>by kernel_rfl))) (fun _ _=>by kernel_rfl))) Lk.self)) Lk.self) Lk.self) (fun L H=>by kernel_rfl)) H).trans (by kernel_rfl)
def qud(call:Ev.Call)(k1:Nat)(L:TT AV (iE (Tryz.f135.ntmps+1))):=fun bK H=>qop call (fun x4 H=>.ok x4 H) (fun H=>q1s call H) (G L 0) (G L 1) (G L 10) (G L 11) k1 bK H
theorem zi7:(aR Tryz.prog 135).f call [x0,x1] H=zCy call x0 x1 H:=
 (dU Tryz.func135 (by kernel_rfl) (D:=fun L H=>zr1 call (G L 0) (G L 1) H)
 (Lk.of (Lk.seq (Lk.seq (Lk.cst quc (fun x L H=>x call H) (Lk.of Lk.self (fun L H=>by kernel_rfl))) (Lk.seq (Lk.cst qom (fun x L H=>x call (G L 0) (G L 1) (G L 10) (G L 11) (G L 12) H) (Lk.of (Lk.block (Lk.loop (D:=fun k1 L H=>qop call (fun x4 H=>.ok x4 H) (fun H=>q1s call H) (G L 0) (G L 1) (G L 10) (G L 11) k1 (G L 12) H) (fun _ _=>by kernel_rfl) (fun k1=>Lk.of (Lk.seq (Lk.seq (Lk.cst qoq (fun x L H=>x call (fun x4 H=>.ok x4 H) (qud call k1 L) (G L 0) (G L 1) (G L 10) (G L 12) H) (Lk.of (Lk.seq (Lk.cst qub (fun x L H=>x call (qud call k1 L) (G L 12) H) (Lk.of Lk.self (fun L H=>by kernel_rfl))) (Lk.block (Lk.seq (Lk.cst qon (fun x L H=>x call (fun x4 H=>.ok x4 H) (qud call k1 L) (G L 0) (G L 1) (G L 5) (G L 6) (G L 12) H) (Lk.of (Lk.block (Lk.seq (Lk.cst qoo (fun x L H=>x call (fun x4 H=>.ok x4 H) (qud call k1 L) (G L 1) (G L 5) (G L 6) (G L 12) (G L 17) H) (Lk.of (Lk.cond Lk.self (Lk.seq (Lk.cst qua (fun x L H=>x call (fun x4 H=>.ok x4 H) (qud call k1 L) (G L 12) (G L 40) H) (Lk.of Lk.self (fun L H=>by kernel_rfl))) Lk.self)) (fun L H=>by kernel_rfl))) Lk.self)) (fun L H=>by kernel_rfl))) Lk.self))) (fun L H=>by kernel_rfl))) Lk.self) Lk.self) (fun L H=>by kernel_rfl)))) (fun L H=>by kernel_rfl))) Lk.self)) Lk.self) (fun L H=>by kernel_rfl)) H).trans (by kernel_rfl)
theorem zik:(aR Tryz.prog 20).f call [x0,x1] H=zDx call x0 x1 H:=
 (lJ Tryz.func20 (by kernel_rfl) (by kernel_rfl) (by kernel_rfl) (by kernel_rfl) (D:=fun L H=>zri call (G L 0) (G L 1) H)
 (Lk.of (Lk.seq (Lk.seq (Lk.seq (Lk.of (E:=fun L H=>qqq call (G L 3) (G L 5) H) (Lk.of (E:=fun L H=>qkg call (G L 3) (G L 5) H) (Lk.seq (Lk.of (E:=fun L H=>qfi call H) Lk.self (fun L H=>by kernel_rfl)) (Lk.seq (Lk.block (Lk.of (E:=fun L H=>qx2 call (fun x4 H=>.ok x4 H) (fun H=>qfi call H) (G L 3) (G L 5) (G L 7) H) (Lk.loop (D:=fun k16 L H=>qfh call (fun x4 H=>.ok x4 H) (fun H=>qfi call H) (G L 3) (G L 5) k16 (G L 7) H) (fun _ _=>by kernel_rfl) (fun k16=>Lk.of (Lk.seq (Lk.of (E:=fun L H=>qx0 call (fun x4 H=>.ok x4 H) (fun x7 H=>qfh call (fun x4 H=>.ok x4 H) (fun H=>qfi call H) (G L 3) (G L 5) k16 x7 H) (G L 3) (G L 5) (G L 7) H) (Lk.of (E:=fun L H=>qkh call (fun x4 H=>.ok x4 H) (fun x7 H=>qfh call (fun x4 H=>.ok x4 H) (fun H=>qfi call H) (G L 3) (G L 5) k16 x7 H) (G L 3) (G L 5) (G L 7) H) (Lk.seq (Lk.of (E:=fun L H=>qqr call (fun x7 H=>qfh call (fun x4 H=>.ok x4 H) (fun H=>qfi call H) (G L 3) (G L 5) k16 x7 H) (G L 7) H) Lk.self (fun L H=>by kernel_rfl)) Lk.self) (fun L H=>by kernel_rfl)) (fun L H=>by rw[qol])) Lk.self) (fun L H=>by kernel_rfl))) (fun _ _=>by kernel_rfl))) Lk.self)) (fun L H=>by kernel_rfl)) (fun L H=>by rw[qok])) Lk.self) Lk.self) Lk.self) (fun L H=>by kernel_rfl)) H).trans (by kernel_rfl)
theorem zif:(aR Tryz.prog 18).f call [x0,x1] H=zEb call x0 x1 H:=
 (lJ Tryz.func18 (by kernel_rfl) (by kernel_rfl) (by kernel_rfl) (by kernel_rfl) (D:=fun L H=>zre call (G L 0) (G L 1) H)
 (Lk.of (Lk.seq (Lk.seq (Lk.of (E:=fun L H=>qxv call (G L 0) (G L 1) H) (Lk.seq (Lk.of (E:=fun L H=>qoh call H) Lk.self (fun L H=>by kernel_rfl)) (Lk.seq (Lk.block (Lk.of (E:=fun L H=>q79 call (fun x4 H=>.ok x4 H) (fun H=>qoh call H) (G L 0) (G L 1) (G L 5) H) (Lk.loop (D:=fun k1 L H=>qog call (fun x4 H=>.ok x4 H) (fun H=>qoh call H) (G L 0) (G L 1) k1 (G L 5) H) (fun _ _=>by kernel_rfl) (fun k1=>Lk.of (Lk.seq (Lk.of (E:=fun L H=>q76 call (fun x4 H=>.ok x4 H) (fun x5 H=>qog call (fun x4 H=>.ok x4 H) (fun H=>qoh call H) (G L 0) (G L 1) k1 x5 H) (G L 0) (G L 1) (G L 5) H) (Lk.seq (Lk.of (E:=fun L H=>q77 call (fun x5 H=>qog call (fun x4 H=>.ok x4 H) (fun H=>qoh call H) (G L 0) (G L 1) k1 x5 H) (G L 5) H) Lk.self (fun L H=>by kernel_rfl)) Lk.self) (fun L H=>by kernel_rfl)) Lk.self) (fun L H=>by kernel_rfl))) (fun _ _=>by kernel_rfl))) Lk.self)) (fun L H=>by kernel_rfl)) Lk.self) Lk.self) (fun L H=>by kernel_rfl)) H).trans (by kernel_rfl)
theorem zhz:(aR Tryz.prog 101).f call [x0] H=zEr call x0 H:=
 (lJ Tryz.func101 (by kernel_rfl) (by kernel_rfl) (by kernel_rfl) (by kernel_rfl) (D:=fun L H=>zqy call (G L 0) H)
 (Lk.of (Lk.seq (Lk.seq (Lk.seq (Lk.of (E:=fun L H=>qho call (G L 3) H) (Lk.seq (Lk.of (E:=fun L H=>zoe call H) Lk.self (fun L H=>by kernel_rfl)) Lk.self) (fun L H=>by kernel_rfl)) (Lk.seq (Lk.block (Lk.of (E:=fun L H=>qt6 call (fun x3 H=>qho call x3 H) (G L 0) (G L 3) (G L 4) H) (Lk.loop (D:=fun k8 L H=>qjx call (fun x3 H=>qho call x3 H) (G L 0) k8 (G L 3) (G L 4) H) (fun _ _=>by kernel_rfl) (fun k8=>Lk.of (Lk.seq (Lk.of (E:=fun L H=>qxg call (fun x3 x4 H=>qjx call (fun x3 H=>qho call x3 H) (G L 0) k8 x3 x4 H) (G L 0) (G L 4) H) (Lk.seq (Lk.of (E:=fun L H=>qqo call (fun x3 x4 H=>qjx call (fun x3 H=>qho call x3 H) (G L 0) k8 x3 x4 H) (G L 3) (G L 4) H) Lk.self (fun L H=>by kernel_rfl)) Lk.self) (fun L H=>by kernel_rfl)) Lk.self) (fun L H=>by kernel_rfl))) (fun _ _=>by kernel_rfl))) Lk.self)) Lk.self) Lk.self) (fun L H=>by kernel_rfl)) H).trans (by kernel_rfl)
theorem zke:(aR Tryz.prog 84).f call [x0] H=zBj call x0 H:=
 (dU Tryz.func84 (by kernel_rfl) (D:=fun L H=>zsy call (G L 0) H)
 (Lk.of (Lk.seq (Lk.seq (Lk.seq (Lk.seq (Lk.seq (Lk.seq Lk.self (Lk.seq (Lk.block (Lk.loop (D:=fun k7 L H=>quh call (fun x2 H=>.ok x2 H) (fun H=>q19 call H) (G L 4) (G L 26) (G L 27) k7 (G L 5) (G L 28) H) (fun _ _=>by kernel_rfl) (fun k7=>Lk.of (Lk.seq (Lk.seq (Lk.seq Lk.self (Lk.block (Lk.seq (Lk.seq (Lk.block (Lk.loop (D:=fun k18 L H=>qre call (fun x2 H=>.ok x2 H) (fun x5 H=>qy7 call (fun x5 x28 H=>quh call (fun x2 H=>.ok x2 H) (fun H=>q19 call H) (G L 4) (G L 26) (G L 27) k7 x5 x28 H) x5 (G L 28) H) (G L 4) (G L 7) (G L 34) k18 (G L 5) (G L 35) H) (fun _ _=>by kernel_rfl) (fun k18=>Lk.of Lk.self (fun L H=>by kernel_rfl)))) Lk.self) Lk.self))) Lk.self) Lk.self) (fun L H=>by kernel_rfl)))) Lk.self)) Lk.self) Lk.self) Lk.self) Lk.self) Lk.self) (fun L H=>by kernel_rfl)) H).trans (by kernel_rfl)
theorem qn5:(aR Tryz.prog 123).f call [x0] H=jP call x0 H:=
 (dU Tryz.func123 (by kernel_rfl) (D:=fun L H=>qhc call (G L 0) H)
 (Lk.of (Lk.seq (Lk.seq (Lk.seq Lk.self (Lk.seq (Lk.block (Lk.loop (D:=fun k1 L H=>qd0 call (fun x2 H=>.ok x2 H) (fun H=>qfm call (G L 0) H) (G L 0) k1 (G L 3) H) (fun _ _=>by kernel_rfl) (fun k1=>Lk.of (Lk.seq (Lk.seq Lk.self (Lk.block (Lk.seq (Lk.cond (Lk.seq (Lk.seq Lk.self (Lk.seq (Lk.block (Lk.loop (D:=fun k15 L H=>qdd call (fun x3 H=>qex call (fun x2 H=>.ok x2 H) (G L 0) x3 H) (G L 0) (G L 4) k15 (G L 3) (G L 5) H) (fun _ _=>by kernel_rfl) (fun k15=>Lk.of Lk.self (fun L H=>by kernel_rfl)))) Lk.self)) Lk.self) Lk.self) Lk.self))) Lk.self) (fun L H=>by kernel_rfl)))) Lk.self)) Lk.self) Lk.self) (fun L H=>by kernel_rfl)) H).trans (by kernel_rfl)
theorem zie:(aR Tryz.prog 25).f call [x0,x1] H=zEc call x0 x1 H:=
 (lJ Tryz.func25 (by kernel_rfl) (by kernel_rfl) (by kernel_rfl) (by kernel_rfl) (D:=fun L H=>zrd call (G L 0) (G L 1) H)
 (Lk.of (Lk.seq (Lk.seq (Lk.seq (Lk.of (E:=fun L H=>qxu call (G L 2) (G L 3) (G L 4) (G L 6) H) (Lk.of (E:=fun L H=>qke call (G L 2) (G L 3) (G L 4) (G L 6) H) (Lk.seq (Lk.seq (Lk.seq (Lk.of (E:=fun L H=>qqp call (G L 3) (G L 4) (G L 7) (G L 8) H) (Lk.of (E:=fun L H=>qkf call (G L 3) (G L 4) (G L 7) (G L 8) H) Lk.self (fun L H=>by kernel_rfl)) (fun L H=>by rw[qof])) Lk.self) Lk.self) Lk.self) (fun L H=>by kernel_rfl)) (fun L H=>by rw[qoe])) Lk.self) Lk.self) Lk.self) (fun L H=>by kernel_rfl)) H).trans (by kernel_rfl)
theorem zim:(aR Tryz.prog 199).f call [x0,x1] H=zDs call x0 x1 H:=
 (dU Tryz.func199 (by kernel_rfl) (D:=fun L H=>zrl call (G L 0) (G L 1) H)
 (Lk.of (Lk.seq (Lk.seq Lk.self (Lk.seq (Lk.block (Lk.loop (D:=fun k2 L H=>qt8 call (fun x4 H=>.ok x4 H) (fun H=>q8h call H) (G L 0) (G L 1) (G L 7) k2 (G L 8) H) (fun _ _=>by kernel_rfl) (fun k2=>Lk.of Lk.self (fun L H=>by kernel_rfl)))) Lk.self)) Lk.self) (fun L H=>by kernel_rfl)) H).trans (by kernel_rfl)
theorem zkp:(aR Tryz.prog 39).f call [x0,x1,x2] H=zAy call x0 x1 x2 H:=
 (dU Tryz.func39 (by kernel_rfl) (D:=fun L H=>zs7 call (G L 0) (G L 1) (G L 2) H)
 (Lk.of (Lk.seq (Lk.seq (Lk.seq Lk.self (Lk.seq (Lk.block (Lk.loop (D:=fun k7 L H=>qui call (fun x7 H=>eU (jE (iV (rV (aV 6 H (G L 6))) (iV (some x7) (some [])))) H) (fun H=>q2b call (G L 6) H) (G L 2) (G L 3) (G L 6) (G L 8) k7 (G L 9) H) (fun _ _=>by kernel_rfl) (fun k7=>Lk.of Lk.self (fun L H=>by kernel_rfl)))) Lk.self)) Lk.self) Lk.self) (fun L H=>by kernel_rfl)) H).trans (by kernel_rfl)
theorem zia:(aR Tryz.prog 37).f call [x0,x1] H=zEg call x0 x1 H:=
 (lJ Tryz.func37 (by kernel_rfl) (by kernel_rfl) (by kernel_rfl) (by kernel_rfl) (D:=fun L H=>zq9 call (G L 0) (G L 1) H)
 (Lk.of (Lk.seq (Lk.seq (Lk.of (E:=fun L H=>qxi call (G L 0) (G L 3) H) (Lk.seq (Lk.seq (Lk.of (E:=fun L H=>q71 call H) Lk.self (fun L H=>by kernel_rfl)) Lk.self) Lk.self) (fun L H=>by kernel_rfl)) Lk.self) Lk.self) (fun L H=>by kernel_rfl)) H).trans (by kernel_rfl)
theorem zjo:(aR Tryz.prog 131).f call [x0] H=zCi call x0 H:=
 (dU Tryz.func131 (by kernel_rfl) (D:=fun L H=>zse call (G L 0) H)
 (Lk.of (Lk.seq (Lk.seq (Lk.seq Lk.self (Lk.seq (Lk.block (Lk.loop (D:=fun k8 L H=>q11 call (fun x2 H=>.ok x2 H) (fun H=>q9i call (G L 1) H) (G L 16) (G L 17) k8 (G L 18) H) (fun _ _=>by kernel_rfl) (fun k8=>Lk.of Lk.self (fun L H=>by kernel_rfl)))) Lk.self)) Lk.self) Lk.self) (fun L H=>by kernel_rfl)) H).trans (by kernel_rfl)
theorem zkm:(aR Tryz.prog 92).f call [x0] H=zBc call x0 H:=
 (dU Tryz.func92 (by kernel_rfl) (D:=fun L H=>zs6 call (G L 0) H)
 (Lk.of (Lk.seq (Lk.seq (Lk.seq Lk.self (Lk.seq (Lk.block (Lk.loop (D:=fun k2 L H=>q2a call (fun x3 H=>zpp call x3 H) (G L 6) (G L 7) k2 (G L 3) (G L 8) H) (fun _ _=>by kernel_rfl) (fun k2=>Lk.of Lk.self (fun L H=>by kernel_rfl)))) Lk.self)) Lk.self) Lk.self) (fun L H=>by kernel_rfl)) H).trans (by kernel_rfl)
theorem zh2:(aR Tryz.prog 82).f call [x0,x1] H=zEo call x0 x1 H:=
 (lJ Tryz.func82 (by kernel_rfl) (by kernel_rfl) (by kernel_rfl) (by kernel_rfl) (D:=fun L H=>zq1 call (G L 0) (G L 1) H)
 (Lk.of (Lk.seq (Lk.seq (Lk.of (E:=fun L H=>q7u call (G L 2) (G L 3) H) Lk.self (fun L H=>by kernel_rfl)) Lk.self) Lk.self) (fun L H=>by kernel_rfl)) H).trans (by kernel_rfl)
theorem zij:(aR Tryz.prog 19).f call [x0,x1] H=zDy call x0 x1 H:=
 (lJ Tryz.func19 (by kernel_rfl) (by kernel_rfl) (by kernel_rfl) (by kernel_rfl) (D:=fun L H=>zrh call (G L 0) (G L 1) H)
 (Lk.of (Lk.seq (Lk.seq (Lk.of (E:=fun L H=>q8f call (G L 2) (G L 3) H) Lk.self (fun L H=>by kernel_rfl)) Lk.self) Lk.self) (fun L H=>by kernel_rfl)) H).trans (by kernel_rfl)
theorem zix:(aR Tryz.prog 166).f call [x0,x1] H=zDh call x0 x1 H:=
 (dU Tryz.func166 (by kernel_rfl) (D:=fun L H=>zrt call (G L 0) (G L 1) H)
 (Lk.of Lk.self (fun L H=>by kernel_rfl)) H).trans (by kernel_rfl)
theorem zjn:(aR Tryz.prog 133).f call [x0,x1,x2,x3] H=zCj call x0 x1 x2 x3 H:=
 (dU Tryz.func133 (by kernel_rfl) (D:=fun L H=>zsd call (G L 0) (G L 1) (G L 2) (G L 3) H)
 (Lk.of Lk.self (fun L H=>by kernel_rfl)) H).trans (by kernel_rfl)
theorem zjk:(aR Tryz.prog 138).f call [x0,x1,x2] H=zCm call x0 x1 x2 H:=
 (dU Tryz.func138 (by kernel_rfl) (D:=fun L H=>zsa call (G L 0) (G L 1) (G L 2) H)
 (Lk.of Lk.self (fun L H=>by kernel_rfl)) H).trans (by kernel_rfl)
theorem zkb:(aR Tryz.prog 87).f call [x0,x1,x2,x3] H=zBm call x0 x1 x2 x3 H:=
 (dU Tryz.func87 (by kernel_rfl) (D:=fun L H=>zsv call (G L 0) (G L 1) (G L 2) (G L 3) H)
 (Lk.of Lk.self (fun L H=>by kernel_rfl)) H).trans (by kernel_rfl)
theorem zh0:(aR Tryz.prog 100).f call [x0] H=zEq call x0 H:=
 (lJ Tryz.func100 (by kernel_rfl) (by kernel_rfl) (by kernel_rfl) (by kernel_rfl) (D:=fun L H=>zqz call (G L 0) H)
 (Lk.of Lk.self (fun L H=>by kernel_rfl)) H).trans (by kernel_rfl)
theorem ziv:(aR Tryz.prog 213).f call [x0] H=zDk call x0 H:=
 (dU Tryz.func213 (by kernel_rfl) (D:=fun L H=>zrr call (G L 0) H)
 (Lk.of Lk.self (fun L H=>by kernel_rfl)) H).trans (by kernel_rfl)
theorem zkf:(aR Tryz.prog 80).f call [x0,x1,x2] H=zBi call x0 x1 x2 H:=
 (dU Tryz.func80 (by kernel_rfl) (D:=fun L H=>zsz call (G L 0) (G L 1) (G L 2) H)
 (Lk.of Lk.self (fun L H=>by kernel_rfl)) H).trans (by kernel_rfl)
theorem zkk:(aR Tryz.prog 120).f call [x0] H=zBd call x0 H:=
 (dU Tryz.func120 (by kernel_rfl) (D:=fun L H=>zkl call (G L 0) H)
 (Lk.of Lk.self (fun L H=>by kernel_rfl)) H).trans (by kernel_rfl)
theorem zi5:(aR Tryz.prog 139).f call [x0,x1] H=zDa call x0 x1 H:=
 (dU Tryz.func139 (by kernel_rfl) (D:=fun L H=>zrz call (G L 0) (G L 1) H)
 (Lk.of Lk.self (fun L H=>by kernel_rfl)) H).trans (by kernel_rfl)
theorem zky:(aR Tryz.prog 47).f call [x0] H=zAn call x0 H:=
 (dU Tryz.func47 (by kernel_rfl) (D:=fun L H=>ztf call (G L 0) H)
 (Lk.of Lk.self (fun L H=>by kernel_rfl)) H).trans (by kernel_rfl)
theorem zjd:(aR Tryz.prog 145).f call [x0] H=zCs call x0 H:=
 (dU Tryz.func145 (by kernel_rfl) (D:=fun L H=>zr5 call (G L 0) H)
 (Lk.of Lk.self (fun L H=>by kernel_rfl)) H).trans (by kernel_rfl)
theorem zkx:(aR Tryz.prog 48).f call [x0] H=zAo call x0 H:=
 (dU Tryz.func48 (by kernel_rfl) (D:=fun L H=>zte call (G L 0) H)
 (Lk.of Lk.self (fun L H=>by kernel_rfl)) H).trans (by kernel_rfl)
theorem zkj:(aR Tryz.prog 76).f call [x0] H=zBe call x0 H:=
 (dU Tryz.func76 (by kernel_rfl) (D:=fun L H=>zs5 call (G L 0) H)
 (Lk.of Lk.self (fun L H=>by kernel_rfl)) H).trans (by kernel_rfl)
def zpu(call:Ev.Call)(k21:Nat)(zC:Nat)(L:TT AV (iE (Tryz.f56.ntmps+1))):=fun H=>qzm call (fun x70 H=>qly call (fun H=>qru call (fun x63 H=>qiz call (fun H=>qlz call (G L 2) (G L 10) H) (G L 1) (G L 5) (G L 10) (G L 61) (G L 62) k21 x63 H) (G L 63) H) (G L 1) (G L 5) (G L 10) (G L 12) (G L 68) (G L 69) zC x70 H) (G L 70) H
def zpt(call:Ev.Call)(k21:Nat)(zC:Nat)(k46:Nat)(L:TT AV (iE (Tryz.f56.ntmps+1))):=fun H=>qg1 call (fun x82 H=>qiy call (zpu call k21 zC L) (G L 1) (G L 5) (G L 10) (G L 12) (G L 14) (G L 80) (G L 81) k46 x82 H) (G L 82) H
theorem zkr:(aR Tryz.prog 56).f call [x0] H=zAt call x0 H:=
 (dU Tryz.func56 (by kernel_rfl) (D:=fun L H=>zs9 call (G L 0) H)
 (Lk.of (Lk.seq (Lk.seq (Lk.seq (Lk.seq (Lk.seq (Lk.seq Lk.self (Lk.seq (Lk.block (Lk.loop (D:=fun k21 L H=>qiz call (fun H=>qlz call (G L 2) (G L 10) H) (G L 1) (G L 5) (G L 10) (G L 61) (G L 62) k21 (G L 63) H) (fun _ _=>by kernel_rfl) (fun k21=>Lk.of (Lk.seq (Lk.seq (Lk.seq Lk.self (Lk.block (Lk.seq (Lk.seq (Lk.block (Lk.loop (D:=fun zC L H=>qly call (fun H=>qru call (fun x63 H=>qiz call (fun H=>qlz call (G L 2) (G L 10) H) (G L 1) (G L 5) (G L 10) (G L 61) (G L 62) k21 x63 H) (G L 63) H) (G L 1) (G L 5) (G L 10) (G L 12) (G L 68) (G L 69) zC (G L 70) H) (fun _ _=>by kernel_rfl) (fun zC=>Lk.of (Lk.seq (Lk.seq (Lk.seq Lk.self (Lk.block (Lk.seq (Lk.seq (Lk.seq (Lk.block (Lk.loop (D:=fun k46 L H=>qiy call (zpu call k21 zC L) (G L 1) (G L 5) (G L 10) (G L 12) (G L 14) (G L 80) (G L 81) k46 (G L 82) H) (fun _ _=>by kernel_rfl) (fun k46=>Lk.of (Lk.seq (Lk.seq (Lk.seq Lk.self (Lk.block (Lk.seq (Lk.seq (Lk.seq (Lk.block (Lk.seq (Lk.cond (Lk.seq (Lk.block (Lk.loop (D:=fun k60 L H=>qrs call (zpt call k21 zC k46 L) (G L 19) (G L 92) (G L 93) k60 (G L 94) H) (fun _ _=>by kernel_rfl) (fun k60=>Lk.of Lk.self (fun L H=>by kernel_rfl)))) Lk.self) (Lk.seq (Lk.cond Lk.self (Lk.seq (Lk.cond (Lk.seq (Lk.seq (Lk.block (Lk.loop (D:=fun k95 L H=>qrr call (zpt call k21 zC k46 L) (G L 18) (G L 19) (G L 129) (G L 130) k95 (G L 131) H) (fun _ _=>by kernel_rfl) (fun k95=>Lk.of Lk.self (fun L H=>by kernel_rfl)))) Lk.self) Lk.self) Lk.self) Lk.self)) Lk.self)) Lk.self)) Lk.self) Lk.self) Lk.self))) Lk.self) Lk.self) (fun L H=>by kernel_rfl)))) Lk.self) Lk.self) Lk.self))) Lk.self) Lk.self) (fun L H=>by kernel_rfl)))) Lk.self) Lk.self))) Lk.self) Lk.self) (fun L H=>by kernel_rfl)))) Lk.self)) Lk.self) (Lk.seq (Lk.block (Lk.loop (D:=fun aEq L H=>qhp call (fun H=>qkk call (G L 1) (G L 2) (G L 5) H) (G L 5) (G L 34) (G L 35) aEq (G L 36) H) (fun _ _=>by kernel_rfl) (fun aEq=>Lk.of (Lk.seq (Lk.seq (Lk.seq Lk.self (Lk.block (Lk.seq (Lk.seq (Lk.block (Lk.loop (D:=fun aKB L H=>qkj call (fun H=>qrv call (fun wX H=>qhp call (fun H=>qkk call (G L 1) (G L 2) (G L 5) H) (G L 5) (G L 34) (G L 35) aEq wX H) (G L 36) H) (G L 5) (G L 7) (G L 41) (G L 42) aKB (G L 43) H) (fun _ _=>by kernel_rfl) (fun aKB=>Lk.of Lk.self (fun L H=>by kernel_rfl)))) Lk.self) Lk.self))) Lk.self) Lk.self) (fun L H=>by kernel_rfl)))) Lk.self)) Lk.self) Lk.self) Lk.self) (fun L H=>by kernel_rfl)) H).trans (by kernel_rfl)
def zbp(call:Ev.Call)(k11:Nat)(L:TT AV (iE (Tryz.f57.ntmps+1))):=fun rP H=>qiw call (fun H=>q2c call (G L 8) H) (G L 1) (G L 4) (G L 8) (G L 39) (G L 40) k11 rP H
theorem zkq:(aR Tryz.prog 57).f call [x0] H=zAu call x0 H:=
 (dU Tryz.func57 (by kernel_rfl) (D:=fun L H=>zs8 call (G L 0) H)
 (Lk.of (Lk.seq (Lk.seq (Lk.seq (Lk.cst qov (fun x L H=>x call (G L 1) (G L 4) H) (Lk.of (Lk.seq (Lk.cst qow (fun x L H=>x call (G L 1) (G L 4) H) (Lk.of (Lk.seq (Lk.seq (Lk.cst qix (fun x L H=>x call (G L 1) (G L 4) (G L 8) H) (Lk.of (Lk.seq Lk.self (Lk.seq (Lk.block (Lk.loop (D:=fun k11 L H=>qiw call (fun H=>q2c call (G L 8) H) (G L 1) (G L 4) (G L 8) (G L 39) (G L 40) k11 (G L 41) H) (fun _ _=>by kernel_rfl) (fun k11=>Lk.of (Lk.seq (Lk.seq (Lk.seq Lk.self (Lk.block (Lk.seq (Lk.seq (Lk.seq (Lk.seq (Lk.block (Lk.loop (D:=fun k18 L H=>qrm call (fun H=>qzi call (zbp call k11 L) (G L 41) H) (G L 8) (G L 11) (G L 83) (G L 84) k18 (G L 85) H) (fun _ _=>by kernel_rfl) (fun k18=>Lk.of Lk.self (fun L H=>by kernel_rfl)))) Lk.self) (Lk.seq (Lk.block (Lk.loop (D:=fun zC L H=>qiv call (fun bO H=>qrq call (zbp call k11 L) (G L 8) (G L 10) bO (G L 41) H) (G L 4) (G L 8) (G L 9) (G L 47) (G L 48) zC (G L 11) (G L 49) H) (fun _ _=>by kernel_rfl) (fun zC=>Lk.of (Lk.seq (Lk.seq (Lk.cst qox (fun x L H=>x call (fun bO x49 H=>qiv call (fun bO H=>qrq call (zbp call k11 L) (G L 8) (G L 10) bO (G L 41) H) (G L 4) (G L 8) (G L 9) (G L 47) (G L 48) zC bO x49 H) (G L 4) (G L 8) (G L 9) (G L 11) (G L 47) (G L 49) H) (Lk.of Lk.self (fun L H=>by kernel_rfl))) Lk.self) Lk.self) (fun L H=>by kernel_rfl)))) Lk.self)) Lk.self) Lk.self))) Lk.self) Lk.self) (fun L H=>by kernel_rfl)))) Lk.self)) (fun L H=>by kernel_rfl))) Lk.self) Lk.self) (fun L H=>by kernel_rfl))) Lk.self) (fun L H=>by kernel_rfl))) Lk.self) Lk.self) Lk.self) (fun L H=>by kernel_rfl)) H).trans (by kernel_rfl)
def zpl(call:Ev.Call)(k16:Nat)(L:TT AV (iE (Tryz.f78.ntmps+1))):=fun x9 H=>qza call (fun x9 x10 H=>qlv call (fun x9 H=>qrg call (G L 2) (G L 3) (G L 8) x9 H) (G L 1) (G L 3) (G L 4) k16 x9 x10 H) x9 (G L 10) H
theorem zkh:(aR Tryz.prog 78).f call [x0,x1,x2,x3] H=zBg call x0 x1 x2 x3 H:=
 (dU Tryz.func78 (by kernel_rfl) (D:=fun L H=>zs2 call (G L 0) (G L 1) (G L 2) (G L 3) H)
 (Lk.of (Lk.seq (Lk.seq (Lk.seq Lk.self (Lk.seq (Lk.block (Lk.loop (D:=fun k16 L H=>qlv call (fun x9 H=>qrg call (G L 2) (G L 3) (G L 8) x9 H) (G L 1) (G L 3) (G L 4) k16 (G L 9) (G L 10) H) (fun _ _=>by kernel_rfl) (fun k16=>Lk.of (Lk.seq (Lk.seq Lk.self (Lk.block (Lk.seq (Lk.seq (Lk.block (Lk.loop (D:=fun k21 L H=>qlu call (zpl call k16 L) (G L 1) (G L 3) (G L 4) (G L 10) (G L 11) k21 (G L 9) (G L 12) H) (fun _ _=>by kernel_rfl) (fun k21=>Lk.of (Lk.seq (Lk.seq Lk.self (Lk.block (Lk.seq (Lk.block (Lk.loop (D:=fun k24 L H=>qrf call (fun x9 H=>qy9 call (fun x9 bK H=>qlu call (zpl call k16 L) (G L 1) (G L 3) (G L 4) (G L 10) (G L 11) k21 x9 bK H) x9 (G L 12) H) (G L 1) (G L 3) (G L 4) (G L 10) (G L 11) (G L 12) k24 (G L 9) (G L 13) H) (fun _ _=>by kernel_rfl) (fun k24=>Lk.of Lk.self (fun L H=>by kernel_rfl)))) Lk.self))) Lk.self) (fun L H=>by kernel_rfl)))) Lk.self) Lk.self))) Lk.self) (fun L H=>by kernel_rfl)))) Lk.self)) Lk.self) Lk.self) (fun L H=>by kernel_rfl)) H).trans (by kernel_rfl)
theorem zhs:(aR Tryz.prog 163).f call [x0] H=zEy call x0 H:=
 (lJ Tryz.func163 (by kernel_rfl) (by kernel_rfl) (by kernel_rfl) (by kernel_rfl) (D:=fun L H=>zqr call (G L 0) H)
 (Lk.of (Lk.seq (Lk.seq (Lk.of (E:=fun L H=>qxa call (G L 0) H) (Lk.seq (Lk.of (E:=fun L H=>qk6 call H) Lk.self (fun L H=>by kernel_rfl)) (Lk.seq (Lk.block (Lk.of (E:=fun L H=>q7j call (fun x2 H=>.ok x2 H) (fun H=>qk6 call H) (G L 0) (G L 13) (G L 14) H) (Lk.loop (D:=fun k2 L H=>qk5 call (fun x2 H=>.ok x2 H) (fun H=>qk6 call H) (G L 0) (G L 13) k2 (G L 14) H) (fun _ _=>by kernel_rfl) (fun k2=>Lk.of (Lk.seq (Lk.seq (Lk.of (E:=fun L H=>qxb call (fun x2 H=>.ok x2 H) (fun jT H=>qk5 call (fun x2 H=>.ok x2 H) (fun H=>qk6 call H) (G L 0) (G L 13) k2 jT H) (G L 0) (G L 14) H) (Lk.seq (Lk.of (E:=fun L H=>q1l call (fun jT H=>qk5 call (fun x2 H=>.ok x2 H) (fun H=>qk6 call H) (G L 0) (G L 13) k2 jT H) (G L 14) H) Lk.self (fun L H=>by kernel_rfl)) Lk.self) (fun L H=>by kernel_rfl)) Lk.self) Lk.self) (fun L H=>by kernel_rfl))) (fun _ _=>by kernel_rfl))) Lk.self)) (fun L H=>by kernel_rfl)) Lk.self) Lk.self) (fun L H=>by kernel_rfl)) H).trans (by kernel_rfl)
theorem zhu:(aR Tryz.prog 128).f call [x0] H=zEw call x0 H:=
 (lJ Tryz.func128 (by kernel_rfl) (by kernel_rfl) (by kernel_rfl) (by kernel_rfl) (D:=fun L H=>zqt call (G L 0) H)
 (Lk.of (Lk.seq (Lk.seq (Lk.of (E:=fun L H=>qk7 call H) Lk.self (fun L H=>by kernel_rfl)) (Lk.seq (Lk.block (Lk.of (E:=fun L H=>q7m call (fun x2 H=>.ok x2 H) (fun H=>qk7 call H) (G L 6) (G L 7) (G L 8) H) (Lk.loop (D:=fun k2 L H=>qob call (fun x2 H=>.ok x2 H) (fun H=>qk7 call H) (G L 6) (G L 7) k2 (G L 8) H) (fun _ _=>by kernel_rfl) (fun k2=>Lk.of (Lk.seq (Lk.seq (Lk.of (E:=fun L H=>qxc call (fun x2 H=>.ok x2 H) (fun x8 H=>qob call (fun x2 H=>.ok x2 H) (fun H=>qk7 call H) (G L 6) (G L 7) k2 x8 H) (G L 6) (G L 8) H) (Lk.seq (Lk.of (E:=fun L H=>q7k call (fun x8 H=>qob call (fun x2 H=>.ok x2 H) (fun H=>qk7 call H) (G L 6) (G L 7) k2 x8 H) (G L 8) H) Lk.self (fun L H=>by kernel_rfl)) Lk.self) (fun L H=>by kernel_rfl)) Lk.self) Lk.self) (fun L H=>by kernel_rfl))) (fun _ _=>by kernel_rfl))) Lk.self)) Lk.self) (fun L H=>by kernel_rfl)) H).trans (by kernel_rfl)
theorem zjv:(aR Tryz.prog 116).f call [x0] H=zCb call x0 H:=
 (dU Tryz.func116 (by kernel_rfl) (D:=fun L H=>zsk call (G L 0) H)
 (Lk.of (Lk.seq (Lk.seq (Lk.seq Lk.self (Lk.seq (Lk.block (Lk.loop (D:=fun k1 L H=>q15 call (fun x2 H=>.ok x2 H) (fun H=>zpd call (G L 0) H) (G L 0) k1 (G L 3) H) (fun _ _=>by kernel_rfl) (fun k1=>Lk.of (Lk.seq (Lk.seq Lk.self (Lk.block (Lk.seq (Lk.cond (Lk.seq (Lk.seq Lk.self (Lk.seq (Lk.block (Lk.loop (D:=fun k15 L H=>qlp call (fun x3 H=>qq9 call (fun x2 H=>.ok x2 H) (G L 0) x3 H) (G L 0) (G L 4) k15 (G L 3) (G L 5) H) (fun _ _=>by kernel_rfl) (fun k15=>Lk.of Lk.self (fun L H=>by kernel_rfl)))) Lk.self)) Lk.self) Lk.self) Lk.self))) Lk.self) (fun L H=>by kernel_rfl)))) Lk.self)) Lk.self) Lk.self) (fun L H=>by kernel_rfl)) H).trans (by kernel_rfl)
theorem zkt:(aR Tryz.prog 51).f call [x0,x1] H=zAr call x0 x1 H:=
 (dU Tryz.func51 (by kernel_rfl) (D:=fun L H=>ztc call (G L 0) (G L 1) H)
 (Lk.of (Lk.seq (Lk.seq (Lk.seq (Lk.seq Lk.self (Lk.seq (Lk.cond (Lk.seq (Lk.seq Lk.self (Lk.seq (Lk.block (Lk.loop (D:=fun k19 L H=>qrz call (fun x7 H=>qzs call (G L 1) (G L 2) (G L 5) x7 H) (G L 1) (G L 2) k19 (G L 7) (G L 8) H) (fun _ _=>by kernel_rfl) (fun k19=>Lk.of Lk.self (fun L H=>by kernel_rfl)))) Lk.self)) Lk.self) Lk.self) Lk.self)) (Lk.seq (Lk.block (Lk.loop (D:=fun k36 L H=>qry call (fun x5 H=>qr1 call (G L 1) (G L 2) x5 H) (G L 1) (G L 2) k36 (G L 5) (G L 6) H) (fun _ _=>by kernel_rfl) (fun k36=>Lk.of Lk.self (fun L H=>by kernel_rfl)))) Lk.self)) Lk.self) Lk.self) (fun L H=>by kernel_rfl)) H).trans (by kernel_rfl)
theorem zkz:(aR Tryz.prog 35).f call [x0] H=zAh call x0 H:=
 (dU Tryz.func35 (by kernel_rfl) (D:=fun L H=>ztg call (G L 0) H)
 (Lk.of (Lk.seq (Lk.seq (Lk.seq Lk.self (Lk.seq (Lk.block (Lk.loop (D:=fun k2 L H=>quk call (fun x3 H=>zca call x3 H) (G L 1) k2 (G L 3) (G L 4) H) (fun _ _=>by kernel_rfl) (fun k2=>Lk.of (Lk.seq (Lk.seq Lk.self (Lk.block (Lk.seq (Lk.block (Lk.loop (D:=fun k5 L H=>q2p call (fun x3 H=>zb7 call (fun x3 x4 H=>quk call (fun x3 H=>zca call x3 H) (G L 1) k2 x3 x4 H) x3 (G L 4) H) (G L 1) (G L 4) k5 (G L 3) (G L 5) H) (fun _ _=>by kernel_rfl) (fun k5=>Lk.of Lk.self (fun L H=>by kernel_rfl)))) Lk.self))) Lk.self) (fun L H=>by kernel_rfl)))) Lk.self)) Lk.self) Lk.self) (fun L H=>by kernel_rfl)) H).trans (by kernel_rfl)
theorem zj7:(aR Tryz.prog 90).f call [x0] H=zBp call x0 H:=
 (dU Tryz.func90 (by kernel_rfl) (D:=fun L H=>zst call (G L 0) H)
 (Lk.of (Lk.seq (Lk.seq (Lk.seq (Lk.cst qou (fun x L H=>x call (G L 1) (G L 4) H) (Lk.of (Lk.seq (Lk.seq Lk.self (Lk.seq (Lk.block (Lk.loop (D:=fun k14 L H=>qrc call (fun x6 H=>zax call x6 H) (G L 4) (G L 18) (G L 19) k14 (G L 6) (G L 20) H) (fun _ _=>by kernel_rfl) (fun k14=>Lk.of Lk.self (fun L H=>by kernel_rfl)))) Lk.self)) Lk.self) (fun L H=>by kernel_rfl))) Lk.self) Lk.self) Lk.self) (fun L H=>by kernel_rfl)) H).trans (by kernel_rfl)
theorem zit:(aR Tryz.prog 99).f call [x0,x1] H=zDm call x0 x1 H:=
 (dU Tryz.func99 (by kernel_rfl) (D:=fun L H=>zrq call (G L 0) (G L 1) H)
 (Lk.of (Lk.seq (Lk.seq Lk.self (Lk.seq (Lk.block (Lk.loop (D:=fun k3 L H=>q1p call (fun x4 H=>.ok x4 H) (fun H=>q8o call H) (G L 0) (G L 3) (G L 7) k3 (G L 8) H) (fun _ _=>by kernel_rfl) (fun k3=>Lk.of Lk.self (fun L H=>by kernel_rfl)))) Lk.self)) Lk.self) (fun L H=>by kernel_rfl)) H).trans (by kernel_rfl)
theorem zi0:(aR Tryz.prog 182).f call [x0,x1] H=zDe call x0 x1 H:=
 (dU Tryz.func182 (by kernel_rfl) (D:=fun L H=>zi1 call (G L 0) (G L 1) H)
 (Lk.of (Lk.seq (Lk.seq (Lk.seq (Lk.seq Lk.self (Lk.seq (Lk.block (Lk.loop (D:=fun k27 L H=>qqu call (fun H=>qya call (G L 0) (G L 4) (G L 5) H) (G L 0) (G L 35) (G L 36) k27 (G L 37) H) (fun _ _=>by kernel_rfl) (fun k27=>Lk.of Lk.self (fun L H=>by kernel_rfl)))) Lk.self)) Lk.self) Lk.self) Lk.self) (fun L H=>by kernel_rfl)) H).trans (by kernel_rfl)
theorem zks:(aR Tryz.prog 52).f call [x0,x1,x2] H=zAs call x0 x1 x2 H:=
 (dU Tryz.func52 (by kernel_rfl) (D:=fun L H=>zta call (G L 0) (G L 1) (G L 2) H)
 (Lk.of (Lk.seq (Lk.seq (Lk.seq Lk.self (Lk.seq (Lk.block (Lk.loop (D:=fun k4 L H=>q2o call (fun x6 H=>.ok x6 H) (fun H=>zb0 call H) (G L 1) (G L 2) (G L 7) k4 (G L 8) H) (fun _ _=>by kernel_rfl) (fun k4=>Lk.of Lk.self (fun L H=>by kernel_rfl)))) Lk.self)) Lk.self) Lk.self) (fun L H=>by kernel_rfl)) H).trans (by kernel_rfl)
theorem zj4:(aR Tryz.prog 66).f call [x0,x1] H=zBs call x0 x1 H:=
 (dU Tryz.func66 (by kernel_rfl) (D:=fun L H=>zsq call (G L 0) (G L 1) H)
 (Lk.of (Lk.seq (Lk.seq Lk.self (Lk.seq (Lk.block (Lk.loop (D:=fun k2 L H=>q18 call (fun x4 H=>.ok x4 H) (fun H=>zan call H) (G L 1) (G L 2) k2 (G L 5) H) (fun _ _=>by kernel_rfl) (fun k2=>Lk.of Lk.self (fun L H=>by kernel_rfl)))) Lk.self)) Lk.self) (fun L H=>by kernel_rfl)) H).trans (by kernel_rfl)
theorem zh1:(aR Tryz.prog 83).f call [x0,x1] H=zEp call x0 x1 H:=
 (lJ Tryz.func83 (by kernel_rfl) (by kernel_rfl) (by kernel_rfl) (by kernel_rfl) (D:=fun L H=>zq0 call (G L 0) (G L 1) H)
 (Lk.of (Lk.seq (Lk.seq (Lk.of (E:=fun L H=>q7t call (G L 2) (G L 3) H) Lk.self (fun L H=>by kernel_rfl)) Lk.self) Lk.self) (fun L H=>by kernel_rfl)) H).trans (by kernel_rfl)
theorem zh4:(aR Tryz.prog 68).f call [x0] H=zEm call x0 H:=
 (lJ Tryz.func68 (by kernel_rfl) (by kernel_rfl) (by kernel_rfl) (by kernel_rfl) (D:=fun L H=>zq3 call (G L 0) H)
 (Lk.of (Lk.seq (Lk.seq (Lk.of (E:=fun L H=>qxh call (G L 1) H) Lk.self (fun L H=>by kernel_rfl)) Lk.self) Lk.self) (fun L H=>by kernel_rfl)) H).trans (by kernel_rfl)
theorem zir:(aR Tryz.prog 168).f call [x0,x1] H=zDo call x0 x1 H:=
 (dU Tryz.func168 (by kernel_rfl) (D:=fun L H=>zro call (G L 0) (G L 1) H)
 (Lk.of Lk.self (fun L H=>by kernel_rfl)) H).trans (by kernel_rfl)
theorem zkc:(aR Tryz.prog 86).f call [x0,x1,x2,x3,x4,x5,x6] H=zBl call x0 x1 x2 x3 x4 x5 x6 H:=
 (dU Tryz.func86 (by kernel_rfl) (D:=fun L H=>zsw call (G L 0) (G L 1) (G L 2) (G L 3) (G L 4) (G L 5) (G L 6) H)
 (Lk.of Lk.self (fun L H=>by kernel_rfl)) H).trans (by kernel_rfl)
theorem zju:(aR Tryz.prog 115).f call [x0] H=zCc call x0 H:=
 (dU Tryz.func115 (by kernel_rfl) (D:=fun L H=>zsj call (G L 0) H)
 (Lk.of Lk.self (fun L H=>by kernel_rfl)) H).trans (by kernel_rfl)
theorem zjm:(aR Tryz.prog 134).f call [x0,x1] H=zCk call x0 x1 H:=
 (dU Tryz.func134 (by kernel_rfl) (D:=fun L H=>zsc call (G L 0) (G L 1) H)
 (Lk.of Lk.self (fun L H=>by kernel_rfl)) H).trans (by kernel_rfl)
theorem zht:(aR Tryz.prog 129).f call [x0] H=zEx call x0 H:=
 (lJ Tryz.func129 (by kernel_rfl) (by kernel_rfl) (by kernel_rfl) (by kernel_rfl) (D:=fun L H=>zqs call (G L 0) H)
 (Lk.of Lk.self (fun L H=>by kernel_rfl)) H).trans (by kernel_rfl)
theorem zhy:(aR Tryz.prog 97).f call [x0] H=zEs call x0 H:=
 (lJ Tryz.func97 (by kernel_rfl) (by kernel_rfl) (by kernel_rfl) (by kernel_rfl) (D:=fun L H=>zqx call (G L 0) H)
 (Lk.of Lk.self (fun L H=>by kernel_rfl)) H).trans (by kernel_rfl)
theorem zjq:(aR Tryz.prog 121).f call [x0] H=zCg call x0 H:=
 (dU Tryz.func121 (by kernel_rfl) (D:=fun L H=>zsf call (G L 0) H)
 (Lk.of Lk.self (fun L H=>by kernel_rfl)) H).trans (by kernel_rfl)
theorem zjw:(aR Tryz.prog 113).f call [x0,x1] H=zBz call x0 x1 H:=
 (dU Tryz.func113 (by kernel_rfl) (D:=fun L H=>zsl call (G L 0) (G L 1) H)
 (Lk.of Lk.self (fun L H=>by kernel_rfl)) H).trans (by kernel_rfl)
theorem zin:(aR Tryz.prog 226).f call [x0] H=zDr call x0 H:=
 (dU Tryz.func226 (by kernel_rfl) (D:=fun L H=>zwj call (G L 0) H)
 (Lk.of Lk.self (fun L H=>by kernel_rfl)) H).trans (by kernel_rfl)
theorem zk0:(aR Tryz.prog 27).f call [x0] H=zAe call x0 H:=
 (dU Tryz.func27 (by kernel_rfl) (D:=fun L H=>zth call (G L 0) H)
 (Lk.of Lk.self (fun L H=>by kernel_rfl)) H).trans (by kernel_rfl)
theorem zi8:(aR Tryz.prog 165).f call [x0] H=zCx call x0 H:=
 (dU Tryz.func165 (by kernel_rfl) (D:=fun L H=>zr2 call (G L 0) H)
 (Lk.of Lk.self (fun L H=>by kernel_rfl)) H).trans (by kernel_rfl)
theorem zkd:(aR Tryz.prog 85).f call [x0] H=zBk call x0 H:=
 (dU Tryz.func85 (by kernel_rfl) (D:=fun L H=>zsx call (G L 0) H)
 (Lk.of Lk.self (fun L H=>by kernel_rfl)) H).trans (by kernel_rfl)
theorem zku:(aR Tryz.prog 50).f call [x0] H=zAq call x0 H:=
 (dU Tryz.func50 (by kernel_rfl) (D:=fun L H=>ztd call (G L 0) H)
 (Lk.of Lk.self (fun L H=>by kernel_rfl)) H).trans (by kernel_rfl)
theorem q1m:(aR Tryz.prog 5).f call [x0,x1] H=zDu call x0 x1 H:=
 (lJ Tryz.func5 (by kernel_rfl) (by kernel_rfl) (by kernel_rfl) (by kernel_rfl) (D:=fun L H=>zrk call (G L 0) (G L 1) H)
 (Lk.of (Lk.seq (Lk.seq (Lk.of (E:=fun L H=>qqs call (G L 1) (G L 2) H) (Lk.seq (Lk.seq (Lk.seq (Lk.seq (Lk.of (E:=fun L H=>qd9 call (G L 1) (G L 5) (G L 7) (G L 8) (G L 9) (G L 10) H) Lk.self (fun L H=>by kernel_rfl)) (Lk.seq (Lk.block (Lk.of (E:=fun L H=>qx9 call (fun x4 H=>.ok x4 H) (fun x7 x8 x9 x10 H=>qd9 call (G L 1) (G L 5) x7 x8 x9 x10 H) (G L 1) (G L 5) (G L 7) (G L 8) (G L 9) (G L 10) (G L 11) H) (Lk.loop (D:=fun k36 L H=>qd8 call (fun x4 H=>.ok x4 H) (fun x7 x8 x9 x10 H=>qd9 call (G L 1) (G L 5) x7 x8 x9 x10 H) (G L 1) (G L 5) k36 (G L 7) (G L 8) (G L 9) (G L 10) (G L 11) H) (fun _ _=>by kernel_rfl) (fun k36=>Lk.of (Lk.seq (Lk.of (E:=fun L H=>qqt call (fun x4 H=>.ok x4 H) (fun x7 x8 x9 x10 bO H=>qd8 call (fun x4 H=>.ok x4 H) (fun x7 x8 x9 x10 H=>qd9 call (G L 1) (G L 5) x7 x8 x9 x10 H) (G L 1) (G L 5) k36 x7 x8 x9 x10 bO H) (G L 1) (G L 5) (G L 7) (G L 8) (G L 9) (G L 10) (G L 11) H) (Lk.seq (Lk.of (E:=fun L H=>qlh call (fun x7 x8 x9 x10 bO H=>qd8 call (fun x4 H=>.ok x4 H) (fun x7 x8 x9 x10 H=>qd9 call (G L 1) (G L 5) x7 x8 x9 x10 H) (G L 1) (G L 5) k36 x7 x8 x9 x10 bO H) (G L 7) (G L 8) (G L 9) (G L 10) (G L 11) H) Lk.self (fun L H=>by kernel_rfl)) (Lk.block (Lk.seq (Lk.seq (Lk.of (E:=fun L H=>qx6 call (fun x4 H=>.ok x4 H) (fun x7 x8 x9 x10 bO H=>qd8 call (fun x4 H=>.ok x4 H) (fun x7 x8 x9 x10 H=>qd9 call (G L 1) (G L 5) x7 x8 x9 x10 H) (G L 1) (G L 5) k36 x7 x8 x9 x10 bO H) (G L 5) (G L 7) (G L 8) (G L 9) (G L 10) (G L 11) (G L 12) H) (Lk.seq (Lk.seq (Lk.of (E:=fun L H=>qx7 call (fun x7 x8 x9 x10 bO H=>qd8 call (fun x4 H=>.ok x4 H) (fun x7 x8 x9 x10 H=>qd9 call (G L 1) (G L 5) x7 x8 x9 x10 H) (G L 1) (G L 5) k36 x7 x8 x9 x10 bO H) (G L 7) (G L 8) (G L 9) (G L 10) (G L 11) (G L 12) (G L 13) H) (Lk.seq (Lk.of (E:=fun L H=>qlg call (fun x7 x8 x9 x10 bO H=>qd8 call (fun x4 H=>.ok x4 H) (fun x7 x8 x9 x10 H=>qd9 call (G L 1) (G L 5) x7 x8 x9 x10 H) (G L 1) (G L 5) k36 x7 x8 x9 x10 bO H) (G L 7) (G L 8) (G L 9) (G L 10) (G L 11) (G L 13) H) Lk.self (fun L H=>by kernel_rfl)) Lk.self) (fun L H=>by kernel_rfl)) Lk.self) Lk.self) (fun L H=>by kernel_rfl)) Lk.self) Lk.self))) (fun L H=>by kernel_rfl)) Lk.self) (fun L H=>by kernel_rfl))) (fun _ _=>by kernel_rfl))) Lk.self)) Lk.self) Lk.self) Lk.self) (fun L H=>by kernel_rfl)) Lk.self) Lk.self) (fun L H=>by kernel_rfl)) H).trans (by kernel_rfl)
theorem zib:(aR Tryz.prog 36).f call [x0] H=zEf call x0 H:=
 (lJ Tryz.func36 (by kernel_rfl) (by kernel_rfl) (by kernel_rfl) (by kernel_rfl) (D:=fun L H=>zra call (G L 0) H)
 (Lk.of (Lk.seq (Lk.seq (Lk.seq (Lk.of (E:=fun L H=>qfe call (G L 3) H) Lk.self (fun L H=>by kernel_rfl)) (Lk.seq (Lk.block (Lk.of (E:=fun L H=>q73 call (fun H=>qfe call (G L 3) H) (G L 3) (G L 10) (G L 11) (G L 12) H) (Lk.loop (D:=fun k6 L H=>qgr call (fun H=>qfe call (G L 3) H) (G L 3) (G L 10) (G L 11) k6 (G L 12) H) (fun _ _=>by kernel_rfl) (fun k6=>Lk.of (Lk.seq (Lk.seq (Lk.of (E:=fun L H=>qxj call (fun bK H=>qgr call (fun H=>qfe call (G L 3) H) (G L 3) (G L 10) (G L 11) k6 bK H) (G L 3) (G L 10) (G L 12) H) (Lk.seq (Lk.of (E:=fun L H=>qla call (fun bK H=>qgr call (fun H=>qfe call (G L 3) H) (G L 3) (G L 10) (G L 11) k6 bK H) (G L 12) H) Lk.self (fun L H=>by kernel_rfl)) (Lk.block (Lk.seq (Lk.seq (Lk.block (Lk.of (E:=fun L H=>qxn call (fun H=>qla call (fun bK H=>qgr call (fun H=>qfe call (G L 3) H) (G L 3) (G L 10) (G L 11) k6 bK H) (G L 12) H) (G L 3) (G L 5) (G L 17) (G L 18) (G L 19) H) (Lk.loop (D:=fun k17 L H=>qio call (fun H=>qla call (fun bK H=>qgr call (fun H=>qfe call (G L 3) H) (G L 3) (G L 10) (G L 11) k6 bK H) (G L 12) H) (G L 3) (G L 5) (G L 17) (G L 18) k17 (G L 19) H) (fun _ _=>by kernel_rfl) (fun k17=>Lk.of (Lk.seq (Lk.seq (Lk.of (E:=fun L H=>qxk call (fun iO H=>qio call (fun H=>qla call (fun bK H=>qgr call (fun H=>qfe call (G L 3) H) (G L 3) (G L 10) (G L 11) k6 bK H) (G L 12) H) (G L 3) (G L 5) (G L 17) (G L 18) k17 iO H) (G L 3) (G L 5) (G L 17) (G L 19) H) (Lk.seq (Lk.of (E:=fun L H=>qxl call (fun iO H=>qio call (fun H=>qla call (fun bK H=>qgr call (fun H=>qfe call (G L 3) H) (G L 3) (G L 10) (G L 11) k6 bK H) (G L 12) H) (G L 3) (G L 5) (G L 17) (G L 18) k17 iO H) (G L 19) H) Lk.self (fun L H=>by kernel_rfl)) Lk.self) (fun L H=>by kernel_rfl)) Lk.self) Lk.self) (fun L H=>by kernel_rfl))) (fun _ _=>by kernel_rfl))) Lk.self) Lk.self))) (fun L H=>by kernel_rfl)) Lk.self) Lk.self) (fun L H=>by kernel_rfl))) (fun _ _=>by kernel_rfl))) Lk.self)) Lk.self) Lk.self) (fun L H=>by kernel_rfl)) H).trans (by kernel_rfl)
theorem zi9:(aR Tryz.prog 149).f call [x0,x1,x2,x3] H=zCw call x0 x1 x2 x3 H:=
 (lJ Tryz.func149 (by kernel_rfl) (by kernel_rfl) (by kernel_rfl) (by kernel_rfl) (D:=fun L H=>zr3 call (G L 0) (G L 1) (G L 2) (G L 3) H)
 (Lk.of (Lk.seq (Lk.seq (Lk.block (Lk.loop (D:=fun k5 L H=>qor call (fun H=>.ok (.bG []) H) (fun H=>.ok (.bG []) H) (G L 0) (G L 1) (G L 2) (G L 3) (G L 5) (G L 16) k5 (G L 17) H) (fun _ _=>by kernel_rfl) (fun k5=>Lk.of (Lk.seq (Lk.seq (Lk.seq (Lk.self) (Lk.block (Lk.seq (Lk.seq (Lk.seq (Lk.block (Lk.loop (D:=fun k14 L H=>qlk call (fun H=>.ok (.bG []) H) (fun H=>q1u call (fun iT H=>qor call (fun H=>.ok (.bG []) H) (fun H=>.ok (.bG []) H) (G L 0) (G L 1) (G L 2) (G L 3) (G L 5) (G L 16) k5 iT H) (G L 17) H) (G L 0) (G L 1) (G L 5) (G L 6) (G L 54) k14 (G L 55) H) (fun _ _=>by kernel_rfl) (fun k14=>Lk.of (Lk.seq (Lk.seq (Lk.seq (Lk.self) (Lk.block (Lk.seq (Lk.seq (Lk.cond (Lk.seq (Lk.seq Lk.self Lk.self) Lk.self) Lk.self) Lk.self) Lk.self))) Lk.self) Lk.self) (fun L H=>by kernel_rfl)))) Lk.self) (Lk.seq (Lk.block (Lk.loop (D:=fun k39 L H=>qlj call (fun H=>qyg call (fun H=>.ok (.bG []) H) (fun iT H=>qor call (fun H=>.ok (.bG []) H) (fun H=>.ok (.bG []) H) (G L 0) (G L 1) (G L 2) (G L 3) (G L 5) (G L 16) k5 iT H) (G L 0) (G L 1) (G L 5) (G L 6) (G L 17) H) (G L 3) (G L 5) (G L 6) (G L 23) (G L 24) k39 (G L 25) H) (fun _ _=>by kernel_rfl) (fun k39=>Lk.of (Lk.seq (Lk.seq (Lk.seq (Lk.self) Lk.self) Lk.self) Lk.self) (fun L H=>by kernel_rfl)))) Lk.self)) Lk.self))) Lk.self) Lk.self) (fun L H=>by kernel_rfl)))) Lk.self) Lk.self) (fun L H=>by kernel_rfl)) H).trans (by kernel_rfl)
theorem zii:(aR Tryz.prog 16).f call [x0,x1] H=zDz call x0 x1 H:=
 (lJ Tryz.func16 (by kernel_rfl) (by kernel_rfl) (by kernel_rfl) (by kernel_rfl) (D:=fun L H=>zrg call (G L 0) (G L 1) H)
 (Lk.of (Lk.seq (Lk.seq (Lk.of (E:=fun L H=>qxy call (G L 1) (G L 2) H) (Lk.seq (Lk.seq (Lk.of (E:=fun L H=>qle call (G L 1) H) Lk.self (fun L H=>by kernel_rfl)) (Lk.seq (Lk.block (Lk.of (E:=fun L H=>q8e call (fun x4 x5 H=>.ok (.bG [x4,x5]) H) (fun H=>qle call (G L 1) H) (G L 7) (G L 18) (G L 19) (G L 20) H) (Lk.loop (D:=fun k6 L H=>qoj call (fun x4 x5 H=>.ok (.bG [x4,x5]) H) (fun H=>qle call (G L 1) H) (G L 7) (G L 18) (G L 19) k6 (G L 20) H) (fun _ _=>by kernel_rfl) (fun k6=>Lk.of (Lk.seq (Lk.seq (Lk.of (E:=fun L H=>qxz call (fun x4 x5 H=>.ok (.bG [x4,x5]) H) (fun x20 H=>qoj call (fun x4 x5 H=>.ok (.bG [x4,x5]) H) (fun H=>qle call (G L 1) H) (G L 7) (G L 18) (G L 19) k6 x20 H) (G L 7) (G L 18) (G L 20) H) (Lk.seq (Lk.of (E:=fun L H=>q8c call (fun x20 H=>qoj call (fun x4 x5 H=>.ok (.bG [x4,x5]) H) (fun H=>qle call (G L 1) H) (G L 7) (G L 18) (G L 19) k6 x20 H) (G L 20) H) Lk.self (fun L H=>by kernel_rfl)) Lk.self) (fun L H=>by kernel_rfl)) Lk.self) Lk.self) (fun L H=>by kernel_rfl))) (fun _ _=>by kernel_rfl))) Lk.self)) Lk.self) (fun L H=>by kernel_rfl)) Lk.self) Lk.self) (fun L H=>by kernel_rfl)) H).trans (by kernel_rfl)
theorem zil:(aR Tryz.prog 7).f call [x0] H=zDw call x0 H:=
 (lJ Tryz.func7 (by kernel_rfl) (by kernel_rfl) (by kernel_rfl) (by kernel_rfl) (D:=fun L H=>zrj call (G L 0) H)
 (Lk.of (Lk.seq (Lk.seq (Lk.seq (Lk.seq (Lk.of (E:=fun L H=>qgz call (G L 2) (G L 4) (G L 5) H) Lk.self (fun L H=>by kernel_rfl)) (Lk.seq (Lk.block (Lk.of (E:=fun L H=>qx5 call (fun x5 H=>qgz call (G L 2) (G L 4) x5 H) (G L 1) (G L 4) (G L 5) (G L 6) H) (Lk.loop (D:=fun k14 L H=>qip call (fun x5 H=>qgz call (G L 2) (G L 4) x5 H) (G L 1) (G L 4) k14 (G L 5) (G L 6) H) (fun _ _=>by kernel_rfl) (fun k14=>Lk.of (Lk.seq (Lk.of (E:=fun L H=>qx3 call (fun x5 x6 H=>qip call (fun x5 H=>qgz call (G L 2) (G L 4) x5 H) (G L 1) (G L 4) k14 x5 x6 H) (G L 1) (G L 4) (G L 5) (G L 6) H) (Lk.seq (Lk.of (E:=fun L H=>qlf call (fun x5 x6 H=>qip call (fun x5 H=>qgz call (G L 2) (G L 4) x5 H) (G L 1) (G L 4) k14 x5 x6 H) (G L 5) (G L 6) H) Lk.self (fun L H=>by kernel_rfl)) Lk.self) (fun L H=>by kernel_rfl)) Lk.self) (fun L H=>by kernel_rfl))) (fun _ _=>by kernel_rfl))) Lk.self)) Lk.self) Lk.self) Lk.self) (fun L H=>by kernel_rfl)) H).trans (by kernel_rfl)
theorem zjr:(aR Tryz.prog 118).f call [x0,x1] H=zCf call x0 x1 H:=
 (dU Tryz.func118 (by kernel_rfl) (D:=fun L H=>zsg call (G L 0) (G L 1) H)
 (Lk.of (Lk.seq (Lk.seq (Lk.seq (Lk.seq Lk.self (Lk.seq (Lk.block (Lk.loop (D:=fun k12 L H=>qlo call (fun H=>q12 call (G L 2) (G L 3) (G L 5) H) (G L 5) (G L 15) (G L 16) k12 (G L 17) H) (fun _ _=>by kernel_rfl) (fun k12=>Lk.of (Lk.seq (Lk.seq (Lk.seq Lk.self (Lk.block (Lk.seq (Lk.seq (Lk.block (Lk.loop (D:=fun k19 L H=>qq5 call (fun H=>qyo call (fun iT H=>qlo call (fun H=>q12 call (G L 2) (G L 3) (G L 5) H) (G L 5) (G L 15) (G L 16) k12 iT H) (G L 17) H) (G L 5) (G L 6) (G L 22) (G L 23) k19 (G L 24) H) (fun _ _=>by kernel_rfl) (fun k19=>Lk.of Lk.self (fun L H=>by kernel_rfl)))) Lk.self) Lk.self))) Lk.self) Lk.self) (fun L H=>by kernel_rfl)))) Lk.self)) Lk.self) Lk.self) Lk.self) (fun L H=>by kernel_rfl)) H).trans (by kernel_rfl)
theorem zj2:(aR Tryz.prog 107).f call [x0] H=zBu call x0 H:=
 (dU Tryz.func107 (by kernel_rfl) (D:=fun L H=>zsp call (G L 0) H)
 (Lk.of (Lk.seq (Lk.seq (Lk.seq Lk.self (Lk.seq (Lk.block (Lk.loop (D:=fun k5 L H=>qug call (fun x2 H=>.ok x2 H) (fun H=>zaj call H) (G L 13) (G L 14) k5 (G L 15) H) (fun _ _=>by kernel_rfl) (fun k5=>Lk.of (Lk.seq (Lk.seq (Lk.seq Lk.self (Lk.block (Lk.seq (Lk.seq (Lk.seq (Lk.block (Lk.loop (D:=fun k16 L H=>qra call (fun x2 H=>.ok x2 H) (fun H=>zac call (fun oU H=>qug call (fun x2 H=>.ok x2 H) (fun H=>zaj call H) (G L 13) (G L 14) k5 oU H) (G L 15) H) (G L 30) (G L 31) k16 (G L 32) H) (fun _ _=>by kernel_rfl) (fun k16=>Lk.of Lk.self (fun L H=>by kernel_rfl)))) Lk.self) Lk.self) Lk.self))) Lk.self) Lk.self) (fun L H=>by kernel_rfl)))) Lk.self)) Lk.self) Lk.self) (fun L H=>by kernel_rfl)) H).trans (by kernel_rfl)
theorem zjs:(aR Tryz.prog 119).f call [x0] H=zCe call x0 H:=
 (dU Tryz.func119 (by kernel_rfl) (D:=fun L H=>zsh call (G L 0) H)
 (Lk.of (Lk.seq (Lk.seq (Lk.seq (Lk.seq Lk.self (Lk.seq (Lk.block (Lk.loop (D:=fun k7 L H=>q13 call (fun H=>q9t call (G L 3) H) (G L 3) (G L 29) k7 (G L 30) H) (fun _ _=>by kernel_rfl) (fun k7=>Lk.of Lk.self (fun L H=>by kernel_rfl)))) Lk.self)) (Lk.seq (Lk.block (Lk.loop (D:=fun k21 L H=>qq6 call (fun H=>qyr call (G L 1) (G L 3) H) (G L 3) (G L 8) (G L 9) k21 (G L 10) H) (fun _ _=>by kernel_rfl) (fun k21=>Lk.of Lk.self (fun L H=>by kernel_rfl)))) Lk.self)) Lk.self) Lk.self) (fun L H=>by kernel_rfl)) H).trans (by kernel_rfl)
theorem zjx:(aR Tryz.prog 112).f call [x0,x1,x2,x3] H=zBy call x0 x1 x2 x3 H:=
 (dU Tryz.func112 (by kernel_rfl) (D:=fun L H=>zsm call (G L 0) (G L 1) (G L 2) (G L 3) H)
 (Lk.of (Lk.seq (Lk.seq (Lk.seq Lk.self (Lk.seq (Lk.seq (Lk.cond (Lk.seq (Lk.block (Lk.loop (D:=fun k8 L H=>quf call (fun x9 H=>q17 call x9 H) (G L 0) (G L 3) (G L 22) (G L 23) k8 (G L 9) (G L 24) H) (fun _ _=>by kernel_rfl) (fun k8=>Lk.of Lk.self (fun L H=>by kernel_rfl)))) Lk.self) Lk.self) Lk.self) Lk.self)) Lk.self) Lk.self) (fun L H=>by kernel_rfl)) H).trans (by kernel_rfl)
theorem zi6:(aR Tryz.prog 137).f call [x0,x1,x2] H=zCz call x0 x1 x2 H:=
 (dU Tryz.func137 (by kernel_rfl) (D:=fun L H=>zr0 call (G L 0) (G L 1) (G L 2) H)
 (Lk.of (Lk.seq (Lk.seq Lk.self (Lk.seq (Lk.block (Lk.loop (D:=fun k2 L H=>qt9 call (fun x6 x7 H=>.ok (.bG [x6,x7]) H) (fun x6 H=>zos call x6 H) (G L 0) (G L 1) (G L 11) (G L 12) k2 (G L 6) (G L 13) H) (fun _ _=>by kernel_rfl) (fun k2=>Lk.of Lk.self (fun L H=>by kernel_rfl)))) Lk.self)) Lk.self) (fun L H=>by kernel_rfl)) H).trans (by kernel_rfl)
theorem ziw:(aR Tryz.prog 211).f call [x0,x1] H=zDj call x0 x1 H:=
 (dU Tryz.func211 (by kernel_rfl) (D:=fun L H=>zrs call (G L 0) (G L 1) H)
 (Lk.of (Lk.seq (Lk.seq Lk.self (Lk.seq (Lk.block (Lk.loop (D:=fun k2 L H=>q1q call (fun x4 H=>.ok x4 H) (fun H=>zoq call H) (G L 0) (G L 1) (G L 7) k2 (G L 8) H) (fun _ _=>by kernel_rfl) (fun k2=>Lk.of Lk.self (fun L H=>by kernel_rfl)))) Lk.self)) Lk.self) (fun L H=>by kernel_rfl)) H).trans (by kernel_rfl)
theorem zio:(aR Tryz.prog 227).f call [x0,x1] H=zDq call x0 x1 H:=
 (dU Tryz.func227 (by kernel_rfl) (D:=fun L H=>zrm call (G L 0) (G L 1) H)
 (Lk.of (Lk.seq (Lk.block (Lk.loop (D:=fun k2 L H=>q1n call (fun H=>.ok (.bG []) H) (fun H=>.ok (.bG []) H) (G L 0) (G L 5) (G L 6) k2 (G L 7) H) (fun _ _=>by kernel_rfl) (fun k2=>Lk.of Lk.self (fun L H=>by kernel_rfl)))) Lk.self) (fun L H=>by kernel_rfl)) H).trans (by kernel_rfl)
theorem zjt:(aR Tryz.prog 117).f call [x0] H=zCd call x0 H:=
 (dU Tryz.func117 (by kernel_rfl) (D:=fun L H=>zsi call (G L 0) H)
 (Lk.of (Lk.seq (Lk.seq (Lk.seq Lk.self (Lk.seq (Lk.block (Lk.loop (D:=fun k5 L H=>q14 call (fun x2 H=>.ok x2 H) (fun H=>zpa call H) (G L 1) (G L 14) (G L 15) k5 (G L 16) H) (fun _ _=>by kernel_rfl) (fun k5=>Lk.of Lk.self (fun L H=>by kernel_rfl)))) Lk.self)) Lk.self) Lk.self) (fun L H=>by kernel_rfl)) H).trans (by kernel_rfl)
theorem zjj:(aR Tryz.prog 132).f call [x0] H=zCn call x0 H:=
 (dU Tryz.func132 (by kernel_rfl) (D:=fun L H=>zr9 call (G L 0) H)
 (Lk.of (Lk.seq (Lk.seq Lk.self (Lk.seq (Lk.block (Lk.loop (D:=fun k2 L H=>q10 call (fun x2 H=>.ok x2 H) (fun H=>zo6 call H) (G L 6) (G L 7) k2 (G L 8) H) (fun _ _=>by kernel_rfl) (fun k2=>Lk.of Lk.self (fun L H=>by kernel_rfl)))) Lk.self)) Lk.self) (fun L H=>by kernel_rfl)) H).trans (by kernel_rfl)
theorem zhx:(aR Tryz.prog 98).f call [x0] H=zEt call x0 H:=
 (lJ Tryz.func98 (by kernel_rfl) (by kernel_rfl) (by kernel_rfl) (by kernel_rfl) (D:=fun L H=>zqw call (G L 0) H)
 (Lk.of (Lk.seq (Lk.seq (Lk.of (E:=fun L H=>q7s call (G L 1) H) Lk.self (fun L H=>by kernel_rfl)) Lk.self) Lk.self) (fun L H=>by kernel_rfl)) H).trans (by kernel_rfl)
theorem zh9:(aR Tryz.prog 38).f call [x0] H=zEh call x0 H:=
 (lJ Tryz.func38 (by kernel_rfl) (by kernel_rfl) (by kernel_rfl) (by kernel_rfl) (D:=fun L H=>zq8 call (G L 0) H)
 (Lk.of Lk.self (fun L H=>by kernel_rfl)) H).trans (by kernel_rfl)
theorem ziz:(aR Tryz.prog 65).f call [x0,x1] H=zDf call x0 x1 H:=
 (dU Tryz.func65 (by kernel_rfl) (D:=fun L H=>zrv call (G L 0) (G L 1) H)
 (Lk.of Lk.self (fun L H=>by kernel_rfl)) H).trans (by kernel_rfl)
theorem zj1:(aR Tryz.prog 109).f call [x0,x1,x2] H=zBv call x0 x1 x2 H:=
 (dU Tryz.func109 (by kernel_rfl) (D:=fun L H=>zso call (G L 0) (G L 1) (G L 2) H)
 (Lk.of Lk.self (fun L H=>by kernel_rfl)) H).trans (by kernel_rfl)
theorem zjy:(aR Tryz.prog 111).f call [x0,x1,x2] H=zBx call x0 x1 x2 H:=
 (dU Tryz.func111 (by kernel_rfl) (D:=fun L H=>zjz call (G L 0) (G L 1) (G L 2) H)
 (Lk.of Lk.self (fun L H=>by kernel_rfl)) H).trans (by kernel_rfl)
theorem zi2:(aR Tryz.prog 181).f call [x0,x1] H=zDd call x0 x1 H:=
 (dU Tryz.func181 (by kernel_rfl) (D:=fun L H=>zrw call (G L 0) (G L 1) H)
 (Lk.of Lk.self (fun L H=>by kernel_rfl)) H).trans (by kernel_rfl)
theorem zis:(aR Tryz.prog 169).f call [x0,x1] H=zDn call x0 x1 H:=
 (dU Tryz.func169 (by kernel_rfl) (D:=fun L H=>zrp call (G L 0) (G L 1) H)
 (Lk.of Lk.self (fun L H=>by kernel_rfl)) H).trans (by kernel_rfl)
theorem zh8:(aR Tryz.prog 53).f call [x0] H=zEi call x0 H:=
 (lJ Tryz.func53 (by kernel_rfl) (by kernel_rfl) (by kernel_rfl) (by kernel_rfl) (D:=fun L H=>zq7 call (G L 0) H)
 (Lk.of Lk.self (fun L H=>by kernel_rfl)) H).trans (by kernel_rfl)
theorem zj3:(aR Tryz.prog 104).f call [x0,x1,x2] H=zBt call x0 x1 x2 H:=
 (dU Tryz.func104 (by kernel_rfl) (D:=fun L H=>zwr call (G L 0) (G L 1) (G L 2) H)
 (Lk.of Lk.self (fun L H=>by kernel_rfl)) H).trans (by kernel_rfl)
theorem zja:(aR Tryz.prog 148).f call [x0,x1] H=zCv call x0 x1 H:=
 (dU Tryz.func148 (by kernel_rfl) (D:=fun L H=>zwl call (G L 0) (G L 1) H)
 (Lk.of Lk.self (fun L H=>by kernel_rfl)) H).trans (by kernel_rfl)
theorem zi3:(aR Tryz.prog 171).f call [x0] H=zDc call x0 H:=
 (dU Tryz.func171 (by kernel_rfl) (D:=fun L H=>zrx call (G L 0) H)
 (Lk.of Lk.self (fun L H=>by kernel_rfl)) H).trans (by kernel_rfl)
theorem zi4:(aR Tryz.prog 141).f call [x0] H=zDb call x0 H:=
 (dU Tryz.func141 (by kernel_rfl) (D:=fun L H=>zry call (G L 0) H)
 (Lk.of Lk.self (fun L H=>by kernel_rfl)) H).trans (by kernel_rfl)
theorem zj6:(aR Tryz.prog 91).f call [x0] H=zBq call x0 H:=
 (dU Tryz.func91 (by kernel_rfl) (D:=fun L H=>zss call (G L 0) H)
 (Lk.of Lk.self (fun L H=>by kernel_rfl)) H).trans (by kernel_rfl)
end Go.Di
end
noncomputable section
namespace Go.Di
open Go.Ev Go.Proofs
set_option maxRecDepth 100000
theorem Lk.range{P:Program}{d n:Nat}{call:Ev.Call}{K:Kt d}{f:Operand}{ps:Array Tmp}{sa bd:Code}(hn:(jZ sa&&jZ bd)=true):Lk P d n call (.rangeFunc f ps sa bd) K (fun L H=>fin (endLoop H.nx (qif call ((aH d n f).f L) [.yield H.nx] (aT H (.loop true none d n L ps.toList sa bd))) L) K):=fun L H=>by
 have e:den P d n (.rangeFunc f ps sa bd)=⟨fun call L H=>endLoop H.nx (qif call ((aH d n f).f L) [.yield H.nx] (aT H (.loop true none d n L ps.toList sa bd))) L⟩:=by simp only[den,hn]
 rw[e]
def qmo(n:Nat):Code->LP
 | .seq a b=>match qmo n a with
  |⟨0,_,_,_⟩=>qmo n b
  |p=>p
 | .block _ b=>qmo n b
 | .rangeFunc _ ps sa bd=>⟨n,ps.toList,sa,bd⟩
 |_=>⟨0,[],.skip,.skip⟩
def LAc:LP:=qmo 13 (codeOf Tryz.f231)
def LOc:LP:=qmo 53 (codeOf Tryz.f89)
theorem qoa(call:Ev.Call)(x0 x1:AV)(H:Hp):(aR Tryz.prog 231).f call [x0,x1] H=jN LAc call x0 x1 H:=
 (lJ Tryz.func231 (by kernel_rfl) (by kernel_rfl) (by kernel_rfl) (by kernel_rfl) (D:=fun L H=>qhn LAc call L (G L 0) (G L 1) H)
 (Lk.of (Lk.seq (Lk.seq (Lk.of (E:=fun L H=>qf0 call (G L 2) H) Lk.self (fun L H=>by kernel_rfl)) (Lk.seq (Lk.block (Lk.of (E:=fun L H=>qhm LAc call L (G L 6) H) (Lk.range (by kernel_rfl)) (fun L H=>by kernel_rfl))) Lk.self)) Lk.self) (fun L H=>by kernel_rfl)) H).trans (by kernel_rfl)
theorem zj9(call:Ev.Call)(x0:AV)(H:Hp):(aR Tryz.prog 89).f call [x0] H=zBo LOc call x0 H:=
 (lJ Tryz.func89 (by kernel_rfl) (by kernel_rfl) (by kernel_rfl) (by kernel_rfl) (D:=fun L H=>zsu LOc call L (G L 0) H)
 (Lk.of (Lk.seq (Lk.seq (Lk.of (E:=fun L H=>qy1 LOc call L (G L 1) (G L 2) H) (Lk.seq (Lk.seq (Lk.of (E:=fun L H=>qlt LOc call L (G L 1) H) (Lk.seq (Lk.of (E:=fun L H=>qy4 call (G L 2) (G L 5) H) Lk.self (fun L H=>by kernel_rfl)) (Lk.seq (Lk.block (Lk.of (E:=fun L H=>zj8 LOc call L (G L 25) H) (Lk.range (by kernel_rfl)) (fun L H=>by kernel_rfl))) Lk.self)) (fun L H=>by kernel_rfl)) Lk.self) Lk.self) (fun L H=>by kernel_rfl)) Lk.self) Lk.self) (fun L H=>by kernel_rfl)) H).trans (by kernel_rfl)
theorem qun{P:Program}{call:Ev.Call}{l:Nat}{v:AV}{H:Hp}{L L1:TT AV 2}(p:LP)(h:H.get l=p.blk true L)(hps:(Nat.beq p.ps.length 1&&p.ps.all fun q=>Nat.blt q p.n)=true)(has:(den P 2 p.n p.aC).f call (qfb ((setter 2 p.n).f L .undef) p.ps [v]) H=.ok .normal L1 H):qgs P call l [v] H=endRound l ((den P 2 p.n p.bd).f call L1 (H.put l (p.blk false L))):=by unfold qgs;have hl:([v]:List AV).length=1:=rfl;simp only[h,LP.blk,hl,hps,cond_true,has]
theorem qj8(l:Nat)(r:Rc 2):endRound l r=fin r (fun e L H=>endRound l (.ok e L H)):=by cases r<;>rfl
theorem qn0(call:Ev.Call)(L:TT AV 2)(l:Nat)(v:AV)(H:Hp)(h:H.get l=LAc.blk true L):qgs Tryz.prog call l [v] H=dZ call l L (G L 2) v (H.put l (LAc.blk false L)):=by rw[qun LAc h (by kernel_rfl) (L1:=(setter 2 5).f (qfb ((setter 2 13).f L .undef) [7] [v]) v) (by kernel_rfl),qj8];exact(Lk.of (c:=LAc.bd) (P:=Tryz.prog) (n:=13) (E:=fun M H=>dZ call l L (G M 2) (G M 5) H) Lk.self (fun M H=>by kernel_rfl) _ _).trans (by kernel_rfl)
theorem zaz(call:Ev.Call)(L:TT AV 2)(l:Nat)(v:AV)(H:Hp)(h:H.get l=LOc.blk true L):qgs Tryz.prog call l [v] H=rR call l L (G L 5) v (H.put l (LOc.blk false L)):=by
 rw[qun LOc h (by kernel_rfl) (L1:=(setter 2 6).f (qfb ((setter 2 53).f L .undef) [26] [v]) v) (by kernel_rfl),qj8];have key:Lk Tryz.prog 2 53 call LOc.bd (fun e L H=>endRound l (.ok e L H)) (fun M H=>rR call l L (G M 5) (G M 6) H):=
  Lk.of (c:=LOc.bd) (Lk.block (Lk.seq (Lk.of (E:=fun M H=>qg0 call l L (G M 5) (G M 6) H) Lk.self (fun M H=>by kernel_rfl)) (Lk.seq (Lk.block (Lk.of (E:=fun M H=>qy6 call (fun H=>qg0 call l L (G M 5) (G M 6) H) (G M 5) (G M 27) (G M 28) (G M 29) H) (Lk.loop (D:=fun k27 M H=>qis call (fun H=>qg0 call l L (G M 5) (G M 6) H) (G M 5) (G M 27) (G M 28) k27 (G M 29) H) (fun _ _=>by kernel_rfl) (fun k27=>Lk.of (Lk.seq (Lk.seq (Lk.of (E:=fun M H=>qy2 call (fun x29 H=>qis call (fun H=>qg0 call l L (G M 5) (G M 6) H) (G M 5) (G M 27) (G M 28) k27 x29 H) (G M 5) (G M 27) (G M 29) H) (Lk.seq (Lk.of (E:=fun M H=>qy3 call (fun x29 H=>qis call (fun H=>qg0 call l L (G M 5) (G M 6) H) (G M 5) (G M 27) (G M 28) k27 x29 H) (G M 29) H) Lk.self (fun M H=>by kernel_rfl)) Lk.self) (fun M H=>by kernel_rfl)) Lk.self) Lk.self) (fun M H=>by kernel_rfl))) (fun _ _=>by kernel_rfl))) Lk.self))) (fun M H=>by kernel_rfl)
 exact(key _ _).trans (by kernel_rfl)
end Go.Di
end
