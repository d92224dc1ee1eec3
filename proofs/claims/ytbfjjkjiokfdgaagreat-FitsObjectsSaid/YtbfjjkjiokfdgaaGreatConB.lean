/-
 For FitsObjects: functions in direct style, their contracts, and the plain mathematics, part 2 of 9. No conditions beyond those that each theorem states.
-/
import Derived.Test.YtbfjjkjiokfdgaaGreatConA
set_option linter.unusedSimpArgs false
set_option linter.unusedVariables false
noncomputable section
namespace Go.Di
open Go.Ev
def cst{α:Type}(a:α):α:=Classical.choose (⟨a,rfl⟩:∃ f,f=a)
theorem jW{α:Type}(a:α):cst a=a:=Classical.choose_spec (⟨a,rfl⟩:∃ f,f=a)
variable (call:Ev.Call)
def qqw(x1 x5 x7 x8:AV)(H:Hp):R1:=ve (call (.f 10) [x1] H) fun a1 H=>ve (call (.f 11) [x1] H) fun a2 H=>ve (call (.f 9) [a1,a2] H) fun a3 H=>vg (aM true a3) (.val x1) H fun a4 H=>qG (aM true a3) (call (.f 12) [a4] H) H fun a5 H=>vg (aM true a3) (.val x1) H fun a6 H=>qG (aM true a3) (call (.f 13) [a6] H) H fun a7 H=>qG (aM true a3) (call (.f 9) [a5,a7] H) H fun a8 H=>vq (fO a3 a8 (.bool false)) H fun a9 H=>vg (aM true a9) (.val x8) H fun bR H=>vg (aM true a9) (aD (aO .eql).f bR (iN 0)) H fun bK H=>vq (fO a9 bK (.bool false)) H fun a12 H=>vg (aM true a12) (.val x7) H fun bO H=>vg (aM true a12) (aV 1 H x5) H fun bN H=>vg (aM true a12) (.val x1) H fun bS H=>qG (aM true a12) (call (.f 15) [bN,bS] H) H fun a16 H=>qG (aM true a12) (call (.f 14) [bO,a16] H) H fun a17 H=>vq (fO a12 a17 (.bool false)) H fun dB H=>qG (aM true dB) (call (.f 6) [] H) H fun dP H=>vq (fO dB dP (.bool false)) H fun a20 H=>.ok a20 H
def qx2:=cst qqw
theorem qoo:qx2=qqw:=jW _
def qkh(x1 x5:AV)(H:Hp):R1:=vq (aV 1 H x5) H fun a22 H=>ve (call (.f 8) [a22,x1] H) fun a23 H=>vq (dD 0 a23) H fun a24 H=>vq (dD 1 a23) H fun a25 H=>qx2 call x1 x5 a24 a25 H
def qx1:=cst qkh
theorem qon:qx1=qkh:=jW _
def qkg(x1 x2:AV)(H:Hp):R1:=vq (aV 2 H x2) H fun a27 H=>ve (call (.f 7) [a27] H) fun a28 H=>vq (dD 0 a28) H fun a29 H=>vq (dD 1 a28) H fun a30 H=>vq (.new (.ptr H.nx 0) (aB 0 [.aA])) H fun a31 H=>ve (eB 1 H a31 a29) fun _ H=>qx1 call x1 a31 H
def qx0:=cst qkg
theorem qom:qx0=qkg:=jW _
def zs4(x0 x1:AV)(H:Hp):R1:=vq (bJ 2 H.nx x0) H fun a0 H=>vq (aF x1) H fun a34 H=>vq (aD (aO .gtr).f a34 (iN 20)) H fun a35 H=>cd a35 (ve (call (.f 6) [] H) fun a36 H=>.ok a36 H) (qx0 call x1 a0 H)
def zEz(x0 x1:AV)(H:Hp):R1:=zs4 call x0 x1 H
def qg3(x2 x4 x5:AV)(H:Hp):R1:=dz 0 H fun b7 H=>dl 0 0 b7 H [] [] (fun H=>aV 1 H x4) fun a8 H p w=>dn 1 0 b7 H p w (.val x5) fun a9 H p w=>de 2 H p w (call (.f 26) [a9] (bQ 2 p H)) (some true) fun bR H p w=>de 7 H p w (eB 1 (bQ 7 p H) x2 a8) (some true) fun _ H p w=>dn 4 15 b7 H p w (.val bR) fun a12 H p w=>jU p H fun H=>eO (jH (iX (rV (aV 1 H x2)) (iX (some a12) (some [])))) H
def qlb(call:Ev.Call)(g14:AV->pD)(x5 x6:AV)(H:Hp):R1:=vI x6 H fun bS H=>g14 x5 bS H
def qyd(g14:AV->pD)(x1 x4 x5 x6:AV)(H:Hp):R1:=dz 13 H fun b17 H=>dl 0 0 b17 H [] [] (fun H=>aV 1 H x4) fun dB H p w=>dn 1 0 b17 H p w (aU 1 x1) fun dP H p w=>dl 2 2 b17 H p w (fun H=>aQ H dP) fun a20 H p w=>dn 3 0 b17 H p w (.val x6) fun a21 H p w=>dn 4 14 b17 H p w (aJ 4 a20 a21) fun a22 H p w=>dl 5 30 b17 H p w (fun H=>aV 4 H a22) fun a23 H p w=>da 10 0 b17 H p w (.new (.ptr (b17+10) 0) (aB 0 [.str 0 0,.str 0 0,.str 0 0,.str 0 0,.str 0 0,.str 0 0])) fun a24 H p w=>de 63 H p w (call (.f 25) [dB,a23] (bQ 63 p H)) (some true) fun a25 H p w=>dn 7 127 b17 H p w (.val a25) fun a26 H p w=>dn 8 255 b17 H p w (dD 0 a26) fun a27 H p w=>dn 9 255 b17 H p w (dD 1 a26) fun a28 H p w=>de 1535 H p w (eB 6 (bQ 1535 p H) a24 a27) (some true) fun _ H p w=>dn 12 4095 b17 H p w (.val a28) fun a30 H p w=>jU p H fun H=>cd a30 (vq (aV 6 H a24) H fun a31 H=>vq (iL 1 H.nx (bU (bE [.str 0 0,.str 0 0,.str 0 0,.str 0 0,.str 0 0,.str 0 0] 1) [(0,6,a31)])) H fun a32 H=>ve (iD 6 96 H x5 (jE 6 H a32)) fun a33 H=>qlb call g14 a33 x6 H) (qlb call g14 x5 x6 H)
def qye(kM:pD)(x1 x4:AV)(g14:AV->pD)(x5 x6:AV)(H:Hp):R1:=vF 1 x1 H fun a36 H=>vq (aF a36) H fun a37 H=>vq (aD (aO .lss).f x6 a37) H fun a38 H=>vg (aM true a38) (.val x6) H fun a39 H=>vg (aM true a38) (aD (aO .lss).f a39 (iN 20)) H fun a40 H=>vq (fO a38 a40 (.bool false)) H fun a41 H=>cd a41 (qyd call g14 x1 x4 x5 x6 H) (kM x5 H)
def qiq(kM:pD)(x1 x4:AV)(n:Nat):AV->pD:=oF (qye call kM x1 x4) n
def qyf(kM:pD)(x1 x4:AV):AV->pD:=qiq call kM x1 x4 dO
def zte(x0:AV)(H:Hp):R1:=vq (bJ 2 H.nx x0) H fun a0 H=>vq (.new (.ptr H.nx 0) (aB 0 [.aA])) H fun a1 H=>vq (aU 0 a0) H fun a2 H=>vq (aV 1 H a2) H fun a3 H=>ve (call (.f 24) [a3] H) fun a4 H=>vq (.new (.ptr H.nx 0) (aB 0 [.aA])) H fun a5 H=>ve (eB 1 H a5 a4) fun _ H=>qyf call (fun x5 H=>qg3 call a1 a5 x5 H) a0 a5 (.aA) (iN 0) H
def zDw(x0:AV)(H:Hp):R1:=zte call x0 H
def qfg(x7:AV)(H:Hp):R1:=ve (call (.f 30) [x7] H) fun a1 H=>.ok (.aY [a1,(iN 0)]) H
def qhq(call:Ev.Call)(g5:AV->pD)(x7 pJ:AV)(H:Hp):R1:=vI pJ H fun a7 H=>g5 x7 a7 H
def qxx(call:Ev.Call)(g22:AV->pD)(x7 x38:AV)(H:Hp):R1:=vI x38 H fun a24 H=>g22 x7 a24 H
def qxw(g22:AV->pD)(x7 x9 qB x38:AV)(H:Hp):R1:=vq (aJ 6 qB x38) H fun a26 H=>vq (aV 6 H a26) H fun a27 H=>vq (.new (.ptr H.nx 0) (aB 0 [.str 0 0,.aA,.int .u8 (.ofNat 0),.str 0 0,.str 0 0,.aA])) H fun a28 H=>ve (eB 6 H a28 a27) fun _ H=>vq (aV 2 H x9) H fun a30 H=>vF 0 a28 H fun a32 H=>vq (cO (bU [.str 0 0,.str 0 0,.str 0 0] [(0,2,a30),(2,1,a32)])) H fun a33 H=>vq (iL 1 H.nx (bU (bE [.str 0 0,.str 0 0,.str 0 0] 1) [(0,3,a33)])) H fun a34 H=>ve (iD 3 48 H x7 (jE 3 H a34)) fun a35 H=>qxx call g22 a35 x38 H
def qxy(uS:pD)(x9 qB x37:AV)(g22:AV->pD)(x7 x38:AV)(H:Hp):R1:=vq (aD (aO .lss).f x38 x37) H fun a23 H=>cd a23 (qxw call g22 x7 x9 qB x38 H) (uS x7 H)
def qip(uS:pD)(x9 qB x37:AV)(n:Nat):AV->pD:=oF (qxy call uS x9 qB x37) n
def qxz(uS:pD)(x9 qB x37:AV):AV->pD:=qip call uS x9 qB x37 dO
def qxv(g5:AV->pD)(x2 x7 x9 x10 pJ:AV)(H:Hp):R1:=vF 0 x2 H fun a17 H=>vq (aJ 2 a17 x10) H fun dB H=>vF 1 dB H fun a20 H=>vq (aF a20) H fun a21 H=>qxz call (fun x7 H=>qhq call g5 x7 pJ H) x9 a20 a21 x7 (iN 0) H
def qxu(g5:AV->pD)(x2 x7 mG pJ:AV)(H:Hp):R1:=vq (aJ 2 mG pJ) H fun a9 H=>vq (aV 2 H a9) H fun bR H=>vq (.new (.ptr H.nx 0) (aB 0 [.str 0 0,.str 0 0])) H fun bK H=>ve (eB 2 H bK bR) fun _ H=>vF 0 x2 H fun bN H=>ve (call (.f 28) [bN,(.fn 29 [] [bK])] H) fun bS H=>vq (aD (aO .lss).f bS (iN 0)) H fun a38 H=>cd a38 (qhq call g5 x7 pJ H) (qxv call g5 x2 x7 bK bS pJ H)
def q9g(eT:pD)(x2 mG x20:AV)(g5:AV->pD)(x7 pJ:AV)(H:Hp):R1:=vq (aD (aO .lss).f pJ x20) H fun a6 H=>cd a6 (qxu call g5 x2 x7 mG pJ H) (eT x7 H)
def qff(eT:pD)(x2 mG x20:AV)(n:Nat):AV->pD:=oF (q9g call eT x2 mG x20) n
def q9h(eT:pD)(x2 mG x20:AV):AV->pD:=qff call eT x2 mG x20 dO
def q9f(x1 x2:AV)(H:Hp):R1:=ve (call (.f 10) [x1] H) fun a3 H=>vq (aF a3) H fun a4 H=>q9h call (fun x7 H=>qfg call x7 H) x2 a3 a4 (.aA) (iN 0) H
def zs3(x0 x1:AV)(H:Hp):R1:=vq (bJ 1 H.nx x0) H fun a0 H=>vq (aV 1 H a0) H fun a41 H=>ve (call (.f 27) [a41] H) fun a42 H=>vq (aD (aO .neq).f a42 (iN 0)) H fun a43 H=>cd a43 (.ok (.aY [(.aA),a42]) H) (q9f call x1 a0 H)
def zFa(x0 x1:AV)(H:Hp):R1:=zs3 call x0 x1 H
def zs2(x0:AV)(H:Hp):R1:=vq (iY H.nx x0) H fun a0 H=>ve (call (.f 31) [(.fn 32 [] [a0])] H) fun a1 H=>.ok a1 H
def zFb(x0:AV)(H:Hp):R1:=zs2 call x0 H
def qol(call:Ev.Call)(x3:AV)(H:Hp):R1:=.ok x3 H
def q9c(call:Ev.Call)(g1:AV->pD)(x3 x4:AV)(H:Hp):R1:=vI x4 H fun a2 H=>g1 x3 a2 H
def qxt(g1:AV->pD)(x0 x3 x4:AV)(H:Hp):R1:=dz 0 H fun b4 H=>dn 0 0 b4 H [] [] (.val x3) fun a5 H p w=>dn 1 0 b4 H p w (.val x0) fun a6 H p w=>dn 2 0 b4 H p w (.val x4) fun a7 H p w=>dn 3 6 b4 H p w (aJ 6 a6 a7) fun a8 H p w=>dn 4 14 b4 H p w (aU 0 a8) fun a9 H p w=>dn 5 30 b4 H p w (aU 0 a9) fun bR H p w=>dl 6 62 b4 H p w (fun H=>aV 2 H bR) fun bK H p w=>dn 8 0 b4 H p w (.val x0) fun a12 H p w=>dn 9 0 b4 H p w (.val x4) fun bO H p w=>dn 10 768 b4 H p w (aJ 6 a12 bO) fun bN H p w=>dn 11 1792 b4 H p w (aU 3 bN) fun bS H p w=>dn 12 3840 b4 H p w (aU 0 bS) fun a16 H p w=>dl 13 7936 b4 H p w (fun H=>aV 2 H a16) fun a17 H p w=>de 127 H p w (call (.f 33) [a5,bK] (bQ 127 p H)) (some true) fun dB H p w=>de 16383 H p w (call (.f 33) [dB,a17] (bQ 16383 p H)) (some true) fun dP H p w=>dn 15 32767 b4 H p w (.val dP) fun a20 H p w=>jU p H fun H=>q9c call g1 a20 x4 H
def q9d(cZ:pD)(x0:AV)(g1:AV->pD)(x3 x4:AV)(H:Hp):R1:=vq (aF x0) H fun a22 H=>vq (aD (aO .lss).f x4 a22) H fun a23 H=>cd a23 (qxt call g1 x0 x3 x4 H) (cZ x3 H)
def qok(cZ:pD)(x0:AV)(n:Nat):AV->pD:=oF (q9d call cZ x0) n
def q9e(cZ:pD)(x0:AV):AV->pD:=qok call cZ x0 dO
def zs1(x0:AV)(H:Hp):R1:=q9e call (fun x3 H=>qol call x3 H) x0 (.aA) (iN 0) H
def zFc(x0:AV)(H:Hp):R1:=zs1 call x0 H
def qoj(call:Ev.Call)(H:Hp):R1:=.ok (.bool true) H
def q89(call:Ev.Call)(g1:pD)(x5:AV)(H:Hp):R1:=vI x5 H g1
def q88(iG:pD)(g1:pD)(x0 x1 x5:AV)(H:Hp):R1:=vl (aJ 2 x0 x5) fun a4=>vl (aV 2 H a4) fun a5=>vl (aJ 2 x1 x5) fun a6=>vl (aV 2 H a6) fun a7=>vl (mQ true ((⟨E2.f ⟨gW (eqFields [(p1,⟨bZ⟩,0),(p1,⟨bZ⟩,1)])⟩⟩:E2).f a5 a7)) fun a8=>cd a8 (iG (.bool false) H) (q89 call g1 x5 H)
def q9a(iG:pD)(cZ:pH)(x0 x1:AV)(g1:pD)(x5:AV)(H:Hp):R1:=vq (aF x1) H fun bR H=>vq (aD (aO .lss).f x5 bR) H fun bK H=>cd bK (q88 call iG g1 x0 x1 x5 H) (cZ H)
def qoi(iG:pD)(cZ:pH)(x0 x1:AV)(n:Nat):pD:=iK (q9a call iG cZ x0 x1) n
def q9b(iG:pD)(cZ:pH)(x0 x1:AV):pD:=qoi call iG cZ x0 x1 dO
def qxs(x0 x1:AV)(H:Hp):R1:=q9b call (fun x4 H=>.ok x4 H) (fun H=>qoj call H) x0 x1 (iN 0) H
def zsz(x0 x1:AV)(H:Hp):R1:=vq (aF x0) H fun bO H=>vq (aF x1) H fun bN H=>vq (aD (aO .neq).f bO bN) H fun bS H=>vg (aM false bS) (.val x0) H fun a16 H=>vg (aM false bS) (iC a16) H fun a17 H=>vg (aM false bS) (.val x0) H fun dB H=>vg (aM false bS) (aF dB) H fun dP H=>vg (aM false bS) (aD (aO .neq).f a17 dP) H fun a20 H=>vq (fO bS (.bool true) a20) H fun a21 H=>cd a21 (.ok (.bool false) H) (qxs call x0 x1 H)
def zFd(x0 x1:AV)(H:Hp):R1:=zsz call x0 x1 H
def zsy(x0:AV)(H:Hp):R1:=vq (iY H.nx x0) H fun a0 H=>ve (call (.f 31) [(.fn 34 [] [a0])] H) fun a1 H=>.ok a1 H
def zFe(x0:AV)(H:Hp):R1:=zsy call x0 H
def qoh(call:Ev.Call)(x3:AV)(H:Hp):R1:=.ok x3 H
def que(call:Ev.Call)(g1:AV->pD)(x3 x4:AV)(H:Hp):R1:=vI x4 H fun a2 H=>g1 x3 a2 H
def qxr(g1:AV->pD)(x0 x3 x4:AV)(H:Hp):R1:=vq (aJ 6 x0 x4) H fun a4 H=>vq (aU 3 a4) H fun a5 H=>vF 2 a5 H fun a7 H=>vq (gH (mP .eql).f a7 (.str 0 0)) H fun a8 H=>cd a8 (vq (aJ 6 x0 x4) H fun a9 H=>vq (aU 3 a9) H fun bR H=>vq (aU 0 bR) H fun bK H=>vq (aV 2 H bK) H fun a12 H=>ve (call (.f 33) [x3,a12] H) fun bO H=>que call g1 bO x4 H) (que call g1 x3 x4 H)
def q86(cZ:pD)(x0:AV)(g1:AV->pD)(x3 x4:AV)(H:Hp):R1:=vq (aF x0) H fun bS H=>vq (aD (aO .lss).f x4 bS) H fun a16 H=>cd a16 (qxr call g1 x0 x3 x4 H) (cZ x3 H)
def qog(cZ:pD)(x0:AV)(n:Nat):AV->pD:=oF (q86 call cZ x0) n
def q87(cZ:pD)(x0:AV):AV->pD:=qog call cZ x0 dO
def zsx(x0:AV)(H:Hp):R1:=q87 call (fun x3 H=>qoh call x3 H) x0 (.aA) (iN 0) H
def zFf(x0:AV)(H:Hp):R1:=zsx call x0 H
def qgv(call:Ev.Call)(x5:AV)(H:Hp):R1:=.ok x5 H
def qk6(call:Ev.Call)(g5:AV->pD)(x5 x8:AV)(H:Hp):R1:=vI x8 H fun a6 H=>g5 x5 a6 H
def qk7(call:Ev.Call)(g8:AV->pD)(x5 x9:AV)(H:Hp):R1:=vI x9 H fun a9 H=>g8 x5 a9 H
def qxq(g8:AV->pD)(x5 x6 x7 x8 x9:AV)(H:Hp):R1:=vl (aJ 2 x7 x9) fun bK=>vl (aU 0 bK) fun a12=>vl (aQ H a12) fun bO=>vl (aJ 2 x6 x8) fun bN=>vl (aU 0 bN) fun bS=>vl (aQ H bS) fun a16=>vl (gH (mP .eql).f bO a16) fun a17=>cd a17 (dz 14 H fun b18 H=>dn 0 0 b18 H [] [] (.val x5) fun dP H p w=>dn 1 0 b18 H p w (.val x6) fun a20 H p w=>dn 2 0 b18 H p w (.val x8) fun a21 H p w=>dn 3 6 b18 H p w (aJ 2 a20 a21) fun a22 H p w=>dl 4 14 b18 H p w (fun H=>aV 2 H a22) fun a23 H p w=>dn 5 0 b18 H p w (.val x7) fun a24 H p w=>dn 6 0 b18 H p w (.val x9) fun a25 H p w=>dn 7 96 b18 H p w (aJ 2 a24 a25) fun a26 H p w=>dn 8 224 b18 H p w (aU 1 a26) fun a27 H p w=>dl 9 480 b18 H p w (fun H=>aQ H a27) fun a28 H p w=>dn 10 1022 b18 H p w (cO (bU [.str 0 0,.str 0 0,.str 0 0] [(0,2,a23),(2,1,a28)])) fun a29 H p w=>da 11 2046 b18 H p w (iL 1 (b18+11) (bU (bE [.str 0 0,.str 0 0,.str 0 0] 1) [(0,3,a29)])) fun a30 H p w=>de 4095 H p w (iD 3 48 (bQ 4095 p H) dP (jE 3 (bQ 4095 p H) a30)) (some true) fun a31 H p w=>dn 13 8191 b18 H p w (.val a31) fun a32 H p w=>jU p H fun H=>qk7 call g8 a32 x9 H) (qk7 call g8 x5 x9 H)
def q82(aAL:pD)(x6 x7 x8:AV)(g8:AV->pD)(x5 x9:AV)(H:Hp):R1:=vq (aF x7) H fun a34 H=>vq (aD (aO .lss).f x9 a34) H fun a35 H=>cd a35 (qxq call g8 x5 x6 x7 x8 x9 H) (aAL x5 H)
def qof(aAL:pD)(x6 x7 x8:AV)(n:Nat):AV->pD:=oF (q82 call aAL x6 x7 x8) n
def q84(aAL:pD)(x6 x7 x8:AV):AV->pD:=qof call aAL x6 x7 x8 dO
def qxp(g5:AV->pD)(x5 x6 x7 x8:AV)(H:Hp):R1:=q84 call (fun x5 H=>qk6 call g5 x5 x8 H) x6 x7 x8 x5 (iN 0) H
def q83(eT:pD)(x6 x7:AV)(g5:AV->pD)(x5 x8:AV)(H:Hp):R1:=vq (aF x6) H fun a37 H=>vq (aD (aO .lss).f x8 a37) H fun a38 H=>cd a38 (qxp call g5 x5 x6 x7 x8 H) (eT x5 H)
def qgu(eT:pD)(x6 x7:AV)(n:Nat):AV->pD:=oF (q83 call eT x6 x7) n
def q85(eT:pD)(x6 x7:AV):AV->pD:=qgu call eT x6 x7 dO
def zsw(x0 x1:AV)(H:Hp):R1:=vq (bJ 1 H.nx x0) H fun a0 H=>ve (call (.f 11) [x1] H) fun a1 H=>vq (aV 1 H a0) H fun a2 H=>ve (call (.f 35) [a2] H) fun a3 H=>q85 call (fun x5 H=>qgv call x5 H) a1 a3 (.aA) (iN 0) H
def zFg(x0 x1:AV)(H:Hp):R1:=zsw call x0 x1 H
def qoe(call:Ev.Call)(H:Hp):R1:=.ok (.bool true) H
def q8z(call:Ev.Call)(g1:pD)(x5:AV)(H:Hp):R1:=vI x5 H g1
def q8y(iG:pD)(g1:pD)(x0 x1 x5:AV)(H:Hp):R1:=vl (aJ 3 x0 x5) fun a4=>vl (aV 3 H a4) fun a5=>vl (aJ 3 x1 x5) fun a6=>vl (aV 3 H a6) fun a7=>vl (mQ true ((⟨E2.f ⟨gW (eqFields [((pA 2),⟨gW (eqFields [(p1,⟨bZ⟩,0),(p1,⟨bZ⟩,1)])⟩,0),(p1,⟨bZ⟩,2)])⟩⟩:E2).f a5 a7)) fun a8=>cd a8 (iG (.bool false) H) (q8z call g1 x5 H)
def q80(iG:pD)(cZ:pH)(x0 x1:AV)(g1:pD)(x5:AV)(H:Hp):R1:=vq (aF x1) H fun bR H=>vq (aD (aO .lss).f x5 bR) H fun bK H=>cd bK (q8y call iG g1 x0 x1 x5 H) (cZ H)
def qod(iG:pD)(cZ:pH)(x0 x1:AV)(n:Nat):pD:=iK (q80 call iG cZ x0 x1) n
def q81(iG:pD)(cZ:pH)(x0 x1:AV):pD:=qod call iG cZ x0 x1 dO
def qxo(x0 x1:AV)(H:Hp):R1:=q81 call (fun x4 H=>.ok x4 H) (fun H=>qoe call H) x0 x1 (iN 0) H
def zsv(x0 x1:AV)(H:Hp):R1:=vq (aF x0) H fun bO H=>vq (aF x1) H fun bN H=>vq (aD (aO .neq).f bO bN) H fun bS H=>vg (aM false bS) (.val x0) H fun a16 H=>vg (aM false bS) (iC a16) H fun a17 H=>vg (aM false bS) (.val x0) H fun dB H=>vg (aM false bS) (aF dB) H fun dP H=>vg (aM false bS) (aD (aO .neq).f a17 dP) H fun a20 H=>vq (fO bS (.bool true) a20) H fun a21 H=>cd a21 (.ok (.bool false) H) (qxo call x0 x1 H)
def zFh(x0 x1:AV)(H:Hp):R1:=zsv call x0 x1 H
def qz0(call:Ev.Call)(x2 x3:AV)(H:Hp):R1:=vq (aV 1 H x3) H fun a2 H=>ve (eB 1 H x2 a2) fun _ H=>eO (rV (aV 1 H x2)) H
def qpd:=cst qz0
theorem quu:qpd=qz0:=jW _
def qsj(call:Ev.Call)(g5:pD)(x8:AV)(H:Hp):R1:=vI x8 H g5
def ql0:=cst qsj
theorem qpk:ql0=qsj:=jW _
def qko(call:Ev.Call)(g8:pD)(x10:AV)(H:Hp):R1:=vI x10 H g8
def qz2:=cst qko
theorem qi5:qz2=qko:=jW _
def qsi(g8:pD)(x9 x10 dN:AV)(H:Hp):R1:=vq ((lY .not).f dN) H fun bK H=>cd bK (vq (aJ 6 x9 x10) H fun a12 H=>vq (aU 1 a12) H fun bO H=>ve (fQ H bO (.aA)) fun _ H=>qz2 call g8 x10 H) (qz2 call g8 x10 H)
def qz1:=cst qsi
theorem qpj:qz1=qsi:=jW _
def qkn(call:Ev.Call)(g16:AV->pD)(dN bY:AV)(H:Hp):R1:=vI bY H fun a17 H=>g16 dN a17 H
def zdx:=cst qkn
theorem qi4:zdx=qkn:=jW _
def qsh(g16:AV->pD)(x9 x10 dN bY:AV)(H:Hp):R1:=dz 0 H fun b19 H=>dn 0 0 b19 H [] [] (.val dN) fun a20 H p w=>dn 1 1 b19 H p w (.val a20) fun a21 H p w=>dq false false 2 3 (b19+2) H p w (fun _=>.val x9) (aM false a21) fun a22 H p w=>dq false false 3 3 (b19+3) H p w (fun _=>.val bY) (aM false a21) fun a23 H p w=>dq false false 4 15 (b19+4) H p w (fun _=>aJ 6 a22 a23) (aM false a21) fun a24 H p w=>dq false false 5 31 (b19+5) H p w (fun _=>aU 2 a24) (aM false a21) fun a25 H p w=>dq true false 6 63 (b19+6) H p w (fun H=>aV 4 H a25) (aM false a21) fun a26 H p w=>dq false false 7 3 (b19+7) H p w (fun _=>.val x9) (aM false a21) fun a27 H p w=>dq false false 8 3 (b19+8) H p w (fun _=>.val x10) (aM false a21) fun a28 H p w=>dq false false 9 387 (b19+9) H p w (fun _=>aJ 6 a27 a28) (aM false a21) fun a29 H p w=>dq false false 10 899 (b19+10) H p w (fun _=>aU 0 a29) (aM false a21) fun a30 H p w=>dq true false 11 1923 (b19+11) H p w (fun H=>aQ H a30) (aM false a21) fun a31 H p w=>de 4095 H p w (call (.f 52) [a26,(.int .u8 (.ofNat 3)),a31] (bQ 4095 p H)) (aM false a21) fun a32 H p w=>dn 13 8191 b19 H p w (fO a21 (.bool true) a32) fun a33 H p w=>dn 14 16383 b19 H p w (.val a33) fun a34 H p w=>jU p H fun H=>zdx call g16 a34 bY H
def zdw:=cst qsh
theorem qpi:zdw=qsh:=jW _
def qsb(g16:AV->pD)(qK:pD)(x9 x10 dN bY x90:AV)(H:Hp):R1:=cd x90 (zdw call g16 x9 x10 dN bY H) (qK dN H)
def zds:=cst qsb
theorem qpb:zds=qsb:=jW _
def qz4(qK:pD)(x9 x10:AV)(g16:AV->pD)(dN bY:AV)(H:Hp):R1:=vq (aF x9) H fun a37 H=>vq (aD (aO .lss).f bY a37) H fun a38 H=>zds call g16 qK x9 x10 dN bY a38 H
def qlx(qK:pD)(x9 x10:AV)(n:Nat):AV->pD:=oF (qz4 call qK x9 x10) n
def zd1(qK:pD)(x9 x10:AV):AV->pD:=qlx call qK x9 x10 dO
def qsa(g8:pD)(x9 x10 dN:AV)(H:Hp):R1:=zd1 call (fun dN H=>qz1 call g8 x9 x10 dN H) x9 x10 dN (iN 0) H
def zdr:=cst qsa
theorem qpa:zdr=qsa:=jW _
def qsg(g8:pD)(x9 x10:AV)(H:Hp):R1:=vq (aJ 6 x9 x10) H fun a40 H=>vq (aU 2 a40) H fun a41 H=>vq (aV 4 H a41) H fun a42 H=>ve (call (.f 52) [a42,(.int .u8 (.ofNat 1)),(.str 0 0)] H) fun a43 H=>zdr call g8 x9 x10 a43 H
def zdv:=cst qsg
theorem qph:zdv=qsg:=jW _
def qr9(g8:pD)(xU:pH)(x9 x10 x78:AV)(H:Hp):R1:=cd x78 (zdv call g8 x9 x10 H) (xU H)
def zdq:=cst qr9
theorem qo9:zdq=qr9:=jW _
def qz5(xU:pH)(x9:AV)(g8:pD)(x10:AV)(H:Hp):R1:=vq (aF x9) H fun a46 H=>vq (aD (aO .lss).f x10 a46) H fun a47 H=>zdq call g8 xU x9 x10 a47 H
def qly(xU:pH)(x9:AV)(n:Nat):pD:=iK (qz5 call xU x9) n
def zd2(xU:pH)(x9:AV):pD:=qly call xU x9 dO
def qr8(g5:pD)(x8 x9:AV)(H:Hp):R1:=zd2 call (fun H=>ql0 call g5 x8 H) x9 (iN 0) H
def zdp:=cst qr8
theorem qo8:zdp=qr8:=jW _
def qsf(g5:pD)(x3 x8:AV)(H:Hp):R1:=vF 0 x3 H fun a50 H=>vq (aJ 2 a50 x8) H fun a51 H=>vF 1 a51 H fun a53 H=>zdp call g5 x8 a53 H
def zdu:=cst qsf
theorem qpg:zdu=qsf:=jW _
def qr7(g5:pD)(nT:pH)(x3 x8 x66:AV)(H:Hp):R1:=cd x66 (zdu call g5 x3 x8 H) (nT H)
def zdo:=cst qr7
theorem qo7:zdo=qr7:=jW _
def qz6(nT:pH)(x3:AV)(g5:pD)(x8:AV)(H:Hp):R1:=vF 0 x3 H fun a57 H=>vq (aF a57) H fun a58 H=>vq (aD (aO .lss).f x8 a58) H fun a59 H=>zdo call g5 nT x3 x8 a59 H
def qi2(nT:pH)(x3:AV)(n:Nat):pD:=iK (qz6 call nT x3) n
def zd3(nT:pH)(x3:AV):pD:=qi2 call nT x3 dO
def qse(x2 x3:AV)(H:Hp):R1:=zd3 call (fun H=>qpd call x2 x3 H) x3 (iN 1) H
def qlz:=cst qse
theorem qpf:qlz=qse:=jW _
def qsd(call:Ev.Call)(yX:pD)(x4:AV)(H:Hp):R1:=vI x4 H yX
def zdt:=cst qsd
theorem qpe:zdt=qsd:=jW _
def qr6(yX:pD)(x1 x4 x5 x7:AV)(H:Hp):R1:=dz 17 H fun yR H=>dn 0 0 yR H [] [] (.val x7) fun a65 H p w=>dn 1 0 yR H p w (.val x7) fun a66 H p w=>dn 2 2 yR H p w (aZ a66) fun a67 H p w=>dn 3 6 yR H p w (aU 1 a67) fun a68 H p w=>dl 4 14 yR H p w (fun H=>aQ H a68) fun a69 H p w=>dn 5 0 yR H p w (.val x4) fun a70 H p w=>dl 7 0 yR H p w (fun H=>aV 1 H x1) fun a71 H p w=>dn 8 0 yR H p w (.val x4) fun a72 H p w=>dl 10 0 yR H p w (fun H=>aV 4 H x5) fun a73 H p w=>de 32 H p w (call (.f 50) [a70] (bQ 32 p H)) (some true) fun a74 H p w=>de 480 H p w (call (.f 51) [a71,a72] (bQ 480 p H)) (some true) fun a75 H p w=>dn 11 2016 yR H p w (cO (bU [.str 0 0,.aA,.int .u8 (.ofNat 0),.str 0 0,.str 0 0,.aA] [(0,1,a74),(1,1,a75),(2,4,a73)])) fun a76 H p w=>da 12 4064 yR H p w (iL 1 (yR+12) (bU (bE [.str 0 0,.aA,.int .u8 (.ofNat 0),.str 0 0,.str 0 0,.aA] 1) [(0,6,a76)])) fun a77 H p w=>de 8190 H p w (iD 6 104 (bQ 8190 p H) a69 (jE 6 (bQ 8190 p H) a77)) (some true) fun a78 H p w=>dn 14 16383 yR H p w (aZ a65) fun a79 H p w=>dn 15 32767 yR H p w (aU 1 a79) fun a80 H p w=>de 65535 H p w (fQ (bQ 65535 p H) a80 a78) (some true) fun _ H p w=>jU p H fun H=>zdt call yX x4 H
def zdn:=cst qr6
theorem qo6:zdn=qr6:=jW _
def qr5(yX:pD)(x1 x3 x4 x5:AV)(H:Hp):R1:=vF 0 x3 H fun a84 H=>vq (aD (aO .quo).f x4 (iN 4)) H fun a85 H=>vq (aD (aO .add).f (iN 1) a85) H fun a86 H=>vq (aJ 2 a84 a86) H fun a87 H=>zdn call yX x1 x4 x5 a87 H
def zdm:=cst qr5
theorem qo5:zdm=qr5:=jW _
def qsc(yX:pD)(x1 x3 x4:AV)(H:Hp):R1:=vq (aV 1 H x1) H fun a89 H=>ve (call (.f 49) [a89,x4,(iN 2),(iN 1),(.bool false)] H) fun a90 H=>vq (dD 0 a90) H fun a91 H=>vq (dD 1 a90) H fun a92 H=>vq (.new (.ptr H.nx 0) (aB 0 [.int .u8 (.ofNat 0),.str 0 0,.str 0 0,.aA])) H fun a93 H=>ve (eB 4 H a93 a91) fun _ H=>zdm call yX x1 x3 x4 a93 H
def qi3:=cst qsc
theorem qpc:qi3=qsc:=jW _
def qhs(yX:pD)(x1 x3 x4:AV)(H:Hp):R1:=vq (aD (aO .rem).f x4 (iN 4)) H fun a96 H=>vq (aD (aO .eql).f a96 (iN 0)) H fun a97 H=>cd a97 (dz 10 H fun b98 H=>dn 0 0 b98 H [] [] (aU 0 x3) fun a99 H p w=>dl 1 1 b98 H p w (fun H=>aQ H a99) fun aBk H p w=>dn 2 0 b98 H p w (.val x4) fun aFy H p w=>dn 3 4 b98 H p w (aD (aO .quo).f aFy (iN 4)) fun aGh H p w=>de 12 H p w (call (.f 48) [aGh] (bQ 12 p H)) (some true) fun aDt H p w=>dn 5 28 b98 H p w (cO (bU [.str 0 0,.aA] [(0,1,aDt)])) fun aEK H p w=>da 6 60 b98 H p w (iL 1 (b98+6) (bU (bE [.str 0 0,.aA] 1) [(0,2,aEK)])) fun a105 H p w=>de 127 H p w (iD 2 40 (bQ 127 p H) aBk (jE 2 (bQ 127 p H) a105)) (some true) fun aF0 H p w=>dn 8 255 b98 H p w (aU 0 x3) fun a107 H p w=>de 511 H p w (fQ (bQ 511 p H) a107 aF0) (some true) fun _ H p w=>jU p H fun H=>qi3 call yX x1 x3 x4 H) (qi3 call yX x1 x3 x4 H)
def qsk:=cst qhs
theorem qg7:qsk=qhs:=jW _
def qlv(yX:pD)(pX:pH)(x1 x3 x4 mG:AV)(H:Hp):R1:=cd mG (qsk call yX x1 x3 x4 H) (pX H)
def q3g:=cst qlv
theorem qlw:q3g=qlv:=jW _
def qz3(pX:pH)(x1 x3:AV)(yX:pD)(x4:AV)(H:Hp):R1:=vq (aV 1 H x1) H fun aA5 H=>ve (call (.f 47) [aA5] H) fun aEI H=>vq (aD (aO .lss).f x4 aEI) H fun aBb H=>q3g call yX pX x1 x3 x4 aBb H
def qi1(pX:pH)(x1 x3:AV)(n:Nat):pD:=iK (qz3 call pX x1 x3) n
def zd0(pX:pH)(x1 x3:AV):pD:=qi1 call pX x1 x3 dO
def qlt(x1 x2 x3:AV)(H:Hp):R1:=zd0 call (fun H=>qlz call x2 x3 H) x1 x3 (iN 0) H
def q3f:=cst qlt
theorem qlu:q3f=qlt:=jW _
def zvf(x0:AV)(H:Hp):R1:=vq (bJ 1 H.nx x0) H fun a0 H=>vq (.new (.ptr H.nx 0) (aB 0 [.aA])) H fun a1 H=>vq (cO (bU [.str 0 0,.aA] [(0,1,(.str 4 1919251317))])) H fun aVK H=>vq (iL 1 H.nx (bU (bE [.str 0 0,.aA] 1) [(0,2,aVK)])) H fun a116 H=>vq (cO (bU [.aA] [(0,1,a116)])) H fun a117 H=>vq (.new (.ptr H.nx 0) (aB 0 [.aA])) H fun aAc H=>ve (eB 1 H aAc a117) fun _ H=>q3f call a0 a1 aAc H
def zAc(x0:AV)(H:Hp):R1:=zvf call x0 H
def qkj(x3 x4 x7 x8:AV)(H:Hp):R1:=dz 13 H fun tK H=>dn 0 0 tK H [] [] (aU 1 x8) fun a25 H p w=>dl 1 1 tK H p w (fun H=>aQ H a25) fun a26 H p w=>dn 2 0 tK H p w (fD 4 1 x3 (iN 2)) fun a27 H p w=>dl 3 4 tK H p w (fun H=>aQ H a27) fun a28 H p w=>da 4 12 tK H p w (qt6 .i64 a28) fun a29 H p w=>dn 5 0 tK H p w (aU 1 x8) fun a30 H p w=>dl 6 32 tK H p w (fun H=>aQ H a30) fun a31 H p w=>dn 7 96 tK H p w (aF a31) fun a32 H p w=>dn 8 252 tK H p w (aD (aO .rem).f a29 a32) fun a33 H p w=>dn 9 511 tK H p w (aJ 2 a26 a33) fun a34 H p w=>dl 10 1023 tK H p w (fun H=>aV 2 H a34) fun a35 H p w=>da 11 0 tK H p w (.new (.ptr (tK+11) 0) (aB 0 [.str 0 0,.str 0 0])) fun a36 H p w=>de 4095 H p w (eB 2 (bQ 4095 p H) a36 a35) (some true) fun _ H p w=>jU p H fun H=>dz 0 H fun jQ H=>dn 0 0 jQ H [] [] (aU 0 x7) fun a39 H p w=>dl 1 1 jQ H p w (fun H=>aQ H a39) fun a40 H p w=>dn 2 0 jQ H p w (fD 4 1 x3 (iN 1)) fun a41 H p w=>dl 3 4 jQ H p w (fun H=>aQ H a41) fun a42 H p w=>dn 6 0 jQ H p w (aU 1 x7) fun a43 H p w=>dl 7 64 jQ H p w (fun H=>aQ H a43) fun a44 H p w=>dn 9 0 jQ H p w (aU 0 a36) fun a45 H p w=>dl 10 512 jQ H p w (fun H=>aQ H a45) fun a46 H p w=>dn 11 0 jQ H p w (fD 4 1 x3 (iN 3)) fun a47 H p w=>dl 12 2048 jQ H p w (fun H=>aQ H a47) fun a48 H p w=>dn 15 0 jQ H p w (aU 1 a36) fun a49 H p w=>dl 16 32768 jQ H p w (fun H=>aQ H a49) fun a50 H p w=>de 12 H p w (call (.f 53) [a42] (bQ 12 p H)) (some true) fun a51 H p w=>dn 5 31 jQ H p w (cO (bU [.str 0 0,.str 0 0] [(0,1,a40),(1,1,a51)])) fun a52 H p w=>dn 8 255 jQ H p w (cO (bU [.str 0 0,.str 0 0,.str 0 0] [(0,2,a52),(2,1,a44)])) fun a53 H p w=>de 6172 H p w (call (.f 53) [a48] (bQ 6172 p H)) (some true) fun a54 H p w=>dn 14 15900 jQ H p w (cO (bU [.str 0 0,.str 0 0] [(0,1,a46),(1,1,a54)])) fun a55 H p w=>dn 17 130588 jQ H p w (cO (bU [.str 0 0,.str 0 0,.str 0 0] [(0,2,a55),(2,1,a50)])) fun a56 H p w=>dn 18 262143 jQ H p w (cO (bU [.str 0 0,.str 0 0,.str 0 0,.str 0 0,.str 0 0,.str 0 0] [(0,3,a53),(3,3,a56)])) fun a57 H p w=>de 524287 H p w (eB 6 (bQ 524287 p H) x4 a57) (some true) fun _ H p w=>dn 20 1048575 jQ H p w (.val (.bool true)) fun a59 H p w=>jU p H fun H=>eO (jH (iX (rV (aV 6 H x4)) (iX (some a59) (some [])))) H
def qqx:=cst qkj
theorem qot:qqx=qkj:=jW _
def qki(x2 x3 x4 x6:AV)(H:Hp):R1:=vq (fD 4 1 x3 (iN 0)) H fun a5 H=>vq (aQ H a5) H fun a6 H=>vq (qt6 .i64 a6) H fun a7 H=>vq (aF x6) H fun a8 H=>vq (aD (aO .rem).f a7 a8) H fun a9 H=>vq (aJ 2 x6 a9) H fun bR H=>vq (aV 2 H bR) H fun bK H=>vq (.new (.ptr H.nx 0) (aB 0 [.str 0 0,.str 0 0])) H fun a12 H=>ve (eB 2 H a12 bK) fun _ H=>vq (aV 1 H x2) H fun bN H=>vF 0 a12 H fun a16 H=>vF 1 a12 H fun dB H=>ve (call (.f 39) [bN,a16,dB] H) fun dP H=>vq (dD 0 dP) H fun a20 H=>vq (dD 1 dP) H fun a21 H=>vq (.new (.ptr H.nx 0) (aB 0 [.str 0 0,.aA,.int .u8 (.ofNat 0),.str 0 0,.str 0 0,.aA])) H fun a22 H=>ve (eB 6 H a22 a20) fun _ H=>vF 1 a22 H fun a62 H=>vq (aF a62) H fun a63 H=>vq (aD (aO .eql).f a63 (iN 0)) H fun a64 H=>cd a64 (vq (cO (bU [.str 0 0,.str 0 0,.str 0 0,.str 0 0,.str 0 0,.str 0 0] [])) H fun a65 H=>ve (eB 6 H x4 a65) fun _ H=>eO (jH (iX (rV (aV 6 H x4)) (iX (some (.bool false)) (some [])))) H) (qqx call x3 x4 a12 a22 H)
def qyc:=cst qki
theorem qor:qyc=qki:=jW _
def ztd(x0 x1:AV)(H:Hp):R1:=vq (bJ 1 H.nx x0) H fun a0 H=>vq (bJ 4 H.nx x1) H fun a1 H=>vq (.new (.ptr H.nx 0) (aB 0 [.str 0 0,.str 0 0,.str 0 0,.str 0 0,.str 0 0,.str 0 0])) H fun a2 H=>vq (aV 1 H a0) H fun a3 H=>ve (call (.f 35) [a3] H) fun a4 H=>vq (aF a4) H fun a68 H=>vq (aD (aO .eql).f a68 (iN 0)) H fun a69 H=>cd a69 (vq (cO (bU [.str 0 0,.str 0 0,.str 0 0,.str 0 0,.str 0 0,.str 0 0] [])) H fun a70 H=>ve (eB 6 H a2 a70) fun _ H=>eO (jH (iX (rV (aV 6 H a2)) (iX (some (.bool false)) (some [])))) H) (qyc call a0 a1 a2 a4 H)
def zEc(x0 x1:AV)(H:Hp):R1:=ztd call x0 x1 H
def yS(call:Ev.Call)(x3:AV)(H:Hp):R1:=.ok x3 H
def qoq(call:Ev.Call)(g1:AV->pD)(x3 x4:AV)(H:Hp):R1:=vI x4 H fun a2 H=>g1 x3 a2 H
def quf(g1:AV->pD)(x4 x5:AV)(H:Hp):R1:=qoq call g1 x5 x4 H
def qfm(g1:AV->pD)(x0 x4 x5 x6:AV)(H:Hp):R1:=vq ((lY .not).f x6) H fun a5 H=>cd a5 (vq (aJ 6 x0 x4) H fun a6 H=>vq (aV 6 H a6) H fun a7 H=>vq (iL 1 H.nx (bU (bE [.str 0 0,.str 0 0,.str 0 0,.str 0 0,.str 0 0,.str 0 0] 1) [(0,6,a7)])) H fun a8 H=>ve (iD 6 96 H x5 (jE 6 H a8)) fun a9 H=>quf call g1 x4 a9 H) (quf call g1 x4 x5 H)
def qx9(call:Ev.Call)(g11:AV->AV->pD)(x5 x6 x7:AV)(H:Hp):R1:=vI x7 H fun a12 H=>g11 x5 x6 a12 H
def qla(g11:AV->AV->pD)(x3 x5 x6 x7:AV)(H:Hp):R1:=vq (aJ 6 x3 x7) H fun bN H=>vq (aV 6 H bN) H fun bS H=>vq (iL 1 H.nx (bU (bE [.str 0 0,.str 0 0,.str 0 0,.str 0 0,.str 0 0,.str 0 0] 1) [(0,6,bS)])) H fun a16 H=>ve (iD 6 96 H x5 (jE 6 H a16)) fun a17 H=>qx9 call g11 a17 x6 x7 H
def qx8(g11:AV->AV->pD)(x0 x3 x4 x5 x6 x7:AV)(H:Hp):R1:=dz 0 H fun b19 H=>dn 0 0 b19 H [] [] (.val x6) fun a20 H p w=>dn 1 1 b19 H p w ((lY .not).f a20) fun a21 H p w=>dn 2 3 b19 H p w (.val a21) fun a22 H p w=>dq false false 3 7 (b19+3) H p w (fun _=>.val x0) (aM true a22) fun a23 H p w=>dq false false 4 7 (b19+4) H p w (fun _=>.val x4) (aM true a22) fun a24 H p w=>dq false false 5 31 (b19+5) H p w (fun _=>aJ 6 a23 a24) (aM true a22) fun a25 H p w=>dq true false 6 63 (b19+6) H p w (fun H=>aV 6 H a25) (aM true a22) fun a26 H p w=>dq false false 7 7 (b19+7) H p w (fun _=>.val x3) (aM true a22) fun a27 H p w=>dq false false 8 7 (b19+8) H p w (fun _=>.val x7) (aM true a22) fun a28 H p w=>dq false false 9 391 (b19+9) H p w (fun _=>aJ 6 a27 a28) (aM true a22) fun a29 H p w=>dq true false 10 903 (b19+10) H p w (fun H=>aV 6 H a29) (aM true a22) fun a30 H p w=>de 2047 H p w (call (.f 55) [a26,a30] (bQ 2047 p H)) (aM true a22) fun a31 H p w=>dq false false 12 4095 (b19+12) H p w (fun _=>aD (aO .lss).f a31 (iN 0)) (aM true a22) fun a32 H p w=>dn 13 8191 b19 H p w (fO a22 a32 (.bool false)) fun a33 H p w=>jU p H fun H=>cd a33 (vq (aJ 6 x0 x4) H fun a34 H=>vq (aV 6 H a34) H fun a35 H=>vq (iL 1 H.nx (bU (bE [.str 0 0,.str 0 0,.str 0 0,.str 0 0,.str 0 0,.str 0 0] 1) [(0,6,a35)])) H fun a36 H=>ve (iD 6 96 H x5 (jE 6 H a36)) fun a37 H=>qla call g11 x3 a37 (.bool true) x7 H) (qla call g11 x3 x5 x6 x7 H)
def qya(vL:AV->pD)(x0 x3 x4:AV)(g11:AV->AV->pD)(x5 x6 x7:AV)(H:Hp):R1:=vq (aF x3) H fun a39 H=>vq (aD (aO .lss).f x7 a39) H fun a40 H=>cd a40 (qx8 call g11 x0 x3 x4 x5 x6 x7 H) (vL x5 x6 H)
def qfl(vL:AV->pD)(x0 x3 x4:AV)(n:Nat):AV->AV->pD:=lq3 (qya call vL x0 x3 x4) n
def qyb(vL:AV->pD)(x0 x3 x4:AV):AV->AV->pD:=qfl call vL x0 x3 x4 dO
def qx7(g1:AV->pD)(x0 x3 x4:AV)(H:Hp):R1:=qyb call (fun x5 x6 H=>qfm call g1 x0 x4 x5 x6 H) x0 x3 x4 (.aA) (.bool false) (iN 0) H
def qx6(g1:AV->pD)(x0 x3 x4:AV)(H:Hp):R1:=vq (aJ 6 x0 x4) H fun a42 H=>vq (aV 6 H a42) H fun a43 H=>ve (call (.f 54) [x3,a43] H) fun a44 H=>vq (aD (aO .eql).f a44 (iN 1)) H fun a45 H=>cd a45 (qoq call g1 x3 x4 H) (qx7 call g1 x0 x3 x4 H)
def q9u(cZ:pD)(x0:AV)(g1:AV->pD)(x3 x4:AV)(H:Hp):R1:=vq (aF x0) H fun a47 H=>vq (aD (aO .lss).f x4 a47) H fun a48 H=>cd a48 (qx6 call g1 x0 x3 x4 H) (cZ x3 H)
def y9(cZ:pD)(x0:AV)(n:Nat):AV->pD:=oF (q9u call cZ x0) n
def q9v(cZ:pD)(x0:AV):AV->pD:=y9 call cZ x0 dO
def ztc(x0:AV)(H:Hp):R1:=q9v call (fun x3 H=>yS call x3 H) x0 (.aA) (iN 0) H
def zEd(x0:AV)(H:Hp):R1:=ztc call x0 H
def zrj(call:Ev.Call)(x4:AV)(H:Hp):R1:=.ok x4 H
def zve(x0:AV)(H:Hp):R1:=vq (bJ 1 H.nx x0) H fun a0 H=>vq (aV 1 H a0) H fun a1 H=>ve (call (.f 56) [a1] H) fun a2 H=>vq (dD 0 a2) H fun a3 H=>vq (dD 1 a2) H fun a4 H=>vq (.new (.ptr H.nx 0) (aB 0 [iN 0,.aA])) H fun a5 H=>ve (eB 2 H a5 a3) fun _ H=>vq (aD (aO .eql).f a4 (iN 0)) H fun a8 H=>cd a8 (vq (aV 2 H a5) H fun a9 H=>ve (call (.f 57) [a9] H) fun bR H=>vq (dD 0 bR) H fun bK H=>vq (dD 1 bR) H fun a12 H=>zrj call a12 H) (zrj call a4 H)
def zAe(x0:AV)(H:Hp):R1:=zve call x0 H
def zsu(call:Ev.Call)(x0 x1:AV)(H:Hp):R1:=vq (bJ 2 H.nx x0) H fun a0 H=>vF 0 a0 H fun a2 H=>vF 0 x1 H fun a4 H=>vq (gH (mP .eql).f a2 a4) H fun a5 H=>.ok a5 H
def zFi(x0 x1:AV)(H:Hp):R1:=zsu call x0 x1 H
def qoc(call:Ev.Call)(H:Hp):R1:=.ok (.int .i64 (.negSucc 0)) H
def q8v(call:Ev.Call)(g2:pD)(x8:AV)(H:Hp):R1:=vI x8 H g2
def q8u(bL:pD)(g2:pD)(x0 x1 x8:AV)(H:Hp):R1:=vq (aJ 2 x0 x8) H fun a6 H=>vq (aV 2 H a6) H fun a7 H=>ve (sD call x1 [a7] H) fun a8 H=>cd a8 (bL x8 H) (q8v call g2 x8 H)
def q8w(bL:pD)(aW:pH)(x0 x1 x7:AV)(g2:pD)(x8:AV)(H:Hp):R1:=vq (aD (aO .lss).f x8 x7) H fun a3 H=>cd a3 (q8u call bL g2 x0 x1 x8 H) (aW H)
def qob(bL:pD)(aW:pH)(x0 x1 x7:AV)(n:Nat):pD:=iK (q8w call bL aW x0 x1 x7) n
def q8x(bL:pD)(aW:pH)(x0 x1 x7:AV):pD:=qob call bL aW x0 x1 x7 dO
def zst(x0 x1:AV)(H:Hp):R1:=vq (aF x0) H fun a1 H=>q8x call (fun x4 H=>.ok x4 H) (fun H=>qoc call H) x0 x1 a1 (iN 0) H
def zFj(x0 x1:AV)(H:Hp):R1:=zst call x0 x1 H
def zss(call:Ev.Call)(x0:AV)(H:Hp):R1:=vq (aF x0) H fun a0 H=>vq (aF x0) H fun a1 H=>vq (jX 3 x0 none (some a0) (some a1)) H fun a2 H=>.ok a2 H
def zFk(x0:AV)(H:Hp):R1:=zss call x0 H
def q8q(call:Ev.Call)(g2:pD)(x7:AV)(H:Hp):R1:=vI x7 H g2
def qxn(bL:pH)(g2:pD)(x0 x5 x7:AV)(H:Hp):R1:=vq (aJ 6 x5 x7) H fun a6 H=>vq (aV 6 H a6) H fun a7 H=>vq (.new (.ptr H.nx 0) (aB 0 [.str 0 0,.str 0 0,.str 0 0,.str 0 0,.str 0 0,.str 0 0])) H fun a8 H=>ve (eB 6 H a8 a7) fun _ H=>vq (aU 0 a8) H fun bR H=>vq (aU 0 bR) H fun bK H=>vq (aV 2 H bK) H fun a12 H=>ve (sD call x0 [a12] H) fun bO H=>vq ((lY .not).f bO) H fun bN H=>vg (aM false bN) (.val x0) H fun bS H=>vg (aM false bN) (aU 3 a8) H fun a16 H=>vg (aM false bN) (aU 0 a16) H fun a17 H=>vg (aM false bN) (aV 2 H a17) H fun dB H=>qG (aM false bN) (sD call bS [dB] H) H fun dP H=>vg (aM false bN) ((lY .not).f dP) H fun a20 H=>vq (fO bN (.bool true) a20) H fun a21 H=>cd a21 (bL H) (q8q call g2 x7 H)
def q8s(bL:pH)(aW:pH)(x0 x5 x6:AV)(g2:pD)(x7:AV)(H:Hp):R1:=vq (aD (aO .lss).f x7 x6) H fun a3 H=>cd a3 (qxn call bL g2 x0 x5 x7 H) (aW H)
def qoa(bL:pH)(aW:pH)(x0 x5 x6:AV)(n:Nat):pD:=iK (q8s call bL aW x0 x5 x6) n
def q8t(bL:pH)(aW:pH)(x0 x5 x6:AV):pD:=qoa call bL aW x0 x5 x6 dO
def zsr(x0 x1:AV)(H:Hp):R1:=vq (aQ H x1) H fun a0 H=>vq (aF a0) H fun a1 H=>q8t call (fun H=>.ok (.aY []) H) (fun H=>.ok (.aY []) H) x0 a0 a1 (iN 0) H
def zFl(x0 x1:AV)(H:Hp):R1:=zsr call x0 x1 H
def zsq(x0:AV)(H:Hp):R1:=ve (call (.f 61) [x0,(.fn 58 [] [])] H) fun a0 H=>ve (call (.f 60) [a0] H) fun a1 H=>ve (call (.f 59) [a1] H) fun a2 H=>.ok a2 H
def zFm(x0:AV)(H:Hp):R1:=zsq call x0 H
def q8n(call:Ev.Call)(x5:AV)(H:Hp):R1:=.ok x5 H
def qj0(x3 x5 x6:AV)(H:Hp):R1:=vq ((lY .not).f x6) H fun a2 H=>cd a2 (vq (aV 2 H x3) H fun a3 H=>vq (iL 1 H.nx (bU (bE [.str 0 0,.str 0 0] 1) [(0,2,a3)])) H fun a4 H=>ve (iD 2 32 H x5 (jE 2 H a4)) fun a5 H=>q8n call a5 H) (q8n call x5 H)
def q8m(call:Ev.Call)(g7:AV->AV->pD)(x5 x6 x7:AV)(H:Hp):R1:=vI x7 H fun a8 H=>g7 x5 x6 a8 H
def qk5(g7:AV->AV->pD)(x0 x5 x6 x7:AV)(H:Hp):R1:=vq (aJ 2 x0 x7) H fun bR H=>vq (aV 2 H bR) H fun bK H=>vq (iL 1 H.nx (bU (bE [.str 0 0,.str 0 0] 1) [(0,2,bK)])) H fun a12 H=>ve (iD 2 32 H x5 (jE 2 H a12)) fun bO H=>q8m call g7 bO x6 x7 H
def qxm(g7:AV->AV->pD)(x0 x3 x5 x6 x7:AV)(H:Hp):R1:=dz 0 H fun b15 H=>dn 0 0 b15 H [] [] (.val x6) fun a16 H p w=>dn 1 1 b15 H p w ((lY .not).f a16) fun a17 H p w=>dn 2 3 b15 H p w (.val a17) fun dB H p w=>dq true false 3 7 (b15+3) H p w (fun H=>aV 2 H x3) (aM true dB) fun dP H p w=>dq false false 4 7 (b15+4) H p w (fun _=>.val x0) (aM true dB) fun a20 H p w=>dq false false 5 7 (b15+5) H p w (fun _=>.val x7) (aM true dB) fun a21 H p w=>dq false false 6 55 (b15+6) H p w (fun _=>aJ 2 a20 a21) (aM true dB) fun a22 H p w=>dq true false 7 119 (b15+7) H p w (fun H=>aV 2 H a22) (aM true dB) fun a23 H p w=>de 255 H p w (call (.f 63) [dP,a23] (bQ 255 p H)) (aM true dB) fun a24 H p w=>dn 9 511 b15 H p w (fO dB a24 (.bool false)) fun a25 H p w=>jU p H fun H=>cd a25 (vq (aV 2 H x3) H fun a26 H=>vq (iL 1 H.nx (bU (bE [.str 0 0,.str 0 0] 1) [(0,2,a26)])) H fun a27 H=>ve (iD 2 32 H x5 (jE 2 H a27)) fun a28 H=>qk5 call g7 x0 a28 (.bool true) x7 H) (qk5 call g7 x0 x5 x6 x7 H)
def q8o(kW:AV->pD)(x0 x3:AV)(g7:AV->AV->pD)(x5 x6 x7:AV)(H:Hp):R1:=vq (aF x0) H fun a30 H=>vq (aD (aO .lss).f x7 a30) H fun a31 H=>cd a31 (qxm call g7 x0 x3 x5 x6 x7 H) (kW x5 x6 H)
def qjz(kW:AV->pD)(x0 x3:AV)(n:Nat):AV->AV->pD:=lq3 (q8o call kW x0 x3) n
def q8p(kW:AV->pD)(x0 x3:AV):AV->AV->pD:=qjz call kW x0 x3 dO
def qxl(x0 x3:AV)(H:Hp):R1:=q8p call (fun x5 x6 H=>qj0 call x3 x5 x6 H) x0 x3 (.aA) (.bool false) (iN 0) H
def zsp(x0 x1:AV)(H:Hp):R1:=vq (bJ 2 H.nx x1) H fun a0 H=>vq (aV 2 H a0) H fun a33 H=>ve (call (.f 62) [x0,a33] H) fun a34 H=>cd a34 (.ok x0 H) (qxl call x0 a0 H)
def zFn(x0 x1:AV)(H:Hp):R1:=zsp call x0 x1 H
def q2a(call:Ev.Call)(g2:pD)(x7:AV)(H:Hp):R1:=vI x7 H g2
def qxk(bL:pH)(g2:pD)(x0 x5 x7:AV)(H:Hp):R1:=vq (aJ 6 x5 x7) H fun a6 H=>vq (aV 6 H a6) H fun a7 H=>vq (.new (.ptr H.nx 0) (aB 0 [.str 0 0,.str 0 0,.str 0 0,.str 0 0,.str 0 0,.str 0 0])) H fun a8 H=>ve (eB 6 H a8 a7) fun _ H=>vq (aU 3 a8) H fun bR H=>vF 2 bR H fun a12 H=>vq (gH (mP .eql).f a12 (.str 0 0)) H fun bO H=>vg (aM true bO) (.val x0) H fun bN H=>vg (aM true bO) (aU 3 a8) H fun bS H=>vg (aM true bO) (aU 0 bS) H fun a16 H=>vg (aM true bO) (aV 2 H a16) H fun a17 H=>qG (aM true bO) (sD call bN [a17] H) H fun dB H=>vg (aM true bO) ((lY .not).f dB) H fun dP H=>vq (fO bO dP (.bool false)) H fun a20 H=>cd a20 (bL H) (q2a call g2 x7 H)
def q8k(bL:pH)(aW:pH)(x0 x5 x6:AV)(g2:pD)(x7:AV)(H:Hp):R1:=vq (aD (aO .lss).f x7 x6) H fun a3 H=>cd a3 (qxk call bL g2 x0 x5 x7 H) (aW H)
def qn9(bL:pH)(aW:pH)(x0 x5 x6:AV)(n:Nat):pD:=iK (q8k call bL aW x0 x5 x6) n
def q8l(bL:pH)(aW:pH)(x0 x5 x6:AV):pD:=qn9 call bL aW x0 x5 x6 dO
def zso(x0 x1:AV)(H:Hp):R1:=vq (aQ H x1) H fun a0 H=>vq (aF a0) H fun a1 H=>q8l call (fun H=>.ok (.aY []) H) (fun H=>.ok (.aY []) H) x0 a0 a1 (iN 0) H
def zFo(x0 x1:AV)(H:Hp):R1:=zso call x0 x1 H
def zdj(call:Ev.Call)(x3:AV)(H:Hp):R1:=.ok x3 H
def zdg(call:Ev.Call)(g2:AV->pD)(x3 x4:AV)(H:Hp):R1:=vI x4 H fun a3 H=>g2 x3 a3 H
def zrg(call:Ev.Call)(g5:AV->pD)(x3 x5:AV)(H:Hp):R1:=vI x5 H fun a6 H=>g5 x3 a6 H
def zdi(g5:AV->pD)(x1 x3 x4 x5:AV)(H:Hp):R1:=dz 21 H fun b8 H=>dn 0 0 b8 H [] [] (.val x3) fun a9 H p w=>dn 1 0 b8 H p w (aU 0 x1) fun bR H p w=>dl 2 2 b8 H p w (fun H=>aQ H bR) fun bK H p w=>dn 3 0 b8 H p w (.val x4) fun a12 H p w=>dn 4 14 b8 H p w (aJ 2 bK a12) fun bO H p w=>dn 5 30 b8 H p w (aU 0 bO) fun bN H p w=>dl 6 62 b8 H p w (fun H=>aQ H bN) fun bS H p w=>dn 7 0 b8 H p w (aU 0 x1) fun a16 H p w=>dl 8 128 b8 H p w (fun H=>aQ H a16) fun a17 H p w=>dn 9 0 b8 H p w (.val x4) fun dB H p w=>dn 10 896 b8 H p w (aJ 2 a17 dB) fun dP H p w=>dn 11 1920 b8 H p w (aU 1 dP) fun a20 H p w=>dl 12 3968 b8 H p w (fun H=>aQ H a20) fun a21 H p w=>dn 13 0 b8 H p w (.val x5) fun a22 H p w=>dn 14 16256 b8 H p w (aJ 6 a21 a22) fun a23 H p w=>dn 15 32640 b8 H p w (aU 0 a23) fun a24 H p w=>dl 16 65408 b8 H p w (fun H=>aQ H a24) fun a25 H p w=>dn 17 131070 b8 H p w (cO (bU [.str 0 0,.str 0 0] [(0,1,bS),(1,1,a25)])) fun a26 H p w=>da 18 262142 b8 H p w (iL 1 (b8+18) (bU (bE [.str 0 0,.str 0 0] 1) [(0,2,a26)])) fun a27 H p w=>de 524287 H p w (iD 2 32 (bQ 524287 p H) a9 (jE 2 (bQ 524287 p H) a27)) (some true) fun a28 H p w=>dn 20 1048575 b8 H p w (.val a28) fun a29 H p w=>jU p H fun H=>zrg call g5 a29 x5 H
def zdk(nT:pD)(x1 x4:AV)(g5:AV->pD)(x3 x5:AV)(H:Hp):R1:=vF 0 x1 H fun a32 H=>vq (aJ 2 a32 x4) H fun a33 H=>vF 1 a33 H fun a35 H=>vq (aF a35) H fun a36 H=>vq (aD (aO .lss).f x5 a36) H fun a37 H=>cd a37 (zdi call g5 x1 x3 x4 x5 H) (nT x3 H)
def q3e(nT:pD)(x1 x4:AV)(n:Nat):AV->pD:=oF (zdk call nT x1 x4) n
def zrh(nT:pD)(x1 x4:AV):AV->pD:=q3e call nT x1 x4 dO
def zdh(g2:AV->pD)(x1 x3 x4:AV)(H:Hp):R1:=zrh call (fun x3 H=>zdg call g2 x3 x4 H) x1 x4 x3 (iN 0) H
def zdl(aW:pD)(x1:AV)(g2:AV->pD)(x3 x4:AV)(H:Hp):R1:=vF 0 x1 H fun a40 H=>vq (aF a40) H fun a41 H=>vq (aD (aO .lss).f x4 a41) H fun a42 H=>cd a42 (zdh call g2 x1 x3 x4 H) (aW x3 H)
def qut(aW:pD)(x1:AV)(n:Nat):AV->pD:=oF (zdl call aW x1) n
def zri(aW:pD)(x1:AV):AV->pD:=qut call aW x1 dO
def zvd(x0:AV)(H:Hp):R1:=vq (bJ 1 H.nx x0) H fun a0 H=>zri call (fun x3 H=>zdj call x3 H) a0 (.aA) (iN 0) H
def zAh(x0:AV)(H:Hp):R1:=zvd call x0 H
def zvc(call:Ev.Call)(x0:AV)(H:Hp):R1:=vq (bJ 1 H.nx x0) H fun a0 H=>vF 0 a0 H fun a2 H=>vq (aF a2) H fun a3 H=>vq (o8 nJ a3 [(iN 12)]) H fun a4 H=>.ok a4 H
def zAn(x0:AV)(H:Hp):R1:=zvc call x0 H
def zvb(call:Ev.Call)(x0:AV)(H:Hp):R1:=vq (iL 3 H.nx (bU (bE [.str 0 0] 3) [(0,1,(.str 1 97)),(1,1,(.str 1 98)),(2,1,(.str 1 99))])) H fun a0 H=>vq (aD (aO .rem).f x0 (iN 3)) H fun a1 H=>vq (aJ 1 a0 a1) H fun a2 H=>vq (aQ H a2) H fun a3 H=>.ok a3 H
def zAo(x0:AV)(H:Hp):R1:=zvb call x0 H
def qg6(x1 x2 x3 x4 x5 x10 j6:AV)(H:Hp):R1:=vq (aV 1 H x5) H fun a9 H=>vI x3 H fun bR H=>ve (call (.f 49) [a9,x1,x2,bR,x4] H) fun bK H=>vq (dD 0 bK) H fun a12 H=>vq (dD 1 bK) H fun bO H=>vq (.new (.ptr H.nx 0) (aB 0 [.int .u8 (.ofNat 0),.str 0 0,.str 0 0,.aA])) H fun bN H=>ve (eB 4 H bN a12) fun _ H=>vq (aV 1 H x5) H fun a16 H=>vI x3 H fun a17 H=>vg (aM false x4) (.val j6) H fun dB H=>vg (aM false x4) (aD (aO .eql).f dB (.int .u8 (.ofNat 6))) H fun dP H=>vq (fO x4 (.bool true) dP) H fun a20 H=>ve (call (.f 49) [a16,x1,bO,a17,a20] H) fun a21 H=>vq (dD 0 a21) H fun a22 H=>vq (dD 1 a21) H fun a23 H=>vq (.new (.ptr H.nx 0) (aB 0 [.int .u8 (.ofNat 0),.str 0 0,.str 0 0,.aA])) H fun a24 H=>ve (eB 4 H a24 a22) fun _ H=>vq (aV 4 H bN) H fun a26 H=>vq (aV 4 H a24) H fun a27 H=>vq (iL 2 H.nx (bU (bE [.int .u8 (.ofNat 0),.str 0 0,.str 0 0,.aA] 2) [(0,4,a26),(4,4,a27)])) H fun a28 H=>vq (cO (bU [.int .u8 (.ofNat 0),.str 0 0,.str 0 0,.aA] [(0,1,j6),(3,1,a28)])) H fun a29 H=>ve (eB 4 H x10 a29) fun _ H=>eO (jH (iX (rV (aV 4 H x10)) (iX (some a23) (some [])))) H
def qeu(x1 x2 x3 x4 x5 x10 bY j6 x46 x53:AV)(H:Hp):R1:=cd x53 (vq (aV 1 H x5) H fun a35 H=>vq (aD (aO .quo).f bY (.int .u8 (.ofNat 8))) H fun a36 H=>ve (call (.f 77) [a35,x1,a36,x4] H) fun a37 H=>ve (eB 4 H x10 a37) fun _ H=>eO (jH (iX (rV (aV 4 H x10)) (iX (some x2) (some [])))) H) (vq (aD (aO .eql).f x46 (.int .u8 (.ofNat 4))) H fun a39 H=>cd a39 (vq (aV 1 H x5) H fun a40 H=>vq (aD (aO .quo).f bY (.int .u8 (.ofNat 8))) H fun a41 H=>ve (call (.f 78) [a40,x1,a41,x4] H) fun a42 H=>ve (eB 4 H x10 a42) fun _ H=>eO (jH (iX (rV (aV 4 H x10)) (iX (some x2) (some [])))) H) (vq (aD (aO .eql).f x46 (.int .u8 (.ofNat 6))) H fun a44 H=>cd a44 (qg6 call x1 x2 x3 x4 x5 x10 (.int .u8 (.ofNat 5)) H) (vq (aD (aO .eql).f x46 (.int .u8 (.ofNat 7))) H fun a45 H=>cd a45 (ve (call (.f 79) [x1] H) fun a46 H=>vq (aD (aO .gtr).f a46 (iN 0)) H fun a47 H=>cd a47 (qg6 call x1 x2 x3 x4 x5 x10 (.int .u8 (.ofNat 6)) H) (qg6 call x1 x2 x3 x4 x5 x10 j6 H)) (qg6 call x1 x2 x3 x4 x5 x10 j6 H))))
def qdk(x1 x2 x3 x4 x5 x10 bY j6 x46 x47:AV)(H:Hp):R1:=cd x47 (ve (call (.f 76) [x4] H) fun a33 H=>ve (eB 4 H x10 a33) fun _ H=>eO (jH (iX (rV (aV 4 H x10)) (iX (some x2) (some [])))) H) (vq (aD (aO .eql).f x46 (.int .u8 (.ofNat 2))) H fun a49 H=>cd a49 (qeu call x1 x2 x3 x4 x5 x10 bY j6 x46 a49 H) (vq (aD (aO .eql).f x46 (.int .u8 (.ofNat 3))) H fun a50 H=>qeu call x1 x2 x3 x4 x5 x10 bY j6 x46 a50 H))
def zdf(x1 x2 x3 x4 x5 x10:AV)(H:Hp):R1:=vF 0 x5 H fun a3 H=>vq (aJ 1 a3 x1) H fun a4 H=>vq (aQ H a4) H fun a5 H=>vq (aJ 1 a5 x2) H fun a6 H=>vq (aQ H a6) H fun a7 H=>vI x2 H fun a8 H=>vq (aD (aO .rem).f a7 (.int .u8 (.ofNat 8))) H fun a32 H=>vq (aD (aO .eql).f a32 (.int .u8 (.ofNat 0))) H fun a52 H=>cd a52 (qdk call x1 a8 x3 x4 x5 x10 a7 (.int .u8 (.ofNat 4)) a32 a52 H) (vq (aD (aO .eql).f a32 (.int .u8 (.ofNat 1))) H fun a53 H=>qdk call x1 a8 x3 x4 x5 x10 a7 (.int .u8 (.ofNat 4)) a32 a53 H)
def zmg(x0 x1 x2 x3 x4:AV)(H:Hp):R1:=vq (bJ 1 H.nx x0) H fun a0 H=>vq (.new (.ptr H.nx 0) (aB 0 [.int .u8 (.ofNat 0),.str 0 0,.str 0 0,.aA])) H fun a1 H=>vF 0 a0 H fun a56 H=>vq (aJ 1 a56 x1) H fun a57 H=>vq (aQ H a57) H fun a58 H=>vq (aF a58) H fun a59 H=>vq (aD (aO .geq).f x2 a59) H fun a60 H=>vg (aM false a60) (.val x2) H fun a61 H=>vg (aM false a60) (aD (aO .geq).f a61 (iN 12)) H fun a62 H=>vq (fO a60 (.bool true) a62) H fun a63 H=>vg (aM false a63) (.val x3) H fun a64 H=>vg (aM false a63) (aD (aO .gtr).f a64 (iN 6)) H fun a65 H=>vq (fO a63 (.bool true) a65) H fun a66 H=>cd a66 (ve (call (.f 76) [x4] H) fun a67 H=>ve (eB 4 H a1 a67) fun _ H=>eO (jH (iX (rV (aV 4 H a1)) (iX (some x2) (some [])))) H) (zdf call x1 x2 x3 x4 a0 a1 H)
def zAp(x0 x1 x2 x3 x4:AV)(H:Hp):R1:=zmg call x0 x1 x2 x3 x4 H
def zva(call:Ev.Call)(x0:AV)(H:Hp):R1:=vq (iL 4 H.nx (bU (bE [.str 0 0] 4) [(0,1,(.str 2 12402)),(1,1,(.str 2 12658)),(2,1,(.str 2 12914)),(3,1,(.str 2 13170))])) H fun a0 H=>vq (aD (aO .rem).f x0 (iN 4)) H fun a1 H=>vq (aJ 1 a0 a1) H fun a2 H=>vq (aQ H a2) H fun a3 H=>.ok a3 H
def zAq(x0:AV)(H:Hp):R1:=zva call x0 H
def zrf(call:Ev.Call)(x5:AV)(H:Hp):R1:=.ok x5 H
def qzx(x1 x2 x5 x7:AV)(H:Hp):R1:=vq (aV 1 H x2) H fun a8 H=>ve (call (.f 80) [a8,x1,(iN 1)] H) fun a9 H=>vq (aD (aO .quo).f a9 (.int .u8 (.ofNat 2))) H fun bR H=>vq (qt6 .i64 bR) H fun bK H=>vq (aF x7) H fun a12 H=>vq (aD (aO .rem).f bK a12) H fun bO H=>vq (aJ 2 x7 bO) H fun bN H=>vq (aV 2 H bN) H fun bS H=>vq (iL 1 H.nx (bU (bE [.str 0 0,.str 0 0] 1) [(0,2,bS)])) H fun a16 H=>ve (iD 2 32 H x5 (jE 2 H a16)) fun a17 H=>zrf call a17 H
def qr4(call:Ev.Call)(g19:AV->pD)(x7 x8:AV)(H:Hp):R1:=vI x8 H fun a20 H=>g19 x7 a20 H
def zu8(g19:AV->pD)(x1 x7 x8:AV)(H:Hp):R1:=ve (call (.f 79) [x8] H) fun a22 H=>ve (call (.f 79) [x1] H) fun a23 H=>vq (aD (aO .leq).f a22 a23) H fun a24 H=>cd a24 (vq (aD (aO .quo).f x8 (iN 4)) H fun a25 H=>ve (call (.f 48) [a25] H) fun a26 H=>ve (call (.f 50) [x8] H) fun a27 H=>vq (cO (bU [.str 0 0,.str 0 0] [(0,1,a26),(1,1,a27)])) H fun a28 H=>vq (iL 1 H.nx (bU (bE [.str 0 0,.str 0 0] 1) [(0,2,a28)])) H fun a29 H=>ve (iD 2 32 H x7 (jE 2 H a29)) fun a30 H=>qr4 call g19 a30 x8 H) (qr4 call g19 x7 x8 H)
def qzz(kZ:pD)(x1 x2:AV)(g19:AV->pD)(x7 x8:AV)(H:Hp):R1:=vq (aV 1 H x2) H fun a32 H=>ve (call (.f 47) [a32] H) fun a33 H=>vq (aD (aO .lss).f x8 a33) H fun a34 H=>cd a34 (zu8 call g19 x1 x7 x8 H) (kZ x7 H)
def qr1(kZ:pD)(x1 x2:AV)(n:Nat):AV->pD:=oF (qzz call kZ x1 x2) n
def zde(kZ:pD)(x1 x2:AV):AV->pD:=qr1 call kZ x1 x2 dO
def qr3(x1 x2 x5:AV)(H:Hp):R1:=vq (aV 1 H x2) H fun a4 H=>ve (call (.f 80) [a4,x1,(iN 1)] H) fun a5 H=>vq (aD (aO .rem).f a5 (.int .u8 (.ofNat 2))) H fun a6 H=>vq (aD (aO .eql).f a6 (.int .u8 (.ofNat 1))) H fun a7 H=>cd a7 (zde call (fun x7 H=>qzx call x1 x2 x5 x7 H) x1 x2 (.aA) (iN 0) H) (zrf call x5 H)
def qr2(call:Ev.Call)(g36:AV->pD)(x5 x6:AV)(H:Hp):R1:=vI x6 H fun a37 H=>g36 x5 a37 H
def zdc(g36:AV->pD)(x1 x2 x5 x6:AV)(H:Hp):R1:=vq (aV 1 H x2) H fun a39 H=>ve (call (.f 80) [a39,x1,(iN 0)] H) fun a40 H=>vq (qvh (qh0 .shr).f a40 x6) H fun a41 H=>vq (aD (aO .rem).f a41 (.int .u8 (.ofNat 2))) H fun a42 H=>vq (aD (aO .eql).f a42 (.int .u8 (.ofNat 1))) H fun a43 H=>cd a43 (ve (call (.f 48) [x6] H) fun a44 H=>vq (cO (bU [.str 0 0,.str 0 0] [(0,1,a44)])) H fun a45 H=>vq (iL 1 H.nx (bU (bE [.str 0 0,.str 0 0] 1) [(0,2,a45)])) H fun a46 H=>ve (iD 2 32 H x5 (jE 2 H a46)) fun a47 H=>qr2 call g36 a47 x6 H) (qr2 call g36 x5 x6 H)
def qzy(uH:pD)(x1 x2:AV)(g36:AV->pD)(x5 x6:AV)(H:Hp):R1:=vq (aD (aO .mul).f (iN 4) x6) H fun a49 H=>vq (aV 1 H x2) H fun a50 H=>ve (call (.f 47) [a50] H) fun a51 H=>vq (aD (aO .lss).f a49 a51) H fun a52 H=>vg (aM true a52) (.val x6) H fun a53 H=>vg (aM true a52) (aD (aO .lss).f a53 (iN 3)) H fun a54 H=>vq (fO a52 a54 (.bool false)) H fun a55 H=>cd a55 (zdc call g36 x1 x2 x5 x6 H) (uH x5 H)
def qr0(uH:pD)(x1 x2:AV)(n:Nat):AV->pD:=oF (qzy call uH x1 x2) n
def zdd(uH:pD)(x1 x2:AV):AV->pD:=qr0 call uH x1 x2 dO
def zu9(x0 x1:AV)(H:Hp):R1:=vq (bJ 1 H.nx x0) H fun a0 H=>vq (cO (bU [.str 0 0,.str 0 0] [(0,1,(.str 4 1919251317))])) H fun a1 H=>vq (iL 1 H.nx (bU (bE [.str 0 0,.str 0 0] 1) [(0,2,a1)])) H fun a2 H=>zdd call (fun x5 H=>qr3 call x1 a0 x5 H) x1 a0 a2 (iN 0) H
def zAr(x0 x1:AV)(H:Hp):R1:=zu9 call x0 x1 H
def zc9(call:Ev.Call)(H:Hp):R1:=.ok (.bool false) H
def zc8(call:Ev.Call)(g4:pD)(x8:AV)(H:Hp):R1:=vI x8 H g4
def zda(q4r:pD)(g4:pD)(x1 x2 x7 x8:AV)(H:Hp):R1:=vq (aJ 5 x7 x8) H fun a7 H=>vF 0 a7 H fun a9 H=>vq (aD (aO .eql).f a9 x1) H fun bR H=>vg (aM true bR) (.val x7) H fun bK H=>vg (aM true bR) (.val x8) H fun a12 H=>vg (aM true bR) (aJ 5 bK a12) H fun bO H=>vg (aM true bR) (aU 1 bO) H fun bN H=>vg (aM true bR) (aQ H bN) H fun bS H=>vg (aM true bR) (.val x2) H fun a16 H=>vg (aM true bR) (gH (mP .eql).f bS a16) H fun a17 H=>vq (fO bR a17 (.bool false)) H fun dB H=>cd dB (q4r (.bool true) H) (zc8 call g4 x8 H)
def zdb(q4r:pD)(aBQ:pH)(x1 x2 x7:AV)(g4:pD)(x8:AV)(H:Hp):R1:=vq (aF x7) H fun a20 H=>vq (aD (aO .lss).f x8 a20) H fun a21 H=>cd a21 (zda call q4r g4 x1 x2 x7 x8 H) (aBQ H)
def q3d(q4r:pD)(aBQ:pH)(x1 x2 x7:AV)(n:Nat):pD:=iK (zdb call q4r aBQ x1 x2 x7) n
def zre(q4r:pD)(aBQ:pH)(x1 x2 x7:AV):pD:=q3d call q4r aBQ x1 x2 x7 dO
def zu7(x0 x1 x2:AV)(H:Hp):R1:=vq (bJ 4 H.nx x0) H fun a0 H=>vq (aV 4 H a0) H fun a1 H=>ve (call (.f 81) [(.aA),a1,(.bool false)] H) fun a2 H=>zre call (fun x6 H=>.ok x6 H) (fun H=>zc9 call H) x1 x2 a2 (iN 0) H
def zAs(x0 x1 x2:AV)(H:Hp):R1:=zu7 call x0 x1 x2 H
def q2y(call:Ev.Call)(x6:AV)(H:Hp):R1:=vq (cO (bU [.str 0 0,.aA,.int .u8 (.ofNat 0),.str 0 0,.str 0 0,.aA] [])) H fun a4 H=>ve (eB 6 H x6 a4) fun _ H=>eO (jH (iX (rV (aV 6 H x6)) (iX (some (.bool false)) (some [])))) H
def zra(call:Ev.Call)(g7:pD)(x9:AV)(H:Hp):R1:=vI x9 H g7
def zcr(xA:pD)(g7:pD)(x2 x3 x6 x8 x9:AV)(H:Hp):R1:=vF 0 x3 H fun bK H=>vq (aJ 2 bK x8) H fun a12 H=>vF 1 a12 H fun bN H=>vq (aJ 6 bN x9) H fun bS H=>vF 0 bS H fun a17 H=>vq (gH (mP .eql).f a17 x2) H fun dB H=>cd dB (vF 0 x3 H fun a20 H=>vq (aJ 2 a20 x8) H fun a21 H=>vF 1 a21 H fun a23 H=>vq (aJ 6 a23 x9) H fun a24 H=>vq (aV 6 H a24) H fun a25 H=>ve (eB 6 H x6 a25) fun _ H=>xA (.bool true) H) (zra call g7 x9 H)
def qus(xA:pD)(kW:pH)(x2 x3 x6 x8:AV)(g7:pD)(x9:AV)(H:Hp):R1:=vq (aD (aO .geq).f x8 (iN 0)) H fun a28 H=>vg (aM true a28) (.val x9) H fun a29 H=>vg (aM true a28) (aU 0 x3) H fun a30 H=>vg (aM true a28) (aQ H a30) H fun a31 H=>vg (aM true a28) (.val x8) H fun a32 H=>vg (aM true a28) (aJ 2 a31 a32) H fun a33 H=>vg (aM true a28) (aU 1 a33) H fun a34 H=>vg (aM true a28) (aQ H a34) H fun a35 H=>vg (aM true a28) (aF a35) H fun a36 H=>vg (aM true a28) (aD (aO .lss).f a29 a36) H fun a37 H=>vq (fO a28 a37 (.bool false)) H fun a38 H=>cd a38 (zcr call xA g7 x2 x3 x6 x8 x9 H) (kW H)
def qur(xA:pD)(kW:pH)(x2 x3 x6 x8:AV)(n:Nat):pD:=iK (qus call xA kW x2 x3 x6 x8) n
def zrb(xA:pD)(kW:pH)(x2 x3 x6 x8:AV):pD:=qur call xA kW x2 x3 x6 x8 dO
def zu4(x0 x1 x2:AV)(H:Hp):R1:=vq (bJ 1 H.nx x0) H fun a0 H=>vq (.new (.ptr H.nx 0) (aB 0 [.str 0 0,.aA,.int .u8 (.ofNat 0),.str 0 0,.str 0 0,.aA])) H fun a1 H=>vq (aV 1 H a0) H fun a2 H=>ve (call (.f 66) [a2,x1] H) fun a3 H=>zrb call (fun x7 H=>eO (jH (iX (rV (aV 6 H a1)) (iX (some x7) (some [])))) H) (fun H=>q2y call a1 H) x2 a0 a1 a3 (iN 0) H
def zAy(x0 x1 x2:AV)(H:Hp):R1:=zu4 call x0 x1 x2 H
def ztb(call:Ev.Call)(x0:AV)(H:Hp):R1:=vq (iL 5 H.nx (bU (bE [.str 0 0] 5) [(0,1,(.str 1 49)),(1,1,(.str 1 50)),(2,1,(.str 1 51)),(3,1,(.str 1 52)),(4,1,(.str 4 1953460082))])) H fun a0 H=>vq (aD (aO .rem).f x0 (.int .u8 (.ofNat 5))) H fun a1 H=>vq (aJ 1 a0 a1) H fun a2 H=>vq (aQ H a2) H fun a3 H=>.ok a3 H
def zEi(x0:AV)(H:Hp):R1:=ztb call x0 H
def qk9(call:Ev.Call)(H:Hp):R1:=.ok (iN 0) H
def q9q(call:Ev.Call)(g2:pD)(x5:AV)(H:Hp):R1:=vI x5 H g2
def q9p(bL:pD)(g2:pD)(x0 x3 x5:AV)(H:Hp):R1:=vl (aJ 6 x0 x5) fun a5=>vl (aV 6 H a5) fun a6=>vl (aV 6 H x3) fun a7=>vl (mQ false ((⟨E2.f ⟨gW (eqFields [((pA 3),⟨gW (eqFields [((pA 2),⟨gW (eqFields [(p1,⟨bZ⟩,0),(p1,⟨bZ⟩,1)])⟩,0),(p1,⟨bZ⟩,2)])⟩,0),((pA 3),⟨gW (eqFields [((pA 2),⟨gW (eqFields [(p1,⟨bZ⟩,0),(p1,⟨bZ⟩,1)])⟩,0),(p1,⟨bZ⟩,2)])⟩,3)])⟩⟩:E2).f a6 a7)) fun a8=>cd a8 (bL (iN 1) H) (q9q call g2 x5 H)
def q9s(bL:pD)(aW:pH)(x0 x3:AV)(g2:pD)(x5:AV)(H:Hp):R1:=vq (aF x0) H fun bR H=>vq (aD (aO .lss).f x5 bR) H fun bK H=>cd bK (q9p call bL g2 x0 x3 x5 H) (aW H)
def qop(bL:pD)(aW:pH)(x0 x3:AV)(n:Nat):pD:=iK (q9s call bL aW x0 x3) n
def q9t(bL:pD)(aW:pH)(x0 x3:AV):pD:=qop call bL aW x0 x3 dO
def zta(x0 x1:AV)(H:Hp):R1:=vq (bJ 6 H.nx x1) H fun a0 H=>q9t call (fun x4 H=>.ok x4 H) (fun H=>qk9 call H) x0 a0 (iN 0) H
def zEj(x0 x1:AV)(H:Hp):R1:=zta call x0 x1 H
def q9o(x2 x3:AV)(H:Hp):R1:=vq (aU 3 x2) H fun a2 H=>vq (aV 3 H a2) H fun a3 H=>vq (aU 3 x3) H fun a4 H=>vq (aV 3 H a4) H fun a5 H=>ve (call (.f 83) [a3,a5] H) fun a6 H=>.ok a6 H
def zs9(x0 x1:AV)(H:Hp):R1:=vq (bJ 6 H.nx x0) H fun a0 H=>vq (bJ 6 H.nx x1) H fun a1 H=>vq (aU 0 a0) H fun a8 H=>vq (aV 3 H a8) H fun a9 H=>vq (aU 0 a1) H fun bR H=>vq (aV 3 H bR) H fun bK H=>vq (mQ true ((⟨E2.f ⟨gW (eqFields [((pA 2),⟨gW (eqFields [(p1,⟨bZ⟩,0),(p1,⟨bZ⟩,1)])⟩,0),(p1,⟨bZ⟩,2)])⟩⟩:E2).f a9 bK)) H fun a12 H=>cd a12 (vq (aU 0 a0) H fun bO H=>vq (aV 3 H bO) H fun bN H=>vq (aU 0 a1) H fun bS H=>vq (aV 3 H bS) H fun a16 H=>ve (call (.f 82) [bN,a16] H) fun a17 H=>.ok a17 H) (q9o call a0 a1 H)
def zEk(x0 x1:AV)(H:Hp):R1:=zs9 call x0 x1 H
def qls(x2 x10:AV)(H:Hp):R1:=vF 1 x10 H fun bK H=>ve (call (.f 88) [bK] H) fun a12 H=>vq (aU 1 x10) H fun bO H=>ve (fQ H bO a12) fun _ H=>vq (aV 2 H x10) H fun bS H=>ve (eB 2 H x2 bS) fun _ H=>eO (jH (iX (rV (aV 2 H x2)) (iX (some (iN 0)) (some [])))) H
def qrw(call:Ev.Call)(g21:pD)(x63:AV)(H:Hp):R1:=vI x63 H g21
def qzr(call:Ev.Call)(g32:pD)(x70:AV)(H:Hp):R1:=vI x70 H g32
def qg5(call:Ev.Call)(g46:pD)(x82:AV)(H:Hp):R1:=vI x82 H g46
def qrv(call:Ev.Call)(g60:pD)(x94:AV)(H:Hp):R1:=vI x94 H g60
def zc2(g60:pD)(mG x92 x94:AV)(H:Hp):R1:=vq (aJ 2 x92 x94) H fun a64 H=>vq (aV 2 H a64) H fun a65 H=>vq (.new (.ptr H.nx 0) (aB 0 [.str 0 0,.str 0 0])) H fun a66 H=>ve (eB 2 H a66 a65) fun _ H=>vF 1 a66 H fun a69 H=>vq (gH (mP .neq).f a69 (.str 0 0)) H fun a70 H=>cd a70 (vF 0 a66 H fun a72 H=>vF 1 a66 H fun a74 H=>ve (sD call mG [a72,a74] H) fun a75 H=>qrv call g60 x94 H) (qrv call g60 x94 H)
def qzt(qA:pH)(mG x92 x93:AV)(g60:pD)(x94:AV)(H:Hp):R1:=vq (aD (aO .lss).f x94 x93) H fun a61 H=>cd a61 (zc2 call g60 mG x92 x94 H) (qA H)
def qru(qA:pH)(mG x92 x93:AV)(n:Nat):pD:=iK (qzt call qA mG x92 x93) n
def zc4(qA:pH)(mG x92 x93:AV):pD:=qru call qA mG x92 x93 dO
def zc1(call:Ev.Call)(g95:pD)(wX:AV)(H:Hp):R1:=vI wX H g95
def q3a(g95:pD)(x18 mG yJ wX:AV)(H:Hp):R1:=vq (aJ 1 yJ wX) H fun a99 H=>vq (aQ H a99) H fun aBk H=>vF 2 x18 H fun aGh H=>ve (sD call mG [aBk,aGh] H) fun aDt H=>zc1 call g95 wX H
def qzs(qH:pH)(x18 mG yJ aA9:AV)(g95:pD)(wX:AV)(H:Hp):R1:=vq (aD (aO .lss).f wX aA9) H fun a96 H=>cd a96 (q3a call g95 x18 mG yJ wX H) (qH H)
def qrt(qH:pH)(x18 mG yJ aA9:AV)(n:Nat):pD:=iK (qzs call qH x18 mG yJ aA9) n
def zc3(qH:pH)(x18 mG yJ aA9:AV):pD:=qrt call qH x18 mG yJ aA9 dO
def q29(g46:pD)(x1 x5 x10 bY pI x80 x82:AV)(H:Hp):R1:=vq (aJ 5 x80 x82) H fun a50 H=>vq (aV 5 H a50) H fun a51 H=>vq (.new (.ptr H.nx 0) (aB 0 [.int .u8 (.ofNat 0),.str 0 0,.str 0 0,.aA,.bool false])) H fun a52 H=>ve (eB 5 H a52 a51) fun _ H=>vF 0 a52 H fun a55 H=>vq (aD (aO .eql).f a55 (.int .u8 (.ofNat 1))) H fun a56 H=>cd a56 (vF 1 pI H fun a58 H=>vq (aF a58) H fun a59 H=>zc4 call (fun H=>qg5 call g46 x82 H) (.fn 86 [] [x10,x5,bY,pI,a52]) a58 a59 (iN 0) H) (vq (aD (aO .eql).f a55 (.int .u8 (.ofNat 2))) H fun a77 H=>cd a77 (vF 0 bY H fun a79 H=>vF 1 a52 H fun a81 H=>ve (sD call (.fn 86 [] [x10,x5,bY,pI,a52]) [a79,a81] H) fun a82 H=>qg5 call g46 x82 H) (vq (aD (aO .eql).f a55 (.int .u8 (.ofNat 3))) H fun a83 H=>cd a83 (vq (aV 1 H x1) H fun a84 H=>vF 0 bY H fun a86 H=>vF 1 a52 H fun a88 H=>vF 2 a52 H fun a90 H=>ve (call (.f 87) [a84,a86,a88,a90] H) fun a91 H=>vq (dD 0 a91) H fun a92 H=>vq (dD 1 a91) H fun a93 H=>vq (aF a92) H fun a94 H=>zc3 call (fun H=>qg5 call g46 x82 H) a52 (.fn 86 [] [x10,x5,bY,pI,a52]) a92 a94 (iN 0) H) (qg5 call g46 x82 H)))
def qzu(u7:pH)(x1 x5 x10 bY pI x80 x81:AV)(g46:pD)(x82:AV)(H:Hp):R1:=vq (aD (aO .lss).f x82 x81) H fun a47 H=>cd a47 (q29 call g46 x1 x5 x10 bY pI x80 x82 H) (u7 H)
def qiz(u7:pH)(x1 x5 x10 bY pI x80 x81:AV)(n:Nat):pD:=iK (qzu call u7 x1 x5 x10 bY pI x80 x81) n
def zc5(u7:pH)(x1 x5 x10 bY pI x80 x81:AV):pD:=qiz call u7 x1 x5 x10 bY pI x80 x81 dO
def q28(g32:pD)(x1 x5 x10 bY x68 x70:AV)(H:Hp):R1:=vq (aJ 6 x68 x70) H fun a36 H=>vq (aV 6 H a36) H fun a37 H=>vq (.new (.ptr H.nx 0) (aB 0 [.str 0 0,.aA,.int .u8 (.ofNat 0),.str 0 0,.str 0 0,.aA])) H fun a38 H=>ve (eB 6 H a38 a37) fun _ H=>vq (aU 2 a38) H fun a40 H=>vq (aV 4 H a40) H fun a41 H=>ve (call (.f 85) [a41] H) fun a42 H=>vq (dD 0 a42) H fun a43 H=>vq (dD 1 a42) H fun a44 H=>vq (aF a43) H fun a45 H=>zc5 call (fun H=>qzr call g32 x70 H) x1 x5 x10 bY a38 a43 a45 (iN 0) H
def qzv(vQ:pH)(x1 x5 x10 bY x68 x69:AV)(g32:pD)(x70:AV)(H:Hp):R1:=vq (aD (aO .lss).f x70 x69) H fun a33 H=>cd a33 (q28 call g32 x1 x5 x10 bY x68 x70 H) (vQ H)
def qlr(vQ:pH)(x1 x5 x10 bY x68 x69:AV)(n:Nat):pD:=iK (qzv call vQ x1 x5 x10 bY x68 x69) n
def zc6(vQ:pH)(x1 x5 x10 bY x68 x69:AV):pD:=qlr call vQ x1 x5 x10 bY x68 x69 dO
def q27(g21:pD)(x1 x5 x10 x61 x63:AV)(H:Hp):R1:=vq (aJ 2 x61 x63) H fun a25 H=>vq (aV 2 H a25) H fun a26 H=>vq (.new (.ptr H.nx 0) (aB 0 [.str 0 0,.aA])) H fun a27 H=>ve (eB 2 H a27 a26) fun _ H=>vF 1 a27 H fun a30 H=>vq (aF a30) H fun a31 H=>zc6 call (fun H=>qrw call g21 x63 H) x1 x5 x10 a27 a30 a31 (iN 0) H
def qzw(uI:pH)(x1 x5 x10 x61 x62:AV)(g21:pD)(x63:AV)(H:Hp):R1:=vq (aD (aO .lss).f x63 x62) H fun a22 H=>cd a22 (q27 call g21 x1 x5 x10 x61 x63 H) (uI H)
def qi0(uI:pH)(x1 x5 x10 x61 x62:AV)(n:Nat):pD:=iK (qzw call uI x1 x5 x10 x61 x62) n
def zc7(uI:pH)(x1 x5 x10 x61 x62:AV):pD:=qi0 call uI x1 x5 x10 x61 x62 dO
def qkm(x1 x2 x5:AV)(H:Hp):R1:=vq (aQ H x5) H fun a5 H=>vq (xJ H a5) H fun a6 H=>vq (cO (bU [iN 0,.aA] [(0,1,a6)])) H fun a7 H=>vq (.new (.ptr H.nx 0) (aB 0 [iN 0,.aA])) H fun a8 H=>ve (eB 2 H a8 a7) fun _ H=>vF 0 x1 H fun dP H=>vq (aF dP) H fun a20 H=>zc7 call (fun H=>qls call x2 a8 H) x1 x5 a8 dP a20 (iN 0) H
def qrx(call:Ev.Call)(aBr:pD)(qB:AV)(H:Hp):R1:=vI qB H aBr
def q26(call:Ev.Call)(aBD:pD)(x43:AV)(H:Hp):R1:=vI x43 H aBD
def q25(aBD:pD)(x5 x7 rO x43:AV)(H:Hp):R1:=vq (aJ 6 rO x43) H fun a127 H=>vq (aV 6 H a127) H fun aYo H=>vq (.new (.ptr H.nx 0) (aB 0 [.str 0 0,.aA,.int .u8 (.ofNat 0),.str 0 0,.str 0 0,.aA])) H fun aLD H=>ve (eB 6 H aLD aYo) fun _ H=>vq (aQ H x5) H fun a131 H=>vF 0 x7 H fun aWp H=>vF 0 aLD H fun aTz H=>vq (cO (bU [.str 0 0,.str 0 0] [(0,1,aWp),(1,1,aTz)])) H fun aV0 H=>vq (aQ H x5) H fun aVR H=>vq (xJ H aVR) H fun a138 H=>ve (pR ⟨(⟨gW fun xs ys=>yF p1 ⟨bZ⟩ 1 xs ys 2 0⟩:E2).f,some 2⟩ H a131 aV0 a138) fun _ H=>q26 call aBD x43 H
def qry(pW:pH)(x5 x7 rO x42:AV)(aBD:pD)(x43:AV)(H:Hp):R1:=vq (aD (aO .lss).f x43 x42) H fun a124 H=>cd a124 (q25 call aBD x5 x7 rO x43 H) (pW H)
def qkl(pW:pH)(x5 x7 rO x42:AV)(n:Nat):pD:=iK (qry call pW x5 x7 rO x42) n
def q3b(pW:pH)(x5 x7 rO x42:AV):pD:=qkl call pW x5 x7 rO x42 dO
def q23(aBr:pD)(x5 x34 qB:AV)(H:Hp):R1:=vq (aJ 2 x34 qB) H fun a116 H=>vq (aV 2 H a116) H fun a117 H=>vq (.new (.ptr H.nx 0) (aB 0 [.str 0 0,.aA])) H fun aAc H=>ve (eB 2 H aAc a117) fun _ H=>vF 1 aAc H fun aMN H=>vq (aF aMN) H fun aZA H=>q3b call (fun H=>qrx call aBr qB H) x5 aAc aMN aZA (iN 0) H
def qrz(qC:pH)(x5 x34 qL:AV)(aBr:pD)(qB:AV)(H:Hp):R1:=vq (aD (aO .lss).f qB qL) H fun aBb H=>cd aBb (q23 call aBr x5 x34 qB H) (qC H)
def qhr(qC:pH)(x5 x34 qL:AV)(n:Nat):pD:=iK (qrz call qC x5 x34 qL) n
def q3c(qC:pH)(x5 x34 qL:AV):pD:=qhr call qC x5 x34 qL dO
def q21(x1 x2:AV)(H:Hp):R1:=vq (.new (.map H.nx) (.map [] 0)) H fun a2 H=>vq (.new (.ptr H.nx 0) (aB 0 [.dS])) H fun a3 H=>ve (fQ H a3 a2) fun _ H=>vF 0 x1 H fun aDm H=>vq (aF aDm) H fun aA5 H=>q3c call (fun H=>qkm call x1 x2 a3 H) a3 aDm aA5 (iN 0) H
def zu6(x0:AV)(H:Hp):R1:=vq (bJ 1 H.nx x0) H fun a0 H=>vq (.new (.ptr H.nx 0) (aB 0 [iN 0,.aA])) H fun a1 H=>vq (aV 1 H a0) H fun a143 H=>ve (call (.f 84) [a143] H) fun aKM H=>vq (aD (aO .neq).f aKM (iN 0)) H fun a145 H=>cd a145 (vq (cO (bU [iN 0,.aA] [])) H fun a146 H=>ve (eB 2 H a1 a146) fun _ H=>eO (jH (iX (rV (aV 2 H a1)) (iX (some aKM) (some [])))) H) (q21 call a0 a1 H)
def zAt(x0:AV)(H:Hp):R1:=zu6 call x0 H
def q20(call:Ev.Call)(x8:AV)(H:Hp):R1:=.ok (.aY [x8,(iN 0)]) H
def qzn(call:Ev.Call)(g11:pD)(rO:AV)(H:Hp):R1:=vI rO H g11
def zcx(call:Ev.Call)(g18:pD)(x85:AV)(H:Hp):R1:=vI x85 H g18
def zcw(g18:pD)(x8 dN x83 x85:AV)(H:Hp):R1:=vq (aJ 1 x83 x85) H fun a22 H=>vq (aQ H a22) H fun a23 H=>ve (call (.f 92) [dN] H) fun a24 H=>vq (aJ 1 x8 a23) H fun a25 H=>ve (fQ H a25 a24) fun _ H=>zcx call g18 x85 H
def qzp(uK:pH)(x8 dN x83 x84:AV)(g18:pD)(x85:AV)(H:Hp):R1:=vq (aD (aO .lss).f x85 x84) H fun dP H=>cd dP (zcw call g18 x8 dN x83 x85 H) (uK H)
def qro(uK:pH)(x8 dN x83 x84:AV)(n:Nat):pD:=iK (qzp call uK x8 dN x83 x84) n
def zc0(uK:pH)(x8 dN x83 x84:AV):pD:=qro call uK x8 dN x83 x84 dO
def qrs(g11:pD)(x8 x10 dN rO:AV)(H:Hp):R1:=vq (aF x10) H fun a17 H=>zc0 call (fun H=>qzn call g11 rO H) x8 dN x10 a17 (iN 0) H
def qlp(call:Ev.Call)(g32:AV->pD)(dN x49:AV)(H:Hp):R1:=vI x49 H fun a34 H=>g32 dN a34 H
def qrr(g32:AV->pD)(x4 x8 x9 dN x47 x49:AV)(H:Hp):R1:=vq (aJ 3 x47 x49) H fun a36 H=>vq (aV 3 H a36) H fun a37 H=>vq (.new (.ptr H.nx 0) (aB 0 [iN 0,iN 0,.bool false])) H fun a38 H=>ve (eB 3 H a38 a37) fun _ H=>vF 1 x4 H fun a41 H=>vF 0 a38 H fun a43 H=>vq (aJ 1 a41 a43) H fun a44 H=>vq (aQ H a44) H fun a45 H=>vq (aD (aO .eql).f a45 x9) H fun a46 H=>vg (aM true a46) (aU 1 x4) H fun a47 H=>vg (aM true a46) (aQ H a47) H fun a48 H=>vg (aM true a46) (aU 1 a38) H fun a49 H=>vg (aM true a46) (aQ H a49) H fun a50 H=>vg (aM true a46) (aJ 1 a48 a50) H fun a51 H=>vg (aM true a46) (aQ H a51) H fun a52 H=>vg (aM true a46) (.val x9) H fun a53 H=>vg (aM true a46) (aD (aO .neq).f a52 a53) H fun a54 H=>vq (fO a46 a54 (.bool false)) H fun a55 H=>cd a55 (dz 12 H fun b56 H=>dn 0 0 b56 H [] [] (.val dN) fun a57 H p w=>dn 1 0 b56 H p w (.val x8) fun a58 H p w=>dn 2 0 b56 H p w (aU 1 a38) fun a59 H p w=>dl 3 4 b56 H p w (fun H=>aQ H a59) fun a60 H p w=>dn 4 14 b56 H p w (aJ 1 a58 a60) fun a61 H p w=>dl 5 30 b56 H p w (fun H=>aQ H a61) fun a62 H p w=>dl 6 0 b56 H p w (fun H=>aV 3 H a38) fun a63 H p w=>de 64 H p w (call (.f 91) [a63] (bQ 64 p H)) (some true) fun a64 H p w=>dn 8 254 b56 H p w (aD (aO .add).f a62 a64) fun a65 H p w=>da 9 510 b56 H p w (iL 1 (b56+9) (bU (bE [iN 0] 1) [(0,1,a65)])) fun a66 H p w=>de 1023 H p w (iD 1 8 (bQ 1023 p H) a57 (jE 1 (bQ 1023 p H) a66)) (some true) fun a67 H p w=>dn 11 2047 b56 H p w (.val a67) fun a68 H p w=>jU p H fun H=>qlp call g32 a68 x49 H) (qlp call g32 dN x49 H)
def zcv:=cst qrr
theorem qo4:zcv=qrr:=jW _
def qzo(uF:pD)(x4 x8 x9 x47 x48:AV)(g32:AV->pD)(dN x49:AV)(H:Hp):R1:=vq (aD (aO .lss).f x49 x48) H fun a33 H=>cd a33 (zcv call g32 x4 x8 x9 dN x47 x49 H) (uF dN H)
def qiw(uF:pD)(x4 x8 x9 x47 x48:AV)(n:Nat):AV->pD:=oF (qzo call uF x4 x8 x9 x47 x48) n
def zcz(uF:pD)(x4 x8 x9 x47 x48:AV):AV->pD:=qiw call uF x4 x8 x9 x47 x48 dO
def zcu(g11:pD)(x1 x4 x8 x39 rO:AV)(H:Hp):R1:=vq (aJ 1 x39 rO) H fun bS H=>vq (aQ H bS) H fun a16 H=>vF 1 x1 H fun a30 H=>vq (aF a30) H fun a31 H=>zcz call (fun dN H=>qrs call g11 x8 a16 dN rO H) x4 x8 rO a30 a31 (.aA) (iN 0) H
def qlq(uR:pH)(x1 x4 x8 x39 x40:AV)(g11:pD)(rO:AV)(H:Hp):R1:=vq (aD (aO .lss).f rO x40) H fun a12 H=>cd a12 (zcu call g11 x1 x4 x8 x39 rO H) (uR H)
def qix(uR:pH)(x1 x4 x8 x39 x40:AV)(n:Nat):pD:=iK (qlq call uR x1 x4 x8 x39 x40) n
def qzq(uR:pH)(x1 x4 x8 x39 x40:AV):pD:=qix call uR x1 x4 x8 x39 x40 dO
def qkk(x1 x4 x8:AV)(H:Hp):R1:=vF 0 x4 H fun a9 H=>vq (aF a9) H fun bR H=>qzq call (fun H=>q20 call x8 H) x1 x4 x8 a9 bR (iN 0) H
def qzm:=cst qkk
theorem qiy:qzm=qkk:=jW _
def qrq(x1 x4:AV)(H:Hp):R1:=vF 0 x1 H fun a73 H=>vq (aD (aO .gtr).f a73 (iN 0)) H fun a74 H=>cd a74 (vF 0 x1 H fun a76 H=>vq (qie [iN 0] 8 H.nx a76 a76) H fun a77 H=>qzm call x1 x4 a77 H) (qzm call x1 x4 (.aA) H)
def zct:=cst qrq
theorem qo3:zct=qrq:=jW _
def qrp(x1 x4:AV)(H:Hp):R1:=vq (aV 2 H x1) H fun a79 H=>ve (call (.f 90) [a79] H) fun a80 H=>vq (dD 0 a80) H fun a81 H=>vq (dD 1 a80) H fun a82 H=>vq (aF a81) H fun a83 H=>vq (aD (aO .gtr).f a83 (iN 0)) H fun a84 H=>cd a84 (.ok (.aY [(.aA),(iN 12)]) H) (zct call x1 x4 H)
def zcs:=cst qrp
theorem qo2:zcs=qrp:=jW _
def zu5(x0:AV)(H:Hp):R1:=vq (bJ 2 H.nx x0) H fun a0 H=>vq (aV 2 H a0) H fun a1 H=>ve (call (.f 89) [a1] H) fun a2 H=>vq (dD 0 a2) H fun a3 H=>vq (dD 1 a2) H fun a4 H=>vq (.new (.ptr H.nx 0) (aB 0 [.aA,.aA])) H fun a5 H=>ve (eB 2 H a5 a3) fun _ H=>vq (aD (aO .neq).f a4 (iN 0)) H fun a86 H=>cd a86 (.ok (.aY [(.aA),a4]) H) (zcs call a0 a5 H)
def zAu(x0:AV)(H:Hp):R1:=zu5 call x0 H
def zsn(x0 x1:AV)(H:Hp):R1:=ve (call (.f 95) [x0] H) fun a0 H=>ve (call (.f 96) [a0,x1] H) fun a1 H=>.ok a0 H
def zFq(x0 x1:AV)(H:Hp):R1:=zsn call x0 x1 H
def qkb(call:Ev.Call)(z:Nat)(e:AV->AV->Option Bool)(zs:List AV)(x0:AV)(H:Hp):R1:=.ok x0 H
def zh0(call:Ev.Call)(z:Nat)(e:AV->AV->Option Bool)(zs:List AV)(g1:pD)(x3:AV)(H:Hp):R1:=vI x3 H g1
def qfa(call:Ev.Call)(z:Nat)(e:AV->AV->Option Bool)(zs:List AV)(iG:pD)(x0 x3:AV)(H:Hp):R1:=vq (jX z x0 (some x3) none none) H fun bK H=>ve (qhm zs H bK) fun _ H=>vq (jX z x0 none (some x3) none) H fun bO H=>iG bO H
def qni(call:Ev.Call)(z:Nat)(e:AV->AV->Option Bool)(zs:List AV)(g15:AV->pD)(x3 x5:AV)(H:Hp):R1:=vI x5 H fun a16 H=>g15 x3 a16 H
def q1n(z:Nat)(e:AV->AV->Option Bool)(zs:List AV)(g15:AV->pD)(x0 x3 x4 x5:AV)(H:Hp):R1:=vl (aJ z x4 x5) fun dB=>vl (aV z H dB) fun dP=>vl (aD (aO .sub).f x5 (iN 1)) fun a20=>vl (aJ z x4 a20) fun a21=>vl (aV z H a21) fun a22=>vl (mQ true (e dP a22)) fun a23=>cd a23 (vq (aJ z x4 x5) H fun a24 H=>vq (aV z H a24) H fun a25 H=>vq (aJ z x0 x3) H fun a26 H=>ve (eB z H a26 a25) fun _ H=>vI x3 H fun a28 H=>qni call z e zs g15 a28 x5 H) (qni call z e zs g15 x3 x5 H)
def q1o(z:Nat)(e:AV->AV->Option Bool)(zs:List AV)(lD:pD)(x0 x4:AV)(g15:AV->pD)(x3 x5:AV)(H:Hp):R1:=vq (aF x4) H fun a30 H=>vq (aD (aO .lss).f x5 a30) H fun a31 H=>cd a31 (q1n call z e zs g15 x0 x3 x4 x5 H) (lD x3 H)
def qf2(z:Nat)(e:AV->AV->Option Bool)(zs:List AV)(lD:pD)(x0 x4:AV)(n:Nat):AV->pD:=oF (q1o call z e zs lD x0 x4) n
def q1p(z:Nat)(e:AV->AV->Option Bool)(zs:List AV)(lD:pD)(x0 x4:AV):AV->pD:=qf2 call z e zs lD x0 x4 dO
def q1m(z:Nat)(e:AV->AV->Option Bool)(zs:List AV)(iG:pD)(g1:pD)(x0 x3:AV)(H:Hp):R1:=vl (aJ z x0 x3) fun a4=>vl (aV z H a4) fun a5=>vl (aD (aO .sub).f x3 (iN 1)) fun a6=>vl (aJ z x0 a6) fun a7=>vl (aV z H a7) fun a8=>vl (mQ false (e a5 a8)) fun a9=>cd a9 (vq (jX z x0 (some x3) none none) H fun bR H=>q1p call z e zs (fun x3 H=>qfa call z e zs iG x0 x3 H) x0 bR x3 (iN 1) H) (zh0 call z e zs g1 x3 H)
def zh1(z:Nat)(e:AV->AV->Option Bool)(zs:List AV)(iG:pD)(cZ:pH)(x0:AV)(g1:pD)(x3:AV)(H:Hp):R1:=vq (aF x0) H fun a33 H=>vq (aD (aO .lss).f x3 a33) H fun a34 H=>cd a34 (q1m call z e zs iG g1 x0 x3 H) (cZ H)
def qnh(z:Nat)(e:AV->AV->Option Bool)(zs:List AV)(iG:pD)(cZ:pH)(x0:AV)(n:Nat):pD:=iK (zh1 call z e zs iG cZ x0) n
def zh2(z:Nat)(e:AV->AV->Option Bool)(zs:List AV)(iG:pD)(cZ:pH)(x0:AV):pD:=qnh call z e zs iG cZ x0 dO
def q1l(z:Nat)(e:AV->AV->Option Bool)(zs:List AV)(x0:AV)(H:Hp):R1:=zh2 call z e zs (fun x2 H=>.ok x2 H) (fun H=>qkb call z e zs x0 H) x0 (iN 1) H
def qn2(z:Nat)(e:AV->AV->Option Bool)(zs:List AV)(x0:AV)(H:Hp):R1:=vq (aF x0) H fun a36 H=>vq (aD (aO .lss).f a36 (iN 2)) H fun a37 H=>cd a37 (.ok x0 H) (q1l call z e zs x0 H)
abbrev nO:AV->AV->Option Bool:=gW (eqFields [(p1,⟨bZ⟩,0),(p1,⟨bZ⟩,1)])
abbrev iA:List AV:=[.str 0 0,.str 0 0]
def zFr(x0:AV)(H:Hp):R1:=qn2 call 2 nO iA x0 H
def zjf(call:Ev.Call)(x0:AV)(H:Hp):R1:=vq (aF x0) H fun a0 H=>vq (aF x0) H fun a1 H=>vq (jX 2 x0 none (some a0) (some a1)) H fun a2 H=>.ok a2 H
def zFs(x0:AV)(H:Hp):R1:=zjf call x0 H
def qn8(call:Ev.Call)(H:Hp):R1:=.ok (.bool false) H
def q8h(call:Ev.Call)(g2:pD)(x5:AV)(H:Hp):R1:=vI x5 H g2
def q8g(bL:pD)(g2:pD)(x0 x3 x5:AV)(H:Hp):R1:=vl (aJ 2 x0 x5) fun a5=>vl (aV 2 H a5) fun a6=>vl (aV 2 H x3) fun a7=>vl (mQ false ((⟨E2.f ⟨gW (eqFields [(p1,⟨bZ⟩,0),(p1,⟨bZ⟩,1)])⟩⟩:E2).f a6 a7)) fun a8=>cd a8 (bL (.bool true) H) (q8h call g2 x5 H)
def q8i(bL:pD)(aW:pH)(x0 x3:AV)(g2:pD)(x5:AV)(H:Hp):R1:=vq (aF x0) H fun bR H=>vq (aD (aO .lss).f x5 bR) H fun bK H=>cd bK (q8g call bL g2 x0 x3 x5 H) (aW H)
def qn7(bL:pD)(aW:pH)(x0 x3:AV)(n:Nat):pD:=iK (q8i call bL aW x0 x3) n
def q8j(bL:pD)(aW:pH)(x0 x3:AV):pD:=qn7 call bL aW x0 x3 dO
def zsm(x0 x1:AV)(H:Hp):R1:=vq (bJ 2 H.nx x1) H fun a0 H=>q8j call (fun x4 H=>.ok x4 H) (fun H=>qn8 call H) x0 a0 (iN 0) H
def zFt(x0 x1:AV)(H:Hp):R1:=zsm call x0 x1 H
def zsl(call:Ev.Call)(x0 x1:AV)(H:Hp):R1:=vq (bJ 2 H.nx x0) H fun a0 H=>vq (bJ 2 H.nx x1) H fun a1 H=>vF 0 a0 H fun a3 H=>vF 0 a1 H fun a5 H=>vq (gH (mP .lss).f a3 a5) H fun a6 H=>vg (aM false a6) (aU 0 a0) H fun a7 H=>vg (aM false a6) (aQ H a7) H fun a8 H=>vg (aM false a6) (aU 0 a1) H fun a9 H=>vg (aM false a6) (aQ H a9) H fun bR H=>vg (aM false a6) (gH (mP .eql).f a8 bR) H fun bK H=>vg (aM false a6) (.val bK) H fun a12 H=>vg (aM true a12) (aU 1 a0) H fun bO H=>vg (aM true a12) (aQ H bO) H fun bN H=>vg (aM true a12) (aU 1 a1) H fun bS H=>vg (aM true a12) (aQ H bS) H fun a16 H=>vg (aM true a12) (gH (mP .lss).f bN a16) H fun a17 H=>vg (aM false a6) (fO a12 a17 (.bool false)) H fun dB H=>vq (fO a6 (.bool true) dB) H fun dP H=>.ok dP H
def zFu(x0 x1:AV)(H:Hp):R1:=zsl call x0 x1 H
def zq5(call:Ev.Call)(x2:AV)(H:Hp):R1:=vq (cO (bU [.int .u8 (.ofNat 0),.str 0 0,.str 0 0,.aA] [(0,1,(.int .u8 (.ofNat 1)))])) H fun a1 H=>ve (eB 4 H x2 a1) fun _ H=>eO (rV (aV 4 H x2)) H
def zu1(x0:AV)(H:Hp):R1:=vq (.new (.ptr H.nx 0) (aB 0 [.int .u8 (.ofNat 0),.str 0 0,.str 0 0,.aA])) H fun a0 H=>cd x0 (vq (cO (bU [.int .u8 (.ofNat 0),.str 0 0,.str 0 0,.aA] [(0,1,(.int .u8 (.ofNat 2))),(1,1,(.str 2 12402))])) H fun a4 H=>ve (eB 4 H a0 a4) fun _ H=>eO (rV (aV 4 H a0)) H) (zq5 call a0 H)
def zBe(x0:AV)(H:Hp):R1:=zu1 call x0 H
def zco(call:Ev.Call)(x2 x8 x9:AV)(H:Hp):R1:=vq (qt6 .i64 x2) H fun a2 H=>vq (aF x9) H fun a3 H=>vq (aD (aO .rem).f a2 a3) H fun a4 H=>vq (aJ 1 x9 a4) H fun a5 H=>vq (aQ H a5) H fun a6 H=>vq (cO (bU [.int .u8 (.ofNat 0),.str 0 0,.str 0 0,.aA] [(0,1,(.int .u8 (.ofNat 2))),(1,1,a6)])) H fun a7 H=>ve (eB 4 H x8 a7) fun _ H=>eO (rV (aV 4 H x8)) H
def qrk(call:Ev.Call)(g12:AV->pD)(x9 x10:AV)(H:Hp):R1:=vI x10 H fun bO H=>g12 x9 bO H
def zuz(g12:AV->pD)(x1 x3 x9 x10:AV)(H:Hp):R1:=ve (call (.f 104) [x1,x10,x3] H) fun bS H=>cd bS (ve (call (.f 50) [x10] H) fun a16 H=>vq (iL 1 H.nx (bU (bE [.str 0 0] 1) [(0,1,a16)])) H fun a17 H=>ve (iD 1 16 H x9 (jE 1 H a17)) fun dB H=>qrk call g12 dB x10 H) (qrk call g12 x9 x10 H)
def qzj(kX:pD)(x1 x3 x4:AV)(g12:AV->pD)(x9 x10:AV)(H:Hp):R1:=vq (aV 1 H x4) H fun a20 H=>ve (call (.f 47) [a20] H) fun a21 H=>vq (aD (aO .lss).f x10 a21) H fun a22 H=>vg (aM true a22) (.val x10) H fun a23 H=>vg (aM true a22) (.val x1) H fun a24 H=>vg (aM true a22) (aD (aO .quo).f a24 (iN 4)) H fun a25 H=>vg (aM true a22) (aD (aO .mul).f a25 (iN 4)) H fun a26 H=>vg (aM true a22) (aD (aO .add).f a26 (iN 4)) H fun a27 H=>vg (aM true a22) (aD (aO .lss).f a23 a27) H fun a28 H=>vq (fO a22 a28 (.bool false)) H fun a29 H=>cd a29 (zuz call g12 x1 x3 x9 x10 H) (kX x9 H)
def qrj(kX:pD)(x1 x3 x4:AV)(n:Nat):AV->pD:=oF (qzj call kX x1 x3 x4) n
def zcp(kX:pD)(x1 x3 x4:AV):AV->pD:=qrj call kX x1 x3 x4 dO
def zu0(x0 x1 x2 x3:AV)(H:Hp):R1:=vq (bJ 1 H.nx x0) H fun a0 H=>vq (.new (.ptr H.nx 0) (aB 0 [.int .u8 (.ofNat 0),.str 0 0,.str 0 0,.aA])) H fun a1 H=>vq (aD (aO .quo).f x1 (iN 4)) H fun bR H=>vq (aD (aO .mul).f bR (iN 4)) H fun bK H=>zcp call (fun x9 H=>zco call x2 a1 x9 H) x1 x3 a0 (.aA) bK H
def zBf(x0 x1 x2 x3:AV)(H:Hp):R1:=zu0 call x0 x1 x2 x3 H
def zq3(call:Ev.Call)(x2 x8 x9:AV)(H:Hp):R1:=vq (qt6 .i64 x2) H fun a2 H=>vq (aF x9) H fun a3 H=>vq (aD (aO .rem).f a2 a3) H fun a4 H=>vq (aJ 4 x9 a4) H fun a5 H=>vq (aV 4 H a5) H fun a6 H=>ve (eB 4 H x8 a6) fun _ H=>eO (rV (aV 4 H x8)) H
def qri(x2 x3 x8 x9:AV)(H:Hp):R1:=vq (aF x9) H fun a9 H=>vq (aD (aO .eql).f a9 (iN 0)) H fun bR H=>cd bR (ve (call (.f 76) [x3] H) fun bK H=>ve (eB 4 H x8 bK) fun _ H=>eO (rV (aV 4 H x8)) H) (zq3 call x2 x8 x9 H)
def qzf(call:Ev.Call)(g16:AV->pD)(x9 x10:AV)(H:Hp):R1:=vI x10 H fun a17 H=>g16 x9 a17 H
def qze(call:Ev.Call)(g21:AV->pD)(x9 bY:AV)(H:Hp):R1:=vI bY H fun a22 H=>g21 x9 a22 H
def qiu(call:Ev.Call)(g24:AV->pD)(x9 j6:AV)(H:Hp):R1:=vI j6 H fun a25 H=>g24 x9 a25 H
def zck(g24:AV->pD)(x1 x3 x9 x10 dN bY j6:AV)(H:Hp):R1:=dz 0 H fun qZ H=>dn 0 0 qZ H [] [] (.val dN) fun a28 H p w=>dn 1 0 qZ H p w (.val bY) fun a29 H p w=>dn 2 3 qZ H p w (aJ 2 a28 a29) fun a30 H p w=>dn 3 7 qZ H p w (aU 1 a30) fun a31 H p w=>dl 4 15 qZ H p w (fun H=>aQ H a31) fun a32 H p w=>dn 5 31 qZ H p w (gH (mP .eql).f a32 (.str 0 0)) fun a33 H p w=>dn 6 63 qZ H p w (.val a33) fun a34 H p w=>dq false false 7 127 (qZ+7) H p w (fun _=>.val dN) (aM true a34) fun a35 H p w=>dq false false 8 127 (qZ+8) H p w (fun _=>.val bY) (aM true a34) fun a36 H p w=>dq false false 9 511 (qZ+9) H p w (fun _=>aJ 2 a35 a36) (aM true a34) fun a37 H p w=>dq false false 10 1023 (qZ+10) H p w (fun _=>aU 0 a37) (aM true a34) fun a38 H p w=>dq true false 11 2047 (qZ+11) H p w (fun H=>aQ H a38) (aM true a34) fun a39 H p w=>dq false false 12 127 (qZ+12) H p w (fun _=>.val j6) (aM true a34) fun a40 H p w=>dq false false 13 4223 (qZ+13) H p w (fun _=>aD (aO .quo).f a40 (iN 4)) (aM true a34) fun a41 H p w=>de 12415 H p w (call (.f 48) [a41] (bQ 12415 p H)) (aM true a34) fun a42 H p w=>dq false false 15 32767 (qZ+15) H p w (fun _=>gH (mP .eql).f a39 a42) (aM true a34) fun a43 H p w=>dn 16 65535 qZ H p w (fO a34 a43 (.bool false)) fun a44 H p w=>dn 17 131071 qZ H p w (.val a44) fun a45 H p w=>dq false false 18 262143 (qZ+18) H p w (fun _=>.val x1) (aM true a45) fun a46 H p w=>dq false false 19 262143 (qZ+19) H p w (fun _=>.val j6) (aM true a45) fun a47 H p w=>dq false false 20 262143 (qZ+20) H p w (fun _=>.val x3) (aM true a45) fun a48 H p w=>de 2097151 H p w (call (.f 104) [a46,a47,a48] (bQ 2097151 p H)) (aM true a45) fun a49 H p w=>dn 22 4194303 qZ H p w (fO a45 a49 (.bool false)) fun a50 H p w=>jU p H fun H=>cd a50 (ve (call (.f 50) [x10] H) fun a51 H=>ve (call (.f 50) [j6] H) fun a52 H=>vq (cO (bU [.int .u8 (.ofNat 0),.str 0 0,.str 0 0,.aA] [(0,1,(.int .u8 (.ofNat 3))),(1,1,a51),(2,1,a52)])) H fun a53 H=>vq (iL 1 H.nx (bU (bE [.int .u8 (.ofNat 0),.str 0 0,.str 0 0,.aA] 1) [(0,4,a53)])) H fun a54 H=>ve (iD 4 64 H x9 (jE 4 H a54)) fun a55 H=>qiu call g24 a55 j6 H) (qiu call g24 x9 j6 H)
def qzg(uM:pD)(x1 x3 x4 x10 dN bY:AV)(g24:AV->pD)(x9 j6:AV)(H:Hp):R1:=vq (aV 1 H x4) H fun a57 H=>ve (call (.f 47) [a57] H) fun a58 H=>vq (aD (aO .lss).f j6 a58) H fun a59 H=>cd a59 (zck call g24 x1 x3 x9 x10 dN bY j6 H) (uM x9 H)
def qrh(uM:pD)(x1 x3 x4 x10 dN bY:AV)(n:Nat):AV->pD:=oF (qzg call uM x1 x3 x4 x10 dN bY) n
def zcl(uM:pD)(x1 x3 x4 x10 dN bY:AV):AV->pD:=qrh call uM x1 x3 x4 x10 dN bY dO
def zcj(g21:AV->pD)(x1 x3 x4 x9 x10 dN bY:AV)(H:Hp):R1:=zcl call (fun x9 H=>qze call g21 x9 bY H) x1 x3 x4 x10 dN bY x9 (iN 0) H
def qzh(uD:pD)(x1 x3 x4 x10 dN:AV)(g21:AV->pD)(x9 bY:AV)(H:Hp):R1:=vq (aF dN) H fun a61 H=>vq (aD (aO .lss).f bY a61) H fun a62 H=>cd a62 (zcj call g21 x1 x3 x4 x9 x10 dN bY H) (uD x9 H)
def qln(uD:pD)(x1 x3 x4 x10 dN:AV)(n:Nat):AV->pD:=oF (qzh call uD x1 x3 x4 x10 dN) n
def zcm(uD:pD)(x1 x3 x4 x10 dN:AV):AV->pD:=qln call uD x1 x3 x4 x10 dN dO
def zci(g16:AV->pD)(x1 x3 x4 x9 x10:AV)(H:Hp):R1:=vq (aV 1 H x4) H fun dP H=>ve (call (.f 51) [dP,x10] H) fun a20 H=>zcm call (fun x9 H=>qzf call g16 x9 x10 H) x1 x3 x4 x10 a20 x9 (iN 0) H
def qzi(uY:pD)(x1 x3 x4:AV)(g16:AV->pD)(x9 x10:AV)(H:Hp):R1:=vq (aV 1 H x4) H fun a64 H=>ve (call (.f 47) [a64] H) fun a65 H=>vq (aD (aO .lss).f x10 a65) H fun a66 H=>vg (aM true a66) (.val x10) H fun a67 H=>vg (aM true a66) (.val x1) H fun a68 H=>vg (aM true a66) (aD (aO .quo).f a68 (iN 4)) H fun a69 H=>vg (aM true a66) (aD (aO .mul).f a69 (iN 4)) H fun a70 H=>vg (aM true a66) (aD (aO .add).f a70 (iN 4)) H fun a71 H=>vg (aM true a66) (aD (aO .lss).f a67 a71) H fun a72 H=>vq (fO a66 a72 (.bool false)) H fun a73 H=>cd a73 (zci call g16 x1 x3 x4 x9 x10 H) (uY x9 H)
def qlo(uY:pD)(x1 x3 x4:AV)(n:Nat):AV->pD:=oF (qzi call uY x1 x3 x4) n
def zcn(uY:pD)(x1 x3 x4:AV):AV->pD:=qlo call uY x1 x3 x4 dO
def zuy(x0 x1 x2 x3:AV)(H:Hp):R1:=vq (bJ 1 H.nx x0) H fun a0 H=>vq (.new (.ptr H.nx 0) (aB 0 [.int .u8 (.ofNat 0),.str 0 0,.str 0 0,.aA])) H fun a1 H=>vq (aD (aO .quo).f x1 (iN 4)) H fun bN H=>vq (aD (aO .mul).f bN (iN 4)) H fun bS H=>zcn call (fun x9 H=>qri call x2 x3 a1 x9 H) x1 x3 a0 (.aA) bS H
def zBg(x0 x1 x2 x3:AV)(H:Hp):R1:=zuy call x0 x1 x2 x3 H
def zux(call:Ev.Call)(x0:AV)(H:Hp):R1:=vq (iL 4 H.nx (bU (bE [iN 0] 4) [(0,1,(iN 0)),(1,1,(iN 1)),(2,1,(iN 1)),(3,1,(iN 2))])) H fun a0 H=>vq (aD (aO .rem).f x0 (iN 4)) H fun a1 H=>vq (aJ 1 a0 a1) H fun a2 H=>vq (aQ H a2) H fun a3 H=>.ok a3 H
def zBh(x0:AV)(H:Hp):R1:=zux call x0 H
def zy0(call:Ev.Call)(H:Hp):R1:=.ok (.int .u8 (.ofNat 0)) H
def zuw(x0 x1 x2:AV)(H:Hp):R1:=vq (bJ 1 H.nx x0) H fun a0 H=>vF 0 a0 H fun a3 H=>vq (aJ 1 a3 x1) H fun a4 H=>vq (aQ H a4) H fun a5 H=>vq (aF a5) H fun a6 H=>vq (aD (aO .lss).f x2 a6) H fun a7 H=>cd a7 (vF 0 a0 H fun a9 H=>vq (aJ 1 a9 x1) H fun bR H=>vq (aQ H bR) H fun bK H=>vq (aJ 1 bK x2) H fun a12 H=>vq (aQ H a12) H fun bO H=>.ok bO H) (zy0 call H)
def zBi(x0 x1 x2:AV)(H:Hp):R1:=zuw call x0 x1 x2 H
def qrn(call:Ev.Call)(x0 x7 x8:AV)(H:Hp):R1:=vq (aJ 5 x0 x7) H fun bK H=>vq (aU 3 bK) H fun a12 H=>ve (fQ H a12 x8) fun _ H=>.ok x0 H
def qrm(call:Ev.Call)(g15:AV->AV->pD)(x0 x8 x9:AV)(H:Hp):R1:=vI x9 H fun a16 H=>g15 x0 x8 a16 H
def qzk(g15:AV->AV->pD)(x0 x2 x4 x8 x9:AV)(H:Hp):R1:=vq (aF x0) H fun dB H=>vq (iL 1 H.nx (bU (bE [iN 0] 1) [(0,1,dB)])) H fun dP H=>ve (iD 1 8 H x8 (jE 1 H dP)) fun a20 H=>dz 0 H fun kJ H=>dn 0 0 kJ H [] [] (.val x0) fun a22 H p w=>dn 1 0 kJ H p w (aU 3 x4) fun a23 H p w=>dl 2 2 kJ H p w (fun H=>aQ H a23) fun a24 H p w=>dn 3 0 kJ H p w (.val x9) fun a25 H p w=>dn 4 14 kJ H p w (aJ 4 a24 a25) fun a26 H p w=>dl 5 30 kJ H p w (fun H=>aV 4 H a26) fun a27 H p w=>dn 6 0 kJ H p w (.val x2) fun a28 H p w=>dn 7 64 kJ H p w (.val a28) fun a29 H p w=>dq false false 8 192 (kJ+8) H p w (fun _=>aU 0 x4) (aM false a29) fun a30 H p w=>dq true false 9 448 (kJ+9) H p w (fun H=>aQ H a30) (aM false a29) fun a31 H p w=>dq false false 10 960 (kJ+10) H p w (fun _=>aD (aO .eql).f a31 (.int .u8 (.ofNat 6))) (aM false a29) fun a32 H p w=>dq false false 11 1984 (kJ+11) H p w (fun _=>.val a32) (aM false a29) fun a33 H p w=>dq false false 12 4032 (kJ+12) H p w (fun _=>.val x9) (aM true a33) fun a34 H p w=>dq false false 13 8128 (kJ+13) H p w (fun _=>aD (aO .eql).f a34 (iN 1)) (aM true a33) fun a35 H p w=>dq false false 14 16320 (kJ+14) H p w (fun _=>fO a33 a35 (.bool false)) (aM false a29) fun a36 H p w=>dn 15 32704 kJ H p w (fO a29 (.bool true) a36) fun a37 H p w=>de 65535 H p w (call (.f 81) [a22,a27,a37] (bQ 65535 p H)) (some true) fun a38 H p w=>dn 17 131071 kJ H p w (.val a38) fun a39 H p w=>jU p H fun H=>qrm call g15 a39 a20 x9 H
def qiv(vG:AV->pD)(x2 x4:AV)(g15:AV->AV->pD)(x0 x8 x9:AV)(H:Hp):R1:=vF 3 x4 H fun a42 H=>vq (aF a42) H fun a43 H=>vq (aD (aO .lss).f x9 a43) H fun a44 H=>cd a44 (qzk call g15 x0 x2 x4 x8 x9 H) (vG x0 x8 H)
def qrl(vG:AV->pD)(x2 x4:AV)(n:Nat):AV->AV->pD:=lq3 (qiv call vG x2 x4) n
def qzl(vG:AV->pD)(x2 x4:AV):AV->AV->pD:=qrl call vG x2 x4 dO
def zl8(x0 x1 x2:AV)(H:Hp):R1:=vq (bJ 4 H.nx x1) H fun a0 H=>vq (aF x0) H fun a1 H=>vF 0 a0 H fun a3 H=>vF 1 a0 H fun a5 H=>vF 2 a0 H fun a7 H=>vq (cO (bU [.int .u8 (.ofNat 0),.str 0 0,.str 0 0,.aA,.bool false] [(0,1,a3),(1,1,a5),(2,1,a7),(4,1,x2)])) H fun a8 H=>vq (iL 1 H.nx (bU (bE [.int .u8 (.ofNat 0),.str 0 0,.str 0 0,.aA,.bool false] 1) [(0,5,a8)])) H fun a9 H=>ve (iD 5 72 H x0 (jE 5 H a9)) fun bR H=>qzl call (fun x0 x8 H=>qrn call x0 a1 x8 H) x2 a0 bR (.aA) (iN 0) H
def zAz(x0 x1 x2:AV)(H:Hp):R1:=zl8 call x0 x1 x2 H
def zbx(call:Ev.Call)(H:Hp):R1:=.ok (.int .i64 (.negSucc 0)) H
def zq0(call:Ev.Call)(g2:pD)(x5:AV)(H:Hp):R1:=vI x5 H g2
def zbw(bL:pD)(g2:pD)(x1 x2 x5:AV)(H:Hp):R1:=vF 0 x2 H fun a6 H=>vq (aJ 2 a6 x5) H fun a7 H=>vF 0 a7 H fun a9 H=>vq (gH (mP .eql).f a9 x1) H fun bR H=>cd bR (bL x5 H) (zq0 call g2 x5 H)
def zby(bL:pD)(aW:pH)(x1 x2:AV)(g2:pD)(x5:AV)(H:Hp):R1:=vF 0 x2 H fun bO H=>vq (aF bO) H fun bN H=>vq (aD (aO .lss).f x5 bN) H fun bS H=>cd bS (zbw call bL g2 x1 x2 x5 H) (aW H)
def q2v(bL:pD)(aW:pH)(x1 x2:AV)(n:Nat):pD:=iK (zby call bL aW x1 x2) n
def zq1(bL:pD)(aW:pH)(x1 x2:AV):pD:=q2v call bL aW x1 x2 dO
def zum(x0 x1:AV)(H:Hp):R1:=vq (bJ 1 H.nx x0) H fun a0 H=>zq1 call (fun x4 H=>.ok x4 H) (fun H=>zbx call H) x1 a0 (iN 0) H
def zBs(x0 x1:AV)(H:Hp):R1:=zum call x0 x1 H
def q9n(x2 x3:AV)(H:Hp):R1:=vF 2 x2 H fun a3 H=>vF 2 x3 H fun a5 H=>ve (call (.f 106) [a3,a5] H) fun a6 H=>.ok a6 H
def zs8(x0 x1:AV)(H:Hp):R1:=vq (bJ 3 H.nx x0) H fun a0 H=>vq (bJ 3 H.nx x1) H fun a1 H=>vq (aU 0 a0) H fun a8 H=>vq (aV 2 H a8) H fun a9 H=>vq (aU 0 a1) H fun bR H=>vq (aV 2 H bR) H fun bK H=>vq (mQ true ((⟨E2.f ⟨gW (eqFields [(p1,⟨bZ⟩,0),(p1,⟨bZ⟩,1)])⟩⟩:E2).f a9 bK)) H fun a12 H=>cd a12 (vq (aU 0 a0) H fun bO H=>vq (aV 2 H bO) H fun bN H=>vq (aU 0 a1) H fun bS H=>vq (aV 2 H bS) H fun a16 H=>ve (call (.f 105) [bN,a16] H) fun a17 H=>.ok a17 H) (q9n call a0 a1 H)
def zEo(x0 x1:AV)(H:Hp):R1:=zs8 call x0 x1 H
def q9m(x2 x3:AV)(H:Hp):R1:=vF 2 x2 H fun a3 H=>vF 2 x3 H fun a5 H=>ve (call (.f 106) [a3,a5] H) fun a6 H=>.ok a6 H
def zs7(x0 x1:AV)(H:Hp):R1:=vq (bJ 3 H.nx x0) H fun a0 H=>vq (bJ 3 H.nx x1) H fun a1 H=>vq (aU 0 a0) H fun a8 H=>vq (aV 2 H a8) H fun a9 H=>vq (aU 0 a1) H fun bR H=>vq (aV 2 H bR) H fun bK H=>vq (mQ true ((⟨E2.f ⟨gW (eqFields [(p1,⟨bZ⟩,0),(p1,⟨bZ⟩,1)])⟩⟩:E2).f a9 bK)) H fun a12 H=>cd a12 (vq (aU 0 a0) H fun bO H=>vq (aV 2 H bO) H fun bN H=>vq (aU 0 a1) H fun bS H=>vq (aV 2 H bS) H fun a16 H=>ve (call (.f 105) [bN,a16] H) fun a17 H=>.ok a17 H) (q9m call a0 a1 H)
def zEp(x0 x1:AV)(H:Hp):R1:=zs7 call x0 x1 H
def q2w(call:Ev.Call)(H:Hp):R1:=.ok (iN 0) H
def qzc(call:Ev.Call)(g7:AV->pD)(x5 x28:AV)(H:Hp):R1:=vI x28 H fun a9 H=>g7 x5 a9 H
def zcf(call:Ev.Call)(g18:AV->pD)(x5 qL:AV)(H:Hp):R1:=vI qL H fun a20 H=>g18 x5 a20 H
def zce(g18:AV->pD)(x5 qL:AV)(H:Hp):R1:=vI x5 H fun a22 H=>zcf call g18 a22 qL H
def zcd(xG:pD)(g18:AV->pD)(x4 x5 x7 qL:AV)(H:Hp):R1:=vq (aV 2 H x7) H fun a24 H=>ve (call (.f 109) [x4,a24,x5] H) fun a25 H=>vq (aD (aO .neq).f a25 (iN 0)) H fun a26 H=>cd a26 (xG a25 H) (zce call g18 x5 qL H)
def qzd(xG:pD)(vK:pD)(x4 x7 x34:AV)(g18:AV->pD)(x5 qL:AV)(H:Hp):R1:=vq (aD (aO .lss).f qL x34) H fun dP H=>cd dP (zcd call xG g18 x4 x5 x7 qL H) (vK x5 H)
def qrg(xG:pD)(vK:pD)(x4 x7 x34:AV)(n:Nat):AV->pD:=oF (qzd call xG vK x4 x7 x34) n
def zch(xG:pD)(vK:pD)(x4 x7 x34:AV):AV->pD:=qrg call xG vK x4 x7 x34 dO
def zcc(xA:pD)(g7:AV->pD)(x4 x5 x26 x28:AV)(H:Hp):R1:=vq (aJ 2 x26 x28) H fun bK H=>vq (aV 2 H bK) H fun a12 H=>vq (.new (.ptr H.nx 0) (aB 0 [.str 0 0,.aA])) H fun bO H=>ve (eB 2 H bO a12) fun _ H=>vF 1 bO H fun a16 H=>vq (aF a16) H fun a17 H=>zch call (fun x2 H=>xA x2 H) (fun x5 H=>qzc call g7 x5 x28 H) x4 bO a17 x5 (iN 0) H
def zcg(xA:pD)(kW:pH)(x4 x26 x27:AV)(g7:AV->pD)(x5 x28:AV)(H:Hp):R1:=vq (aD (aO .lss).f x28 x27) H fun a8 H=>cd a8 (zcc call xA g7 x4 x5 x26 x28 H) (kW H)
def quq(xA:pD)(kW:pH)(x4 x26 x27:AV)(n:Nat):AV->pD:=oF (zcg call xA kW x4 x26 x27) n
def zq2(xA:pD)(kW:pH)(x4 x26 x27:AV):AV->pD:=quq call xA kW x4 x26 x27 dO
def zcb(x1 x4:AV)(H:Hp):R1:=vF 0 x1 H fun a5 H=>vq (aF a5) H fun a6 H=>zq2 call (fun x2 H=>.ok x2 H) (fun H=>q2w call H) x4 a5 a6 (iN 0) (iN 0) H
def zca(x1:AV)(H:Hp):R1:=vq (aV 1 H x1) H fun a1 H=>ve (call (.f 108) [a1] H) fun a2 H=>vl (aZ a2) fun a30=>vl (aU 1 a30) fun a31=>vl (aQ H a31) fun a32=>vl (xJ H a32) fun a33=>vl (aU 0 x1) fun a34=>vl (aQ H a34) fun a35=>vl (aF a35) fun a36=>vl (aD (aO .lss).f a33 a36) fun a37=>cd a37 (.ok (iN 7) H) (zcb call x1 a2 H)
def zuv(x0:AV)(H:Hp):R1:=vq (bJ 1 H.nx x0) H fun a0 H=>vq (aV 1 H a0) H fun a39 H=>ve (call (.f 107) [a39] H) fun a40 H=>vq (aD (aO .neq).f a40 (iN 0)) H fun a41 H=>cd a41 (.ok a40 H) (zca call a0 H)
def zBj(x0:AV)(H:Hp):R1:=zuv call x0 H
def zuu(x0:AV)(H:Hp):R1:=vq (bJ 4 H.nx x0) H fun a0 H=>ve (call (.f 110) [a0] H) fun a1 H=>vq (dD 0 a1) H fun a2 H=>vq (dD 1 a1) H fun a3 H=>vq (dD 2 a1) H fun a4 H=>.ok (.aY [a2,a4]) H
def zBk(x0:AV)(H:Hp):R1:=zuu call x0 H
def zut(call:Ev.Call)(x0 x1 x2 x3 x4 x5 x6:AV)(H:Hp):R1:=dz 21 H fun b0 H=>dn 0 0 b0 H [] [] (aU 1 x2) fun a1 H p w=>dl 1 1 b0 H p w (fun H=>aQ H a1) fun a2 H p w=>dl 2 0 b0 H p w (fun H=>aQ H x3) fun a3 H p w=>dn 3 0 b0 H p w (aU 0 x4) fun a4 H p w=>dl 4 8 b0 H p w (fun H=>aQ H a4) fun a5 H p w=>dn 5 0 b0 H p w (aU 0 x5) fun a6 H p w=>dl 6 32 b0 H p w (fun H=>aQ H a6) fun a7 H p w=>dn 7 120 b0 H p w (cO (bU [.str 0 0,.str 0 0] [(0,1,a5),(1,1,a7)])) fun a8 H p w=>dl 8 252 b0 H p w (fun H=>qT ⟨(⟨gW fun xs ys=>yF p1 ⟨bZ⟩ 1 xs ys 2 0⟩:E2).f,some 2⟩ (iN 0) false H a3 a8) fun a9 H p w=>dl 9 0 b0 H p w (fun H=>aQ H x3) fun bR H p w=>dn 10 0 b0 H p w (.val x0) fun bK H p w=>dn 11 0 b0 H p w (.val x1) fun a12 H p w=>dn 12 3072 b0 H p w (cO (bU [.str 0 0,.str 0 0] [(0,1,bK),(1,1,a12)])) fun bO H p w=>dl 13 7680 b0 H p w (fun H=>qT ⟨(⟨gW fun xs ys=>yF p1 ⟨bZ⟩ 1 xs ys 2 0⟩:E2).f,some 2⟩ (iN 0) false H bR bO) fun bN H p w=>dn 14 0 b0 H p w (aU 4 x6) fun bS H p w=>dl 15 16384 b0 H p w (fun H=>aQ H bS) fun a16 H p w=>dn 16 65532 b0 H p w (cO (bU [iN 0,iN 0,.bool false] [(0,1,a9),(1,1,bN),(2,1,a16)])) fun a17 H p w=>da 17 131068 b0 H p w (iL 1 (b0+17) (bU (bE [iN 0,iN 0,.bool false] 1) [(0,3,a17)])) fun dB H p w=>de 262143 H p w (iD 3 24 (bQ 262143 p H) a2 (jE 3 (bQ 262143 p H) dB)) (some true) fun dP H p w=>dn 19 524287 b0 H p w (aU 1 x2) fun a20 H p w=>de 1048575 H p w (fQ (bQ 1048575 p H) a20 dP) (some true) fun _ H p w=>jU p H fun H=>.ok (.aY []) H
def zBl(x0 x1 x2 x3 x4 x5 x6:AV)(H:Hp):R1:=zut call x0 x1 x2 x3 x4 x5 x6 H
def zyz(call:Ev.Call)(bY:AV)(H:Hp):R1:=.ok (.aY [bY,(iN 0)]) H
def zyy(x1 x2 x3 dN:AV)(H:Hp):R1:=ve (call (.f 112) [dN,x1,x2,x3] H) fun a3 H=>vq (aF a3) H fun a5 H=>vq (aD (aO .eql).f a5 (iN 0)) H fun a6 H=>cd a6 (.ok (.aY [(.aA),(iN 11)]) H) (zyz call a3 H)
def zb9(x1 x2 x3 x4:AV)(H:Hp):R1:=vq (aV 1 H x4) H fun a1 H=>ve (call (.f 108) [a1] H) fun a2 H=>ve (call (.f 111) [a2,x1,x2] H) fun a8 H=>vq (mQ false ((⟨E2.f ⟨qnd⟩⟩:E2).f a8 (.bX))) H fun a9 H=>cd a9 (.ok (.aY [(.aA),(iN 6)]) H) (zyy call x1 x2 x3 a2 H)
def zus(x0 x1 x2 x3:AV)(H:Hp):R1:=vq (bJ 1 H.nx x0) H fun a0 H=>vq (aV 1 H a0) H fun bK H=>ve (call (.f 84) [bK] H) fun a12 H=>vq (aD (aO .neq).f a12 (iN 0)) H fun bO H=>cd bO (.ok (.aY [(.aA),a12]) H) (zb9 call x1 x2 x3 a0 H)
def zBm(x0 x1 x2 x3:AV)(H:Hp):R1:=zus call x0 x1 x2 x3 H
def zur(x0:AV)(H:Hp):R1:=ve (call (.f 114) [x0,(.fn 113 [] [])] H) fun a0 H=>ve (call (.f 116) [x0] H) fun a1 H=>ve (call (.f 115) [a1] H) fun a2 H=>.ok a2 H
def zBn(x0:AV)(H:Hp):R1:=zur call x0 H
def zb6(x6:AV)(H:Hp):R1:=ve (call (.f 122) [x6] H) fun a7 H=>ve (call (.f 123) [x6] H) fun a8 H=>ve (call (.f 120) [a8] H) fun a9 H=>.ok (.aY [a9,(iN 0)]) H
def qll(call:Ev.Call)(g14:AV->pD)(x6 x20:AV)(H:Hp):R1:=vI x20 H fun a16 H=>g14 x6 a16 H
def zb5(g14:AV->pD)(x4 x6 x18 x20:AV)(H:Hp):R1:=vq (aJ 3 x18 x20) H fun dB H=>vq (aV 3 H dB) H fun dP H=>vq (.new (.ptr H.nx 0) (aB 0 [iN 0,iN 0,.bool false])) H fun a20 H=>ve (eB 3 H a20 dP) fun _ H=>vl (aU 2 a20) fun a22=>vl (aQ H a22) fun a23=>rQ (aM true a23) (aU 1 x4) fun a24=>rQ (aM true a23) (aQ H a24) fun a25=>rQ (aM true a23) (aU 0 a20) fun a26=>rQ (aM true a23) (aQ H a26) fun a27=>rQ (aM true a23) (aJ 1 a25 a27) fun a28=>rQ (aM true a23) (aQ H a28) fun a29=>rQ (aM true a23) (aU 1 x4) fun a30=>rQ (aM true a23) (aQ H a30) fun a31=>rQ (aM true a23) (aU 1 a20) fun a32=>rQ (aM true a23) (aQ H a32) fun a33=>rQ (aM true a23) (aJ 1 a31 a33) fun a34=>rQ (aM true a23) (aQ H a34) fun a35=>rQ (aM true a23) (aD (aO .eql).f a29 a35) fun a36=>vl (fO a23 a36 (.bool false)) fun a37=>cd a37 (vF 1 x4 H fun a39 H=>vF 0 a20 H fun a41 H=>vq (aJ 1 a39 a41) H fun a42 H=>vq (aQ H a42) H fun a43 H=>vq (iL 1 H.nx (bU (bE [iN 0] 1) [(0,1,a43)])) H fun a44 H=>ve (iD 1 8 H x6 (jE 1 H a44)) fun a45 H=>qll call g14 a45 x20 H) (qll call g14 x6 x20 H)
def qy5(kM:pD)(x4 x18 mG:AV)(g14:AV->pD)(x6 x20:AV)(H:Hp):R1:=vq (aD (aO .lss).f x20 mG) H fun bS H=>cd bS (zb5 call g14 x4 x6 x18 x20 H) (kM x6 H)
def qre(kM:pD)(x4 x18 mG:AV)(n:Nat):AV->pD:=oF (qy5 call kM x4 x18 mG) n
def zb7(kM:pD)(x4 x18 mG:AV):AV->pD:=qre call kM x4 x18 mG dO
def qrf(x1 x4:AV)(H:Hp):R1:=vF 1 x1 H fun a12 H=>vq (aF a12) H fun bO H=>zb7 call (fun x6 H=>zb6 call x6 H) x4 a12 bO (.aA) (iN 0) H
def zb4:=cst qrf
theorem qo1:zb4=qrf:=jW _
def zup(x0:AV)(H:Hp):R1:=vq (bJ 2 H.nx x0) H fun a0 H=>vq (aV 2 H a0) H fun a1 H=>ve (call (.f 89) [a1] H) fun a2 H=>vq (dD 0 a2) H fun a3 H=>vq (dD 1 a2) H fun a4 H=>vq (.new (.ptr H.nx 0) (aB 0 [.aA,.aA])) H fun a5 H=>ve (eB 2 H a5 a3) fun _ H=>vq (aD (aO .neq).f a4 (iN 0)) H fun a48 H=>cd a48 (.ok (.aY [(.aA),a4]) H) (zb4 call a0 a5 H)
def zBp(x0:AV)(H:Hp):R1:=zup call x0 H
def zyx(call:Ev.Call)(H:Hp):R1:=.ok (iN 0) H
def zuo(x0:AV)(H:Hp):R1:=vq (bJ 3 H.nx x0) H fun a0 H=>vF 2 a0 H fun a3 H=>cd a3 (.ok (iN 1) H) (zyx call H)
def zBq(x0:AV)(H:Hp):R1:=zuo call x0 H
def zq8(call:Ev.Call)(x3:AV)(H:Hp):R1:=.ok x3 H
def zq7(call:Ev.Call)(g2:AV->pD)(x3 x8:AV)(H:Hp):R1:=vI x8 H fun a4 H=>g2 x3 a4 H
def zq6(g2:AV->pD)(x3 x6 x8:AV)(H:Hp):R1:=vq (aJ 1 x6 x8) H fun a6 H=>vq (aQ H a6) H fun a7 H=>vq (o8 oO x3 [a7]) H fun a8 H=>zq7 call g2 a8 x8 H
def zcq(aW:pD)(x6 x7:AV)(g2:AV->pD)(x3 x8:AV)(H:Hp):R1:=vq (aD (aO .lss).f x8 x7) H fun a3 H=>cd a3 (zq6 call g2 x3 x6 x8 H) (aW x3 H)
def q2x(aW:pD)(x6 x7:AV)(n:Nat):AV->pD:=oF (zcq call aW x6 x7) n
def zq9(aW:pD)(x6 x7:AV):AV->pD:=q2x call aW x6 x7 dO
def zu3(x0:AV)(H:Hp):R1:=vq (aF x0) H fun a1 H=>zq9 call (fun x3 H=>zq8 call x3 H) x0 a1 (iN 0) (iN 0) H
def zBc(x0:AV)(H:Hp):R1:=zu3 call x0 H
def zsk(x0:AV)(H:Hp):R1:=ve (call (.f 125) [(.aA),x0] H) fun a0 H=>.ok a0 H
def zFv(x0:AV)(H:Hp):R1:=zsk call x0 H
def zyw(x0 x1 x2:AV)(H:Hp):R1:=ve (call (.f 79) [x1] H) fun a0 H=>ve (call (.f 79) [x0] H) fun a1 H=>vq (aD (aO .lss).f a0 a1) H fun a2 H=>vg (aM false a2) (.val x2) H fun a3 H=>vg (aM false a2) ((lY .not).f a3) H fun a4 H=>vg (aM false a2) (.val a4) H fun a5 H=>vg (aM true a5) (.val x1) H fun a6 H=>qG (aM true a5) (call (.f 79) [a6] H) H fun a7 H=>vg (aM true a5) (.val x0) H fun a8 H=>qG (aM true a5) (call (.f 79) [a8] H) H fun a9 H=>vg (aM true a5) (aD (aO .eql).f a7 a9) H fun bR H=>vg (aM false a2) (fO a5 bR (.bool false)) H fun bK H=>vq (fO a2 (.bool true) bK) H fun a12 H=>.ok a12 H
def zBt(x0 x1 x2:AV)(H:Hp):R1:=zyw call x0 x1 x2 H
def q9l(x2 x3:AV)(H:Hp):R1:=vF 1 x2 H fun a3 H=>vF 1 x3 H fun a5 H=>ve (call (.f 106) [a3,a5] H) fun a6 H=>.ok a6 H
def zs6(x0 x1:AV)(H:Hp):R1:=vq (bJ 2 H.nx x0) H fun a0 H=>vq (bJ 2 H.nx x1) H fun a1 H=>vF 0 a0 H fun a9 H=>vF 0 a1 H fun bK H=>vq (gH (mP .neq).f a9 bK) H fun a12 H=>cd a12 (vF 0 a0 H fun bN H=>vF 0 a1 H fun a16 H=>ve (call (.f 106) [bN,a16] H) fun a17 H=>.ok a17 H) (q9l call a0 a1 H)
def zEu(x0 x1:AV)(H:Hp):R1:=zs6 call x0 x1 H
def zp0(call:Ev.Call)(H:Hp):R1:=.ok (iN 0) H
def q9i(x0 x1:AV)(H:Hp):R1:=vq (p8 x0) H fun a1 H=>vq (p8 x1) H fun a2 H=>vq (aD (aO .gtr).f a1 a2) H fun a3 H=>cd a3 (.ok (iN 1) H) (zp0 call H)
def qj1(x0 x1:AV)(H:Hp):R1:=vq (p8 x0) H fun a5 H=>vq (p8 x1) H fun a6 H=>vq (aD (aO .lss).f a5 a6) H fun a7 H=>cd a7 (.ok (.int .i64 (.negSucc 0)) H) (q9i call x0 x1 H)
def qx5(call:Ev.Call)(g9:pD)(x5:AV)(H:Hp):R1:=vI x5 H g9
def qx4(q9r:pD)(g9:pD)(x0 x1 x5:AV)(H:Hp):R1:=vl (qgy x0 x5) fun a12=>vl (qgy x1 x5) fun bO=>vl (aD (aO .gtr).f a12 bO) fun bN=>cd bN (q9r (iN 1) H) (qx5 call g9 x5 H)
def qx3(q9r:pD)(g9:pD)(x0 x1 x5:AV)(H:Hp):R1:=vl (qgy x0 x5) fun a16=>vl (qgy x1 x5) fun a17=>vl (aD (aO .lss).f a16 a17) fun dB=>cd dB (q9r (.int .i64 (.negSucc 0)) H) (qx4 call q9r g9 x0 x1 x5 H)
def q9j(q9r:pD)(aA8:pH)(x0 x1:AV)(g9:pD)(x5:AV)(H:Hp):R1:=vq (p8 x0) H fun a20 H=>vq (aD (aO .lss).f x5 a20) H fun a21 H=>vg (aM true a21) (.val x5) H fun a22 H=>vg (aM true a21) (.val x1) H fun a23 H=>vg (aM true a21) (p8 a23) H fun a24 H=>vg (aM true a21) (aD (aO .lss).f a22 a24) H fun a25 H=>vq (fO a21 a25 (.bool false)) H fun a26 H=>cd a26 (qx3 call q9r g9 x0 x1 x5 H) (aA8 H)
def qk8(q9r:pD)(aA8:pH)(x0 x1:AV)(n:Nat):pD:=iK (q9j call q9r aA8 x0 x1) n
def q9k(q9r:pD)(aA8:pH)(x0 x1:AV):pD:=qk8 call q9r aA8 x0 x1 dO
def zs5(x0 x1:AV)(H:Hp):R1:=q9k call (fun x4 H=>.ok x4 H) (fun H=>qj1 call x0 x1 H) x0 x1 (iN 0) H
def zEv(x0 x1:AV)(H:Hp):R1:=zs5 call x0 x1 H
def zbt(call:Ev.Call)(H:Hp):R1:=.ok (iN 0) H
def zbn(call:Ev.Call)(g5:pD)(oQ:AV)(H:Hp):R1:=vI oQ H g5
def zbs(call:Ev.Call)(g16:pD)(x32:AV)(H:Hp):R1:=vI x32 H g16
def zbr(wW:pD)(g16:pD)(x30 x32:AV)(H:Hp):R1:=vq (aJ 6 x30 x32) H fun a20 H=>vq (aV 6 H a20) H fun a21 H=>vq (.new (.ptr H.nx 0) (aB 0 [.str 0 0,.aA,.int .u8 (.ofNat 0),.str 0 0,.str 0 0,.aA])) H fun a22 H=>ve (eB 6 H a22 a21) fun _ H=>vq (aV 6 H a22) H fun a24 H=>ve (call (.f 131) [a24] H) fun a25 H=>vq (aD (aO .neq).f a25 (iN 0)) H fun a26 H=>cd a26 (wW a25 H) (zbs call g16 x32 H)
def qyz(wW:pD)(vS:pH)(x30 x31:AV)(g16:pD)(x32:AV)(H:Hp):R1:=vq (aD (aO .lss).f x32 x31) H fun a17 H=>cd a17 (zbr call wW g16 x30 x32 H) (vS H)
def qrc(wW:pD)(vS:pH)(x30 x31:AV)(n:Nat):pD:=iK (qyz call wW vS x30 x31) n
def zbv(wW:pD)(vS:pH)(x30 x31:AV):pD:=qrc call wW vS x30 x31 dO
def zbq(lJ:pD)(g5:pD)(x4 oQ:AV)(H:Hp):R1:=vF 1 x4 H fun bN H=>vq (aF bN) H fun bS H=>zbv call (fun x2 H=>lJ x2 H) (fun H=>zbn call g5 oQ H) bN bS (iN 0) H
def zbp(lJ:pD)(g5:pD)(j6 oQ:AV)(H:Hp):R1:=vq (aJ 2 j6 oQ) H fun a9 H=>vq (aV 2 H a9) H fun bR H=>vq (.new (.ptr H.nx 0) (aB 0 [.str 0 0,.aA])) H fun bK H=>ve (eB 2 H bK bR) fun _ H=>vF 0 bK H fun a30 H=>ve (call (.f 130) [a30] H) fun a31 H=>vq ((lY .not).f a31) H fun a32 H=>cd a32 (lJ (iN 6) H) (vF 1 bK H fun a34 H=>vq (aF a34) H fun a35 H=>vq (aD (aO .gtr).f a35 (iN 16)) H fun a36 H=>cd a36 (lJ (iN 3) H) (zbq call lJ g5 bK oQ H))
def zbu(lJ:pD)(eT:pH)(j6 pI:AV)(g5:pD)(oQ:AV)(H:Hp):R1:=vq (aD (aO .lss).f oQ pI) H fun a6 H=>cd a6 (zbp call lJ g5 j6 oQ H) (eT H)
def qup(lJ:pD)(eT:pH)(j6 pI:AV)(n:Nat):pD:=iK (zbu call lJ eT j6 pI) n
def zqz(lJ:pD)(eT:pH)(j6 pI:AV):pD:=qup call lJ eT j6 pI dO
def zbo(x1:AV)(H:Hp):R1:=vF 0 x1 H fun a3 H=>vq (aF a3) H fun a4 H=>zqz call (fun x2 H=>.ok x2 H) (fun H=>zbt call H) a3 a4 (iN 0) H
def zul(x0:AV)(H:Hp):R1:=vq (bJ 1 H.nx x0) H fun a0 H=>vF 0 a0 H fun a40 H=>vq (aF a40) H fun a41 H=>vq (aD (aO .gtr).f a41 (iN 16)) H fun a42 H=>cd a42 (.ok (iN 3) H) (zbo call a0 H)
def zBu(x0:AV)(H:Hp):R1:=zul call x0 H
def zb0(call:Ev.Call)(x3:AV)(H:Hp):R1:=.ok x3 H
def qy2(call:Ev.Call)(g10:pD)(x18:AV)(H:Hp):R1:=vI x18 H g10
def zb1(call:Ev.Call)(g31:pD)(x33:AV)(H:Hp):R1:=vI x33 H g31
def qy1(g31:pD)(x3 x5 x7 x33:AV)(H:Hp):R1:=dz 23 H fun jQ H=>dn 0 0 jQ H [] [] (.val x3) fun a39 H p w=>dn 1 0 jQ H p w (.val x3) fun a40 H p w=>dn 2 0 jQ H p w (.val x3) fun a41 H p w=>dn 3 4 jQ H p w (aZ a41) fun a42 H p w=>dn 4 12 jQ H p w (aU 3 a42) fun a43 H p w=>dl 5 28 jQ H p w (fun H=>aQ H a43) fun a44 H p w=>dn 6 0 jQ H p w (.val x7) fun a45 H p w=>da 7 64 jQ H p w (iL 1 (jQ+7) (bU (bE [.bX] 1) [(0,1,a45)])) fun a46 H p w=>dn 9 0 jQ H p w (.val x3) fun a47 H p w=>dn 10 512 jQ H p w (aZ a47) fun a48 H p w=>dn 11 1536 jQ H p w (aU 4 a48) fun a49 H p w=>dl 12 3584 jQ H p w (fun H=>aQ H a49) fun a50 H p w=>dn 13 0 jQ H p w (aU 0 x5) fun a51 H p w=>dl 14 8192 jQ H p w (fun H=>aQ H a51) fun a52 H p w=>da 15 24576 jQ H p w (iL 1 (jQ+15) (bU (bE [.str 0 0] 1) [(0,1,a52)])) fun a53 H p w=>de 252 H p w (iD 1 8 (bQ 252 p H) a44 (jE 1 (bQ 252 p H) a46)) (some true) fun a54 H p w=>de 65532 H p w (iD 1 16 (bQ 65532 p H) a50 (jE 1 (bQ 65532 p H) a53)) (some true) fun a55 H p w=>dn 17 131069 jQ H p w (aZ a39) fun a56 H p w=>dn 18 262141 jQ H p w (aU 3 a56) fun a57 H p w=>de 524285 H p w (fQ (bQ 524285 p H) a57 a54) (some true) fun _ H p w=>dn 20 1048575 jQ H p w (aZ a40) fun a59 H p w=>dn 21 2097151 jQ H p w (aU 4 a59) fun a60 H p w=>de 4194303 H p w (fQ (bQ 4194303 p H) a60 a55) (some true) fun _ H p w=>jU p H fun H=>zb1 call g31 x33 H
def qy0(g31:pD)(x3 x5 x33:AV)(H:Hp):R1:=vF 1 x5 H fun a36 H=>vq (aJ 6 a36 x33) H fun a37 H=>vl (aZ x3) fun a63=>vl (aU 2 a63) fun a64=>vl (aQ H a64) fun a65=>vl (aU 0 x5) fun a66=>vl (aQ H a66) fun a67=>vl (aZ a37) fun a68=>vl (aU 0 a68) fun a69=>vl (aQ H a69) fun a70=>vl (cO (bU [.str 0 0,.str 0 0] [(0,1,a67),(1,1,a70)])) fun a71=>vl (qT ⟨(⟨gW (eqFields [(p1,⟨bZ⟩,0),(p1,⟨bZ⟩,1)])⟩:E2).f,some 2⟩ (iN 0) true H a65 a71) fun a72=>vl (dD 0 a72) fun a73=>vl (dD 1 a72) fun a74=>vq ((lY .not).f a74) H fun a75 H=>cd a75 (dz 0 H fun wK H=>dn 0 0 wK H [] [] (.val x3) fun a77 H p w=>dn 1 1 wK H p w (aZ a77) fun a78 H p w=>dn 2 3 wK H p w (aU 2 a78) fun a79 H p w=>dl 3 7 wK H p w (fun H=>aQ H a79) fun a80 H p w=>dn 4 0 wK H p w (aU 0 x5) fun a81 H p w=>dl 5 16 wK H p w (fun H=>aQ H a81) fun a82 H p w=>dn 6 0 wK H p w (.val a37) fun a83 H p w=>dn 7 64 wK H p w (aZ a83) fun a84 H p w=>dn 8 192 wK H p w (aU 0 a84) fun a85 H p w=>dl 9 448 wK H p w (fun H=>aQ H a85) fun a86 H p w=>dn 10 1008 wK H p w (cO (bU [.str 0 0,.str 0 0] [(0,1,a82),(1,1,a86)])) fun a87 H p w=>dn 11 0 wK H p w (.val x3) fun a88 H p w=>dn 12 2048 wK H p w (aZ a88) fun a89 H p w=>dn 13 6144 wK H p w (aU 3 a89) fun a90 H p w=>dl 14 14336 wK H p w (fun H=>aQ H a90) fun a91 H p w=>dn 15 30720 wK H p w (aF a91) fun a92 H p w=>de 65535 H p w (pR ⟨(⟨gW (eqFields [(p1,⟨bZ⟩,0),(p1,⟨bZ⟩,1)])⟩:E2).f,some 2⟩ (bQ 65535 p H) a80 a87 a92) (some true) fun _ H p w=>jU p H fun H=>qy1 call g31 x3 x5 a37 x33 H) (qy1 call g31 x3 x5 a37 x33 H)
def qy3(uU:pH)(x3 x5 x32:AV)(g31:pD)(x33:AV)(H:Hp):R1:=vq (aD (aO .lss).f x33 x32) H fun a32 H=>cd a32 (qy0 call g31 x3 x5 x33 H) (uU H)
def qrd(uU:pH)(x3 x5 x32:AV)(n:Nat):pD:=iK (qy3 call uU x3 x5 x32) n
def zb2(uU:pH)(x3 x5 x32:AV):pD:=qrd call uU x3 x5 x32 dO
def zbz(g10:pD)(x3 jV x18:AV)(H:Hp):R1:=vq (aJ 2 jV x18) H fun bN H=>vq (aV 2 H bN) H fun bS H=>vq (.new (.ptr H.nx 0) (aB 0 [.str 0 0,.aA])) H fun a16 H=>ve (eB 2 H a16 bS) fun _ H=>dz 0 H fun b18 H=>dn 0 0 b18 H [] [] (.val x3) fun dP H p w=>dn 1 1 b18 H p w (aZ dP) fun a20 H p w=>dn 2 3 b18 H p w (aU 1 a20) fun a21 H p w=>dl 3 7 b18 H p w (fun H=>aQ H a21) fun a22 H p w=>dn 4 0 b18 H p w (aU 0 a16) fun a23 H p w=>dl 5 16 b18 H p w (fun H=>aQ H a23) fun a24 H p w=>dl 6 63 b18 H p w (fun H=>qT ⟨(⟨bZ⟩:E2).f,none⟩ (iN 0) false H a22 a24) fun a25 H p w=>dn 7 127 b18 H p w (aD (aO .add).f a25 (iN 1)) fun a26 H p w=>de 255 H p w (pR ⟨(⟨bZ⟩:E2).f,none⟩ (bQ 255 p H) a22 a24 a26) (some true) fun _ H p w=>jU p H fun H=>vF 1 a16 H fun a29 H=>vq (aF a29) H fun a30 H=>zb2 call (fun H=>qy2 call g10 x18 H) x3 a16 a30 (iN 0) H
def qy4(uO:pH)(x3 jV kF:AV)(g10:pD)(x18:AV)(H:Hp):R1:=vq (aD (aO .lss).f x18 kF) H fun bK H=>cd bK (zbz call g10 x3 jV x18 H) (uO H)
def qlk(uO:pH)(x3 jV kF:AV)(n:Nat):pD:=iK (qy4 call uO x3 jV kF) n
def zb3(uO:pH)(x3 jV kF:AV):pD:=qlk call uO x3 jV kF dO
def zun(x0:AV)(H:Hp):R1:=vq (bJ 1 H.nx x0) H fun a0 H=>vq (aV 1 H a0) H fun a1 H=>vq (.new (.map H.nx) (.map [] 0)) H fun a2 H=>vq (.new (.map H.nx) (.map [] 0)) H fun a3 H=>vq (cO (bU [.aA,.dS,.dS,.aA,.aA] [(0,1,a1),(1,1,a2),(2,1,a3)])) H fun a4 H=>vq (bJ 5 H.nx a4) H fun a5 H=>vF 0 a0 H fun a8 H=>vq (aF a8) H fun a9 H=>zb3 call (fun H=>zb0 call a5 H) a5 a8 a9 (iN 0) H
def zBr(x0:AV)(H:Hp):R1:=zun call x0 H
def zuk(x0 x1 x2:AV)(H:Hp):R1:=vq (iY H.nx x0) H fun a0 H=>vq (bJ 2 H.nx x1) H fun a1 H=>vq (iY H.nx x2) H fun a2 H=>dz 9 H fun b3 H=>dl 0 0 b3 H [] [] (fun H=>aQ H a0) fun a4 H p w=>dn 1 1 b3 H p w (aZ a4) fun a5 H p w=>dn 2 3 b3 H p w (aU 3 a5) fun a6 H p w=>dl 3 7 b3 H p w (fun H=>aQ H a6) fun a7 H p w=>dl 4 0 b3 H p w (fun H=>aQ H a2) fun a8 H p w=>dn 5 31 b3 H p w (aJ 1 a7 a8) fun a9 H p w=>dl 6 63 b3 H p w (fun H=>aQ H a9) fun bR H p w=>da 7 0 b3 H p w (.new (.ptr (b3+7) 0) (aB 0 [.bX])) fun bK H p w=>de 255 H p w (fQ (bQ 255 p H) bK bR) (some true) fun _ H p w=>jU p H fun H=>vq (aQ H bK) H fun bO H=>vq (aZ bO) H fun bN H=>vq (aU 2 bN) H fun bS H=>vq (aV 4 H bS) H fun a16 H=>ve (call (.f 85) [a16] H) fun a17 H=>vq (dD 0 a17) H fun dB H=>vq (dD 1 a17) H fun dP H=>vq (.new (.ptr H.nx 0) (aB 0 [.aA])) H fun a20 H=>ve (fQ H a20 dB) fun _ H=>vq (.new (.ptr H.nx 0) (aB 0 [.bool false])) H fun a22 H=>ve (fQ H a22 (.bool false)) fun _ H=>vq (iL 4 H.nx (bU (bE [.jF] 4) [(0,1,(.fn 133 [] [a0,a1,bK,a2])),(1,1,(.fn 134 [] [a0,bK])),(2,1,(.fn 136 [] [a0,a1,a20,a22])),(3,1,(.fn 138 [] [a22,bK,a1]))])) H fun a24 H=>ve (call (.f 132) [a24] H) fun a25 H=>.ok a25 H
def zBv(x0 x1 x2:AV)(H:Hp):R1:=zuk call x0 x1 x2 H
def zbm(x2 x3:AV)(H:Hp):R1:=dz 0 H fun b6 H=>dl 0 0 b6 H [] [] (fun H=>aQ H x2) fun a7 H p w=>dl 2 0 b6 H p w (fun H=>aQ H x3) fun a8 H p w=>de 1 H p w (call (.f 142) [a7] (bQ 1 p H)) (some true) fun a9 H p w=>de 3 H p w (fQ (bQ 3 p H) x2 a9) (some true) fun _ H p w=>de 15 H p w (fQ (bQ 15 p H) x3 a8) (some true) fun _ H p w=>dn 5 31 b6 H p w (.val (iN 0)) fun a12 H p w=>jU p H fun H=>eO (jH (iX (rV (aQ H x2)) (iX (rV (aQ H x3)) (iX (some a12) (some []))))) H
def zbl(x2 x3 x5:AV)(H:Hp):R1:=vq (aQ H x5) H fun bN H=>vq (aD (aO .neq).f bN (iN 0)) H fun bS H=>cd bS (dz 0 H fun b16 H=>dl 0 0 b16 H [] [] (fun H=>aQ H x5) fun a17 H p w=>de 0 H p w (fQ (bQ 0 p H) x2 (.aA)) (some true) fun _ H p w=>de 2 H p w (fQ (bQ 2 p H) x3 (iN 0)) (some true) fun _ H p w=>dn 3 7 b16 H p w (.val a17) fun a20 H p w=>jU p H fun H=>eO (jH (iX (rV (aQ H x2)) (iX (rV (aQ H x3)) (iX (some a20) (some []))))) H) (zbm call x2 x3 H)
def zuj(x0:AV)(H:Hp):R1:=vq (.new (.ptr H.nx 0) (aB 0 [.aA])) H fun a0 H=>vq (.new (.ptr H.nx 0) (aB 0 [iN 0])) H fun a1 H=>vq (.new (.ptr H.nx 0) (aB 0 [iN 0])) H fun a2 H=>ve (fQ H a2 (iN 0)) fun _ H=>vq (.new (.ptr H.nx 0) (aB 0 [.jF])) H fun a4 H=>ve (fQ H a4 (.fn 140 [] [a0,a1,a2,a4])) fun _ H=>vq (aQ H a4) H fun a22 H=>ve (sD call a22 [x0,(iN 1),(.bool false)] H) fun a23 H=>vq ((lY .not).f a23) H fun a24 H=>cd a24 (ve (fQ H a0 (.aA)) fun _ H=>ve (fQ H a1 (iN 0)) fun _ H=>eO (jH (iX (rV (aQ H a0)) (iX (rV (aQ H a1)) (iX (some (iN 3)) (some []))))) H) (zbl call a0 a1 a2 H)
def zBw(x0:AV)(H:Hp):R1:=zuj call x0 H
def zbk(call:Ev.Call)(x0 x7:AV)(H:Hp):R1:=vq (aZ x0) H fun a7 H=>vF 3 a7 H fun a9 H=>vq (aJ 1 a9 x7) H fun bR H=>vq (aQ H bR) H fun bK H=>.ok bK H
def zlj(x0 x1 x2:AV)(H:Hp):R1:=vq (aZ x0) H fun a0 H=>vF 2 a0 H fun a2 H=>vq (cO (bU [.str 0 0,.str 0 0] [(0,1,x1),(1,1,x2)])) H fun a3 H=>vq (qT ⟨(⟨gW (eqFields [(p1,⟨bZ⟩,0),(p1,⟨bZ⟩,1)])⟩:E2).f,some 2⟩ (iN 0) true H a2 a3) H fun a4 H=>vq (dD 0 a4) H fun a5 H=>vq (dD 1 a4) H fun a6 H=>vq ((lY .not).f a6) H fun bO H=>cd bO (.ok (.bX) H) (zbk call x0 a5 H)
def zBx(x0 x1 x2:AV)(H:Hp):R1:=zlj call x0 x1 x2 H
def q2u(x9:AV)(H:Hp):R1:=ve (call (.f 143) [x9] H) fun a0 H=>.ok a0 H
def qlj(call:Ev.Call)(g8:AV->pD)(x9 x24:AV)(H:Hp):R1:=vI x24 H fun bR H=>g8 x9 bR H
def zbi(g8:AV->pD)(x0 x3 x9 yK x24:AV)(H:Hp):R1:=vq (aJ 2 yK x24) H fun a12 H=>vq (aV 2 H a12) H fun bO H=>vq (.new (.ptr H.nx 0) (aB 0 [.str 0 0,.str 0 0])) H fun bN H=>ve (eB 2 H bN bO) fun _ H=>vF 1 bN H fun a17 H=>vq (gH (mP .eql).f a17 (.str 0 0)) H fun dB H=>vg (aM true dB) (.val x0) H fun dP H=>vg (aM true dB) (aU 0 bN) H fun a20 H=>vg (aM true dB) (aQ H a20) H fun a21 H=>vg (aM true dB) (.val x3) H fun a22 H=>qG (aM true dB) (call (.f 111) [dP,a21,a22] H) H fun a23 H=>vg (aM true dB) (mQ true ((⟨E2.f ⟨qnd⟩⟩:E2).f a23 (.bX))) H fun a24 H=>vq (fO dB a24 (.bool false)) H fun a25 H=>cd a25 (vF 0 bN H fun a27 H=>vq (iL 1 H.nx (bU (bE [.str 0 0] 1) [(0,1,a27)])) H fun a28 H=>ve (iD 1 16 H x9 (jE 1 H a28)) fun a29 H=>qlj call g8 a29 x24 H) (qlj call g8 x9 x24 H)
def zbj(aBv:pD)(x0 x3 yK sV:AV)(g8:AV->pD)(x9 x24:AV)(H:Hp):R1:=vq (aD (aO .lss).f x24 sV) H fun a9 H=>cd a9 (zbi call g8 x0 x3 x9 yK x24 H) (aBv x9 H)
def qun(aBv:pD)(x0 x3 yK sV:AV)(n:Nat):AV->pD:=oF (zbj call aBv x0 x3 yK sV) n
def zqy(aBv:pD)(x0 x3 yK sV:AV):AV->pD:=qun call aBv x0 x3 yK sV dO
def zui(x0 x1 x2 x3:AV)(H:Hp):R1:=ve (call (.f 111) [x0,x1,x2] H) fun a2 H=>vq (mQ true ((⟨E2.f ⟨qnd⟩⟩:E2).f a2 (.bX))) H fun a3 H=>cd a3 (vq (aZ a2) H fun a4 H=>vF 1 a4 H fun a6 H=>vq (aF a6) H fun a7 H=>zqy call (fun x9 H=>q2u call x9 H) x0 x3 a6 a7 (.aA) (iN 0) H) (q2u call (.aA) H)
def zBy(x0 x1 x2 x3:AV)(H:Hp):R1:=zui call x0 x1 x2 x3 H
def zuh(x0 x1:AV)(H:Hp):R1:=vq (bJ 3 H.nx x0) H fun a0 H=>vq (bJ 3 H.nx x1) H fun a1 H=>dz 18 H fun b2 H=>dn 0 0 b2 H [] [] (aU 0 a0) fun a3 H p w=>dl 1 1 b2 H p w (fun H=>aQ H a3) fun a4 H p w=>dn 2 0 b2 H p w (aU 0 a1) fun a5 H p w=>dl 3 4 b2 H p w (fun H=>aQ H a5) fun a6 H p w=>dn 5 0 b2 H p w (aU 1 a0) fun a7 H p w=>dl 6 32 b2 H p w (fun H=>aQ H a7) fun a8 H p w=>dn 7 0 b2 H p w (aU 1 a1) fun a9 H p w=>dl 8 128 b2 H p w (fun H=>aQ H a9) fun bR H p w=>dl 10 0 b2 H p w (fun H=>aV 3 H a0) fun bK H p w=>dl 12 0 b2 H p w (fun H=>aV 3 H a1) fun a12 H p w=>de 15 H p w (call (.f 144) [a4,a6] (bQ 15 p H)) (some true) fun bO H p w=>de 511 H p w (call (.f 144) [a8,bR] (bQ 511 p H)) (some true) fun bN H p w=>de 2047 H p w (call (.f 145) [bK] (bQ 2047 p H)) (some true) fun bS H p w=>de 8191 H p w (call (.f 145) [a12] (bQ 8191 p H)) (some true) fun a16 H p w=>de 16383 H p w (call (.f 144) [bS,a16] (bQ 16383 p H)) (some true) fun a17 H p w=>da 15 32767 b2 H p w (iL 3 (b2+15) (bU (bE [iN 0] 3) [(0,1,bO),(1,1,bN),(2,1,a17)])) fun dB H p w=>de 65535 H p w (call (.f 93) [dB] (bQ 65535 p H)) (some true) fun dP H p w=>dn 17 131071 b2 H p w (.val dP) fun a20 H p w=>jU p H fun H=>.ok a20 H
def zBz(x0 x1:AV)(H:Hp):R1:=zuh call x0 x1 H
abbrev xL:AV->AV->Option Bool:=gW (eqFields [(p1,⟨qn1⟩,0),(p1,⟨qn1⟩,1),(p1,⟨qg0⟩,2)])
abbrev xZ:List AV:=[iN 0,iN 0,.bool false]
def zCb(x0:AV)(H:Hp):R1:=qn2 call 3 xL xZ x0 H
def zug(call:Ev.Call)(x0:AV)(H:Hp):R1:=vq (aF x0) H fun a0 H=>vq (aF x0) H fun a1 H=>vq (jX 3 x0 none (some a0) (some a1)) H fun a2 H=>.ok a2 H
def zCc(x0:AV)(H:Hp):R1:=zug call x0 H
def zqw(call:Ev.Call)(H:Hp):R1:=.ok (iN 0) H
def zbe(call:Ev.Call)(g5:pD)(jV:AV)(H:Hp):R1:=vI jV H g5
def zyv(lJ:pD)(g5:pD)(x1 x3 x4 jV:AV)(H:Hp):R1:=vF 0 x4 H fun bN H=>vF 1 x4 H fun a16 H=>vq (o8 nJ bN [a16]) H fun a17 H=>vq (aD (aO .lss).f a17 (iN 0)) H fun dB H=>vg (aM false dB) (aU 0 x4) H fun dP H=>vg (aM false dB) (aQ H dP) H fun a20 H=>vg (aM false dB) (aU 1 x4) H fun a21 H=>vg (aM false dB) (aQ H a21) H fun a22 H=>vg (aM false dB) (o8 oO a20 [a22]) H fun a23 H=>vg (aM false dB) (aU 0 x1) H fun a24 H=>vg (aM false dB) (aQ H a24) H fun a25 H=>vg (aM false dB) (aD (aO .geq).f a23 a25) H fun a26 H=>vq (fO dB (.bool true) a26) H fun a27 H=>cd a27 (lJ (iN 4) H) (dz 0 H fun zR H=>dn 0 0 zR H [] [] (.val x3) fun a29 H p w=>dn 1 1 zR H p w (aD (aO .gtr).f a29 (iN 0)) fun a30 H p w=>dn 2 3 zR H p w (.val a30) fun a31 H p w=>dq false false 3 7 (zR+3) H p w (fun _=>aU 1 x1) (aM true a31) fun a32 H p w=>dq true false 4 15 (zR+4) H p w (fun H=>aQ H a32) (aM true a31) fun a33 H p w=>dq false false 5 7 (zR+5) H p w (fun _=>.val x3) (aM true a31) fun a34 H p w=>dq false false 6 39 (zR+6) H p w (fun _=>aD (aO .sub).f a34 (iN 1)) (aM true a31) fun a35 H p w=>dq false false 7 127 (zR+7) H p w (fun _=>aJ 3 a33 a35) (aM true a31) fun a36 H p w=>dq true false 8 255 (zR+8) H p w (fun H=>aV 3 H a36) (aM true a31) fun a37 H p w=>dq true false 9 7 (zR+9) H p w (fun H=>aV 3 H x4) (aM true a31) fun a38 H p w=>de 1023 H p w (call (.f 113) [a37,a38] (bQ 1023 p H)) (aM true a31) fun a39 H p w=>dq false false 11 2047 (zR+11) H p w (fun _=>aD (aO .geq).f a39 (iN 0)) (aM true a31) fun a40 H p w=>dn 12 4095 zR H p w (fO a31 a40 (.bool false)) fun a41 H p w=>dn 13 8191 zR H p w (.val a41) fun a42 H p w=>jU p H fun H=>cd a42 (lJ (iN 18) H) (zbe call g5 jV H))
def zbg(lJ:pD)(g5:pD)(x1 pI jV:AV)(H:Hp):R1:=vq (aJ 3 pI jV) H fun a9 H=>vq (aV 3 H a9) H fun bR H=>vq (.new (.ptr H.nx 0) (aB 0 [iN 0,iN 0,.bool false])) H fun bK H=>ve (eB 3 H bK bR) fun _ H=>zyv call lJ g5 x1 jV bK jV H
def zbh(lJ:pD)(eT:pH)(x1 pI oQ:AV)(g5:pD)(jV:AV)(H:Hp):R1:=vq (aD (aO .lss).f jV oQ) H fun a6 H=>cd a6 (zbg call lJ g5 x1 pI jV H) (eT H)
def q2s(lJ:pD)(eT:pH)(x1 pI oQ:AV)(n:Nat):pD:=iK (zbh call lJ eT x1 pI oQ) n
def zqx(lJ:pD)(eT:pH)(x1 pI oQ:AV):pD:=q2s call lJ eT x1 pI oQ dO
def zbf(x1:AV)(H:Hp):R1:=vF 1 x1 H fun a3 H=>vq (aF a3) H fun a4 H=>zqx call (fun x2 H=>.ok x2 H) (fun H=>zqw call H) x1 a3 a4 (iN 0) H
def zuf(x0:AV)(H:Hp):R1:=vq (bJ 2 H.nx x0) H fun a0 H=>vF 0 a0 H fun a46 H=>vq (aD (aO .lss).f a46 (iN 0)) H fun a47 H=>vg (aM false a47) (aU 0 a0) H fun a48 H=>vg (aM false a47) (aQ H a48) H fun a49 H=>vg (aM false a47) (aD (aO .gtr).f a49 (iN 256)) H fun a50 H=>vq (fO a47 (.bool true) a50) H fun a51 H=>cd a51 (.ok (iN 3) H) (zbf call a0 H)
def zCd(x0:AV)(H:Hp):R1:=zuf call x0 H
def za9(call:Ev.Call)(x3:AV)(H:Hp):R1:=vF 1026 x3 H fun a3 H=>.ok a3 H
def qrb(call:Ev.Call)(g7:pD)(x30:AV)(H:Hp):R1:=vI x30 H g7
def zbb(g7:pD)(x3 x30:AV)(H:Hp):R1:=vq (aU 256 x3) H fun bK H=>vq (fD 256 1 bK x30) H fun a12 H=>vq (aQ H a12) H fun bO H=>vq (aD (aO .eql).f bO (iN 0)) H fun bN H=>cd bN (ve (call (.f 150) [x3,x30] H) fun bS H=>qrb call g7 x30 H) (qrb call g7 x30 H)
def zbc(aAW:pH)(x3 x29:AV)(g7:pD)(x30:AV)(H:Hp):R1:=vq (aD (aO .lss).f x30 x29) H fun a8 H=>cd a8 (zbb call g7 x3 x30 H) (aAW H)
def q2q(aAW:pH)(x3 x29:AV)(n:Nat):pD:=iK (zbc call aAW x3 x29) n
def zqv(aAW:pH)(x3 x29:AV):pD:=q2q call aAW x3 x29 dO
def qyx(x1 x3:AV)(H:Hp):R1:=vF 0 x1 H fun a6 H=>zqv call (fun H=>za9 call x3 H) x3 a6 (iN 0) H
def zba(call:Ev.Call)(g21:pD)(x10:AV)(H:Hp):R1:=vI x10 H g21
def za8(g21:pD)(x3 x8 x10:AV)(H:Hp):R1:=vq (aJ 3 x8 x10) H fun a25 H=>vq (aV 3 H a25) H fun a26 H=>vq (.new (.ptr H.nx 0) (aB 0 [iN 0,iN 0,.bool false])) H fun a27 H=>ve (eB 3 H a27 a26) fun _ H=>dz 14 H fun b29 H=>dn 0 0 b29 H [] [] (aU 0 a27) fun a30 H p w=>dl 1 1 b29 H p w (fun H=>aQ H a30) fun a31 H p w=>dn 2 0 b29 H p w (aU 0 a27) fun a32 H p w=>dl 3 4 b29 H p w (fun H=>aQ H a32) fun a33 H p w=>dn 4 0 b29 H p w (aU 0 x3) fun a34 H p w=>dn 5 28 b29 H p w (fD 256 1 a34 a33) fun a35 H p w=>dl 6 60 b29 H p w (fun H=>aQ H a35) fun a36 H p w=>dn 7 0 b29 H p w (aU 1 a27) fun a37 H p w=>dl 8 128 b29 H p w (fun H=>aQ H a37) fun a38 H p w=>da 9 384 b29 H p w (iL 1 (b29+9) (bU (bE [iN 0] 1) [(0,1,a38)])) fun a39 H p w=>dn 11 0 b29 H p w (aU 0 x3) fun a40 H p w=>de 1020 H p w (iD 1 8 (bQ 1020 p H) a36 (jE 1 (bQ 1020 p H) a39)) (some true) fun a41 H p w=>dn 12 4095 b29 H p w (fD 256 1 a40 a31) fun a42 H p w=>de 8191 H p w (fQ (bQ 8191 p H) a42 a41) (some true) fun _ H p w=>jU p H fun H=>zba call g21 x10 H
def qyy(uW:pH)(x3 x8 x9:AV)(g21:pD)(x10:AV)(H:Hp):R1:=vq (aD (aO .lss).f x10 x9) H fun a22 H=>cd a22 (za8 call g21 x3 x8 x10 H) (uW H)
def qra(uW:pH)(x3 x8 x9:AV)(n:Nat):pD:=iK (qyy call uW x3 x8 x9) n
def zbd(uW:pH)(x3 x8 x9:AV):pD:=qra call uW x3 x8 x9 dO
def zue(x0:AV)(H:Hp):R1:=vq (bJ 2 H.nx x0) H fun a0 H=>vq (.new (.ptr H.nx 0) (aB 0 (List.replicate 256 (.aA)++List.replicate 512 (iN 0)++List.replicate 256 (.bool false)++[.aA]++[iN 0]++[.aA]))) H fun a1 H=>vF 1 a0 H fun dP H=>vq (aF dP) H fun a20 H=>zbd call (fun H=>qyx call a0 a1 H) a1 dP a20 (iN 0) H
def zCe(x0:AV)(H:Hp):R1:=zue call x0 H
def q2p(call:Ev.Call)(x2 x3 x5:AV)(H:Hp):R1:=.ok (.fn 149 [] [x3,x2,x5]) H
def qyu(call:Ev.Call)(g12:pD)(kF:AV)(H:Hp):R1:=vI kF H g12
def za5(call:Ev.Call)(g19:pD)(x24:AV)(H:Hp):R1:=vI x24 H g19
def za4(g19:pD)(x5 x6 yK x24:AV)(H:Hp):R1:=vq (aJ 1 yK x24) H fun a23 H=>vq (aQ H a23) H fun a24 H=>vq (aQ H x5) H fun a25 H=>vq (aJ 1 a25 a24) H fun a26 H=>ve (fQ H a26 x6) fun _ H=>za5 call g19 x24 H
def qyv(kZ:pH)(x5 x6 yK sV:AV)(g19:pD)(x24:AV)(H:Hp):R1:=vq (aD (aO .lss).f x24 sV) H fun a20 H=>cd a20 (za4 call g19 x5 x6 yK x24 H) (kZ H)
def qq9(kZ:pH)(x5 x6 yK sV:AV)(n:Nat):pD:=iK (qyv call kZ x5 x6 yK sV) n
def za6(kZ:pH)(x5 x6 yK sV:AV):pD:=qq9 call kZ x5 x6 yK sV dO
def za3(g12:pD)(x5 oQ kF:AV)(H:Hp):R1:=vq (aJ 1 oQ kF) H fun a16 H=>vq (aQ H a16) H fun a17 H=>vq (aF a17) H fun dB H=>za6 call (fun H=>qyu call g12 kF H) x5 kF a17 dB (iN 0) H
def qyw(kX:pH)(x5 oQ jV:AV)(g12:pD)(kF:AV)(H:Hp):R1:=vq (aD (aO .lss).f kF jV) H fun bO H=>cd bO (za3 call g12 x5 oQ kF H) (kX H)
def qli(kX:pH)(x5 oQ jV:AV)(n:Nat):pD:=iK (qyw call kX x5 oQ jV) n
def za7(kX:pH)(x5 oQ jV:AV):pD:=qli call kX x5 oQ jV dO
def zua(x0 x1:AV)(H:Hp):R1:=vq (bJ 2 H.nx x0) H fun a0 H=>vq (iY H.nx x1) H fun a1 H=>vq (aQ H a1) H fun a2 H=>ve (call (.f 147) [a2,(.fn 148 [] [])] H) fun a3 H=>vF 0 a0 H fun a5 H=>vq (qie [iN 0] 8 H.nx a5 a5) H fun a6 H=>vq (.new (.ptr H.nx 0) (aB 0 [.aA])) H fun a7 H=>ve (fQ H a7 a6) fun _ H=>vq (aQ H a1) H fun bR H=>vq (aF bR) H fun bK H=>za7 call (fun H=>q2p call a0 a1 a7 H) a7 bR bK (iN 0) H
def zCf(x0 x1:AV)(H:Hp):R1:=zua call x0 x1 H
def zl5(call:Ev.Call)(x0:AV)(H:Hp):R1:=vq (aF x0) H fun a0 H=>vq (aF x0) H fun a1 H=>vq (jX 1 x0 none (some a0) (some a1)) H fun a2 H=>.ok a2 H
def zBd(x0:AV)(H:Hp):R1:=zl5 call x0 H
def zt9(call:Ev.Call)(x0:AV)(H:Hp):R1:=vq (aF x0) H fun a0 H=>vq (aF x0) H fun a1 H=>vq (jX 1 x0 none (some a0) (some a1)) H fun a2 H=>.ok a2 H
def zCg(x0:AV)(H:Hp):R1:=zt9 call x0 H
def qfr(call:Ev.Call)(x0:AV)(H:Hp):R1:=.ok x0 H
def qj6(call:Ev.Call)(g1:pD)(x3:AV)(H:Hp):R1:=vI x3 H g1
def qe1(call:Ev.Call)(iG:pD)(x0 x3:AV)(H:Hp):R1:=vq (jX 1 x0 (some x3) none none) H fun bK H=>ve (qhm [iN 0] H bK) fun _ H=>vq (jX 1 x0 none (some x3) none) H fun bO H=>iG bO H
def qdd(call:Ev.Call)(g15:AV->pD)(x3 x5:AV)(H:Hp):R1:=vI x5 H fun a16 H=>g15 x3 a16 H
def qic(g15:AV->pD)(x0 x3 x4 x5:AV)(H:Hp):R1:=vl (aJ 1 x4 x5) fun dB=>vl (aQ H dB) fun dP=>vl (aD (aO .sub).f x5 (iN 1)) fun a20=>vl (aJ 1 x4 a20) fun a21=>vl (aQ H a21) fun a22=>vl (aD (aO .neq).f dP a22) fun a23=>cd a23 (vq (aJ 1 x4 x5) H fun a24 H=>vq (aQ H a24) H fun a25 H=>vq (aJ 1 x0 x3) H fun a26 H=>ve (fQ H a26 a25) fun _ H=>vI x3 H fun a28 H=>qdd call g15 a28 x5 H) (qdd call g15 x3 x5 H)
def qe2(lD:pD)(x0 x4:AV)(g15:AV->pD)(x3 x5:AV)(H:Hp):R1:=vq (aF x4) H fun a30 H=>vq (aD (aO .lss).f x5 a30) H fun a31 H=>cd a31 (qic call g15 x0 x3 x4 x5 H) (lD x3 H)
def qdc(lD:pD)(x0 x4:AV)(n:Nat):AV->pD:=oF (qe2 call lD x0 x4) n
def qid(lD:pD)(x0 x4:AV):AV->pD:=qdc call lD x0 x4 dO
def qib(iG:pD)(g1:pD)(x0 x3:AV)(H:Hp):R1:=vl (aJ 1 x0 x3) fun a4=>vl (aQ H a4) fun a5=>vl (aD (aO .sub).f x3 (iN 1)) fun a6=>vl (aJ 1 x0 a6) fun a7=>vl (aQ H a7) fun a8=>vl (aD (aO .eql).f a5 a8) fun a9=>cd a9 (vq (jX 1 x0 (some x3) none none) H fun bR H=>qid call (fun x3 H=>qe1 call iG x0 x3 H) x0 bR x3 (iN 1) H) (qj6 call g1 x3 H)
def qfs(iG:pD)(cZ:pH)(x0:AV)(g1:pD)(x3:AV)(H:Hp):R1:=vq (aF x0) H fun a33 H=>vq (aD (aO .lss).f x3 a33) H fun a34 H=>cd a34 (qib call iG g1 x0 x3 H) (cZ H)
def qd2(iG:pD)(cZ:pH)(x0:AV)(n:Nat):pD:=iK (qfs call iG cZ x0) n
def qj7(iG:pD)(cZ:pH)(x0:AV):pD:=qd2 call iG cZ x0 dO
def qia(x0:AV)(H:Hp):R1:=qj7 call (fun x2 H=>.ok x2 H) (fun H=>qfr call x0 H) x0 (iN 1) H
def qhf(x0:AV)(H:Hp):R1:=vq (aF x0) H fun a36 H=>vq (aD (aO .lss).f a36 (iN 2)) H fun a37 H=>cd a37 (.ok x0 H) (qia call x0 H)
def jJ(x0:AV)(H:Hp):R1:=qhf call x0 H
def zaz(x1:AV)(H:Hp):R1:=vq (aU 2 x1) H fun a1 H=>vq (aV 4 H a1) H fun a2 H=>ve (call (.f 165) [a2] H) fun a3 H=>.ok a3 H
def qyt(call:Ev.Call)(g8:pD)(x18:AV)(H:Hp):R1:=vI x18 H g8
def za1(q8r:pD)(g8:pD)(jV x18:AV)(H:Hp):R1:=vq (aJ 2 jV x18) H fun a12 H=>vq (aV 2 H a12) H fun bO H=>vq (.new (.ptr H.nx 0) (aB 0 [.str 0 0,.str 0 0])) H fun bN H=>ve (eB 2 H bN bO) fun _ H=>vF 0 bN H fun a17 H=>ve (call (.f 130) [a17] H) fun dB H=>vq ((lY .not).f dB) H fun dP H=>vg (aM false dP) (aU 1 bN) H fun a20 H=>vg (aM false dP) (aQ H a20) H fun a21 H=>vg (aM false dP) (gH (mP .neq).f a21 (.str 0 0)) H fun a22 H=>vg (aM false dP) (.val a22) H fun a23 H=>vg (aM true a23) (aU 1 bN) H fun a24 H=>vg (aM true a23) (aQ H a24) H fun a25 H=>qG (aM true a23) (call (.f 130) [a25] H) H fun a26 H=>vg (aM true a23) ((lY .not).f a26) H fun a27 H=>vg (aM false dP) (fO a23 a27 (.bool false)) H fun a28 H=>vq (fO dP (.bool true) a28) H fun a29 H=>cd a29 (q8r (iN 6) H) (qyt call g8 x18 H)
def za2(q8r:pD)(aA0:pH)(jV kF:AV)(g8:pD)(x18:AV)(H:Hp):R1:=vq (aD (aO .lss).f x18 kF) H fun a9 H=>cd a9 (za1 call q8r g8 jV x18 H) (aA0 H)
def q2o(q8r:pD)(aA0:pH)(jV kF:AV)(n:Nat):pD:=iK (za2 call q8r aA0 jV kF) n
def zqu(q8r:pD)(aA0:pH)(jV kF:AV):pD:=q2o call q8r aA0 jV kF dO
def za0(x1:AV)(H:Hp):R1:=vF 1 x1 H fun a6 H=>vq (aF a6) H fun a7 H=>zqu call (fun x2 H=>.ok x2 H) (fun H=>zaz call x1 H) a6 a7 (iN 0) H
def zt8(x0:AV)(H:Hp):R1:=vq (bJ 6 H.nx x0) H fun a0 H=>vF 0 a0 H fun a33 H=>ve (call (.f 130) [a33] H) fun a34 H=>vq ((lY .not).f a34) H fun a35 H=>cd a35 (.ok (iN 6) H) (vF 1 a0 H fun a37 H=>vq (aF a37) H fun a38 H=>vq (aD (aO .gtr).f a38 (iN 8)) H fun a39 H=>cd a39 (.ok (iN 3) H) (za0 call a0 H))
def zCi(x0:AV)(H:Hp):R1:=zt8 call x0 H
def zyu(call:Ev.Call)(H:Hp):R1:=.ok (iN 0) H
def zt7(x0 x1 x2 x3:AV)(H:Hp):R1:=vl (aQ H x0) fun a1=>vl (aZ a1) fun a2=>vl (aU 2 a2) fun a3=>vl (aQ H a3) fun a4=>vl (aU 0 x1) fun a5=>vl (aQ H a5) fun a6=>vl (aQ H x2) fun a7=>vl (aZ a7) fun a8=>vl (aU 0 a8) fun a9=>vl (aQ H a9) fun bR=>vl (cO (bU [.str 0 0,.str 0 0] [(0,1,a6),(1,1,bR)])) fun bK=>vl (qT ⟨(⟨gW (eqFields [(p1,⟨bZ⟩,0),(p1,⟨bZ⟩,1)])⟩:E2).f,some 2⟩ (iN 0) false H a4 bK) fun a12=>vl (aQ H x3) fun bO=>vl (aD (aO .neq).f a12 bO) fun bN=>cd bN (.ok (iN 7) H) (zyu call H)
def zCj(x0 x1 x2 x3:AV)(H:Hp):R1:=zt7 call x0 x1 x2 x3 H
def zt6(x0 x1:AV)(H:Hp):R1:=vq (aQ H x0) H fun a0 H=>vq (aQ H x1) H fun a1 H=>ve (call (.f 135) [a0,a1] H) fun a2 H=>.ok a2 H
def zCk(x0 x1:AV)(H:Hp):R1:=zt6 call x0 x1 H
def zt5(x0 x1 x2 x3:AV)(H:Hp):R1:=vq (aQ H x0) H fun a0 H=>vF 0 x1 H fun a2 H=>vq (aQ H x2) H fun a3 H=>ve (call (.f 137) [a0,a2,a3] H) fun a4 H=>vq (dD 0 a4) H fun a5 H=>vq (dD 1 a4) H fun a6 H=>ve (fQ H x3 a5) fun _ H=>.ok a6 H
def zCl(x0 x1 x2 x3:AV)(H:Hp):R1:=zt5 call x0 x1 x2 x3 H
def zyt(call:Ev.Call)(H:Hp):R1:=.ok (iN 0) H
def zt4(x0 x1 x2:AV)(H:Hp):R1:=dz 0 H fun b1 H=>dl 0 0 b1 H [] [] (fun H=>aQ H x0) fun a2 H p w=>dn 1 1 b1 H p w (.val a2) fun a3 H p w=>dq true false 2 3 (b1+2) H p w (fun H=>aQ H x1) (aM true a3) fun a4 H p w=>dq false false 3 7 (b1+3) H p w (fun _=>aZ a4) (aM true a3) fun a5 H p w=>dq false false 4 15 (b1+4) H p w (fun _=>aU 1 a5) (aM true a3) fun a6 H p w=>dq true false 5 31 (b1+5) H p w (fun H=>aQ H a6) (aM true a3) fun a7 H p w=>dq false false 6 63 (b1+6) H p w (fun _=>aF a7) (aM true a3) fun a8 H p w=>dq false false 7 127 (b1+7) H p w (fun _=>aD (aO .eql).f a8 (iN 0)) (aM true a3) fun a9 H p w=>dn 8 255 b1 H p w (fO a3 a9 (.bool false)) fun bR H p w=>dn 9 511 b1 H p w (.val bR) fun bK H p w=>dq true false 10 1023 (b1+10) H p w (fun H=>aQ H x0) (aM false bK) fun a12 H p w=>dq false false 11 2047 (b1+11) H p w (fun _=>(lY .not).f a12) (aM false bK) fun bO H p w=>dq false false 12 4095 (b1+12) H p w (fun _=>.val bO) (aM false bK) fun bN H p w=>dq true false 13 8191 (b1+13) H p w (fun H=>aQ H x1) (aM true bN) fun bS H p w=>dq false false 14 16383 (b1+14) H p w (fun _=>aZ bS) (aM true bN) fun a16 H p w=>dq false false 15 32767 (b1+15) H p w (fun _=>aU 1 a16) (aM true bN) fun a17 H p w=>dq true false 16 65535 (b1+16) H p w (fun H=>aQ H a17) (aM true bN) fun dB H p w=>dq false false 17 131071 (b1+17) H p w (fun _=>aF dB) (aM true bN) fun dP H p w=>dq false false 18 262143 (b1+18) H p w (fun _=>aD (aO .gtr).f dP (iN 0)) (aM true bN) fun a20 H p w=>dq false false 19 524287 (b1+19) H p w (fun _=>fO bN a20 (.bool false)) (aM false bK) fun a21 H p w=>dq false false 20 1048575 (b1+20) H p w (fun _=>.val a21) (aM false bK) fun a22 H p w=>dq true false 21 2097151 (b1+21) H p w (fun H=>aV 2 H x2) (aM true a22) fun a23 H p w=>dq true false 22 2097151 (b1+22) H p w (fun H=>aQ H x1) (aM true a22) fun a24 H p w=>dq false false 23 6291455 (b1+23) H p w (fun _=>aZ a24) (aM true a22) fun a25 H p w=>dq false false 24 14680063 (b1+24) H p w (fun _=>aU 0 a25) (aM true a22) fun a26 H p w=>dq true false 25 31457279 (b1+25) H p w (fun H=>aQ H a26) (aM true a22) fun a27 H p w=>de 67108863 H p w (call (.f 139) [a23,a27] (bQ 67108863 p H)) (aM true a22) fun a28 H p w=>dq false false 27 134217727 (b1+27) H p w (fun _=>(lY .not).f a28) (aM true a22) fun a29 H p w=>dq false false 28 268435455 (b1+28) H p w (fun _=>fO a22 a29 (.bool false)) (aM false bK) fun a30 H p w=>dn 29 536870911 b1 H p w (fO bK (.bool true) a30) fun a31 H p w=>jU p H fun H=>cd a31 (.ok (iN 11) H) (zyt call H)
def zCm(x0 x1 x2:AV)(H:Hp):R1:=zt4 call x0 x1 x2 H
def zqs(call:Ev.Call)(H:Hp):R1:=.ok (iN 0) H
def qum(call:Ev.Call)(g2:pD)(x8:AV)(H:Hp):R1:=vI x8 H g2
def qlg(bL:pD)(g2:pD)(x6 x8:AV)(H:Hp):R1:=vq (aJ 1 x6 x8) H fun a6 H=>vq (aQ H a6) H fun a7 H=>ve (sD call a7 [] H) fun a8 H=>vq (aD (aO .neq).f a8 (iN 0)) H fun a9 H=>cd a9 (bL a8 H) (qum call g2 x8 H)
def qlh(bL:pD)(aW:pH)(x6 x7:AV)(g2:pD)(x8:AV)(H:Hp):R1:=vq (aD (aO .lss).f x8 x7) H fun a3 H=>cd a3 (qlg call bL g2 x6 x8 H) (aW H)
def q2n(bL:pD)(aW:pH)(x6 x7:AV)(n:Nat):pD:=iK (qlh call bL aW x6 x7) n
def zqt(bL:pD)(aW:pH)(x6 x7:AV):pD:=q2n call bL aW x6 x7 dO
def zt3(x0:AV)(H:Hp):R1:=vq (aF x0) H fun a1 H=>zqt call (fun x2 H=>.ok x2 H) (fun H=>zqs call H) x0 a1 (iN 0) H
def zCn(x0:AV)(H:Hp):R1:=zt3 call x0 H
def qlf(x3 dN bY:AV)(H:Hp):R1:=dz 0 H fun tK H=>dl 0 0 tK H [] [] (fun H=>aQ H x3) fun a25 H p w=>dn 1 0 tK H p w (.val dN) fun a26 H p w=>dn 2 0 tK H p w (.val bY) fun a27 H p w=>de 4 H p w (call (.f 120) [a27] (bQ 4 p H)) (some true) fun a28 H p w=>dn 4 15 tK H p w (aJ 5 a25 a26) fun a29 H p w=>dn 5 31 tK H p w (aU 3 a29) fun a30 H p w=>de 63 H p w (fQ (bQ 63 p H) a30 a28) (some true) fun _ H p w=>jU p H fun H=>.ok (.bool true) H
def qq7(call:Ev.Call)(g37:AV->pD)(bY x52:AV)(H:Hp):R1:=vI x52 H fun a39 H=>g37 bY a39 H
def qys(yA:pD)(g37:AV->pD)(x0 x1 x2 x3 x6 bY x52:AV)(H:Hp):R1:=vq (aQ H x3) H fun a41 H=>vq (aF a41) H fun a42 H=>vq (iL 1 H.nx (bU (bE [iN 0] 1) [(0,1,a42)])) H fun a43 H=>ve (iD 1 8 H bY (jE 1 H a43)) fun a44 H=>dz 0 H fun qO H=>dl 0 0 qO H [] [] (fun H=>aQ H x6) fun a46 H p w=>dn 1 0 qO H p w (.val x0) fun a47 H p w=>dn 2 2 qO H p w (aZ a47) fun a48 H p w=>dn 3 6 qO H p w (aU 3 a48) fun a49 H p w=>dl 4 14 qO H p w (fun H=>aQ H a49) fun a50 H p w=>dn 5 0 qO H p w (.val x52) fun a51 H p w=>dn 6 62 qO H p w (aJ 4 a50 a51) fun a52 H p w=>dn 7 0 qO H p w (.val x1) fun a53 H p w=>dn 8 128 qO H p w (aD (aO .add).f a53 (iN 1)) fun a54 H p w=>dn 9 0 qO H p w (.val x2) fun a55 H p w=>dn 10 512 qO H p w (.val a55) fun a56 H p w=>dq false false 11 1536 (qO+11) H p w (fun _=>.val x0) (aM false a56) fun a57 H p w=>dq false false 12 3584 (qO+12) H p w (fun _=>aZ a57) (aM false a56) fun a58 H p w=>dq false false 13 7680 (qO+13) H p w (fun _=>aU 0 a58) (aM false a56) fun a59 H p w=>dq true false 14 15872 (qO+14) H p w (fun H=>aQ H a59) (aM false a56) fun a60 H p w=>dq false false 15 32256 (qO+15) H p w (fun _=>aD (aO .eql).f a60 (.int .u8 (.ofNat 6))) (aM false a56) fun a61 H p w=>dq false false 16 65024 (qO+16) H p w (fun _=>.val a61) (aM false a56) fun a62 H p w=>dq false false 17 130560 (qO+17) H p w (fun _=>.val x52) (aM true a62) fun a63 H p w=>dq false false 18 261632 (qO+18) H p w (fun _=>aD (aO .eql).f a63 (iN 1)) (aM true a62) fun a64 H p w=>dq false false 19 523776 (qO+19) H p w (fun _=>fO a62 a64 (.bool false)) (aM false a56) fun a65 H p w=>dn 20 1048064 qO H p w (fO a56 (.bool true) a65) fun a66 H p w=>de 2097151 H p w (sD call a46 [a52,a54,a66] (bQ 2097151 p H)) (some true) fun a67 H p w=>dn 22 4194303 qO H p w ((lY .not).f a67) fun a68 H p w=>jU p H fun H=>cd a68 (yA (.bool false) H) (qq7 call g37 a44 x52 H)
def qis(yA:pD)(uX:pD)(x0 x1 x2 x3 x6 x51:AV)(g37:AV->pD)(bY x52:AV)(H:Hp):R1:=vq (aD (aO .lss).f x52 x51) H fun a38 H=>cd a38 (qys call yA g37 x0 x1 x2 x3 x6 bY x52 H) (uX bY H)
def qq6(yA:pD)(uX:pD)(x0 x1 x2 x3 x6 x51:AV)(n:Nat):AV->pD:=oF (qis call yA uX x0 x1 x2 x3 x6 x51) n
def qq8(yA:pD)(uX:pD)(x0 x1 x2 x3 x6 x51:AV):AV->pD:=qq6 call yA uX x0 x1 x2 x3 x6 x51 dO
def qyr(x0 x1 x2 x3 x6:AV)(H:Hp):R1:=vq (aQ H x3) H fun a3 H=>vq (aF a3) H fun a4 H=>dz 18 H fun b5 H=>dl 0 0 b5 H [] [] (fun H=>aQ H x3) fun a6 H p w=>dn 1 0 b5 H p w (.val x0) fun a7 H p w=>dn 2 2 b5 H p w (aZ a7) fun a8 H p w=>dn 3 6 b5 H p w (aU 0 a8) fun a9 H p w=>dl 4 14 b5 H p w (fun H=>aQ H a9) fun bR H p w=>dn 5 0 b5 H p w (.val x0) fun bK H p w=>dn 6 32 b5 H p w (aZ bK) fun a12 H p w=>dn 7 96 b5 H p w (aU 1 a12) fun bO H p w=>dl 8 224 b5 H p w (fun H=>aQ H bO) fun bN H p w=>dn 9 0 b5 H p w (.val x0) fun bS H p w=>dn 10 512 b5 H p w (aZ bS) fun a16 H p w=>dn 11 1536 b5 H p w (aU 2 a16) fun a17 H p w=>dl 12 3584 b5 H p w (fun H=>aQ H a17) fun dB H p w=>dn 13 0 b5 H p w (.val x2) fun dP H p w=>dn 14 16382 b5 H p w (cO (bU [.int .u8 (.ofNat 0),.str 0 0,.str 0 0,.aA,.bool false] [(0,1,bR),(1,1,bN),(2,1,dB),(4,1,dP)])) fun a20 H p w=>da 15 32766 b5 H p w (iL 1 (b5+15) (bU (bE [.int .u8 (.ofNat 0),.str 0 0,.str 0 0,.aA,.bool false] 1) [(0,5,a20)])) fun a21 H p w=>de 65535 H p w (iD 5 72 (bQ 65535 p H) a6 (jE 5 (bQ 65535 p H) a21)) (some true) fun a22 H p w=>de 131071 H p w (fQ (bQ 131071 p H) x3 a22) (some true) fun _ H p w=>jU p H fun H=>vq (aZ x0) H fun a33 H=>vF 3 a33 H fun a35 H=>vq (aF a35) H fun a36 H=>qq8 call (fun x10 H=>.ok x10 H) (fun bY H=>qlf call x3 a4 bY H) x0 x1 x2 x3 x6 a36 (.aA) (iN 0) H
def zay(x0 x1 x2 x3 x4 x5 x6:AV)(H:Hp):R1:=vq (aQ H x4) H fun a0 H=>vq (o8 oO a0 [x1]) H fun a1 H=>ve (fQ H x4 a1) fun _ H=>vq (aQ H x5) H fun a71 H=>vq (aD (aO .eql).f a71 (iN 0)) H fun a72 H=>cd a72 (ve (call (.f 141) [x0] H) fun a73 H=>ve (fQ H x5 a73) fun _ H=>qyr call x0 x1 x2 x3 x6 H) (qyr call x0 x1 x2 x3 x6 H)
def zk3(x0 x1 x2 x3 x4 x5 x6:AV)(H:Hp):R1:=vq (aQ H x3) H fun a76 H=>vq (aF a76) H fun a77 H=>vq (aD (aO .eql).f a77 (iN 32)) H fun a78 H=>vg (aM false a78) (.val x1) H fun a79 H=>vg (aM false a78) (aD (aO .gtr).f a79 (iN 8)) H fun a80 H=>vq (fO a78 (.bool true) a80) H fun a81 H=>cd a81 (.ok (.bool false) H) (zay call x0 x1 x2 x3 x4 x5 x6 H)
def zCo(x0 x1 x2 x3 x4 x5 x6:AV)(H:Hp):R1:=zk3 call x0 x1 x2 x3 x4 x5 x6 H
def zt2(call:Ev.Call)(x0:AV)(H:Hp):R1:=vq (aF x0) H fun a0 H=>vq (aF x0) H fun a1 H=>vq (jX 5 x0 none (some a0) (some a1)) H fun a2 H=>.ok a2 H
def zCp(x0:AV)(H:Hp):R1:=zt2 call x0 H
def zt1(call:Ev.Call)(x0:AV)(H:Hp):R1:=vq (aF x0) H fun a0 H=>vq (aF x0) H fun a1 H=>vq (jX 1 x0 none (some a0) (some a1)) H fun a2 H=>.ok a2 H
def zCq(x0:AV)(H:Hp):R1:=zt1 call x0 H
def zqr(call:Ev.Call)(H:Hp):R1:=.ok (iN 0) H
def zqq(x0 x1:AV)(H:Hp):R1:=vq (aD (aO .gtr).f x0 x1) H fun a3 H=>cd a3 (.ok (iN 1) H) (zqr call H)
def zqp(x0 x1:AV)(H:Hp):R1:=vq (aD (aO .lss).f x0 x1) H fun a5 H=>cd a5 (.ok (.int .i64 (.negSucc 0)) H) (zqq call x0 x1 H)
def zqo(x0 x1 x6:AV)(H:Hp):R1:=cd x6 (.ok (iN 1) H) (zqp call x0 x1 H)
def zys(call:Ev.Call)(H:Hp):R1:=.ok (.int .i64 (.negSucc 0)) H
def zt0(x0 x1:AV)(H:Hp):R1:=ve (call (.f 171) [x0] H) fun a0 H=>ve (call (.f 171) [x1] H) fun a1 H=>cd a0 (cd a1 (.ok (iN 0) H) (zys call H)) (zqo call x0 x1 a1 H)
def zCr(x0 x1:AV)(H:Hp):R1:=zt0 call x0 x1 H
def zqn(call:Ev.Call)(H:Hp):R1:=.ok (iN 0) H
def ztz(x0:AV)(H:Hp):R1:=vq (bJ 3 H.nx x0) H fun a0 H=>vF 2 a0 H fun a3 H=>cd a3 (.ok (iN 1) H) (zqn call H)
def zCs(x0:AV)(H:Hp):R1:=ztz call x0 H
def zaw(call:Ev.Call)(x3:AV)(H:Hp):R1:=.ok x3 H
def zql(call:Ev.Call)(g2:pD)(x8:AV)(H:Hp):R1:=vI x8 H g2
def zqk(bL:pD)(g2:pD)(x3 x6 x8:AV)(H:Hp):R1:=vq (aJ 1 x6 x8) H fun a6 H=>vq (aQ H a6) H fun a7 H=>vq (aD (aO .neq).f a7 x3) H fun a8 H=>cd a8 (bL a7 H) (zql call g2 x8 H)
def zax(bL:pD)(aW:pH)(x3 x6 x7:AV)(g2:pD)(x8:AV)(H:Hp):R1:=vq (aD (aO .lss).f x8 x7) H fun a3 H=>cd a3 (zqk call bL g2 x3 x6 x8 H) (aW H)
def q2m(bL:pD)(aW:pH)(x3 x6 x7:AV)(n:Nat):pD:=iK (zax call bL aW x3 x6 x7) n
def zqm(bL:pD)(aW:pH)(x3 x6 x7:AV):pD:=q2m call bL aW x3 x6 x7 dO
def zty(x0:AV)(H:Hp):R1:=vq (aF x0) H fun a1 H=>zqm call (fun x2 H=>.ok x2 H) (fun H=>zaw call (iN 0) H) (iN 0) x0 a1 (iN 0) H
def zCt(x0:AV)(H:Hp):R1:=zty call x0 H
def qq5(g3:pD)(x0 x4 x5:AV)(H:Hp):R1:=vq (aZ x5) H fun a7 H=>vF 0 a7 H fun a9 H=>ve (call (.f 182) [x0,a9] H) fun bR H=>vq (aF x4) H fun bK H=>vq (aD (aO .sub).f bK (iN 1)) H fun a12 H=>vq (jX 2 x4 none (some a12) none) H fun bO H=>vq (aF bO) H fun bN H=>vq (aD (aO .gtr).f bN (iN 0)) H fun bS H=>cd bS (vq (aF bO) H fun a16 H=>vq (aD (aO .sub).f a16 (iN 1)) H fun a17 H=>vq (aJ 2 bO a17) H fun dB H=>vF 0 dB H fun a20 H=>dz 0 H fun kJ H=>dn 0 0 kJ H [] [] (.val x0) fun a22 H p w=>dn 1 0 kJ H p w (.val a20) fun a23 H p w=>dn 2 0 kJ H p w (.val x0) fun a24 H p w=>dn 3 0 kJ H p w (.val a20) fun a25 H p w=>dn 4 4 kJ H p w (aZ a24) fun a26 H p w=>dn 5 20 kJ H p w (aU 512 a26) fun a27 H p w=>dn 6 60 kJ H p w (fD 256 1 a27 a25) fun a28 H p w=>dl 7 124 kJ H p w (fun H=>aQ H a28) fun a29 H p w=>dn 8 0 kJ H p w (.val x0) fun a30 H p w=>dn 9 0 kJ H p w (.val a9) fun a31 H p w=>dn 10 256 kJ H p w (aZ a30) fun a32 H p w=>dn 11 1280 kJ H p w (aU 512 a32) fun a33 H p w=>dn 12 3840 kJ H p w (fD 256 1 a33 a31) fun a34 H p w=>dl 13 7936 kJ H p w (fun H=>aQ H a34) fun a35 H p w=>dn 14 16380 kJ H p w (o8 nJ a29 [a35]) fun a36 H p w=>dn 15 1 kJ H p w (aZ a22) fun a37 H p w=>dn 16 32769 kJ H p w (aU 512 a37) fun a38 H p w=>dn 17 131071 kJ H p w (fD 256 1 a38 a23) fun a39 H p w=>de 262143 H p w (fQ (bQ 262143 p H) a39 a36) (some true) fun _ H p w=>jU p H fun H=>g3 bO H) (g3 bO H)
def zat(call:Ev.Call)(g42:pD)(x0 x4 x5 x6:AV)(H:Hp):R1:=vq (aZ x0) H fun a62 H=>vq (aU 768 a62) H fun a63 H=>vq (fD 256 1 a63 x6) H fun a64 H=>vq (aQ H a64) H fun a65 H=>cd a65 (dz 0 H fun pG H=>dn 0 0 pG H [] [] (.val x0) fun a67 H p w=>dn 1 0 pG H p w (.val x5) fun a68 H p w=>dn 2 2 pG H p w (aZ a68) fun a69 H p w=>dn 3 6 pG H p w (aU 0 a69) fun a70 H p w=>dl 4 14 pG H p w (fun H=>aQ H a70) fun a71 H p w=>dn 5 0 pG H p w (.val x0) fun a72 H p w=>dn 6 0 pG H p w (.val x5) fun a73 H p w=>dn 7 64 pG H p w (aZ a73) fun a74 H p w=>dn 8 192 pG H p w (aU 0 a74) fun a75 H p w=>dl 9 448 pG H p w (fun H=>aQ H a75) fun a76 H p w=>dn 10 32 pG H p w (aZ a72) fun a77 H p w=>dn 11 1056 pG H p w (aU 512 a77) fun a78 H p w=>dn 12 4064 pG H p w (fD 256 1 a78 a76) fun a79 H p w=>dl 13 8160 pG H p w (fun H=>aQ H a79) fun a80 H p w=>dn 14 0 pG H p w (.val x0) fun a81 H p w=>dn 15 0 pG H p w (.val x6) fun a82 H p w=>dn 16 16384 pG H p w (aZ a81) fun a83 H p w=>dn 17 81920 pG H p w (aU 256 a83) fun a84 H p w=>dn 18 245760 pG H p w (fD 256 1 a84 a82) fun a85 H p w=>dl 19 507904 pG H p w (fun H=>aQ H a85) fun a86 H p w=>dn 20 1048544 pG H p w (o8 nJ a80 [a86]) fun a87 H p w=>dn 21 1 pG H p w (aZ a67) fun a88 H p w=>dn 22 2097153 pG H p w (aU 512 a88) fun a89 H p w=>dn 23 8388607 pG H p w (fD 256 1 a89 a71) fun a90 H p w=>de 16777215 H p w (fQ (bQ 16777215 p H) a90 a87) (some true) fun _ H p w=>jU p H fun H=>g42 x4 H) (g42 x4 H)
def q2l(pZ:pD)(g42:pD)(x0 x4 x5:AV)(H:Hp):R1:=vl (aZ x5) fun a43=>vl (aU 0 a43) fun a44=>vl (aQ H a44) fun a45=>vl (aZ x0) fun a46=>vl (aU 0 a46) fun a47=>vl (fD 256 1 a47 a45) fun a48=>vl (aQ H a48) fun a49=>vl (aZ x5) fun a50=>vl (aU 1 a50) fun a51=>vl (aQ H a51) fun a52=>vl (aJ 1 a49 a52) fun a53=>vl (aQ H a53) fun a54=>vq (aZ x5) H fun a55 H=>vF 1 a55 H fun a57 H=>vI a57 H fun a58 H=>vq (aZ x5) H fun a59 H=>vq (aU 1 a59) H fun a60 H=>ve (fQ H a60 a58) fun _ H=>vq (aZ x0) H fun a93 H=>vq (aU 256 a93) H fun a94 H=>vq (fD 256 1 a94 a54) H fun a95 H=>vq (aQ H a95) H fun a96 H=>vq (aD (aO .eql).f a96 (iN 0)) H fun a97 H=>cd a97 (ve (call (.f 181) [x0,a54] H) fun a98 H=>vq (cO (bU [iN 0,iN 0] [(0,1,a54),(1,1,(iN 0))])) H fun a99 H=>vq (iL 1 H.nx (bU (bE [iN 0,iN 0] 1) [(0,2,a99)])) H fun aBk H=>ve (iD 2 16 H x4 (jE 2 H aBk)) fun aFy H=>pZ aFy H) (zat call g42 x0 x4 x5 a54 H)
def qyq(pZ:pD)(u6:pD)(x0 x5:AV)(g42:pD)(x4:AV)(H:Hp):R1:=vl (aZ x5) fun aDt=>vl (aU 1 aDt) fun aEK=>vl (aQ H aEK) fun a105=>vl (aZ x5) fun aF0=>vl (aU 0 aF0) fun a107=>vl (aQ H a107) fun bAN=>vl (aZ x0) fun a109=>vl (aU 0 a109) fun aDm=>vl (fD 256 1 aDm bAN) fun aA5=>vl (aQ H aA5) fun aEI=>vl (aF aEI) fun aBb=>vl (aD (aO .lss).f a105 aBb) fun aQX=>cd aQX (q2l call pZ g42 x0 x4 x5 H) (u6 x4 H)
def qq4(pZ:pD)(u6:pD)(x0 x5:AV)(n:Nat):pD:=iK (qyq call pZ u6 x0 x5) n
def zav(pZ:pD)(u6:pD)(x0 x5:AV):pD:=qq4 call pZ u6 x0 x5 dO
def q2k(g3:pD)(x0 x4:AV)(H:Hp):R1:=vq (aF x4) H fun a4 H=>vq (aD (aO .sub).f a4 (iN 1)) H fun a5 H=>vq (aJ 2 x4 a5) H fun a6 H=>zav call (fun x4 H=>g3 x4 H) (fun x4 H=>qq5 call g3 x0 x4 a6 H) x0 a6 x4 H
def zau(p9:pH)(x0:AV)(g3:pD)(x4:AV)(H:Hp):R1:=vq (aF x4) H fun a116 H=>vq (aD (aO .gtr).f a116 (iN 0)) H fun a117 H=>cd a117 (q2k call g3 x0 x4 H) (p9 H)
def qo0(p9:pH)(x0:AV)(n:Nat):pD:=iK (zau call p9 x0) n
def zqj(p9:pH)(x0:AV):pD:=qo0 call p9 x0 dO
def q2j(x0 x4:AV)(H:Hp):R1:=zqj call (fun H=>.ok (.aY []) H) x0 x4 H
def zyr(x0 x1:AV)(H:Hp):R1:=ve (call (.f 181) [x0,x1] H) fun a0 H=>vq (cO (bU [iN 0,iN 0] [(0,1,x1),(1,1,(iN 0))])) H fun a1 H=>vq (iL 1 H.nx (bU (bE [iN 0,iN 0] 1) [(0,2,a1)])) H fun a2 H=>q2j call x0 a2 H
def zCu(x0 x1:AV)(H:Hp):R1:=zyr call x0 x1 H
def zyq(call:Ev.Call)(x0 x1:AV)(H:Hp):R1:=vl (aJ 1 x0 (iN 0)) fun a0=>vl (aQ H a0) fun a1=>vl (aJ 1 x1 (iN 0)) fun a2=>vl (aQ H a2) fun a3=>vl (aD (aO .sub).f a1 a3) fun a4=>.ok a4 H
def zCv(x0 x1:AV)(H:Hp):R1:=zyq call x0 x1 H
def q2i(call:Ev.Call)(g5:pD)(kF:AV)(H:Hp):R1:=vI kF H g5
def qyn(call:Ev.Call)(g14:pD)(x55:AV)(H:Hp):R1:=vI x55 H g14
def zao(qV:pH)(oH:pH)(g14:pD)(x0 x1 x5 x6 x55:AV)(H:Hp):R1:=vq (aJ 1 x5 x55) H fun dB H=>vq (aQ H dB) H fun dP H=>vq ((lY .not).f dP) H fun a20 H=>vg (aM true a20) (.val x6) H fun a21 H=>vg (aM true a20) (.val x55) H fun a22 H=>vg (aM true a20) (aJ 1 a21 a22) H fun a23 H=>vg (aM true a20) (aQ H a23) H fun a24 H=>vg (aM true a20) ((lY .not).f a24) H fun a25 H=>vq (fO a20 a25 (.bool false)) H fun a26 H=>cd a26 (vq (aJ 1 x5 x55) H fun a27 H=>ve (fQ H a27 (.bool true)) fun _ H=>vq (aQ H x1) H fun a29 H=>vq (aJ 1 a29 x55) H fun a30 H=>vq (aQ H a30) H fun a31 H=>ve (sD call x0 [a31] H) fun a32 H=>vq ((lY .not).f a32) H fun a33 H=>cd a33 (qV H) (oH H)) (qyn call g14 x55 H)
def qyp(qV:pH)(oH:pH)(x0 x1 x5 x6 x54:AV)(g14:pD)(x55:AV)(H:Hp):R1:=vq (aD (aO .lss).f x55 x54) H fun bS H=>cd bS (zao call qV oH g14 x0 x1 x5 x6 x55 H) (oH H)
def qle(qV:pH)(oH:pH)(x0 x1 x5 x6 x54:AV)(n:Nat):pD:=iK (qyp call qV oH x0 x1 x5 x6 x54) n
def zas(qV:pH)(oH:pH)(x0 x1 x5 x6 x54:AV):pD:=qle call qV oH x0 x1 x5 x6 x54 dO
def qym(lJ:pH)(g5:pD)(x0 x1 x5 x6 kF:AV)(H:Hp):R1:=vq (aQ H x1) H fun a12 H=>vq (aF a12) H fun bO H=>zas call (fun H=>lJ H) (fun H=>q2i call g5 kF H) x0 x1 x5 x6 bO (iN 0) H
def qq3(call:Ev.Call)(g39:pD)(x25:AV)(H:Hp):R1:=vI x25 H g39
def zan(g39:pD)(x3 x5 x6 sV x25:AV)(H:Hp):R1:=vq (aJ 3 sV x25) H fun a43 H=>vq (aV 3 H a43) H fun a44 H=>vq (.new (.ptr H.nx 0) (aB 0 [iN 0,iN 0,.bool false])) H fun a45 H=>ve (eB 3 H a45 a44) fun _ H=>vl (aQ H x3) fun a47=>vl (aU 0 a45) fun a48=>vl (aQ H a48) fun a49=>vl (aJ 1 a47 a49) fun a50=>vl (aQ H a50) fun a51=>vl (aQ H x3) fun a52=>vl (aU 1 a45) fun a53=>vl (aQ H a53) fun a54=>vl (aJ 1 a52 a54) fun a55=>vl (aQ H a55) fun a56=>vq (aD (aO .neq).f a51 a56) H fun a57 H=>vg (aM true a57) (.val x5) H fun a58 H=>vg (aM true a57) (.val a56) H fun a59 H=>vg (aM true a57) (aJ 1 a58 a59) H fun a60 H=>vg (aM true a57) (aQ H a60) H fun a61 H=>vg (aM true a57) ((lY .not).f a61) H fun a62 H=>vq (fO a57 a62 (.bool false)) H fun a63 H=>cd a63 (vq (aJ 1 x6 a51) H fun a64 H=>ve (fQ H a64 (.bool true)) fun _ H=>qq3 call g39 x25 H) (qq3 call g39 x25 H)
def qyo(uJ:pH)(x3 x5 x6 sV x24:AV)(g39:pD)(x25:AV)(H:Hp):R1:=vq (aD (aO .lss).f x25 x24) H fun a40 H=>cd a40 (zan call g39 x3 x5 x6 sV x25 H) (uJ H)
def qld(uJ:pH)(x3 x5 x6 sV x24:AV)(n:Nat):pD:=iK (qyo call uJ x3 x5 x6 sV x24) n
def zar(uJ:pH)(x3 x5 x6 sV x24:AV):pD:=qld call uJ x3 x5 x6 sV x24 dO
def zam(lJ:pH)(g5:pD)(x0 x1 x2 x3 x5 kF:AV)(H:Hp):R1:=vq (aQ H x1) H fun a9 H=>vq (aF a9) H fun bR H=>vq (qie [.bool false] 1 H.nx bR bR) H fun bK H=>vF 1 x2 H fun a37 H=>vq (aF a37) H fun a38 H=>zar call (fun H=>qym call lJ g5 x0 x1 x5 bK kF H) x3 x5 bK a37 a38 (iN 0) H
def zaq(lJ:pH)(eT:pH)(x0 x1 x2 x3 x5 jV:AV)(g5:pD)(kF:AV)(H:Hp):R1:=vq (aD (aO .lss).f kF jV) H fun a6 H=>cd a6 (zam call lJ g5 x0 x1 x2 x3 x5 kF H) (eT H)
def qoz(lJ:pH)(eT:pH)(x0 x1 x2 x3 x5 jV:AV)(n:Nat):pD:=iK (zaq call lJ eT x0 x1 x2 x3 x5 jV) n
def zqi(lJ:pH)(eT:pH)(x0 x1 x2 x3 x5 jV:AV):pD:=qoz call lJ eT x0 x1 x2 x3 x5 jV dO
def ztx(x0 x1 x2 x3:AV)(H:Hp):R1:=vq (aQ H x1) H fun a0 H=>vq (aF a0) H fun a1 H=>vq (qie [.bool false] 1 H.nx a1 a1) H fun a2 H=>vq (aQ H x1) H fun a3 H=>vq (aF a3) H fun a4 H=>zqi call (fun H=>.ok (.aY []) H) (fun H=>.ok (.aY []) H) x0 x1 x2 x3 a2 a4 (iN 0) H
def zCw(x0 x1 x2 x3:AV)(H:Hp):R1:=ztx call x0 x1 x2 x3 H
def ztw(x0:AV)(H:Hp):R1:=vq (bJ 4 H.nx x0) H fun a0 H=>ve (call (.f 110) [a0] H) fun a1 H=>vq (dD 0 a1) H fun a2 H=>vq (dD 1 a1) H fun a3 H=>vq (dD 2 a1) H fun a4 H=>.ok a4 H
def zCx(x0:AV)(H:Hp):R1:=ztw call x0 H
def zak(call:Ev.Call)(H:Hp):R1:=.ok (iN 0) H
def q2h:=cst zak
theorem quk:q2h=zak:=jW _
def qyl(call:Ev.Call)(g1:pD)(bY:AV)(H:Hp):R1:=vI bY H g1
def zai:=cst qyl
theorem quj:zai=qyl:=jW _
def qyk(iG:pD)(g1:pD)(bY x40:AV)(H:Hp):R1:=cd x40 (iG (iN 7) H) (zai call g1 bY H)
def zqg:=cst qyk
theorem qui:zqg=qyk:=jW _
def qq1(iG:pD)(g1:pD)(x1 x5 x6 bY kF:AV)(H:Hp):R1:=cd kF (iG (iN 6) H) (dz 0 H fun b6 H=>dn 0 0 b6 H [] [] (.val x1) fun a7 H p w=>dn 1 1 b6 H p w (aZ a7) fun a8 H p w=>dn 2 3 b6 H p w (aU 1 a8) fun a9 H p w=>dl 3 7 b6 H p w (fun H=>aQ H a9) fun bR H p w=>dn 4 0 b6 H p w (.val x5) fun bK H p w=>dn 5 31 b6 H p w (jX 2 bR none (some bK) none) fun a12 H p w=>dl 6 0 b6 H p w (fun H=>aV 2 H x6) fun bO H p w=>de 127 H p w (call (.f 65) [a12,bO] (bQ 127 p H)) (some true) fun bN H p w=>dn 8 255 b6 H p w (.val bN) fun bS H p w=>jU p H fun H=>zqg call iG g1 bY bS H)
def zah:=cst qq1
theorem qow:zah=qq1:=jW _
def qq0(iG:pD)(g1:pD)(x0 x1 x5 x6 bY:AV)(H:Hp):R1:=dz 0 H fun b17 H=>dn 0 0 b17 H [] [] (.val x0) fun dB H p w=>dn 1 1 b17 H p w (aZ dB) fun dP H p w=>dn 2 3 b17 H p w (aU 1 dP) fun a20 H p w=>dl 3 7 b17 H p w (fun H=>aQ H a20) fun a21 H p w=>dn 4 0 b17 H p w (aU 0 x6) fun a22 H p w=>dl 5 16 b17 H p w (fun H=>aQ H a22) fun a23 H p w=>dl 6 63 b17 H p w (fun H=>qT ⟨(⟨bZ⟩:E2).f,none⟩ (iN 0) false H a21 a23) fun a24 H p w=>dn 7 127 b17 H p w (aD (aO .eql).f a24 (iN 0)) fun a25 H p w=>dn 8 255 b17 H p w (.val a25) fun a26 H p w=>dq false false 9 511 (b17+9) H p w (fun _=>aU 1 x6) (aM false a26) fun a27 H p w=>dq true false 10 1023 (b17+10) H p w (fun H=>aQ H a27) (aM false a26) fun a28 H p w=>dq false false 11 2047 (b17+11) H p w (fun _=>gH (mP .neq).f a28 (.str 0 0)) (aM false a26) fun a29 H p w=>dq false false 12 4095 (b17+12) H p w (fun _=>.val a29) (aM false a26) fun a30 H p w=>dq false false 13 8191 (b17+13) H p w (fun _=>.val x0) (aM true a30) fun a31 H p w=>dq false false 14 8191 (b17+14) H p w (fun _=>aU 0 x6) (aM true a30) fun a32 H p w=>dq true false 15 24575 (b17+15) H p w (fun H=>aQ H a32) (aM true a30) fun a33 H p w=>dq false false 16 8191 (b17+16) H p w (fun _=>aU 1 x6) (aM true a30) fun a34 H p w=>dq true false 17 73727 (b17+17) H p w (fun H=>aQ H a34) (aM true a30) fun a35 H p w=>de 262143 H p w (call (.f 111) [a31,a33,a35] (bQ 262143 p H)) (aM true a30) fun a36 H p w=>dq false false 19 524287 (b17+19) H p w (fun _=>mQ false ((⟨E2.f ⟨qnd⟩⟩:E2).f a36 (.bX))) (aM true a30) fun a37 H p w=>dq false false 20 1048575 (b17+20) H p w (fun _=>fO a30 a37 (.bool false)) (aM false a26) fun a38 H p w=>dn 21 2097151 b17 H p w (fO a26 (.bool true) a38) fun a39 H p w=>dn 22 4194303 b17 H p w (.val a39) fun a40 H p w=>jU p H fun H=>zah call iG g1 x1 x5 x6 bY a40 H
def zaf:=cst qq0
theorem qov:zaf=qq0:=jW _
def qq2(iG:pD)(g1:pD)(x0 x1 x10 bY:AV)(H:Hp):R1:=vq (aJ 2 x10 bY) H fun a42 H=>vq (aV 2 H a42) H fun a43 H=>vq (.new (.ptr H.nx 0) (aB 0 [.str 0 0,.str 0 0])) H fun a44 H=>ve (eB 2 H a44 a43) fun _ H=>zaf call iG g1 x0 x1 bY a44 bY H
def zaj:=cst qq2
theorem qoy:zaj=qq2:=jW _
def zal(iG:pD)(cZ:pH)(x0 x1 x10 dN:AV)(g1:pD)(bY:AV)(H:Hp):R1:=vq (aD (aO .lss).f bY dN) H fun a2 H=>cd a2 (zaj call iG g1 x0 x1 x10 bY H) (cZ H)
def qox(iG:pD)(cZ:pH)(x0 x1 x10 dN:AV)(n:Nat):pD:=iK (zal call iG cZ x0 x1 x10 dN) n
def zqh(iG:pD)(cZ:pH)(x0 x1 x10 dN:AV):pD:=qox call iG cZ x0 x1 x10 dN dO
def qqz(x0 x1 x10 dN bY:AV)(H:Hp):R1:=zqh call (fun x4 H=>.ok x4 H) (fun H=>q2h call H) x0 x1 x10 dN bY H
def zae:=cst qqz
theorem qou:zae=qqz:=jW _
def ztv(x0 x1:AV)(H:Hp):R1:=vq (aZ x1) H fun a48 H=>vF 1 a48 H fun a50 H=>vq (aF a50) H fun a51 H=>zae call x0 x1 a50 a51 (iN 0) H
def zCy(x0 x1:AV)(H:Hp):R1:=ztv call x0 x1 H
def zqe(call:Ev.Call)(x6:AV)(H:Hp):R1:=.ok (.aY [x6,(iN 0)]) H
def zab(call:Ev.Call)(g2:AV->pD)(x6 j6:AV)(H:Hp):R1:=vI j6 H fun a4 H=>g2 x6 a4 H
def qyj(g2:AV->pD)(x6 x9 j6:AV)(H:Hp):R1:=vg (aM false x6) (aU 0 x9) H fun a17 H=>vg (aM false x6) (aQ H a17) H fun dB H=>vg (aM false x6) (aD (aO .eql).f dB (.int .u8 (.ofNat 1))) H fun dP H=>vq (fO x6 (.bool true) dP) H fun a20 H=>zab call g2 a20 j6 H
def zac(bL:AV->pD)(g2:AV->pD)(x0 x1 x6 dN j6:AV)(H:Hp):R1:=vq (aJ 5 dN j6) H fun a6 H=>vq (aV 5 H a6) H fun a7 H=>vq (.new (.ptr H.nx 0) (aB 0 [.int .u8 (.ofNat 0),.str 0 0,.str 0 0,.aA,.bool false])) H fun a8 H=>ve (eB 5 H a8 a7) fun _ H=>vF 0 a8 H fun bK H=>vq (aD (aO .eql).f bK (.int .u8 (.ofNat 2))) H fun a12 H=>vg (aM false a12) (aU 0 a8) H fun bO H=>vg (aM false a12) (aQ H bO) H fun bN H=>vg (aM false a12) (aD (aO .eql).f bN (.int .u8 (.ofNat 3))) H fun bS H=>vq (fO a12 (.bool true) bS) H fun a16 H=>vg (aM true a16) (.val x0) H fun a22 H=>vg (aM true a16) (.val x1) H fun a23 H=>vg (aM true a16) (aU 1 a8) H fun a24 H=>vg (aM true a16) (aQ H a24) H fun a25 H=>qG (aM true a16) (call (.f 111) [a22,a23,a25] H) H fun a26 H=>vg (aM true a16) (mQ false ((⟨E2.f ⟨qnd⟩⟩:E2).f a26 (.bX))) H fun a27 H=>vq (fO a16 a27 (.bool false)) H fun a28 H=>cd a28 (bL x6 (iN 6) H) (vF 0 a8 H fun a30 H=>vq (aD (aO .eql).f a30 (.int .u8 (.ofNat 3))) H fun a31 H=>vg (aM true a31) (.val x0) H fun a32 H=>vg (aM true a31) (.val x1) H fun a33 H=>vg (aM true a31) (aU 1 a8) H fun a34 H=>vg (aM true a31) (aQ H a34) H fun a35 H=>vg (aM true a31) (aU 2 a8) H fun a36 H=>vg (aM true a31) (aQ H a36) H fun a37 H=>qG (aM true a31) (call (.f 112) [a32,a33,a35,a37] H) H fun a38 H=>vg (aM true a31) (aF a38) H fun a39 H=>vg (aM true a31) (aD (aO .eql).f a39 (iN 0)) H fun a40 H=>vq (fO a31 a40 (.bool false)) H fun a41 H=>cd a41 (bL x6 (iN 11) H) (qyj call g2 x6 a8 j6 H))
def zad(bL:AV->pD)(aW:pD)(x0 x1 dN bY:AV)(g2:AV->pD)(x6 j6:AV)(H:Hp):R1:=vq (aD (aO .lss).f j6 bY) H fun a3 H=>cd a3 (zac call bL g2 x0 x1 x6 dN j6 H) (aW x6 H)
def quh(bL:AV->pD)(aW:pD)(x0 x1 dN bY:AV)(n:Nat):AV->pD:=oF (zad call bL aW x0 x1 dN bY) n
def zqf(bL:AV->pD)(aW:pD)(x0 x1 dN bY:AV):AV->pD:=quh call bL aW x0 x1 dN bY dO
def ztu(x0 x1 x2:AV)(H:Hp):R1:=vq (aF x2) H fun a1 H=>zqf call (fun x6 x7 H=>.ok (.aY [x6,x7]) H) (fun x6 H=>zqe call x6 H) x0 x1 x2 a1 (.bool false) (iN 0) H
def zCz(x0 x1 x2:AV)(H:Hp):R1:=ztu call x0 x1 x2 H
def ztt(x0 x1:AV)(H:Hp):R1:=vq (bJ 2 H.nx x0) H fun a0 H=>vq (iY H.nx x1) H fun a1 H=>vF 1 a0 H fun a3 H=>ve (call (.f 166) [a3,(.fn 167 [] [a1])] H) fun a4 H=>.ok a4 H
def zDa(x0 x1:AV)(H:Hp):R1:=ztt call x0 x1 H
def qlc(call:Ev.Call)(H:Hp):R1:=.ok (iN 0) H
def qir(x57:AV)(H:Hp):R1:=cd x57 (.ok (iN 6) H) (qlc call H)
def qet(x0 x3 x4 x6:AV)(H:Hp):R1:=vq ((lY .not).f x6) H fun a23 H=>vg (aM false a23) (aV 2 H x3) H fun a24 H=>vg (aM false a23) (aV 2 H x4) H fun a25 H=>vg (aM false a23) (mQ true ((⟨E2.f ⟨gW fun xs ys=>yF p1 ⟨qg0⟩ 1 xs ys 2 0⟩⟩:E2).f a24 a25)) H fun a26 H=>vq (fO a23 (.bool true) a26) H fun a27 H=>cd a27 (.ok (iN 5) H) (vq (aZ x0) H fun a29 H=>vF 0 a29 H fun a31 H=>vq (aD (aO .eql).f a31 (.int .u8 (.ofNat 3))) H fun a32 H=>vg (aM true a32) (.val x0) H fun a33 H=>vg (aM true a32) (aZ a33) H fun a34 H=>vg (aM true a32) (aU 2 a34) H fun a35 H=>vg (aM true a32) (aQ H a35) H fun a36 H=>qG (aM true a32) (call (.f 170) [a36] H) H fun a37 H=>vg (aM true a32) ((lY .not).f a37) H fun a38 H=>vq (fO a32 a38 (.bool false)) H fun a39 H=>cd a39 (qir call a39 H) (vq (aZ x0) H fun a40 H=>vF 0 a40 H fun a42 H=>vq (aD (aO .eql).f a42 (.int .u8 (.ofNat 2))) H fun a43 H=>vg (aM false a43) (.val x0) H fun a44 H=>vg (aM false a43) (aZ a44) H fun a45 H=>vg (aM false a43) (aU 0 a45) H fun a46 H=>vg (aM false a43) (aQ H a46) H fun a47 H=>vg (aM false a43) (aD (aO .eql).f a47 (.int .u8 (.ofNat 3))) H fun a48 H=>vq (fO a43 (.bool true) a48) H fun a49 H=>vg (aM true a49) (.val x0) H fun a50 H=>vg (aM true a49) (aZ a50) H fun a51 H=>vg (aM true a49) (aU 1 a51) H fun a52 H=>vg (aM true a49) (aQ H a52) H fun a53 H=>qG (aM true a49) (call (.f 170) [a53] H) H fun a54 H=>vg (aM true a49) ((lY .not).f a54) H fun a55 H=>vq (fO a49 a55 (.bool false)) H fun a56 H=>qir call a56 H))
def qyi(x0 x3 x4 x5 x29 x40:AV)(H:Hp):R1:=cd x40 (vq (aD (aO .geq).f x5 (iN 2)) H fun a70 H=>qet call x0 x3 x4 a70 H) (vq (aD (aO .eql).f x29 (.int .u8 (.ofNat 6))) H fun a71 H=>cd a71 (vq (aD (aO .eql).f x5 (iN 2)) H fun a72 H=>qet call x0 x3 x4 a72 H) (.ok (iN 10) H))
def zts(x0:AV)(H:Hp):R1:=dz 13 H fun b0 H=>dn 0 0 b0 H [] [] (.val x0) fun a1 H p w=>dn 1 1 b0 H p w (aZ a1) fun a2 H p w=>dn 2 3 b0 H p w (aU 1 a2) fun a3 H p w=>dl 3 7 b0 H p w (fun H=>aQ H a3) fun a4 H p w=>dn 4 15 b0 H p w (gH (mP .neq).f a4 (.str 0 0)) fun a5 H p w=>dn 5 0 b0 H p w (.val x0) fun a6 H p w=>dn 6 32 b0 H p w (aZ a6) fun a7 H p w=>dn 7 96 b0 H p w (aU 2 a7) fun a8 H p w=>dl 8 224 b0 H p w (fun H=>aQ H a8) fun a9 H p w=>dn 9 480 b0 H p w (gH (mP .neq).f a9 (.str 0 0)) fun bR H p w=>dn 10 1023 b0 H p w (cO (bU [.bool false,.bool false] [(0,1,a5),(1,1,bR)])) fun bK H p w=>da 11 0 b0 H p w (.new (.ptr (b0+11) 0) (aB 0 [.bool false,.bool false])) fun a12 H p w=>de 4095 H p w (eB 2 (bQ 4095 p H) a12 bK) (some true) fun _ H p w=>jU p H fun H=>vq (cO (bU [.bool false,.bool false] [])) H fun bN H=>vq (.new (.ptr H.nx 0) (aB 0 [.bool false,.bool false])) H fun bS H=>ve (eB 2 H bS bN) fun _ H=>vq (aZ x0) H fun a17 H=>vF 3 a17 H fun dP H=>vq (aF dP) H fun a20 H=>vq (aD (aO .eql).f a20 (iN 0)) H fun a21 H=>vq (aZ x0) H fun a58 H=>vF 0 a58 H fun a60 H=>vq (aD (aO .eql).f a60 (.int .u8 (.ofNat 1))) H fun a61 H=>cd a61 (qet call x0 a12 bS a21 H) (vq (aD (aO .eql).f a60 (.int .u8 (.ofNat 2))) H fun a62 H=>cd a62 (vq (fD 2 1 a12 (iN 0)) H fun a63 H=>vq (aQ H a63) H fun a64 H=>vq (cO (bU [.bool false,.bool false] [(0,1,a64),(1,1,(.bool false))])) H fun a65 H=>ve (eB 2 H bS a65) fun _ H=>qet call x0 a12 bS a21 H) (vq (aD (aO .eql).f a60 (.int .u8 (.ofNat 3))) H fun a67 H=>cd a67 (vq (aV 2 H a12) H fun a68 H=>ve (eB 2 H bS a68) fun _ H=>qet call x0 a12 bS a21 H) (vq (aD (aO .eql).f a60 (.int .u8 (.ofNat 4))) H fun a74 H=>cd a74 (qyi call x0 a12 bS a20 a60 a74 H) (vq (aD (aO .eql).f a60 (.int .u8 (.ofNat 5))) H fun a75 H=>qyi call x0 a12 bS a20 a60 a75 H))))
def zDb(x0:AV)(H:Hp):R1:=zts call x0 H
def ztr(call:Ev.Call)(x0:AV)(H:Hp):R1:=vq (aD (aO .neq).f x0 x0) H fun a0 H=>.ok a0 H
def zDc(x0:AV)(H:Hp):R1:=ztr call x0 H
def ztq(call:Ev.Call)(x0 x1:AV)(H:Hp):R1:=vq (aZ x0) H fun a0 H=>vF 1025 a0 H fun a2 H=>vI a2 H fun a3 H=>vq (aZ x0) H fun a4 H=>vq (aU 1025 a4) H fun a5 H=>ve (fQ H a5 a3) fun _ H=>dz 0 H fun b7 H=>dn 0 0 b7 H [] [] (.val x0) fun a8 H p w=>dn 1 0 b7 H p w (.val x1) fun a9 H p w=>dn 2 0 b7 H p w (.val x0) fun bR H p w=>dn 3 0 b7 H p w (.val x1) fun bK H p w=>dn 4 0 b7 H p w (.val x0) fun a12 H p w=>dn 5 0 b7 H p w (.val x1) fun bO H p w=>dn 6 0 b7 H p w (.val x0) fun bN H p w=>dn 7 64 b7 H p w (aZ bN) fun bS H p w=>dn 8 192 b7 H p w (aU 1025 bS) fun a16 H p w=>dl 9 448 b7 H p w (fun H=>aQ H a16) fun a17 H p w=>dn 10 0 b7 H p w (.val x0) fun dB H p w=>dn 11 1024 b7 H p w (aZ dB) fun dP H p w=>dn 12 3072 b7 H p w (aU 1025 dP) fun a20 H p w=>dl 13 7168 b7 H p w (fun H=>aQ H a20) fun a21 H p w=>dn 14 1 b7 H p w (aZ a8) fun a22 H p w=>dn 15 16385 b7 H p w (aU 256 a22) fun a23 H p w=>dn 16 65475 b7 H p w (fD 256 1 a23 a9) fun a24 H p w=>dn 18 4 b7 H p w (aZ bR) fun a25 H p w=>dn 19 262148 b7 H p w (aU 512 a25) fun a26 H p w=>dn 22 16 b7 H p w (aZ a12) fun a27 H p w=>dn 23 4194320 b7 H p w (aU 768 a27) fun a28 H p w=>de 131011 H p w (fQ (bQ 131011 p H) a24 a17) (some true) fun _ H p w=>dn 20 1048527 b7 H p w (fD 256 1 a26 bK) fun a30 H p w=>de 2097103 H p w (fQ (bQ 2097103 p H) a30 a21) (some true) fun _ H p w=>dn 24 16777215 b7 H p w (fD 256 1 a28 bO) fun a32 H p w=>de 33554431 H p w (fQ (bQ 33554431 p H) a32 (.bool true)) (some true) fun _ H p w=>jU p H fun H=>vq (aZ x0) H fun a34 H=>vF 1024 a34 H fun a36 H=>vq (iL 1 H.nx (bU (bE [iN 0] 1) [(0,1,x1)])) H fun a37 H=>ve (iD 1 8 H a36 (jE 1 H a37)) fun a38 H=>vq (aZ x0) H fun a39 H=>vq (aU 1024 a39) H fun a40 H=>ve (fQ H a40 a38) fun _ H=>.ok (.aY []) H
def zDd(x0 x1:AV)(H:Hp):R1:=ztq call x0 x1 H
def qyg(call:Ev.Call)(x0 x4 x5:AV)(H:Hp):R1:=vq (aZ x0) H fun bR H=>vF 1024 bR H fun a12 H=>vq (jX 1 a12 none (some x4) none) H fun bO H=>vq (aZ x0) H fun bN H=>vq (aU 1024 bN) H fun bS H=>ve (fQ H bS bO) fun _ H=>vq (aZ x0) H fun a17 H=>vF 1026 a17 H fun dP H=>vq (iL 1 H.nx (bU (bE [.aA] 1) [(0,1,x5)])) H fun a20 H=>ve (iD 1 24 H dP (jE 1 H a20)) fun a21 H=>vq (aZ x0) H fun a22 H=>vq (aU 1026 a22) H fun a23 H=>ve (fQ H a23 a21) fun _ H=>.ok (.aY []) H
def q99(call:Ev.Call)(g27:pD)(x37:AV)(H:Hp):R1:=vI x37 H g27
def q98(g27:pD)(x0 qL x37:AV)(H:Hp):R1:=vq (aJ 1 qL x37) H fun a31 H=>vq (aQ H a31) H fun a32 H=>vq (aZ x0) H fun a33 H=>vq (aU 768 a33) H fun a34 H=>vq (fD 256 1 a34 a32) H fun a35 H=>ve (fQ H a35 (.bool false)) fun _ H=>q99 call g27 x37 H
def qyh(vR:pH)(x0 qL qB:AV)(g27:pD)(x37:AV)(H:Hp):R1:=vq (aD (aO .lss).f x37 qB) H fun a28 H=>cd a28 (q98 call g27 x0 qL x37 H) (vR H)
def qqy(vR:pH)(x0 qL qB:AV)(n:Nat):pD:=iK (qyh call vR x0 qL qB) n
def zaa(vR:pH)(x0 qL qB:AV):pD:=qqy call vR x0 qL qB dO
def q97(x0 x1:AV)(H:Hp):R1:=vq (aZ x0) H fun a0 H=>vF 1024 a0 H fun a2 H=>ve (call (.f 211) [a2,x1] H) fun a3 H=>vq (aZ x0) H fun a4 H=>vF 1024 a4 H fun a6 H=>vq (jX 1 a6 (some a3) none none) H fun a7 H=>ve (call (.f 213) [a7] H) fun a8 H=>ve (call (.f 212) [a8] H) fun a9 H=>vq (aF a9) H fun a26 H=>zaa call (fun H=>qyg call x0 a3 a9 H) x0 a9 a26 (iN 0) H
def zkm(x0 x1:AV)(H:Hp):R1:=vl (aZ x0) fun a39=>vl (aU 512 a39) fun a40=>vl (fD 256 1 a40 x1) fun a41=>vl (aQ H a41) fun a42=>vl (aZ x0) fun a43=>vl (aU 256 a43) fun a44=>vl (fD 256 1 a44 x1) fun a45=>vl (aQ H a45) fun a46=>vl (aD (aO .lss).f a42 a46) fun a47=>cd a47 (.ok (.aY []) H) (q97 call x0 x1 H)
def zDe(x0 x1:AV)(H:Hp):R1:=zkm call x0 x1 H
def ztp(x0 x1:AV)(H:Hp):R1:=vq (bJ 2 H.nx x1) H fun a0 H=>vq (aV 2 H a0) H fun a1 H=>ve (call (.f 99) [x0,a1] H) fun a2 H=>vq (aD (aO .geq).f a2 (iN 0)) H fun a3 H=>.ok a3 H
def zDf(x0 x1:AV)(H:Hp):R1:=ztp call x0 x1 H
def zto(x0 x1:AV)(H:Hp):R1:=vq (bJ 6 H.nx x0) H fun a0 H=>vq (aU 2 a0) H fun a1 H=>vq (aV 4 H a1) H fun a2 H=>ve (call (.f 85) [a2] H) fun a3 H=>vq (dD 0 a3) H fun a4 H=>vq (dD 1 a3) H fun a5 H=>ve (call (.f 168) [a4,(.fn 169 [] [x1])] H) fun a6 H=>.ok a6 H
def zDg(x0 x1:AV)(H:Hp):R1:=zto call x0 x1 H
def ztn(x0 x1:AV)(H:Hp):R1:=ve (call (.f 198) [x0,x1] H) fun a0 H=>vq (aD (aO .geq).f a0 (iN 0)) H fun a1 H=>.ok a1 H
def zDh(x0 x1:AV)(H:Hp):R1:=ztn call x0 x1 H
def zqc(call:Ev.Call)(H:Hp):R1:=.ok (.int .i64 (.negSucc 0)) H
def zqb(call:Ev.Call)(g2:pD)(x8:AV)(H:Hp):R1:=vI x8 H g2
def zqa(bL:pD)(g2:pD)(x0 x1 x8:AV)(H:Hp):R1:=vq (aJ 1 x0 x8) H fun a6 H=>vq (aQ H a6) H fun a7 H=>vq (aD (aO .eql).f x1 a7) H fun a8 H=>cd a8 (bL x8 H) (zqb call g2 x8 H)
def q96(bL:pD)(aW:pH)(x0 x1 x7:AV)(g2:pD)(x8:AV)(H:Hp):R1:=vq (aD (aO .lss).f x8 x7) H fun a3 H=>cd a3 (zqa call bL g2 x0 x1 x8 H) (aW H)
def q2g(bL:pD)(aW:pH)(x0 x1 x7:AV)(n:Nat):pD:=iK (q96 call bL aW x0 x1 x7) n
def zqd(bL:pD)(aW:pH)(x0 x1 x7:AV):pD:=q2g call bL aW x0 x1 x7 dO
def ztm(x0 x1:AV)(H:Hp):R1:=vq (aF x0) H fun a1 H=>zqd call (fun x4 H=>.ok x4 H) (fun H=>zqc call H) x0 x1 a1 (iN 0) H
def zDj(x0 x1:AV)(H:Hp):R1:=ztm call x0 x1 H
def ztl(call:Ev.Call)(x0:AV)(H:Hp):R1:=vq (iY H.nx x0) H fun a0 H=>.ok (.fn 227 [] [a0]) H
def zDk(x0:AV)(H:Hp):R1:=ztl call x0 H
def zyp(x0:AV)(H:Hp):R1:=ve (call (.f 226) [x0] H) fun a0 H=>ve (call (.f 122) [a0] H) fun a1 H=>.ok a0 H
def zDl(x0:AV)(H:Hp):R1:=zyp call x0 H
def q94(call:Ev.Call)(H:Hp):R1:=.ok (.int .i64 (.negSucc 0)) H
def zp8(call:Ev.Call)(g3:pD)(x8:AV)(H:Hp):R1:=vI x8 H g3
def q93(q3r:pD)(g3:pD)(x0 x3 x8:AV)(H:Hp):R1:=vl (aV 2 H x3) fun a7=>vl (aJ 2 x0 x8) fun a8=>vl (aV 2 H a8) fun a9=>vl (mQ false ((⟨E2.f ⟨gW (eqFields [(p1,⟨bZ⟩,0),(p1,⟨bZ⟩,1)])⟩⟩:E2).f a7 a9)) fun bR=>cd bR (q3r x8 H) (zp8 call g3 x8 H)
def q95(q3r:pD)(p9:pH)(x0 x3 x7:AV)(g3:pD)(x8:AV)(H:Hp):R1:=vq (aD (aO .lss).f x8 x7) H fun a4 H=>cd a4 (q93 call q3r g3 x0 x3 x8 H) (p9 H)
def q2f(q3r:pD)(p9:pH)(x0 x3 x7:AV)(n:Nat):pD:=iK (q95 call q3r p9 x0 x3 x7) n
def zp9(q3r:pD)(p9:pH)(x0 x3 x7:AV):pD:=q2f call q3r p9 x0 x3 x7 dO
def ztk(x0 x1:AV)(H:Hp):R1:=vq (bJ 2 H.nx x1) H fun a0 H=>vq (aF x0) H fun a2 H=>zp9 call (fun x4 H=>.ok x4 H) (fun H=>q94 call H) x0 a0 a2 (iN 0) H
def zDm(x0 x1:AV)(H:Hp):R1:=ztk call x0 x1 H
def ztj(call:Ev.Call)(x0 x1:AV)(H:Hp):R1:=vq (bJ 5 H.nx x0) H fun a0 H=>vF 0 a0 H fun a2 H=>vq (aD (aO .eql).f a2 (.int .u8 (.ofNat 3))) H fun a3 H=>vg (aM true a3) (aU 1 a0) H fun a4 H=>vg (aM true a3) (aQ H a4) H fun a5 H=>vg (aM true a3) (aQ H x1) H fun a6 H=>vg (aM true a3) (gH (mP .eql).f a5 a6) H fun a7 H=>vq (fO a3 a7 (.bool false)) H fun a8 H=>.ok a8 H
def zDn(x0 x1:AV)(H:Hp):R1:=ztj call x0 x1 H
def zti(x0 x1:AV)(H:Hp):R1:=ve (call (.f 199) [x0,x1] H) fun a0 H=>vq (aD (aO .geq).f a0 (iN 0)) H fun a1 H=>.ok a1 H
def zDo(x0 x1:AV)(H:Hp):R1:=zti call x0 x1 H
def q91(call:Ev.Call)(H:Hp):R1:=.ok (.int .i64 (.negSucc 0)) H
def zp6(call:Ev.Call)(g2:pD)(x8:AV)(H:Hp):R1:=vI x8 H g2
def zp5(bL:pD)(g2:pD)(x0 x1 x8:AV)(H:Hp):R1:=vq (aJ 6 x0 x8) H fun a6 H=>vq (aV 6 H a6) H fun a7 H=>ve (sD call x1 [a7] H) fun a8 H=>cd a8 (bL x8 H) (zp6 call g2 x8 H)
def q92(bL:pD)(aW:pH)(x0 x1 x7:AV)(g2:pD)(x8:AV)(H:Hp):R1:=vq (aD (aO .lss).f x8 x7) H fun a3 H=>cd a3 (zp5 call bL g2 x0 x1 x8 H) (aW H)
def q2d(bL:pD)(aW:pH)(x0 x1 x7:AV)(n:Nat):pD:=iK (q92 call bL aW x0 x1 x7) n
def zp7(bL:pD)(aW:pH)(x0 x1 x7:AV):pD:=q2d call bL aW x0 x1 x7 dO
def zth(x0 x1:AV)(H:Hp):R1:=vq (aF x0) H fun a1 H=>zp7 call (fun x4 H=>.ok x4 H) (fun H=>q91 call H) x0 x1 a1 (iN 0) H
def zDp(x0 x1:AV)(H:Hp):R1:=zth call x0 x1 H
def zp3(call:Ev.Call)(g2:pD)(x7:AV)(H:Hp):R1:=vI x7 H g2
def q9z(bL:pH)(g2:pD)(x0 x5 x7:AV)(H:Hp):R1:=vq (aJ 1 x5 x7) H fun a6 H=>vq (aQ H a6) H fun a7 H=>ve (sD call x0 [a7] H) fun a8 H=>vq ((lY .not).f a8) H fun a9 H=>cd a9 (bL H) (zp3 call g2 x7 H)
def q90(bL:pH)(aW:pH)(x0 x5 x6:AV)(g2:pD)(x7:AV)(H:Hp):R1:=vq (aD (aO .lss).f x7 x6) H fun a3 H=>cd a3 (q9z call bL g2 x0 x5 x7 H) (aW H)
def q2c(bL:pH)(aW:pH)(x0 x5 x6:AV)(n:Nat):pD:=iK (q90 call bL aW x0 x5 x6) n
def zp4(bL:pH)(aW:pH)(x0 x5 x6:AV):pD:=q2c call bL aW x0 x5 x6 dO
def ztg(x0 x1:AV)(H:Hp):R1:=vq (aQ H x1) H fun a0 H=>vq (aF a0) H fun a1 H=>zp4 call (fun H=>.ok (.aY []) H) (fun H=>.ok (.aY []) H) x0 a0 a1 (iN 0) H
def zDq(x0 x1:AV)(H:Hp):R1:=ztg call x0 x1 H
def zyo(x0:AV)(H:Hp):R1:=ve (call (.f 231) [(.aA),x0] H) fun a0 H=>.ok a0 H
def zDr(x0:AV)(H:Hp):R1:=zyo call x0 H
def q9x(call:Ev.Call)(H:Hp):R1:=.ok (.int .i64 (.negSucc 0)) H
def q9w(call:Ev.Call)(g2:pD)(x8:AV)(H:Hp):R1:=vI x8 H g2
def zp1(bL:pD)(g2:pD)(x0 x1 x8:AV)(H:Hp):R1:=vq (aJ 5 x0 x8) H fun a6 H=>vq (aV 5 H a6) H fun a7 H=>ve (sD call x1 [a7] H) fun a8 H=>cd a8 (bL x8 H) (q9w call g2 x8 H)
def q9y(bL:pD)(aW:pH)(x0 x1 x7:AV)(g2:pD)(x8:AV)(H:Hp):R1:=vq (aD (aO .lss).f x8 x7) H fun a3 H=>cd a3 (zp1 call bL g2 x0 x1 x8 H) (aW H)
def qug(bL:pD)(aW:pH)(x0 x1 x7:AV)(n:Nat):pD:=iK (q9y call bL aW x0 x1 x7) n
def zp2(bL:pD)(aW:pH)(x0 x1 x7:AV):pD:=qug call bL aW x0 x1 x7 dO
def ztf(x0 x1:AV)(H:Hp):R1:=vq (aF x0) H fun a1 H=>zp2 call (fun x4 H=>.ok x4 H) (fun H=>q9x call H) x0 x1 a1 (iN 0) H
def zDs(x0 x1:AV)(H:Hp):R1:=ztf call x0 x1 H
end Go.Di
end
