/-
 For StrataOf: functions in direct style, their contracts, and the plain mathematics, part 2 of 9. No conditions beyond those that each theorem states.
-/
import Derived.Test.YtighkibjecdbnaaGreatConA
set_option linter.unusedSimpArgs false
set_option linter.unusedVariables false
noncomputable section
namespace Go.Di
open Go.Ev
def cst{α:Type}(a:α):α:=Classical.choose (⟨a,rfl⟩:∃ f,f=a)
theorem jM{α:Type}(a:α):cst a=a:=Classical.choose_spec (⟨a,rfl⟩:∃ f,f=a)
variable (call:Ev.Call)
def qrz(x9:AV)(H:Hp):R1 :=
 vq (aB (aK .eql).f x9 (iN 0)) H fun a31 H =>
 qA (aP true a31) (call (.f 5) [] H) H fun a32 H =>
 vq (fI a31 a32 (.bool false)) H fun a33 H =>
 .ok a33 H
def zce:=cst qrz
theorem qom:zce=qrz:=jM _
def qrx(x5 x7 x8:AV)(H:Hp):R1 :=
 vq (aX 1 H x8) H fun a23 H =>
 vq (fO 2 1 x5 (iN 0)) H fun a24 H =>
 vq (aH H a24) H fun a25 H =>
 vq (fO 2 1 x5 (iN 1)) H fun a26 H =>
 vq (aH H a26) H fun a27 H =>
 ve (call (.f 12) [a23,a25,a27] H) fun a28 H =>
 vq (bK 0 a28) H fun a29 H =>
 vq (bK 1 a28) H fun a30 H =>
 vq (aX 1 H x7) H fun a35 H =>
 vq (fO 2 1 x5 (iN 0)) H fun a36 H =>
 vq (aH H a36) H fun a37 H =>
 vq (fO 2 1 x5 (iN 1)) H fun a38 H =>
 vq (aH H a38) H fun a39 H =>
 ve (call (.f 16) [a35,a37,a39] H) fun a40 H =>
 vq (aB (aK .lss).f a40 (iN 0)) H fun a41 H =>
 cd a41 (
 vq (aB (aK .eql).f a29 (iN 0)) H fun a42 H =>
 vg (aP true a42) (.val a30) H fun a43 H =>
 vg (aP true a42) (aB (aK .eql).f a43 (iN 6)) H fun a44 H =>
 vq (fI a42 a44 (.bool false)) H fun a45 H =>
 qA (aP true a45) (call (.f 5) [] H) H fun a46 H =>
 vq (fI a45 a46 (.bool false)) H fun a47 H =>
 .ok a47 H) (
 zce call a30 H)
def qry:=cst qrx
theorem qol:qry=qrx:=jM _
def qrw(x1 x5 x7 x8 dV:AV)(H:Hp):R1 :=
 vq (aX 1 H x8) H fun dJ H =>
 ve (call (.f 14) [dJ,x1] H) fun a20 H =>
 vq (bK 0 a20) H fun a21 H =>
 vq (bK 1 a20) H fun a22 H =>
 vq (aB (aK .lss).f x1 (iN 0)) H fun a49 H =>
 vg (aP false a49) (.val x1) H fun a50 H =>
 vg (aP false a49) (.val dV) H fun a51 H =>
 vg (aP false a49) (aB (aK .geq).f a50 a51) H fun a52 H =>
 vq (fI a49 (.bool true) a52) H fun a53 H =>
 vg (aP true a53) (.val a21) H fun a54 H =>
 vg (aP true a53) (.val a22) H fun a55 H =>
 qA (aP true a53) (call (.f 15) [a54,a55,(.aA),(iN 4)] H) H fun a56 H =>
 vg (aP true a53) ((mZ .not).f a56) H fun a57 H =>
 vq (fI a53 a57 (.bool false)) H fun a58 H =>
 cd a58 (
 .ok (.bool false) H) (
 qry call x5 x7 x8 H)
def qk8:=cst qrw
theorem qok:qk8=qrw:=jM _
def zcd(call:Ev.Call)(y9:AV->Hp->R1)(gH:AV)(H:Hp):R1 :=
 vq (aB (aK .add).f gH (iN 1)) H fun a61 H =>
 y9 a61 H
def qyt(r9:AV->Hp->R1)(y9:AV->Hp->R1)(x8 gH x18:AV)(H:Hp):R1 :=
 vq (aX 1 H x8) H fun a63 H =>
 ve (call (.f 14) [a63,gH] H) fun a64 H =>
 vq (bK 0 a64) H fun a65 H =>
 vq (bK 1 a64) H fun a66 H =>
 vq (aG x18) H fun a67 H =>
 vq (aB (aK .eql).f a67 (iN 0)) H fun a68 H =>
 vg (aP false a68) (.val a65) H fun a69 H =>
 vg (aP false a68) (.val a66) H fun a70 H =>
 vg (aP false a68) (.val x18) H fun a71 H =>
 qA (aP false a68) (call (.f 15) [a69,a70,a71,(iN 0)] H) H fun a72 H =>
 vg (aP false a68) ((mZ .not).f a72) H fun a73 H =>
 vq (fI a68 (.bool true) a73) H fun a74 H =>
 cd a74 (
 r9 (.bool false) H) (
 zcd call y9 gH H)
def qrv(call:Ev.Call)(g76:AV->AV->Hp->R1)(x18 jP:AV)(H:Hp):R1 :=
 vq (aB (aK .add).f jP (iN 1)) H fun a77 H =>
 g76 x18 a77 H
def zcc(g76:AV->AV->Hp->R1)(x10 gH x18 jP:AV)(H:Hp):R1 :=
 vq (aL 1 x10 jP) H fun a79 H =>
 vq (aH H a79) H fun a80 H =>
 vq (aB (aK .eql).f a80 gH) H fun a81 H =>
 cd a81 (
 vq (jL 1 H.nx (dD (bB [iN 0] 1) [(0,1,jP)])) H fun a82 H =>
 ve (iJ 1 8 H x18 (jY 1 H a82)) fun a83 H =>
 qrv call g76 a83 jP H) (
 qrv call g76 x18 jP H)
def qyv(u7:AV->Hp->R1)(x10 gH:AV)(g76:AV->AV->Hp->R1)(x18 jP:AV)(H:Hp):R1 :=
 vq (aG x10) H fun a85 H =>
 vq (aB (aK .lss).f jP a85) H fun a86 H =>
 cd a86 (
 zcc call g76 x10 gH x18 jP H) (
 u7 x18 H)
def qrt(u7:AV->Hp->R1)(x10 gH:AV)(n:Nat):AV->AV->Hp->R1 :=
 Nat.rec (motive:=fun _=>AV->AV->Hp->R1) (fun _ _ _=> .bad) (fun _ ih=>qyv call u7 x10 gH ih) n
def zcg(u7:AV->Hp->R1)(x10 gH:AV):AV->AV->Hp->R1:=qrt call u7 x10 gH dM
def zcb(r9:AV->Hp->R1)(y9:AV->Hp->R1)(x8 x10 gH:AV)(H:Hp):R1 :=
 zcg call (fun x18 H=>qyt call r9 y9 x8 gH x18 H) x10 gH (.aA) (iN 0) H
def qyw(r9:AV->Hp->R1)(uU:Hp->R1)(x8 x10 dV:AV)(y9:AV->Hp->R1)(gH:AV)(H:Hp):R1 :=
 vq (aB (aK .lss).f gH dV) H fun a88 H =>
 cd a88 (
 zcb call r9 y9 x8 x10 gH H) (
 uU H)
def qk7(r9:AV->Hp->R1)(uU:Hp->R1)(x8 x10 dV:AV)(n:Nat):AV->Hp->R1 :=
 Nat.rec (motive:=fun _=>AV->Hp->R1) (fun _ _=> .bad) (fun _ ih=>qyw call r9 uU x8 x10 dV ih) n
def zch(r9:AV->Hp->R1)(uU:Hp->R1)(x8 x10 dV:AV):AV->Hp->R1:=qk7 call r9 uU x8 x10 dV dM
def zca(x1 x5 x7 x8 x10 dV:AV)(H:Hp):R1 :=
 zch call (fun x6 H=> .ok x6 H) (fun H=>qk8 call x1 x5 x7 x8 dV H) x8 x10 dV (iN 0) H
def qru(x1 x5 x7 x8 x10 dV:AV)(H:Hp):R1 :=
 vq (aX 1 H x8) H fun a90 H =>
 ve (call (.f 13) [a90] H) fun a91 H =>
 vq (aB (aK .neq).f a91 dV) H fun a92 H =>
 cd a92 (
 .ok (.bool false) H) (
 zca call x1 x5 x7 x8 x10 dV H)
def qys:=cst qru
theorem qoj:qys=qru:=jM _
def zb9(call:Ev.Call)(g94:AV->AV->Hp->R1)(dV kE:AV)(H:Hp):R1 :=
 vq (aB (aK .add).f kE (iN 1)) H fun a95 H =>
 g94 dV a95 H
def q1v(g94:AV->AV->Hp->R1)(dV kE mW:AV)(H:Hp):R1 :=
 vq (aB (aK .add).f mW (iN 1)) H fun aBq H =>
 vq (nW mY dV [aBq]) H fun a116 H =>
 zb9 call g94 a116 kE H
def q1u(wX:AV->Hp->R1)(g94:AV->AV->Hp->R1)(x8 x10 bI dV kE:AV)(H:Hp):R1 :=
 dz 0 H fun vT H =>
 dl 0 0 vT H [] [] (fun H=>aX 1 H x8) fun a98 H p w =>
 dn 1 0 vT H p w (.val bI) fun a99 H p w =>
 dn 2 0 vT H p w (.val kE) fun rQ H p w =>
 dn 3 6 vT H p w (aL 2 a99 rQ) fun uV H p w =>
 dn 4 14 vT H p w (aO 0 uV) fun wP H p w =>
 dl 5 30 vT H p w (fun H=>aH H wP) fun zH H p w =>
 dn 6 0 vT H p w (.val bI) fun wE H p w =>
 dn 7 0 vT H p w (.val kE) fun a105 H p w =>
 dn 8 192 vT H p w (aL 2 wE a105) fun yH H p w =>
 dn 9 448 vT H p w (aO 1 yH) fun a107 H p w =>
 dl 10 960 vT H p w (fun H=>aH H a107) fun aAR H p w =>
 de 2047 H p w (call (.f 12) [a98,zH,aAR] (bO 2047 p H)) (some true) fun a109 H p w =>
 dn 12 4095 vT H p w (.val a109) fun rO H p w =>
 dn 13 8191 vT H p w (bK 0 rO) fun sG H p w =>
 dn 14 8191 vT H p w (bK 1 rO) fun yC H p w =>
 dn 15 16383 vT H p w (.val sG) fun qQ H p w =>
 dn 16 65535 vT H p w (.val yC) fun xH H p w =>
 jO p H fun H =>
 vq (aL 1 x10 kE) H fun pZ H =>
 vq (aH H pZ) H fun a119 H =>
 vq (aB (aK .neq).f qQ a119) H fun xB H =>
 vg (aP false xB) (.val xH) H fun aAi H =>
 vg (aP false xB) (aB (aK .neq).f aAi (iN 0)) H fun aES H =>
 vq (fI xB (.bool true) aES) H fun aEY H =>
 cd aEY (
 wX (.bool false) H) (
 q1v call g94 dV kE qQ H)
def qyu(wX:AV->Hp->R1)(uP:AV->Hp->R1)(x8 x10 bI:AV)(g94:AV->AV->Hp->R1)(dV kE:AV)(H:Hp):R1 :=
 vq (aG bI) H fun aFU H =>
 vq (aB (aK .lss).f kE aFU) H fun aF2 H =>
 cd aF2 (
 q1u call wX g94 x8 x10 bI dV kE H) (
 uP dV H)
def qrs(wX:AV->Hp->R1)(uP:AV->Hp->R1)(x8 x10 bI:AV)(n:Nat):AV->AV->Hp->R1 :=
 Nat.rec (motive:=fun _=>AV->AV->Hp->R1) (fun _ _ _=> .bad) (fun _ ih=>qyu call wX uP x8 x10 bI ih) n
def zcf(wX:AV->Hp->R1)(uP:AV->Hp->R1)(x8 x10 bI:AV):AV->AV->Hp->R1:=qrs call wX uP x8 x10 bI dM
def qlc(x1 x5 x7 x8:AV)(H:Hp):R1 :=
 vq (aX 1 H x7) H fun a12 H =>
 ve (call (.f 10) [a12] H) fun bR H =>
 ve (call (.f 9) [bR] H) fun cB H =>
 vq (bK 0 cB) H fun bV H =>
 vq (bK 1 cB) H fun a16 H =>
 vq (aX 1 H x7) H fun a17 H =>
 ve (call (.f 11) [a17] H) fun cZ H =>
 zcf call (fun x6 H=> .ok x6 H) (fun dV H=>qys call x1 x5 x7 x8 bV dV H) x8 bV cZ (iN 0) (iN 0) H
def qr1:=cst qlc
theorem qlb:qr1=qlc:=jM _
def qla(x1 x3 x5:AV)(H:Hp):R1 :=
 vq (aX 1 H x3) H fun a2 H =>
 ve (call (.f 6) [a2] H) fun a3 H =>
 vq (.new (.ptr H.nx 0) (aD 0 [.aA])) H fun a4 H =>
 ve (dX 1 H a4 a3) fun _ H =>
 vq (aX 1 H a4) H fun a6 H =>
 ve (call (.f 7) [a6] H) fun a7 H =>
 vq (bK 0 a7) H fun a8 H =>
 vq (bK 1 a7) H fun a9 H =>
 vq (.new (.ptr H.nx 0) (aD 0 [.aA])) H fun bQ H =>
 ve (dX 1 H bQ a8) fun _ H =>
 vq (aB (aK .neq).f a9 (iN 0)) H fun uZ H =>
 vg (aP false uZ) (aX 1 H a4) H fun zU H =>
 qA (aP false uZ) (call (.f 8) [zU] H) H fun a130 H =>
 vg (aP false uZ) (aB (aK .neq).f a130 (iN 0)) H fun a131 H =>
 vq (fI uZ (.bool true) a131) H fun aA8 H =>
 cd aA8 (
 .ok (.bool false) H) (
 qr1 call x1 x5 a4 bQ H)
def qr0:=cst qla
theorem qk9:qr0=qla:=jM _
def zsa(x0 x1 x2:AV)(H:Hp):R1 :=
 vq (bM 1 H.nx x0) H fun a0 H =>
 vq (bM 2 H.nx x2) H fun a1 H =>
 vq (fO 2 1 a1 (iN 0)) H fun aA6 H =>
 vq (aH H aA6) H fun aA7 H =>
 vq (xX aA7) H fun aBh H =>
 vq (aB (aK .gtr).f aBh (iN 20)) H fun rF H =>
 vg (aP false rF) (fO 2 1 a1 (iN 1)) H fun a138 H =>
 vg (aP false rF) (aH H a138) H fun a139 H =>
 vg (aP false rF) (xX a139) H fun aF0 H =>
 vg (aP false rF) (aB (aK .gtr).f aF0 (iN 20)) H fun a141 H =>
 vq (fI rF (.bool true) a141) H fun aFy H =>
 cd aFy (
 ve (call (.f 5) [] H) fun a143 H =>
 .ok a143 H) (
 qr0 call x1 a0 a1 H)
def zAa(x0 x1 x2:AV)(H:Hp):R1:=zsa call x0 x1 x2 H
def qyl(call:Ev.Call)(x2 x3:AV)(H:Hp):R1 :=
 vq (aX 1 H x3) H fun a2 H =>
 ve (dX 1 H x2 a2) fun _ H =>
 eG (rV (aX 1 H x2)) H
def qn8:=cst qyl
theorem qt5:qn8=qyl:=jM _
def qrq(call:Ev.Call)(g5:AV->Hp->R1)(x8:AV)(H:Hp):R1 :=
 vq (aB (aK .add).f x8 (iN 1)) H fun a6 H =>
 g5 a6 H
def qk6:=cst qrq
theorem qof:qk6=qrq:=jM _
def qjt(call:Ev.Call)(g8:AV->Hp->R1)(x10:AV)(H:Hp):R1 :=
 vq (aB (aK .add).f x10 (iN 1)) H fun a9 H =>
 g8 a9 H
def qyn:=cst qjt
theorem qil:qyn=qjt:=jM _
def qrp(g8:AV->Hp->R1)(x9 x10 bY:AV)(H:Hp):R1 :=
 vq ((mZ .not).f bY) H fun bN H =>
 cd bN (
 vq (aL 6 x9 x10) H fun a12 H =>
 vq (aO 1 a12) H fun bR H =>
 ve (eY H bR (.aA)) fun _ H =>
 qyn call g8 x10 H) (
 qyn call g8 x10 H)
def qym:=cst qrp
theorem qoe:qym=qrp:=jM _
def qjs(call:Ev.Call)(g16:AV->AV->Hp->R1)(bY bI:AV)(H:Hp):R1 :=
 vq (aB (aK .add).f bI (iN 1)) H fun a17 H =>
 g16 bY a17 H
def zb2:=cst qjs
theorem qik:zb2=qjs:=jM _
def qro(g16:AV->AV->Hp->R1)(x9 x10 bY bI:AV)(H:Hp):R1 :=
 dz 0 H fun b19 H =>
 dn 0 0 b19 H [] [] (.val bY) fun a20 H p w =>
 dn 1 1 b19 H p w (.val a20) fun a21 H p w =>
 dq false false 2 3 (b19+2) H p w (fun _=> .val x9) (aP false a21) fun a22 H p w =>
 dq false false 3 3 (b19+3) H p w (fun _=> .val bI) (aP false a21) fun a23 H p w =>
 dq false false 4 15 (b19+4) H p w (fun _=>aL 6 a22 a23) (aP false a21) fun a24 H p w =>
 dq false false 5 31 (b19+5) H p w (fun _=>aO 2 a24) (aP false a21) fun a25 H p w =>
 dq true false 6 63 (b19+6) H p w (fun H=>aX 4 H a25) (aP false a21) fun a26 H p w =>
 dq false false 7 3 (b19+7) H p w (fun _=> .val x9) (aP false a21) fun a27 H p w =>
 dq false false 8 3 (b19+8) H p w (fun _=> .val x10) (aP false a21) fun a28 H p w =>
 dq false false 9 387 (b19+9) H p w (fun _=>aL 6 a27 a28) (aP false a21) fun a29 H p w =>
 dq false false 10 899 (b19+10) H p w (fun _=>aO 0 a29) (aP false a21) fun a30 H p w =>
 dq true false 11 1923 (b19+11) H p w (fun H=>aH H a30) (aP false a21) fun a31 H p w =>
 de 4095 H p w (call (.f 30) [a26,(.int .u8 (.ofNat 3)),a31] (bO 4095 p H)) (aP false a21) fun a32 H p w =>
 dn 13 8191 b19 H p w (fI a21 (.bool true) a32) fun a33 H p w =>
 dn 14 16383 b19 H p w (.val a33) fun a34 H p w =>
 jO p H fun H =>
 zb2 call g16 a34 bI H
def zb1:=cst qro
theorem qod:zb1=qro:=jM _
def qri(g16:AV->AV->Hp->R1)(o8:AV->Hp->R1)(x9 x10 bY bI x90:AV)(H:Hp):R1 :=
 cd x90 (
 zb1 call g16 x9 x10 bY bI H) (
 o8 bY H)
def zbx:=cst qri
theorem qn6:zbx=qri:=jM _
def qyp(o8:AV->Hp->R1)(x9 x10:AV)(g16:AV->AV->Hp->R1)(bY bI:AV)(H:Hp):R1 :=
 vq (aG x9) H fun a37 H =>
 vq (aB (aK .lss).f bI a37) H fun a38 H =>
 zbx call g16 o8 x9 x10 bY bI a38 H
def qk3(o8:AV->Hp->R1)(x9 x10:AV)(n:Nat):AV->AV->Hp->R1 :=
 Nat.rec (motive:=fun _=>AV->AV->Hp->R1) (fun _ _ _=> .bad) (fun _ ih=>qyp call o8 x9 x10 ih) n
def zb6(o8:AV->Hp->R1)(x9 x10:AV):AV->AV->Hp->R1:=qk3 call o8 x9 x10 dM
def qrh(g8:AV->Hp->R1)(x9 x10 bY:AV)(H:Hp):R1 :=
 zb6 call (fun bY H=>qym call g8 x9 x10 bY H) x9 x10 bY (iN 0) H
def zbw:=cst qrh
theorem qn5:zbw=qrh:=jM _
def qrn(g8:AV->Hp->R1)(x9 x10:AV)(H:Hp):R1 :=
 vq (aL 6 x9 x10) H fun a40 H =>
 vq (aO 2 a40) H fun a41 H =>
 vq (aX 4 H a41) H fun a42 H =>
 ve (call (.f 30) [a42,(.int .u8 (.ofNat 1)),(.str 0 0)] H) fun a43 H =>
 zbw call g8 x9 x10 a43 H
def zb0:=cst qrn
theorem qoc:zb0=qrn:=jM _
def qrg(g8:AV->Hp->R1)(yE:Hp->R1)(x9 x10 x78:AV)(H:Hp):R1 :=
 cd x78 (
 zb0 call g8 x9 x10 H) (
 yE H)
def zbv:=cst qrg
theorem qn4:zbv=qrg:=jM _
def qyq(yE:Hp->R1)(x9:AV)(g8:AV->Hp->R1)(x10:AV)(H:Hp):R1 :=
 vq (aG x9) H fun a46 H =>
 vq (aB (aK .lss).f x10 a46) H fun a47 H =>
 zbv call g8 yE x9 x10 a47 H
def qk4(yE:Hp->R1)(x9:AV)(n:Nat):AV->Hp->R1 :=
 Nat.rec (motive:=fun _=>AV->Hp->R1) (fun _ _=> .bad) (fun _ ih=>qyq call yE x9 ih) n
def zb7(yE:Hp->R1)(x9:AV):AV->Hp->R1:=qk4 call yE x9 dM
def qrf(g5:AV->Hp->R1)(x8 x9:AV)(H:Hp):R1 :=
 zb7 call (fun H=>qk6 call g5 x8 H) x9 (iN 0) H
def zbu:=cst qrf
theorem qn3:zbu=qrf:=jM _
def qrm(g5:AV->Hp->R1)(x3 x8:AV)(H:Hp):R1 :=
 vq (aO 0 x3) H fun a49 H =>
 vq (aH H a49) H fun a50 H =>
 vq (aL 2 a50 x8) H fun a51 H =>
 vq (aO 1 a51) H fun a52 H =>
 vq (aH H a52) H fun a53 H =>
 zbu call g5 x8 a53 H
def zbz:=cst qrm
theorem qob:zbz=qrm:=jM _
def qre(g5:AV->Hp->R1)(nG:Hp->R1)(x3 x8 x66:AV)(H:Hp):R1 :=
 cd x66 (
 zbz call g5 x3 x8 H) (
 nG H)
def zbt:=cst qre
theorem qn2:zbt=qre:=jM _
def qyr(nG:Hp->R1)(x3:AV)(g5:AV->Hp->R1)(x8:AV)(H:Hp):R1 :=
 vq (aO 0 x3) H fun a56 H =>
 vq (aH H a56) H fun a57 H =>
 vq (aG a57) H fun a58 H =>
 vq (aB (aK .lss).f x8 a58) H fun a59 H =>
 zbt call g5 nG x3 x8 a59 H
def qii(nG:Hp->R1)(x3:AV)(n:Nat):AV->Hp->R1 :=
 Nat.rec (motive:=fun _=>AV->Hp->R1) (fun _ _=> .bad) (fun _ ih=>qyr call nG x3 ih) n
def zb8(nG:Hp->R1)(x3:AV):AV->Hp->R1:=qii call nG x3 dM
def qrl(x2 x3:AV)(H:Hp):R1 :=
 zb8 call (fun H=>qn8 call x2 x3 H) x3 (iN 1) H
def qk5:=cst qrl
theorem qoa:qk5=qrl:=jM _
def qrk(call:Ev.Call)(yR:AV->Hp->R1)(x4:AV)(H:Hp):R1 :=
 vq (aB (aK .add).f x4 (iN 1)) H fun a62 H =>
 yR a62 H
def zby:=cst qrk
theorem qn9:zby=qrk:=jM _
def qrd(yR:AV->Hp->R1)(x1 x4 x5 x7:AV)(H:Hp):R1 :=
 dz 17 H fun yZ H =>
 dn 0 0 yZ H [] [] (.val x7) fun a65 H p w =>
 dn 1 0 yZ H p w (.val x7) fun a66 H p w =>
 dn 2 2 yZ H p w (aV a66) fun a67 H p w =>
 dn 3 6 yZ H p w (aO 1 a67) fun a68 H p w =>
 dl 4 14 yZ H p w (fun H=>aH H a68) fun a69 H p w =>
 dn 5 0 yZ H p w (.val x4) fun a70 H p w =>
 dl 7 0 yZ H p w (fun H=>aX 1 H x1) fun a71 H p w =>
 dn 8 0 yZ H p w (.val x4) fun a72 H p w =>
 dl 10 0 yZ H p w (fun H=>aX 4 H x5) fun a73 H p w =>
 de 32 H p w (call (.f 28) [a70] (bO 32 p H)) (some true) fun a74 H p w =>
 de 480 H p w (call (.f 29) [a71,a72] (bO 480 p H)) (some true) fun a75 H p w =>
 dn 11 2016 yZ H p w (dH (dD [.str 0 0,.aA,.int .u8 (.ofNat 0),.str 0 0,.str 0 0,.aA] [(0,1,a74),(1,1,a75),(2,4,a73)])) fun a76 H p w =>
 da 12 4064 yZ H p w (jL 1 (yZ+12) (dD (bB [.str 0 0,.aA,.int .u8 (.ofNat 0),.str 0 0,.str 0 0,.aA] 1) [(0,6,a76)])) fun a77 H p w =>
 de 8190 H p w (iJ 6 104 (bO 8190 p H) a69 (jY 6 (bO 8190 p H) a77)) (some true) fun a78 H p w =>
 dn 14 16383 yZ H p w (aV a65) fun a79 H p w =>
 dn 15 32767 yZ H p w (aO 1 a79) fun a80 H p w =>
 de 65535 H p w (eY (bO 65535 p H) a80 a78) (some true) fun _ H p w =>
 jO p H fun H =>
 zby call yR x4 H
def zbs:=cst qrd
theorem qn1:zbs=qrd:=jM _
def qrc(yR:AV->Hp->R1)(x1 x3 x4 x5:AV)(H:Hp):R1 :=
 vq (aO 0 x3) H fun a83 H =>
 vq (aH H a83) H fun a84 H =>
 vq (aB (aK .quo).f x4 (iN 4)) H fun a85 H =>
 vq (aB (aK .add).f (iN 1) a85) H fun a86 H =>
 vq (aL 2 a84 a86) H fun a87 H =>
 zbs call yR x1 x4 x5 a87 H
def zbr:=cst qrc
theorem qn0:zbr=qrc:=jM _
def qrj(yR:AV->Hp->R1)(x1 x3 x4:AV)(H:Hp):R1 :=
 vq (aX 1 H x1) H fun a89 H =>
 ve (call (.f 27) [a89,x4,(iN 2),(iN 1),(.bool false)] H) fun a90 H =>
 vq (bK 0 a90) H fun a91 H =>
 vq (bK 1 a90) H fun a92 H =>
 vq (.new (.ptr H.nx 0) (aD 0 [.int .u8 (.ofNat 0),.str 0 0,.str 0 0,.aA])) H fun a93 H =>
 ve (dX 4 H a93 a91) fun _ H =>
 zbr call yR x1 x3 x4 a93 H
def qij:=cst qrj
theorem qn7:qij=qrj:=jM _
def qg8(yR:AV->Hp->R1)(x1 x3 x4:AV)(H:Hp):R1 :=
 vq (aB (aK .rem).f x4 (iN 4)) H fun a96 H =>
 vq (aB (aK .eql).f a96 (iN 0)) H fun a97 H =>
 cd a97 (
 dz 10 H fun b98 H =>
 dn 0 0 b98 H [] [] (aO 0 x3) fun a99 H p w =>
 dl 1 1 b98 H p w (fun H=>aH H a99) fun rQ H p w =>
 dn 2 0 b98 H p w (.val x4) fun uV H p w =>
 dn 3 4 b98 H p w (aB (aK .quo).f uV (iN 4)) fun wP H p w =>
 de 12 H p w (call (.f 26) [wP] (bO 12 p H)) (some true) fun zH H p w =>
 dn 5 28 b98 H p w (dH (dD [.str 0 0,.aA] [(0,1,zH)])) fun wE H p w =>
 da 6 60 b98 H p w (jL 1 (b98+6) (dD (bB [.str 0 0,.aA] 1) [(0,2,wE)])) fun a105 H p w =>
 de 127 H p w (iJ 2 40 (bO 127 p H) rQ (jY 2 (bO 127 p H) a105)) (some true) fun yH H p w =>
 dn 8 255 b98 H p w (aO 0 x3) fun a107 H p w =>
 de 511 H p w (eY (bO 511 p H) a107 yH) (some true) fun _ H p w =>
 jO p H fun H =>
 qij call yR x1 x3 x4 H) (
 qij call yR x1 x3 x4 H)
def qrr:=cst qg8
theorem qgs:qrr=qg8:=jM _
def qk1(yR:AV->Hp->R1)(o7:Hp->R1)(x1 x3 x4 jP:AV)(H:Hp):R1 :=
 cd jP (
 qrr call yR x1 x3 x4 H) (
 o7 H)
def q1q:=cst qk1
theorem qk2:q1q=qk1:=jM _
def qyo(o7:Hp->R1)(x1 x3:AV)(yR:AV->Hp->R1)(x4:AV)(H:Hp):R1 :=
 vq (aX 1 H x1) H fun sG H =>
 ve (call (.f 25) [sG] H) fun yC H =>
 vq (aB (aK .lss).f x4 yC) H fun qQ H =>
 q1q call yR o7 x1 x3 x4 qQ H
def qih(o7:Hp->R1)(x1 x3:AV)(n:Nat):AV->Hp->R1 :=
 Nat.rec (motive:=fun _=>AV->Hp->R1) (fun _ _=> .bad) (fun _ ih=>qyo call o7 x1 x3 ih) n
def zb5(o7:Hp->R1)(x1 x3:AV):AV->Hp->R1:=qih call o7 x1 x3 dM
def qkz(x1 x2 x3:AV)(H:Hp):R1 :=
 zb5 call (fun H=>qk5 call x2 x3 H) x1 x3 (iN 0) H
def q1p:=cst qkz
theorem qk0:q1p=qkz:=jM _
def zr9(x0:AV)(H:Hp):R1 :=
 vq (bM 1 H.nx x0) H fun a0 H =>
 vq (.new (.ptr H.nx 0) (aD 0 [.aA])) H fun a1 H =>
 vq (dH (dD [.str 0 0,.aA] [(0,1,(.str 4 1919251317))])) H fun aBq H =>
 vq (jL 1 H.nx (dD (bB [.str 0 0,.aA] 1) [(0,2,aBq)])) H fun a116 H =>
 vq (dH (dD [.aA] [(0,1,a116)])) H fun a117 H =>
 vq (.new (.ptr H.nx 0) (aD 0 [.aA])) H fun pZ H =>
 ve (dX 1 H pZ a117) fun _ H =>
 q1p call a0 a1 pZ H
def zAc(x0:AV)(H:Hp):R1:=zr9 call x0 H
def qyj(call:Ev.Call)(x2 x7:AV)(H:Hp):R1 :=
 vq (aX 1 H x7) H fun a17 H =>
 ve (dX 1 H x2 a17) fun _ H =>
 eG (jC (iY (rV (aX 1 H x2)) (iY (some (iN 0)) (some [])))) H
def zbp(call:Ev.Call)(g23:AV->Hp->R1)(x34:AV)(H:Hp):R1 :=
 vq (aB (aK .add).f x34 (iN 1)) H fun a25 H =>
 g23 a25 H
def zbo(g23:AV->Hp->R1)(x1 x6 x7 x34:AV)(H:Hp):R1 :=
 dz 0 H fun jU H =>
 dn 0 0 jU H [] [] (aO 0 x7) fun a28 H p w =>
 dl 1 1 jU H p w (fun H=>aH H a28) fun a29 H p w =>
 dn 2 0 jU H p w (.val x34) fun a30 H p w =>
 dn 3 0 jU H p w (aO 0 x7) fun a31 H p w =>
 dl 4 8 jU H p w (fun H=>aH H a31) fun a32 H p w =>
 dn 5 0 jU H p w (.val x34) fun a33 H p w =>
 dl 6 0 jU H p w (fun H=>aX 1 H x1) fun a34 H p w =>
 dn 7 0 jU H p w (.val x34) fun a35 H p w =>
 de 192 H p w (call (.f 31) [a34,a35] (bO 192 p H)) (some true) fun a36 H p w =>
 dn 9 448 jU H p w (.val a36) fun a37 H p w =>
 dn 10 960 jU H p w (bK 0 a37) fun a38 H p w =>
 dn 11 960 jU H p w (bK 1 a37) fun a39 H p w =>
 dn 12 960 jU H p w (bK 2 a37) fun a40 H p w =>
 dn 13 1991 jU H p w (aL 3 a29 a30) fun a41 H p w =>
 dn 14 10183 jU H p w (aO 0 a41) fun a42 H p w =>
 de 26567 H p w (eY (bO 26567 p H) a42 a38) (some true) fun _ H p w =>
 dn 16 61439 jU H p w (aL 3 a32 a33) fun a44 H p w =>
 dn 17 126975 jU H p w (aO 1 a44) fun a45 H p w =>
 de 258047 H p w (eY (bO 258047 p H) a45 a39) (some true) fun _ H p w =>
 jO p H fun H =>
 dz 0 H fun b47 H =>
 dn 0 0 b47 H [] [] (aO 0 x7) fun a48 H p w =>
 dl 1 1 b47 H p w (fun H=>aH H a48) fun a49 H p w =>
 dn 2 0 b47 H p w (.val x34) fun a50 H p w =>
 dn 3 7 b47 H p w (aL 3 a49 a50) fun a51 H p w =>
 dn 4 0 b47 H p w (.val x6) fun a52 H p w =>
 dn 5 0 b47 H p w (.val x34) fun a53 H p w =>
 dn 6 48 b47 H p w (aL 1 a52 a53) fun a54 H p w =>
 dl 7 112 b47 H p w (fun H=>aH H a54) fun a55 H p w =>
 de 255 H p w (call (.f 32) [a51,a55] (bO 255 p H)) (some true) fun a56 H p w =>
 jO p H fun H =>
 zbp call g23 x34 H
def qyk(vF:Hp->R1)(x1 x6 x7 vQ:AV)(g23:AV->Hp->R1)(x34:AV)(H:Hp):R1 :=
 vq (aB (aK .lss).f x34 vQ) H fun a24 H =>
 cd a24 (
 zbo call g23 x1 x6 x7 x34 H) (
 vF H)
def qrb(vF:Hp->R1)(x1 x6 x7 vQ:AV)(n:Nat):AV->Hp->R1 :=
 Nat.rec (motive:=fun _=>AV->Hp->R1) (fun _ _=> .bad) (fun _ ih=>qyk call vF x1 x6 x7 vQ ih) n
def zbq(vF:Hp->R1)(x1 x6 x7 vQ:AV):AV->Hp->R1:=qrb call vF x1 x6 x7 vQ dM
def zbn(x1 x2 x6:AV)(H:Hp):R1 :=
 vq (aG x6) H fun a12 H =>
 vq (qe7 [.str 0 0,.str 0 0,iN 0] 40 H.nx a12 a12) H fun bR H =>
 vq (dH (dD [.aA] [(0,1,bR)])) H fun cB H =>
 vq (.new (.ptr H.nx 0) (aD 0 [.aA])) H fun bV H =>
 ve (dX 1 H bV cB) fun _ H =>
 vq (aO 0 bV) H fun a20 H =>
 vq (aH H a20) H fun a21 H =>
 vq (aG a21) H fun a22 H =>
 zbq call (fun H=>qyj call x2 bV H) x1 x6 bV a22 (iN 0) H
def zbm(x1 x2 x4:AV)(H:Hp):R1 :=
 vq (aX 2 H x4) H fun a8 H =>
 ve (call (.f 23) [a8] H) fun a9 H =>
 vq (bK 0 a9) H fun bQ H =>
 vq (bK 1 a9) H fun bN H =>
 vq (aB (aK .neq).f bN (iN 0)) H fun a59 H =>
 cd a59 (
 vq (dH (dD [.aA] [])) H fun a60 H =>
 ve (dX 1 H x2 a60) fun _ H =>
 eG (jC (iY (rV (aX 1 H x2)) (iY (some bN) (some [])))) H) (
 zbn call x1 x2 bQ H)
def zr8(x0:AV)(H:Hp):R1 :=
 vq (bM 1 H.nx x0) H fun a0 H =>
 vq (.new (.ptr H.nx 0) (aD 0 [.aA])) H fun a1 H =>
 vq (aX 1 H a0) H fun a2 H =>
 ve (call (.f 18) [a2] H) fun a3 H =>
 vq (bK 0 a3) H fun a4 H =>
 vq (bK 1 a3) H fun a5 H =>
 vq (.new (.ptr H.nx 0) (aD 0 [iN 0,.aA])) H fun a6 H =>
 ve (dX 2 H a6 a4) fun _ H =>
 vq (aB (aK .neq).f a5 (iN 0)) H fun a63 H =>
 cd a63 (
 vq (dH (dD [.aA] [])) H fun a64 H =>
 ve (dX 1 H a1 a64) fun _ H =>
 eG (jC (iY (rV (aX 1 H a1)) (iY (some a5) (some [])))) H) (
 zbm call a0 a1 a6 H)
def zAd(x0:AV)(H:Hp):R1:=zr8 call x0 H
def zo9(call:Ev.Call)(x4:AV)(H:Hp):R1 :=
 .ok x4 H
def zr7(x0:AV)(H:Hp):R1 :=
 vq (bM 1 H.nx x0) H fun a0 H =>
 vq (aX 1 H a0) H fun a1 H =>
 ve (call (.f 18) [a1] H) fun a2 H =>
 vq (bK 0 a2) H fun a3 H =>
 vq (bK 1 a2) H fun a4 H =>
 vq (.new (.ptr H.nx 0) (aD 0 [iN 0,.aA])) H fun a5 H =>
 ve (dX 2 H a5 a3) fun _ H =>
 vq (aB (aK .eql).f a4 (iN 0)) H fun a8 H =>
 cd a8 (
 vq (aX 2 H a5) H fun a9 H =>
 ve (call (.f 23) [a9] H) fun bQ H =>
 vq (bK 0 bQ) H fun bN H =>
 vq (bK 1 bQ) H fun a12 H =>
 zo9 call a12 H) (
 zo9 call a4 H)
def zAe(x0:AV)(H:Hp):R1:=zr7 call x0 H
def qq9(call:Ev.Call)(x2 x4:AV)(H:Hp):R1 :=
 vq (aX 2 H x4) H fun a8 H =>
 ve (dX 2 H x2 a8) fun _ H =>
 eG (rV (aX 2 H x2)) H
def qyf(call:Ev.Call)(g11:AV->Hp->R1)(x5:AV)(H:Hp):R1 :=
 vq (aB (aK .add).f x5 (iN 1)) H fun a12 H =>
 g11 a12 H
def qgr(call:Ev.Call)(xG:AV->Hp->R1)(x9:AV)(H:Hp):R1 :=
 vq (aB (aK .add).f x9 (iN 1)) H fun a37 H =>
 xG a37 H
def qq8(call:Ev.Call)(g43:AV->Hp->R1)(x10:AV)(H:Hp):R1 :=
 vq (aB (aK .add).f x10 (iN 1)) H fun a44 H =>
 g43 a44 H
def zbi(g43:AV->Hp->R1)(x1 x4 x5 x6 x8 x9 x10:AV)(H:Hp):R1 :=
 vq (aO 1 x6) H fun a46 H =>
 vq (aH H a46) H fun a47 H =>
 vq (aL 2 a47 x10) H fun a48 H =>
 vq (aO 1 a48) H fun a49 H =>
 vq (aH H a49) H fun a50 H =>
 vq (gY (oI .neq).f a50 (.str 0 0)) H fun a51 H =>
 cd a51 (
 dz 0 H fun qU H =>
 dl 0 0 qU H [] [] (fun H=>aX 2 H x4) fun a53 H p w =>
 dn 1 0 qU H p w (.val x5) fun a54 H p w =>
 dl 2 0 qU H p w (fun H=>aX 1 H x1) fun a55 H p w =>
 dn 3 0 qU H p w (aO 1 x6) fun a56 H p w =>
 dl 4 8 qU H p w (fun H=>aH H a56) fun a57 H p w =>
 dn 5 0 qU H p w (.val x10) fun a58 H p w =>
 dn 6 56 qU H p w (aL 2 a57 a58) fun a59 H p w =>
 dn 7 120 qU H p w (aO 0 a59) fun a60 H p w =>
 dl 8 248 qU H p w (fun H=>aH H a60) fun a61 H p w =>
 dn 9 0 qU H p w (aO 1 x6) fun a62 H p w =>
 dl 10 512 qU H p w (fun H=>aH H a62) fun a63 H p w =>
 dn 11 0 qU H p w (.val x10) fun a64 H p w =>
 dn 12 3584 qU H p w (aL 2 a63 a64) fun a65 H p w =>
 dn 13 7680 qU H p w (aO 1 a65) fun a66 H p w =>
 dl 14 15872 qU H p w (fun H=>aH H a66) fun a67 H p w =>
 dn 16 0 qU H p w (.val x8) fun a68 H p w =>
 dn 17 0 qU H p w (.val x9) fun a69 H p w =>
 dn 18 196608 qU H p w (aL 5 a68 a69) fun a70 H p w =>
 dn 19 458752 qU H p w (aO 4 a70) fun a71 H p w =>
 dl 20 983040 qU H p w (fun H=>aH H a71) fun a72 H p w =>
 de 32764 H p w (call (.f 16) [a55,a61,a67] (bO 32764 p H)) (some true) fun a73 H p w =>
 de 2097151 H p w (call (.f 36) [a53,a54,a73,a72] (bO 2097151 p H)) (some true) fun a74 H p w =>
 jO p H fun H =>
 qq8 call g43 x10 H) (
 qq8 call g43 x10 H)
def qyg(vH:Hp->R1)(x1 x4 x5 x6 x8 x9:AV)(g43:AV->Hp->R1)(x10:AV)(H:Hp):R1 :=
 vq (aO 1 x6) H fun a76 H =>
 vq (aH H a76) H fun a77 H =>
 vq (aG a77) H fun a78 H =>
 vq (aB (aK .lss).f x10 a78) H fun a79 H =>
 cd a79 (
 zbi call g43 x1 x4 x5 x6 x8 x9 x10 H) (
 vH H)
def qq7(vH:Hp->R1)(x1 x4 x5 x6 x8 x9:AV)(n:Nat):AV->Hp->R1 :=
 Nat.rec (motive:=fun _=>AV->Hp->R1) (fun _ _=> .bad) (fun _ ih=>qyg call vH x1 x4 x5 x6 x8 x9 ih) n
def zbj(vH:Hp->R1)(x1 x4 x5 x6 x8 x9:AV):AV->Hp->R1:=qq7 call vH x1 x4 x5 x6 x8 x9 dM
def q1n(call:Ev.Call)(aBm:AV->Hp->R1)(bI:AV)(H:Hp):R1 :=
 vq (aB (aK .add).f bI (iN 1)) H fun aEY H =>
 aBm aEY H
def q1m(aBm:AV->Hp->R1)(x1 x4 x5 x8 x9 bY bI:AV)(H:Hp):R1 :=
 dz 0 H fun kJ H =>
 dl 0 0 kJ H [] [] (fun H=>aX 2 H x4) fun aF2 H p w =>
 dn 1 0 kJ H p w (.val x5) fun a127 H p w =>
 dl 2 0 kJ H p w (fun H=>aX 1 H x1) fun uZ H p w =>
 dn 3 0 kJ H p w (.val bY) fun zU H p w =>
 dn 4 0 kJ H p w (.val bI) fun a130 H p w =>
 dn 5 24 kJ H p w (aL 1 zU a130) fun a131 H p w =>
 dl 6 56 kJ H p w (fun H=>aH H a131) fun aA8 H p w =>
 dn 7 0 kJ H p w (.val x8) fun aE9 H p w =>
 dn 8 0 kJ H p w (.val x9) fun aA6 H p w =>
 dn 9 384 kJ H p w (aL 5 aE9 aA6) fun aA7 H p w =>
 dn 10 896 kJ H p w (aO 2 aA7) fun aBh H p w =>
 dl 11 1920 kJ H p w (fun H=>aH H aBh) fun rF H p w =>
 dn 13 0 kJ H p w (.val x8) fun a138 H p w =>
 dn 14 0 kJ H p w (.val x9) fun a139 H p w =>
 dn 15 24576 kJ H p w (aL 5 a138 a139) fun aF0 H p w =>
 dn 16 57344 kJ H p w (aO 4 aF0) fun a141 H p w =>
 dl 17 122880 kJ H p w (fun H=>aH H a141) fun aFy H p w =>
 de 4092 H p w (call (.f 16) [uZ,aA8,rF] (bO 4092 p H)) (some true) fun a143 H p w =>
 de 262143 H p w (call (.f 36) [aF2,a127,a143,aFy] (bO 262143 p H)) (some true) fun aEU H p w =>
 jO p H fun H =>
 q1n call aBm bI H
def qra(oO:Hp->R1)(x1 x4 x5 x8 x9 bY:AV)(aBm:AV->Hp->R1)(bI:AV)(H:Hp):R1 :=
 vq (aG bY) H fun a146 H =>
 vq (aB (aK .lss).f bI a146) H fun aR9 H =>
 cd aR9 (
 q1m call aBm x1 x4 x5 x8 x9 bY bI H) (
 oO H)
def qjr(oO:Hp->R1)(x1 x4 x5 x8 x9 bY:AV)(n:Nat):AV->Hp->R1 :=
 Nat.rec (motive:=fun _=>AV->Hp->R1) (fun _ _=> .bad) (fun _ ih=>qra call oO x1 x4 x5 x8 x9 bY ih) n
def q1o(oO:Hp->R1)(x1 x4 x5 x8 x9 bY:AV):AV->Hp->R1:=qjr call oO x1 x4 x5 x8 x9 bY dM
def q1l(xG:AV->Hp->R1)(x1 x3 x4 x5 x6 x8 x9:AV)(H:Hp):R1 :=
 vq (aL 5 x8 x9) H fun a39 H =>
 vq (aO 0 a39) H fun a40 H =>
 vq (aH H a40) H fun a41 H =>
 vq (aB (aK .eql).f a41 (.int .u8 (.ofNat 1))) H fun a42 H =>
 cd a42 (
 zbj call (fun H=>qgr call xG x9 H) x1 x4 x5 x6 x8 x9 (iN 0) H) (
 vq (aB (aK .eql).f a41 (.int .u8 (.ofNat 2))) H fun a80 H =>
 cd a80 (
 dz 0 H fun sV H =>
 dl 0 0 sV H [] [] (fun H=>aX 2 H x4) fun a82 H p w =>
 dn 1 0 sV H p w (.val x5) fun a83 H p w =>
 dl 2 0 sV H p w (fun H=>aX 1 H x1) fun a84 H p w =>
 dn 3 0 sV H p w (.val x3) fun a85 H p w =>
 dn 4 0 sV H p w (.val x5) fun a86 H p w =>
 dn 5 24 sV H p w (aL 2 a85 a86) fun a87 H p w =>
 dn 6 56 sV H p w (aO 0 a87) fun a88 H p w =>
 dl 7 120 sV H p w (fun H=>aH H a88) fun a89 H p w =>
 dn 8 0 sV H p w (.val x8) fun a90 H p w =>
 dn 9 0 sV H p w (.val x9) fun a91 H p w =>
 dn 10 768 sV H p w (aL 5 a90 a91) fun a92 H p w =>
 dn 11 1792 sV H p w (aO 1 a92) fun a93 H p w =>
 dl 12 3840 sV H p w (fun H=>aH H a93) fun a94 H p w =>
 dn 14 0 sV H p w (.val x8) fun a95 H p w =>
 dn 15 0 sV H p w (.val x9) fun a96 H p w =>
 dn 16 49152 sV H p w (aL 5 a95 a96) fun a97 H p w =>
 dn 17 114688 sV H p w (aO 4 a97) fun a98 H p w =>
 dl 18 245760 sV H p w (fun H=>aH H a98) fun a99 H p w =>
 de 8188 H p w (call (.f 16) [a84,a89,a94] (bO 8188 p H)) (some true) fun rQ H p w =>
 de 524287 H p w (call (.f 36) [a82,a83,rQ,a99] (bO 524287 p H)) (some true) fun uV H p w =>
 jO p H fun H =>
 qgr call xG x9 H) (
 vq (aB (aK .eql).f a41 (.int .u8 (.ofNat 3))) H fun wP H =>
 cd wP (
 dz 0 H fun kK H =>
 dl 0 0 kK H [] [] (fun H=>aX 1 H x1) fun wE H p w =>
 dn 1 0 kK H p w (.val x3) fun a105 H p w =>
 dn 2 0 kK H p w (.val x5) fun yH H p w =>
 dn 3 6 kK H p w (aL 2 a105 yH) fun a107 H p w =>
 dn 4 14 kK H p w (aO 0 a107) fun aAR H p w =>
 dl 5 30 kK H p w (fun H=>aH H aAR) fun a109 H p w =>
 dn 6 0 kK H p w (.val x8) fun rO H p w =>
 dn 7 0 kK H p w (.val x9) fun sG H p w =>
 dn 8 192 kK H p w (aL 5 rO sG) fun yC H p w =>
 dn 9 448 kK H p w (aO 1 yC) fun qQ H p w =>
 dl 10 960 kK H p w (fun H=>aH H qQ) fun xH H p w =>
 dn 11 0 kK H p w (.val x8) fun aBq H p w =>
 dn 12 0 kK H p w (.val x9) fun a116 H p w =>
 dn 13 6144 kK H p w (aL 5 aBq a116) fun a117 H p w =>
 dn 14 14336 kK H p w (aO 2 a117) fun pZ H p w =>
 dl 15 30720 kK H p w (fun H=>aH H pZ) fun a119 H p w =>
 de 65535 H p w (call (.f 37) [wE,a109,xH,a119] (bO 65535 p H)) (some true) fun xB H p w =>
 dn 17 131071 kK H p w (.val xB) fun aAi H p w =>
 jO p H fun H =>
 q1o call (fun H=>qgr call xG x9 H) x1 x4 x5 x8 x9 aAi (iN 0) H) (
 qgr call xG x9 H)))
def qyh(uW:Hp->R1)(x1 x3 x4 x5 x6 x8:AV)(xG:AV->Hp->R1)(x9:AV)(H:Hp):R1 :=
 vq (aG x8) H fun aRx H =>
 vq (aB (aK .lss).f x9 aRx) H fun aU2 H =>
 cd aU2 (
 q1l call xG x1 x3 x4 x5 x6 x8 x9 H) (
 uW H)
def qig(uW:Hp->R1)(x1 x3 x4 x5 x6 x8:AV)(n:Nat):AV->Hp->R1 :=
 Nat.rec (motive:=fun _=>AV->Hp->R1) (fun _ _=> .bad) (fun _ ih=>qyh call uW x1 x3 x4 x5 x6 x8 ih) n
def zbk(uW:Hp->R1)(x1 x3 x4 x5 x6 x8:AV):AV->Hp->R1:=qig call uW x1 x3 x4 x5 x6 x8 dM
def q1k(g11:AV->Hp->R1)(x1 x3 x4 x5:AV)(H:Hp):R1 :=
 dz 18 H fun b14 H =>
 dl 0 0 b14 H [] [] (fun H=>aX 1 H x1) fun bV H p w =>
 dn 1 0 b14 H p w (.val x3) fun a16 H p w =>
 dn 2 0 b14 H p w (.val x5) fun a17 H p w =>
 dn 3 6 b14 H p w (aL 2 a16 a17) fun cZ H p w =>
 dn 4 14 b14 H p w (aO 0 cZ) fun dJ H p w =>
 dl 5 30 b14 H p w (fun H=>aH H dJ) fun a20 H p w =>
 dn 6 0 b14 H p w (.val x3) fun a21 H p w =>
 dn 7 0 b14 H p w (.val x5) fun a22 H p w =>
 dn 8 192 b14 H p w (aL 2 a21 a22) fun a23 H p w =>
 dn 9 448 b14 H p w (aO 1 a23) fun a24 H p w =>
 dl 10 960 b14 H p w (fun H=>aH H a24) fun a25 H p w =>
 da 15 0 b14 H p w (.new (.ptr (b14+15) 0) (aD 0 [.str 0 0,.aA,.int .u8 (.ofNat 0),.str 0 0,.str 0 0,.aA])) fun a26 H p w =>
 de 2047 H p w (call (.f 34) [bV,a20,a25] (bO 2047 p H)) (some true) fun a27 H p w =>
 dn 12 4095 b14 H p w (.val a27) fun a28 H p w =>
 dn 13 8191 b14 H p w (bK 0 a28) fun a29 H p w =>
 dn 14 8191 b14 H p w (bK 1 a28) fun a30 H p w =>
 de 49151 H p w (dX 6 (bO 49151 p H) a26 a29) (some true) fun _ H p w =>
 dn 17 131071 b14 H p w (.val a30) fun a32 H p w =>
 jO p H fun H =>
 vq (aO 2 a26) H fun a33 H =>
 vq (aX 4 H a33) H fun a34 H =>
 ve (call (.f 35) [(.aA),a34,(.bool false)] H) fun a35 H =>
 zbk call (fun H=>qyf call g11 x5 H) x1 x3 x4 x5 a26 a35 (iN 0) H
def qyi(kW:Hp->R1)(x1 x3 x4:AV)(g11:AV->Hp->R1)(x5:AV)(H:Hp):R1 :=
 vq (aG x3) H fun a152 H =>
 vq (aB (aK .lss).f x5 a152) H fun aXj H =>
 cd aXj (
 q1k call g11 x1 x3 x4 x5 H) (
 kW H)
def qky(kW:Hp->R1)(x1 x3 x4:AV)(n:Nat):AV->Hp->R1 :=
 Nat.rec (motive:=fun _=>AV->Hp->R1) (fun _ _=> .bad) (fun _ ih=>qyi call kW x1 x3 x4 ih) n
def zbl(kW:Hp->R1)(x1 x3 x4:AV):AV->Hp->R1:=qky call kW x1 x3 x4 dM
def zr6(x0:AV)(H:Hp):R1 :=
 vq (bM 1 H.nx x0) H fun a0 H =>
 vq (.new (.ptr H.nx 0) (aD 0 [iN 0,.aA])) H fun a1 H =>
 vq (aX 1 H a0) H fun a2 H =>
 ve (call (.f 11) [a2] H) fun a3 H =>
 vq (aG a3) H fun a4 H =>
 ve (call (.f 33) [a4] H) fun a5 H =>
 vq (.new (.ptr H.nx 0) (aD 0 [iN 0,.aA])) H fun a6 H =>
 ve (dX 2 H a6 a5) fun _ H =>
 zbl call (fun H=>qq9 call a1 a6 H) a0 a3 a6 (iN 0) H
def zAf(x0:AV)(H:Hp):R1:=zr6 call x0 H
def qt3(call:Ev.Call)(x4:AV)(H:Hp):R1 :=
 .ok (.aZ [x4,(.bool true)]) H
def zbb(call:Ev.Call)(g6:AV->AV->Hp->R1)(x5 x6:AV)(H:Hp):R1 :=
 vq (aB (aK .add).f x6 (iN 1)) H fun a7 H =>
 g6 x5 a7 H
def zbf(call:Ev.Call)(g9:AV->AV->Hp->R1)(x5 x7:AV)(H:Hp):R1 :=
 vq (aB (aK .add).f x7 (iN 1)) H fun bQ H =>
 g9 x5 bQ H
def qkx(vP:AV->AV->Hp->R1)(g9:AV->AV->Hp->R1)(x1 x4 x5 x6 x7:AV)(H:Hp):R1 :=
 vl (aL 1 x4 x6) fun a12 =>
 vl (aH H a12) fun bR =>
 vl (aO 0 x1) fun cB =>
 vl (aH H cB) fun bV =>
 vl (aB (aK .gtr).f bR bV) fun a16 =>
 cd a16 (
 vP (.aA) (.bool false) H) (
 zbf call g9 x5 x7 H)
def qkw(vP:AV->AV->Hp->R1)(g9:AV->AV->Hp->R1)(x1 x4 x5 x6 x7 x8:AV)(H:Hp):R1 :=
 vq (aL 1 x4 x6) H fun cZ H =>
 vq (aH H cZ) H fun dJ H =>
 vq (aB (aK .lss).f dJ x8) H fun a20 H =>
 cd a20 (
 vq (aL 1 x4 x6) H fun a21 H =>
 ve (eY H a21 x8) fun _ H =>
 qkx call vP g9 x1 x4 (.bool true) x6 x7 H) (
 qkx call vP g9 x1 x4 x5 x6 x7 H)
def qkv(vP:AV->AV->Hp->R1)(g9:AV->AV->Hp->R1)(x1 x4 x5 x6 x7 x8:AV)(H:Hp):R1 :=
 vq (aO 1 x1) H fun a24 H =>
 vq (aH H a24) H fun a25 H =>
 vq (aO 0 x1) H fun a26 H =>
 vq (aH H a26) H fun a27 H =>
 vq (aB (aK .mul).f x6 a27) H fun a28 H =>
 vq (aB (aK .add).f a28 x7) H fun a29 H =>
 vq (aL 1 a25 a29) H fun a30 H =>
 vq (aH H a30) H fun a31 H =>
 vq (aB (aK .gtr).f a31 (iN 1)) H fun a32 H =>
 cd a32 (
 vq (aL 1 x4 x7) H fun a33 H =>
 vq (aH H a33) H fun a34 H =>
 vq (aB (aK .add).f a34 (iN 1)) H fun a35 H =>
 qkw call vP g9 x1 x4 x5 x6 x7 a35 H) (
 qkw call vP g9 x1 x4 x5 x6 x7 x8 H)
def zbe(vP:AV->AV->Hp->R1)(g9:AV->AV->Hp->R1)(x1 x4 x5 x6 x7:AV)(H:Hp):R1 :=
 vq (aO 1 x1) H fun a37 H =>
 vq (aH H a37) H fun a38 H =>
 vq (aO 0 x1) H fun a39 H =>
 vq (aH H a39) H fun a40 H =>
 vq (aB (aK .mul).f x6 a40) H fun a41 H =>
 vq (aB (aK .add).f a41 x7) H fun a42 H =>
 vq (aL 1 a38 a42) H fun a43 H =>
 vq (aH H a43) H fun a44 H =>
 vq (aB (aK .eql).f a44 (iN 1)) H fun a45 H =>
 cd a45 (
 vq (aL 1 x4 x7) H fun a46 H =>
 vq (aH H a46) H fun a47 H =>
 qkv call vP g9 x1 x4 x5 x6 x7 a47 H) (
 qkv call vP g9 x1 x4 x5 x6 x7 (.int .i64 (.negSucc 0)) H)
def zbg(vP:AV->AV->Hp->R1)(aBw:AV->Hp->R1)(x1 x4 x6:AV)(g9:AV->AV->Hp->R1)(x5 x7:AV)(H:Hp):R1 :=
 vq (aO 0 x1) H fun a49 H =>
 vq (aH H a49) H fun a50 H =>
 vq (aB (aK .lss).f x7 a50) H fun a51 H =>
 cd a51 (
 zbe call vP g9 x1 x4 x5 x6 x7 H) (
 aBw x5 H)
def qnz(vP:AV->AV->Hp->R1)(aBw:AV->Hp->R1)(x1 x4 x6:AV)(n:Nat):AV->AV->Hp->R1 :=
 Nat.rec (motive:=fun _=>AV->AV->Hp->R1) (fun _ _ _=> .bad) (fun _ ih=>zbg call vP aBw x1 x4 x6 ih) n
def zo4(vP:AV->AV->Hp->R1)(aBw:AV->Hp->R1)(x1 x4 x6:AV):AV->AV->Hp->R1:=qnz call vP aBw x1 x4 x6 dM
def zbd(q6r:AV->AV->Hp->R1)(g6:AV->AV->Hp->R1)(x1 x4 x5 x6:AV)(H:Hp):R1 :=
 zo4 call (fun x2 x3 H=>q6r x2 x3 H) (fun x5 H=>zbb call g6 x5 x6 H) x1 x4 x6 x5 (iN 0) H
def zbh(q6r:AV->AV->Hp->R1)(aBC:AV->Hp->R1)(x1 x4:AV)(g6:AV->AV->Hp->R1)(x5 x6:AV)(H:Hp):R1 :=
 vq (aO 0 x1) H fun a53 H =>
 vq (aH H a53) H fun a54 H =>
 vq (aB (aK .lss).f x6 a54) H fun a55 H =>
 cd a55 (
 zbd call q6r g6 x1 x4 x5 x6 H) (
 aBC x5 H)
def qt2(q6r:AV->AV->Hp->R1)(aBC:AV->Hp->R1)(x1 x4:AV)(n:Nat):AV->AV->Hp->R1 :=
 Nat.rec (motive:=fun _=>AV->AV->Hp->R1) (fun _ _ _=> .bad) (fun _ ih=>zbh call q6r aBC x1 x4 ih) n
def zo5(q6r:AV->AV->Hp->R1)(aBC:AV->Hp->R1)(x1 x4:AV):AV->AV->Hp->R1:=qt2 call q6r aBC x1 x4 dM
def zbc(gW:AV->AV->Hp->R1)(g5:AV->Hp->R1)(x1 x4:AV)(H:Hp):R1 :=
 zo5 call (fun x2 x3 H=>gW x2 x3 H) (fun x5 H=>g5 x5 H) x1 x4 (.bool false) (iN 0) H
def qt4(gW:AV->AV->Hp->R1)(dU:Hp->R1)(x1 x4:AV)(g5:AV->Hp->R1)(x5:AV)(H:Hp):R1 :=
 cd x5 (
 zbc call gW g5 x1 x4 H) (
 dU H)
def qku(gW:AV->AV->Hp->R1)(dU:Hp->R1)(x1 x4:AV)(n:Nat):AV->Hp->R1 :=
 Nat.rec (motive:=fun _=>AV->Hp->R1) (fun _ _=> .bad) (fun _ ih=>qt4 call gW dU x1 x4 ih) n
def zo6(gW:AV->AV->Hp->R1)(dU:Hp->R1)(x1 x4:AV):AV->Hp->R1:=qku call gW dU x1 x4 dM
def zr5(x0:AV)(H:Hp):R1 :=
 vq (bM 2 H.nx x0) H fun a0 H =>
 vq (aO 0 a0) H fun a1 H =>
 vq (aH H a1) H fun a2 H =>
 vq (qe7 [iN 0] 8 H.nx a2 a2) H fun a3 H =>
 zo6 call (fun x2 x3 H=> .ok (.aZ [x2,x3]) H) (fun H=>qt3 call a3 H) a0 a3 (.bool true) H
def zAg(x0:AV)(H:Hp):R1:=zr5 call x0 H
def za8(call:Ev.Call)(x3:AV)(H:Hp):R1 :=
 .ok x3 H
def za5(call:Ev.Call)(g2:AV->AV->Hp->R1)(x3 x4:AV)(H:Hp):R1 :=
 vq (aB (aK .add).f x4 (iN 1)) H fun a3 H =>
 g2 x3 a3 H
def zo1(call:Ev.Call)(g5:AV->AV->Hp->R1)(x3 x5:AV)(H:Hp):R1 :=
 vq (aB (aK .add).f x5 (iN 1)) H fun a6 H =>
 g5 x3 a6 H
def za7(g5:AV->AV->Hp->R1)(x1 x3 x4 x5:AV)(H:Hp):R1 :=
 dz 21 H fun b8 H =>
 dn 0 0 b8 H [] [] (.val x3) fun a9 H p w =>
 dn 1 0 b8 H p w (aO 0 x1) fun bQ H p w =>
 dl 2 2 b8 H p w (fun H=>aH H bQ) fun bN H p w =>
 dn 3 0 b8 H p w (.val x4) fun a12 H p w =>
 dn 4 14 b8 H p w (aL 2 bN a12) fun bR H p w =>
 dn 5 30 b8 H p w (aO 0 bR) fun cB H p w =>
 dl 6 62 b8 H p w (fun H=>aH H cB) fun bV H p w =>
 dn 7 0 b8 H p w (aO 0 x1) fun a16 H p w =>
 dl 8 128 b8 H p w (fun H=>aH H a16) fun a17 H p w =>
 dn 9 0 b8 H p w (.val x4) fun cZ H p w =>
 dn 10 896 b8 H p w (aL 2 a17 cZ) fun dJ H p w =>
 dn 11 1920 b8 H p w (aO 1 dJ) fun a20 H p w =>
 dl 12 3968 b8 H p w (fun H=>aH H a20) fun a21 H p w =>
 dn 13 0 b8 H p w (.val x5) fun a22 H p w =>
 dn 14 16256 b8 H p w (aL 6 a21 a22) fun a23 H p w =>
 dn 15 32640 b8 H p w (aO 0 a23) fun a24 H p w =>
 dl 16 65408 b8 H p w (fun H=>aH H a24) fun a25 H p w =>
 dn 17 131070 b8 H p w (dH (dD [.str 0 0,.str 0 0] [(0,1,bV),(1,1,a25)])) fun a26 H p w =>
 da 18 262142 b8 H p w (jL 1 (b8+18) (dD (bB [.str 0 0,.str 0 0] 1) [(0,2,a26)])) fun a27 H p w =>
 de 524287 H p w (iJ 2 32 (bO 524287 p H) a9 (jY 2 (bO 524287 p H) a27)) (some true) fun a28 H p w =>
 dn 20 1048575 b8 H p w (.val a28) fun a29 H p w =>
 jO p H fun H =>
 zo1 call g5 a29 x5 H
def za9(nG:AV->Hp->R1)(x1 x4:AV)(g5:AV->AV->Hp->R1)(x3 x5:AV)(H:Hp):R1 :=
 vq (aO 0 x1) H fun a31 H =>
 vq (aH H a31) H fun a32 H =>
 vq (aL 2 a32 x4) H fun a33 H =>
 vq (aO 1 a33) H fun a34 H =>
 vq (aH H a34) H fun a35 H =>
 vq (aG a35) H fun a36 H =>
 vq (aB (aK .lss).f x5 a36) H fun a37 H =>
 cd a37 (
 za7 call g5 x1 x3 x4 x5 H) (
 nG x3 H)
def q1j(nG:AV->Hp->R1)(x1 x4:AV)(n:Nat):AV->AV->Hp->R1 :=
 Nat.rec (motive:=fun _=>AV->AV->Hp->R1) (fun _ _ _=> .bad) (fun _ ih=>za9 call nG x1 x4 ih) n
def zo2(nG:AV->Hp->R1)(x1 x4:AV):AV->AV->Hp->R1:=q1j call nG x1 x4 dM
def za6(g2:AV->AV->Hp->R1)(x1 x3 x4:AV)(H:Hp):R1 :=
 zo2 call (fun x3 H=>za5 call g2 x3 x4 H) x1 x4 x3 (iN 0) H
def zba(bL:AV->Hp->R1)(x1:AV)(g2:AV->AV->Hp->R1)(x3 x4:AV)(H:Hp):R1 :=
 vq (aO 0 x1) H fun a39 H =>
 vq (aH H a39) H fun a40 H =>
 vq (aG a40) H fun a41 H =>
 vq (aB (aK .lss).f x4 a41) H fun a42 H =>
 cd a42 (
 za6 call g2 x1 x3 x4 H) (
 bL x3 H)
def qt1(bL:AV->Hp->R1)(x1:AV)(n:Nat):AV->AV->Hp->R1 :=
 Nat.rec (motive:=fun _=>AV->AV->Hp->R1) (fun _ _ _=> .bad) (fun _ ih=>zba call bL x1 ih) n
def zo3(bL:AV->Hp->R1)(x1:AV):AV->AV->Hp->R1:=qt1 call bL x1 dM
def zr4(x0:AV)(H:Hp):R1 :=
 vq (bM 1 H.nx x0) H fun a0 H =>
 zo3 call (fun x3 H=>za8 call x3 H) a0 (.aA) (iN 0) H
def zAh(x0:AV)(H:Hp):R1:=zr4 call x0 H
def za3(call:Ev.Call)(H:Hp):R1 :=
 .ok (.aZ [(iN 0),(iN 6)]) H
def za1(call:Ev.Call)(g5:AV->Hp->R1)(dV:AV)(H:Hp):R1 :=
 vq (aB (aK .add).f dV (iN 1)) H fun a7 H =>
 g5 a7 H
def za2(gW:AV->AV->Hp->R1)(g5:AV->Hp->R1)(x1 x2 bY dV:AV)(H:Hp):R1 :=
 vq (aL 3 bY dV) H fun a9 H =>
 vq (aX 3 H a9) H fun bQ H =>
 vq (.new (.ptr H.nx 0) (aD 0 [.str 0 0,.str 0 0,iN 0])) H fun bN H =>
 ve (dX 3 H bN bQ) fun _ H =>
 vq (aO 0 bN) H fun bR H =>
 vq (aH H bR) H fun cB H =>
 vq (gY (oI .eql).f cB x1) H fun bV H =>
 vg (aP true bV) (aO 1 bN) H fun a16 H =>
 vg (aP true bV) (aH H a16) H fun a17 H =>
 vg (aP true bV) (.val x2) H fun cZ H =>
 vg (aP true bV) (gY (oI .eql).f a17 cZ) H fun dJ H =>
 vq (fI bV dJ (.bool false)) H fun a20 H =>
 cd a20 (
 vq (aO 2 bN) H fun a21 H =>
 vq (aH H a21) H fun a22 H =>
 gW a22 (iN 0) H) (
 za1 call g5 dV H)
def za4(gW:AV->AV->Hp->R1)(dU:Hp->R1)(x1 x2 bY bI:AV)(g5:AV->Hp->R1)(dV:AV)(H:Hp):R1 :=
 vq (aB (aK .lss).f dV bI) H fun a6 H =>
 cd a6 (
 za2 call gW g5 x1 x2 bY dV H) (
 dU H)
def qt0(gW:AV->AV->Hp->R1)(dU:Hp->R1)(x1 x2 bY bI:AV)(n:Nat):AV->Hp->R1 :=
 Nat.rec (motive:=fun _=>AV->Hp->R1) (fun _ _=> .bad) (fun _ ih=>za4 call gW dU x1 x2 bY bI ih) n
def zo0(gW:AV->AV->Hp->R1)(dU:Hp->R1)(x1 x2 bY bI:AV):AV->Hp->R1:=qt0 call gW dU x1 x2 bY bI dM
def zr3(x0 x1 x2:AV)(H:Hp):R1 :=
 vq (bM 1 H.nx x0) H fun a0 H =>
 vq (aO 0 a0) H fun a2 H =>
 vq (aH H a2) H fun a3 H =>
 vq (aG a3) H fun a4 H =>
 zo0 call (fun x6 x7 H=> .ok (.aZ [x6,x7]) H) (fun H=>za3 call H) x1 x2 a3 a4 (iN 0) H
def zAi(x0 x1 x2:AV)(H:Hp):R1:=zr3 call x0 x1 x2 H
def zoy(call:Ev.Call)(x3:AV)(H:Hp):R1 :=
 .ok x3 H
def zox(call:Ev.Call)(g5:AV->AV->Hp->R1)(x3 x9:AV)(H:Hp):R1 :=
 vq (aB (aK .add).f x9 (iN 1)) H fun a7 H =>
 g5 x3 a7 H
def zaz(g5:AV->AV->Hp->R1)(x3 x7 x9:AV)(H:Hp):R1 :=
 vq (aL 3 x7 x9) H fun a9 H =>
 vq (aX 3 H a9) H fun bQ H =>
 vq (.new (.ptr H.nx 0) (aD 0 [.str 0 0,.str 0 0,iN 0])) H fun bN H =>
 ve (dX 3 H bN bQ) fun _ H =>
 vq (aO 2 bN) H fun bR H =>
 vq (aH H bR) H fun cB H =>
 vq (aB (aK .add).f cB (iN 1)) H fun bV H =>
 vq (jL 2 H.nx (dD (bB [iN 0] 2) [(0,1,x3),(1,1,bV)])) H fun a16 H =>
 ve (call (.f 38) [a16] H) fun a17 H =>
 zox call g5 a17 x9 H
def za0(dU:AV->Hp->R1)(x7 x8:AV)(g5:AV->AV->Hp->R1)(x3 x9:AV)(H:Hp):R1 :=
 vq (aB (aK .lss).f x9 x8) H fun a6 H =>
 cd a6 (
 zaz call g5 x3 x7 x9 H) (
 dU x3 H)
def q1i(dU:AV->Hp->R1)(x7 x8:AV)(n:Nat):AV->AV->Hp->R1 :=
 Nat.rec (motive:=fun _=>AV->AV->Hp->R1) (fun _ _ _=> .bad) (fun _ ih=>za0 call dU x7 x8 ih) n
def zoz(dU:AV->Hp->R1)(x7 x8:AV):AV->AV->Hp->R1:=q1i call dU x7 x8 dM
def zr2(x0:AV)(H:Hp):R1 :=
 vq (bM 1 H.nx x0) H fun a0 H =>
 vq (aO 0 a0) H fun a2 H =>
 vq (aH H a2) H fun a3 H =>
 vq (aG a3) H fun a4 H =>
 zoz call (fun x3 H=>zoy call x3 H) a3 a4 (iN 0) (iN 0) H
def zAj(x0:AV)(H:Hp):R1:=zr2 call x0 H
def zaw(x6:AV)(H:Hp):R1 :=
 ve (call (.f 39) [x6] H) fun a1 H =>
 .ok (.aZ [a1,(iN 0)]) H
def q1h(call:Ev.Call)(g6:AV->AV->Hp->R1)(x6 x20:AV)(H:Hp):R1 :=
 vq (aB (aK .add).f x20 (iN 1)) H fun a8 H =>
 g6 x6 a8 H
def zax(g6:AV->AV->Hp->R1)(x1 x6 x18 x20:AV)(H:Hp):R1 :=
 vq (aL 3 x18 x20) H fun bQ H =>
 vq (aX 3 H bQ) H fun bN H =>
 vq (.new (.ptr H.nx 0) (aD 0 [.str 0 0,.str 0 0,iN 0])) H fun a12 H =>
 ve (dX 3 H a12 bN) fun _ H =>
 vq (aO 2 a12) H fun cB H =>
 vq (aH H cB) H fun bV H =>
 vq (aB (aK .eql).f bV x1) H fun a16 H =>
 cd a16 (
 vq (jL 1 H.nx (dD (bB [iN 0] 1) [(0,1,x20)])) H fun a17 H =>
 ve (iJ 1 8 H x6 (jY 1 H a17)) fun cZ H =>
 q1h call g6 cZ x20 H) (
 q1h call g6 x6 x20 H)
def zay(aAQ:AV->Hp->R1)(x1 x18 jP:AV)(g6:AV->AV->Hp->R1)(x6 x20:AV)(H:Hp):R1 :=
 vq (aB (aK .lss).f x20 jP) H fun a7 H =>
 cd a7 (
 zax call g6 x1 x6 x18 x20 H) (
 aAQ x6 H)
def q1g(aAQ:AV->Hp->R1)(x1 x18 jP:AV)(n:Nat):AV->AV->Hp->R1 :=
 Nat.rec (motive:=fun _=>AV->AV->Hp->R1) (fun _ _ _=> .bad) (fun _ ih=>zay call aAQ x1 x18 jP ih) n
def zow(aAQ:AV->Hp->R1)(x1 x18 jP:AV):AV->AV->Hp->R1:=q1g call aAQ x1 x18 jP dM
def zav(x1 x2:AV)(H:Hp):R1 :=
 vq (aO 0 x2) H fun a3 H =>
 vq (aH H a3) H fun a4 H =>
 vq (aG a4) H fun a5 H =>
 zow call (fun x6 H=>zaw call x6 H) x1 a4 a5 (.aA) (iN 0) H
def zjn(x0 x1:AV)(H:Hp):R1 :=
 vq (bM 1 H.nx x0) H fun a0 H =>
 vq (aB (aK .lss).f x1 (iN 0)) H fun a21 H =>
 vg (aP false a21) (.val x1) H fun a22 H =>
 vg (aP false a21) (aX 1 H a0) H fun a23 H =>
 qA (aP false a21) (call (.f 13) [a23] H) H fun a24 H =>
 vg (aP false a21) (aB (aK .geq).f a22 a24) H fun a25 H =>
 vq (fI a21 (.bool true) a25) H fun a26 H =>
 cd a26 (
 .ok (.aZ [(.aA),(iN 4)]) H) (
 zav call x1 a0 H)
def zAk(x0 x1:AV)(H:Hp):R1:=zjn call x0 x1 H
def zou(call:Ev.Call)(H:Hp):R1 :=
 .ok (.bool true) H
def zot(call:Ev.Call)(g1:AV->Hp->R1)(x9:AV)(H:Hp):R1 :=
 vq (aB (aK .add).f x9 (iN 1)) H fun a2 H =>
 g1 a2 H
def zos(jB:AV->Hp->R1)(g1:AV->Hp->R1)(x0 x2 x9:AV)(H:Hp):R1 :=
 vl (aL 1 x0 x9) fun a4 =>
 vl (aH H a4) fun a5 =>
 vl (aL 1 x2 x9) fun a6 =>
 vl (aH H a6) fun a7 =>
 vl (aB (aK .neq).f a5 a7) fun a8 =>
 cd a8 (
 jB (.bool false) H) (
 zot call g1 x9 H)
def zau(jB:AV->Hp->R1)(iE:Hp->R1)(x0 x2:AV)(g1:AV->Hp->R1)(x9:AV)(H:Hp):R1 :=
 vq (aG x2) H fun bQ H =>
 vq (aB (aK .lss).f x9 bQ) H fun bN H =>
 cd bN (
 zos call jB g1 x0 x2 x9 H) (
 iE H)
def q1f(jB:AV->Hp->R1)(iE:Hp->R1)(x0 x2:AV)(n:Nat):AV->Hp->R1 :=
 Nat.rec (motive:=fun _=>AV->Hp->R1) (fun _ _=> .bad) (fun _ ih=>zau call jB iE x0 x2 ih) n
def zov(jB:AV->Hp->R1)(iE:Hp->R1)(x0 x2:AV):AV->Hp->R1:=q1f call jB iE x0 x2 dM
def zat(x0 x2:AV)(H:Hp):R1 :=
 zov call (fun x8 H=> .ok x8 H) (fun H=>zou call H) x0 x2 (iN 0) H
def zr1(x0 x1 x2 x3:AV)(H:Hp):R1 :=
 vq (aB (aK .neq).f x1 x3) H fun bR H =>
 vg (aP false bR) (.val x0) H fun cB H =>
 vg (aP false bR) (aG cB) H fun bV H =>
 vg (aP false bR) (.val x2) H fun a16 H =>
 vg (aP false bR) (aG a16) H fun a17 H =>
 vg (aP false bR) (aB (aK .neq).f bV a17) H fun cZ H =>
 vq (fI bR (.bool true) cZ) H fun dJ H =>
 vg (aP false dJ) (.val x0) H fun a20 H =>
 vg (aP false dJ) (iI a20) H fun a21 H =>
 vg (aP false dJ) (.val x0) H fun a22 H =>
 vg (aP false dJ) (aG a22) H fun a23 H =>
 vg (aP false dJ) (aB (aK .neq).f a21 a23) H fun a24 H =>
 vq (fI dJ (.bool true) a24) H fun a25 H =>
 cd a25 (
 .ok (.bool false) H) (
 zat call x0 x2 H)
def zAl(x0 x1 x2 x3:AV)(H:Hp):R1:=zr1 call x0 x1 x2 x3 H
def zaq(call:Ev.Call)(H:Hp):R1 :=
 .ok (.int .i64 (.negSucc 0)) H
def zao(call:Ev.Call)(g4:AV->Hp->R1)(x8:AV)(H:Hp):R1 :=
 vq (aB (aK .add).f x8 (iN 1)) H fun a5 H =>
 g4 a5 H
def zar(xE:AV->Hp->R1)(g4:AV->Hp->R1)(x1 x2 x7 x8:AV)(H:Hp):R1 :=
 vq (aL 2 x7 x8) H fun a7 H =>
 vq (aO 0 a7) H fun a8 H =>
 vq (aH H a8) H fun a9 H =>
 vq (gY (oI .eql).f a9 x1) H fun bQ H =>
 vg (aP true bQ) (.val x7) H fun bN H =>
 vg (aP true bQ) (.val x8) H fun a12 H =>
 vg (aP true bQ) (aL 2 bN a12) H fun bR H =>
 vg (aP true bQ) (aO 1 bR) H fun cB H =>
 vg (aP true bQ) (aH H cB) H fun bV H =>
 vg (aP true bQ) (.val x2) H fun a16 H =>
 vg (aP true bQ) (gY (oI .eql).f bV a16) H fun a17 H =>
 vq (fI bQ a17 (.bool false)) H fun cZ H =>
 cd cZ (
 xE x8 H) (
 zao call g4 x8 H)
def zas(xE:AV->Hp->R1)(pO:Hp->R1)(x1 x2 x7:AV)(g4:AV->Hp->R1)(x8:AV)(H:Hp):R1 :=
 vq (aG x7) H fun a20 H =>
 vq (aB (aK .lss).f x8 a20) H fun a21 H =>
 cd a21 (
 zar call xE g4 x1 x2 x7 x8 H) (
 pO H)
def qtz(xE:AV->Hp->R1)(pO:Hp->R1)(x1 x2 x7:AV)(n:Nat):AV->Hp->R1 :=
 Nat.rec (motive:=fun _=>AV->Hp->R1) (fun _ _=> .bad) (fun _ ih=>zas call xE pO x1 x2 x7 ih) n
def zor(xE:AV->Hp->R1)(pO:Hp->R1)(x1 x2 x7:AV):AV->Hp->R1:=qtz call xE pO x1 x2 x7 dM
def zr0(x0 x1 x2:AV)(H:Hp):R1 :=
 vq (bM 1 H.nx x0) H fun a0 H =>
 vq (aX 1 H a0) H fun a1 H =>
 ve (call (.f 11) [a1] H) fun a2 H =>
 zor call (fun x6 H=> .ok x6 H) (fun H=>zaq call H) x1 x2 a2 (iN 0) H
def zAm(x0 x1 x2:AV)(H:Hp):R1:=zr0 call x0 x1 x2 H
def zrz(call:Ev.Call)(x0:AV)(H:Hp):R1 :=
 vq (bM 1 H.nx x0) H fun a0 H =>
 vq (aO 0 a0) H fun a1 H =>
 vq (aH H a1) H fun a2 H =>
 vq (aG a2) H fun a3 H =>
 vq (nW mI a3 [(iN 12)]) H fun a4 H =>
 .ok a4 H
def zAn(x0:AV)(H:Hp):R1:=zrz call x0 H
def zry(call:Ev.Call)(x0:AV)(H:Hp):R1 :=
 vq (jL 3 H.nx (dD (bB [.str 0 0] 3) [(0,1,(.str 1 97)),(1,1,(.str 1 98)),(2,1,(.str 1 99))])) H fun a0 H =>
 vq (aB (aK .rem).f x0 (iN 3)) H fun a1 H =>
 vq (aL 1 a0 a1) H fun a2 H =>
 vq (aH H a2) H fun a3 H =>
 .ok a3 H
def zAo(x0:AV)(H:Hp):R1:=zry call x0 H
def qgq(x1 x2 x3 x4 x5 x10 dV:AV)(H:Hp):R1 :=
 vq (aX 1 H x5) H fun a9 H =>
 vq (aB (aK .add).f x3 (iN 1)) H fun bQ H =>
 ve (call (.f 27) [a9,x1,x2,bQ,x4] H) fun bN H =>
 vq (bK 0 bN) H fun a12 H =>
 vq (bK 1 bN) H fun bR H =>
 vq (.new (.ptr H.nx 0) (aD 0 [.int .u8 (.ofNat 0),.str 0 0,.str 0 0,.aA])) H fun cB H =>
 ve (dX 4 H cB a12) fun _ H =>
 vq (aX 1 H x5) H fun a16 H =>
 vq (aB (aK .add).f x3 (iN 1)) H fun a17 H =>
 vg (aP false x4) (.val dV) H fun cZ H =>
 vg (aP false x4) (aB (aK .eql).f cZ (.int .u8 (.ofNat 6))) H fun dJ H =>
 vq (fI x4 (.bool true) dJ) H fun a20 H =>
 ve (call (.f 27) [a16,x1,bR,a17,a20] H) fun a21 H =>
 vq (bK 0 a21) H fun a22 H =>
 vq (bK 1 a21) H fun a23 H =>
 vq (.new (.ptr H.nx 0) (aD 0 [.int .u8 (.ofNat 0),.str 0 0,.str 0 0,.aA])) H fun a24 H =>
 ve (dX 4 H a24 a22) fun _ H =>
 vq (aX 4 H cB) H fun a26 H =>
 vq (aX 4 H a24) H fun a27 H =>
 vq (jL 2 H.nx (dD (bB [.int .u8 (.ofNat 0),.str 0 0,.str 0 0,.aA] 2) [(0,4,a26),(4,4,a27)])) H fun a28 H =>
 vq (dH (dD [.int .u8 (.ofNat 0),.str 0 0,.str 0 0,.aA] [(0,1,dV),(3,1,a28)])) H fun a29 H =>
 ve (dX 4 H x10 a29) fun _ H =>
 eG (jC (iY (rV (aX 4 H x10)) (iY (some a23) (some [])))) H
def qen(x1 x2 x3 x4 x5 x10 bI dV x46 x53:AV)(H:Hp):R1 :=
 cd x53 (
 vq (aX 1 H x5) H fun a35 H =>
 vq (aB (aK .quo).f bI (.int .u8 (.ofNat 8))) H fun a36 H =>
 ve (call (.f 57) [a35,x1,a36,x4] H) fun a37 H =>
 ve (dX 4 H x10 a37) fun _ H =>
 eG (jC (iY (rV (aX 4 H x10)) (iY (some x2) (some [])))) H) (
 vq (aB (aK .eql).f x46 (.int .u8 (.ofNat 4))) H fun a39 H =>
 cd a39 (
 vq (aX 1 H x5) H fun a40 H =>
 vq (aB (aK .quo).f bI (.int .u8 (.ofNat 8))) H fun a41 H =>
 ve (call (.f 58) [a40,x1,a41,x4] H) fun a42 H =>
 ve (dX 4 H x10 a42) fun _ H =>
 eG (jC (iY (rV (aX 4 H x10)) (iY (some x2) (some [])))) H) (
 vq (aB (aK .eql).f x46 (.int .u8 (.ofNat 6))) H fun a44 H =>
 cd a44 (
 qgq call x1 x2 x3 x4 x5 x10 (.int .u8 (.ofNat 5)) H) (
 vq (aB (aK .eql).f x46 (.int .u8 (.ofNat 7))) H fun a45 H =>
 cd a45 (
 ve (call (.f 59) [x1] H) fun a46 H =>
 vq (aB (aK .gtr).f a46 (iN 0)) H fun a47 H =>
 cd a47 (
 qgq call x1 x2 x3 x4 x5 x10 (.int .u8 (.ofNat 6)) H) (
 qgq call x1 x2 x3 x4 x5 x10 dV H)) (
 qgq call x1 x2 x3 x4 x5 x10 dV H))))
def qdk(x1 x2 x3 x4 x5 x10 bI dV x46 x47:AV)(H:Hp):R1 :=
 cd x47 (
 ve (call (.f 56) [x4] H) fun a33 H =>
 ve (dX 4 H x10 a33) fun _ H =>
 eG (jC (iY (rV (aX 4 H x10)) (iY (some x2) (some [])))) H) (
 vq (aB (aK .eql).f x46 (.int .u8 (.ofNat 2))) H fun a49 H =>
 cd a49 (
 qen call x1 x2 x3 x4 x5 x10 bI dV x46 a49 H) (
 vq (aB (aK .eql).f x46 (.int .u8 (.ofNat 3))) H fun a50 H =>
 qen call x1 x2 x3 x4 x5 x10 bI dV x46 a50 H))
def zan(x1 x2 x3 x4 x5 x10:AV)(H:Hp):R1 :=
 vq (aO 0 x5) H fun a2 H =>
 vq (aH H a2) H fun a3 H =>
 vq (aL 1 a3 x1) H fun a4 H =>
 vq (aH H a4) H fun a5 H =>
 vq (aL 1 a5 x2) H fun a6 H =>
 vq (aH H a6) H fun a7 H =>
 vq (aB (aK .add).f x2 (iN 1)) H fun a8 H =>
 vq (aB (aK .rem).f a7 (.int .u8 (.ofNat 8))) H fun a32 H =>
 vq (aB (aK .eql).f a32 (.int .u8 (.ofNat 0))) H fun a52 H =>
 cd a52 (
 qdk call x1 a8 x3 x4 x5 x10 a7 (.int .u8 (.ofNat 4)) a32 a52 H) (
 vq (aB (aK .eql).f a32 (.int .u8 (.ofNat 1))) H fun a53 H =>
 qdk call x1 a8 x3 x4 x5 x10 a7 (.int .u8 (.ofNat 4)) a32 a53 H)
def zjh(x0 x1 x2 x3 x4:AV)(H:Hp):R1 :=
 vq (bM 1 H.nx x0) H fun a0 H =>
 vq (.new (.ptr H.nx 0) (aD 0 [.int .u8 (.ofNat 0),.str 0 0,.str 0 0,.aA])) H fun a1 H =>
 vq (aO 0 a0) H fun a55 H =>
 vq (aH H a55) H fun a56 H =>
 vq (aL 1 a56 x1) H fun a57 H =>
 vq (aH H a57) H fun a58 H =>
 vq (aG a58) H fun a59 H =>
 vq (aB (aK .geq).f x2 a59) H fun a60 H =>
 vg (aP false a60) (.val x2) H fun a61 H =>
 vg (aP false a60) (aB (aK .geq).f a61 (iN 12)) H fun a62 H =>
 vq (fI a60 (.bool true) a62) H fun a63 H =>
 vg (aP false a63) (.val x3) H fun a64 H =>
 vg (aP false a63) (aB (aK .gtr).f a64 (iN 6)) H fun a65 H =>
 vq (fI a63 (.bool true) a65) H fun a66 H =>
 cd a66 (
 ve (call (.f 56) [x4] H) fun a67 H =>
 ve (dX 4 H a1 a67) fun _ H =>
 eG (jC (iY (rV (aX 4 H a1)) (iY (some x2) (some [])))) H) (
 zan call x1 x2 x3 x4 a0 a1 H)
def zAp(x0 x1 x2 x3 x4:AV)(H:Hp):R1:=zjh call x0 x1 x2 x3 x4 H
def zrx(call:Ev.Call)(x0:AV)(H:Hp):R1 :=
 vq (jL 4 H.nx (dD (bB [.str 0 0] 4) [(0,1,(.str 2 12402)),(1,1,(.str 2 12658)),(2,1,(.str 2 12914)),(3,1,(.str 2 13170))])) H fun a0 H =>
 vq (aB (aK .rem).f x0 (iN 4)) H fun a1 H =>
 vq (aL 1 a0 a1) H fun a2 H =>
 vq (aH H a2) H fun a3 H =>
 .ok a3 H
def zAq(x0:AV)(H:Hp):R1:=zrx call x0 H
def zoq(call:Ev.Call)(x5:AV)(H:Hp):R1 :=
 .ok x5 H
def qyc(x1 x2 x5 x7:AV)(H:Hp):R1 :=
 vq (aX 1 H x2) H fun a8 H =>
 ve (call (.f 60) [a8,x1,(iN 1)] H) fun a9 H =>
 vq (aB (aK .quo).f a9 (.int .u8 (.ofNat 2))) H fun bQ H =>
 vq (qz0 .i64 bQ) H fun bN H =>
 vq (aG x7) H fun a12 H =>
 vq (aB (aK .rem).f bN a12) H fun bR H =>
 vq (aL 2 x7 bR) H fun cB H =>
 vq (aX 2 H cB) H fun bV H =>
 vq (jL 1 H.nx (dD (bB [.str 0 0,.str 0 0] 1) [(0,2,bV)])) H fun a16 H =>
 ve (iJ 2 32 H x5 (jY 2 H a16)) fun a17 H =>
 zoq call a17 H
def qq6(call:Ev.Call)(g19:AV->AV->Hp->R1)(x7 x8:AV)(H:Hp):R1 :=
 vq (aB (aK .add).f x8 (iN 1)) H fun a20 H =>
 g19 x7 a20 H
def zrv(g19:AV->AV->Hp->R1)(x1 x7 x8:AV)(H:Hp):R1 :=
 ve (call (.f 59) [x8] H) fun a22 H =>
 ve (call (.f 59) [x1] H) fun a23 H =>
 vq (aB (aK .leq).f a22 a23) H fun a24 H =>
 cd a24 (
 vq (aB (aK .quo).f x8 (iN 4)) H fun a25 H =>
 ve (call (.f 26) [a25] H) fun a26 H =>
 ve (call (.f 28) [x8] H) fun a27 H =>
 vq (dH (dD [.str 0 0,.str 0 0] [(0,1,a26),(1,1,a27)])) H fun a28 H =>
 vq (jL 1 H.nx (dD (bB [.str 0 0,.str 0 0] 1) [(0,2,a28)])) H fun a29 H =>
 ve (iJ 2 32 H x7 (jY 2 H a29)) fun a30 H =>
 qq6 call g19 a30 x8 H) (
 qq6 call g19 x7 x8 H)
def qye(kR:AV->Hp->R1)(x1 x2:AV)(g19:AV->AV->Hp->R1)(x7 x8:AV)(H:Hp):R1 :=
 vq (aX 1 H x2) H fun a32 H =>
 ve (call (.f 25) [a32] H) fun a33 H =>
 vq (aB (aK .lss).f x8 a33) H fun a34 H =>
 cd a34 (
 zrv call g19 x1 x7 x8 H) (
 kR x7 H)
def qq3(kR:AV->Hp->R1)(x1 x2:AV)(n:Nat):AV->AV->Hp->R1 :=
 Nat.rec (motive:=fun _=>AV->AV->Hp->R1) (fun _ _ _=> .bad) (fun _ ih=>qye call kR x1 x2 ih) n
def zam(kR:AV->Hp->R1)(x1 x2:AV):AV->AV->Hp->R1:=qq3 call kR x1 x2 dM
def qq5(x1 x2 x5:AV)(H:Hp):R1 :=
 vq (aX 1 H x2) H fun a4 H =>
 ve (call (.f 60) [a4,x1,(iN 1)] H) fun a5 H =>
 vq (aB (aK .rem).f a5 (.int .u8 (.ofNat 2))) H fun a6 H =>
 vq (aB (aK .eql).f a6 (.int .u8 (.ofNat 1))) H fun a7 H =>
 cd a7 (
 zam call (fun x7 H=>qyc call x1 x2 x5 x7 H) x1 x2 (.aA) (iN 0) H) (
 zoq call x5 H)
def qq4(call:Ev.Call)(xG:AV->AV->Hp->R1)(x5 x6:AV)(H:Hp):R1 :=
 vq (aB (aK .add).f x6 (iN 1)) H fun a37 H =>
 xG x5 a37 H
def zak(xG:AV->AV->Hp->R1)(x1 x2 x5 x6:AV)(H:Hp):R1 :=
 vq (aX 1 H x2) H fun a39 H =>
 ve (call (.f 60) [a39,x1,(iN 0)] H) fun a40 H =>
 vq (qun (qhh .shr).f a40 x6) H fun a41 H =>
 vq (aB (aK .rem).f a41 (.int .u8 (.ofNat 2))) H fun a42 H =>
 vq (aB (aK .eql).f a42 (.int .u8 (.ofNat 1))) H fun a43 H =>
 cd a43 (
 ve (call (.f 26) [x6] H) fun a44 H =>
 vq (dH (dD [.str 0 0,.str 0 0] [(0,1,a44)])) H fun a45 H =>
 vq (jL 1 H.nx (dD (bB [.str 0 0,.str 0 0] 1) [(0,2,a45)])) H fun a46 H =>
 ve (iJ 2 32 H x5 (jY 2 H a46)) fun a47 H =>
 qq4 call xG a47 x6 H) (
 qq4 call xG x5 x6 H)
def qyd(vI:AV->Hp->R1)(x1 x2:AV)(xG:AV->AV->Hp->R1)(x5 x6:AV)(H:Hp):R1 :=
 vq (aB (aK .mul).f (iN 4) x6) H fun a49 H =>
 vq (aX 1 H x2) H fun a50 H =>
 ve (call (.f 25) [a50] H) fun a51 H =>
 vq (aB (aK .lss).f a49 a51) H fun a52 H =>
 vg (aP true a52) (.val x6) H fun a53 H =>
 vg (aP true a52) (aB (aK .lss).f a53 (iN 3)) H fun a54 H =>
 vq (fI a52 a54 (.bool false)) H fun a55 H =>
 cd a55 (
 zak call xG x1 x2 x5 x6 H) (
 vI x5 H)
def qq2(vI:AV->Hp->R1)(x1 x2:AV)(n:Nat):AV->AV->Hp->R1 :=
 Nat.rec (motive:=fun _=>AV->AV->Hp->R1) (fun _ _ _=> .bad) (fun _ ih=>qyd call vI x1 x2 ih) n
def zal(vI:AV->Hp->R1)(x1 x2:AV):AV->AV->Hp->R1:=qq2 call vI x1 x2 dM
def zrw(x0 x1:AV)(H:Hp):R1 :=
 vq (bM 1 H.nx x0) H fun a0 H =>
 vq (dH (dD [.str 0 0,.str 0 0] [(0,1,(.str 4 1919251317))])) H fun a1 H =>
 vq (jL 1 H.nx (dD (bB [.str 0 0,.str 0 0] 1) [(0,2,a1)])) H fun a2 H =>
 zal call (fun x5 H=>qq5 call x1 a0 x5 H) x1 a0 a2 (iN 0) H
def zAr(x0 x1:AV)(H:Hp):R1:=zrw call x0 x1 H
def zah(call:Ev.Call)(H:Hp):R1 :=
 .ok (.bool false) H
def zaf(call:Ev.Call)(g4:AV->Hp->R1)(x8:AV)(H:Hp):R1 :=
 vq (aB (aK .add).f x8 (iN 1)) H fun a5 H =>
 g4 a5 H
def zai(xE:AV->Hp->R1)(g4:AV->Hp->R1)(x1 x2 x7 x8:AV)(H:Hp):R1 :=
 vq (aL 5 x7 x8) H fun a7 H =>
 vq (aO 0 a7) H fun a8 H =>
 vq (aH H a8) H fun a9 H =>
 vq (aB (aK .eql).f a9 x1) H fun bQ H =>
 vg (aP true bQ) (.val x7) H fun bN H =>
 vg (aP true bQ) (.val x8) H fun a12 H =>
 vg (aP true bQ) (aL 5 bN a12) H fun bR H =>
 vg (aP true bQ) (aO 1 bR) H fun cB H =>
 vg (aP true bQ) (aH H cB) H fun bV H =>
 vg (aP true bQ) (.val x2) H fun a16 H =>
 vg (aP true bQ) (gY (oI .eql).f bV a16) H fun a17 H =>
 vq (fI bQ a17 (.bool false)) H fun cZ H =>
 cd cZ (
 xE (.bool true) H) (
 zaf call g4 x8 H)
def zaj(xE:AV->Hp->R1)(pO:Hp->R1)(x1 x2 x7:AV)(g4:AV->Hp->R1)(x8:AV)(H:Hp):R1 :=
 vq (aG x7) H fun a20 H =>
 vq (aB (aK .lss).f x8 a20) H fun a21 H =>
 cd a21 (
 zai call xE g4 x1 x2 x7 x8 H) (
 pO H)
def q1e(xE:AV->Hp->R1)(pO:Hp->R1)(x1 x2 x7:AV)(n:Nat):AV->Hp->R1 :=
 Nat.rec (motive:=fun _=>AV->Hp->R1) (fun _ _=> .bad) (fun _ ih=>zaj call xE pO x1 x2 x7 ih) n
def zop(xE:AV->Hp->R1)(pO:Hp->R1)(x1 x2 x7:AV):AV->Hp->R1:=q1e call xE pO x1 x2 x7 dM
def zru(x0 x1 x2:AV)(H:Hp):R1 :=
 vq (bM 4 H.nx x0) H fun a0 H =>
 vq (aX 4 H a0) H fun a1 H =>
 ve (call (.f 35) [(.aA),a1,(.bool false)] H) fun a2 H =>
 zop call (fun x6 H=> .ok x6 H) (fun H=>zah call H) x1 x2 a2 (iN 0) H
def zAs(x0 x1 x2:AV)(H:Hp):R1:=zru call x0 x1 x2 H
def qkt(x2 x10:AV)(H:Hp):R1 :=
 vq (aO 1 x10) H fun bQ H =>
 vq (aH H bQ) H fun bN H =>
 ve (call (.f 44) [bN] H) fun a12 H =>
 vq (aO 1 x10) H fun bR H =>
 ve (eY H bR a12) fun _ H =>
 vq (aX 2 H x10) H fun bV H =>
 ve (dX 2 H x2 bV) fun _ H =>
 eG (jC (iY (rV (aX 2 H x2)) (iY (some (iN 0)) (some [])))) H
def qqy(call:Ev.Call)(g21:AV->Hp->R1)(x63:AV)(H:Hp):R1 :=
 vq (aB (aK .add).f x63 (iN 1)) H fun a23 H =>
 g21 a23 H
def qx6(call:Ev.Call)(g32:AV->Hp->R1)(x70:AV)(H:Hp):R1 :=
 vq (aB (aK .add).f x70 (iN 1)) H fun a34 H =>
 g32 a34 H
def qgp(call:Ev.Call)(g46:AV->Hp->R1)(x82:AV)(H:Hp):R1 :=
 vq (aB (aK .add).f x82 (iN 1)) H fun a48 H =>
 g46 a48 H
def qqx(call:Ev.Call)(y9:AV->Hp->R1)(x94:AV)(H:Hp):R1 :=
 vq (aB (aK .add).f x94 (iN 1)) H fun a62 H =>
 y9 a62 H
def q99(y9:AV->Hp->R1)(jP x92 x94:AV)(H:Hp):R1 :=
 vq (aL 2 x92 x94) H fun a64 H =>
 vq (aX 2 H a64) H fun a65 H =>
 vq (.new (.ptr H.nx 0) (aD 0 [.str 0 0,.str 0 0])) H fun a66 H =>
 ve (dX 2 H a66 a65) fun _ H =>
 vq (aO 1 a66) H fun a68 H =>
 vq (aH H a68) H fun a69 H =>
 vq (gY (oI .neq).f a69 (.str 0 0)) H fun a70 H =>
 cd a70 (
 vq (aO 0 a66) H fun a71 H =>
 vq (aH H a71) H fun a72 H =>
 vq (aO 1 a66) H fun a73 H =>
 vq (aH H a73) H fun a74 H =>
 ve (vN call jP [a72,a74] H) fun a75 H =>
 qqx call y9 x94 H) (
 qqx call y9 x94 H)
def qx8(oZ:Hp->R1)(jP x92 x93:AV)(y9:AV->Hp->R1)(x94:AV)(H:Hp):R1 :=
 vq (aB (aK .lss).f x94 x93) H fun a61 H =>
 cd a61 (
 q99 call y9 jP x92 x94 H) (
 oZ H)
def qqw(oZ:Hp->R1)(jP x92 x93:AV)(n:Nat):AV->Hp->R1 :=
 Nat.rec (motive:=fun _=>AV->Hp->R1) (fun _ _=> .bad) (fun _ ih=>qx8 call oZ jP x92 x93 ih) n
def zab(oZ:Hp->R1)(jP x92 x93:AV):AV->Hp->R1:=qqw call oZ jP x92 x93 dM
def q98(call:Ev.Call)(g95:AV->Hp->R1)(xC:AV)(H:Hp):R1 :=
 vq (aB (aK .add).f xC (iN 1)) H fun a97 H =>
 g95 a97 H
def q1b(g95:AV->Hp->R1)(x18 jP xK xC:AV)(H:Hp):R1 :=
 vq (aL 1 xK xC) H fun a99 H =>
 vq (aH H a99) H fun rQ H =>
 vq (aO 2 x18) H fun uV H =>
 vq (aH H uV) H fun wP H =>
 ve (vN call jP [rQ,wP] H) fun zH H =>
 q98 call g95 xC H
def qx7(oM:Hp->R1)(x18 jP xK aBb:AV)(g95:AV->Hp->R1)(xC:AV)(H:Hp):R1 :=
 vq (aB (aK .lss).f xC aBb) H fun a96 H =>
 cd a96 (
 q1b call g95 x18 jP xK xC H) (
 oM H)
def qqv(oM:Hp->R1)(x18 jP xK aBb:AV)(n:Nat):AV->Hp->R1 :=
 Nat.rec (motive:=fun _=>AV->Hp->R1) (fun _ _=> .bad) (fun _ ih=>qx7 call oM x18 jP xK aBb ih) n
def zaa(oM:Hp->R1)(x18 jP xK aBb:AV):AV->Hp->R1:=qqv call oM x18 jP xK aBb dM
def q1a(g46:AV->Hp->R1)(x1 x5 x10 bI kE x80 x82:AV)(H:Hp):R1 :=
 vq (aL 5 x80 x82) H fun a50 H =>
 vq (aX 5 H a50) H fun a51 H =>
 vq (.new (.ptr H.nx 0) (aD 0 [.int .u8 (.ofNat 0),.str 0 0,.str 0 0,.aA,.bool false])) H fun a52 H =>
 ve (dX 5 H a52 a51) fun _ H =>
 vq (aO 0 a52) H fun a54 H =>
 vq (aH H a54) H fun a55 H =>
 vq (aB (aK .eql).f a55 (.int .u8 (.ofNat 1))) H fun a56 H =>
 cd a56 (
 vq (aO 1 kE) H fun a57 H =>
 vq (aH H a57) H fun a58 H =>
 vq (aG a58) H fun a59 H =>
 zab call (fun H=>qgp call g46 x82 H) (.fn 42 [] [x10,x5,bI,kE,a52]) a58 a59 (iN 0) H) (
 vq (aB (aK .eql).f a55 (.int .u8 (.ofNat 2))) H fun a77 H =>
 cd a77 (
 vq (aO 0 bI) H fun a78 H =>
 vq (aH H a78) H fun a79 H =>
 vq (aO 1 a52) H fun a80 H =>
 vq (aH H a80) H fun a81 H =>
 ve (vN call (.fn 42 [] [x10,x5,bI,kE,a52]) [a79,a81] H) fun a82 H =>
 qgp call g46 x82 H) (
 vq (aB (aK .eql).f a55 (.int .u8 (.ofNat 3))) H fun a83 H =>
 cd a83 (
 vq (aX 1 H x1) H fun a84 H =>
 vq (aO 0 bI) H fun a85 H =>
 vq (aH H a85) H fun a86 H =>
 vq (aO 1 a52) H fun a87 H =>
 vq (aH H a87) H fun a88 H =>
 vq (aO 2 a52) H fun a89 H =>
 vq (aH H a89) H fun a90 H =>
 ve (call (.f 43) [a84,a86,a88,a90] H) fun a91 H =>
 vq (bK 0 a91) H fun a92 H =>
 vq (bK 1 a91) H fun a93 H =>
 vq (aG a92) H fun a94 H =>
 zaa call (fun H=>qgp call g46 x82 H) a52 (.fn 42 [] [x10,x5,bI,kE,a52]) a92 a94 (iN 0) H) (
 qgp call g46 x82 H)))
def qx9(uJ:Hp->R1)(x1 x5 x10 bI kE x80 x81:AV)(g46:AV->Hp->R1)(x82:AV)(H:Hp):R1 :=
 vq (aB (aK .lss).f x82 x81) H fun a47 H =>
 cd a47 (
 q1a call g46 x1 x5 x10 bI kE x80 x82 H) (
 uJ H)
def qie(uJ:Hp->R1)(x1 x5 x10 bI kE x80 x81:AV)(n:Nat):AV->Hp->R1 :=
 Nat.rec (motive:=fun _=>AV->Hp->R1) (fun _ _=> .bad) (fun _ ih=>qx9 call uJ x1 x5 x10 bI kE x80 x81 ih) n
def zac(uJ:Hp->R1)(x1 x5 x10 bI kE x80 x81:AV):AV->Hp->R1:=qie call uJ x1 x5 x10 bI kE x80 x81 dM
def q09(g32:AV->Hp->R1)(x1 x5 x10 bI x68 x70:AV)(H:Hp):R1 :=
 vq (aL 6 x68 x70) H fun a36 H =>
 vq (aX 6 H a36) H fun a37 H =>
 vq (.new (.ptr H.nx 0) (aD 0 [.str 0 0,.aA,.int .u8 (.ofNat 0),.str 0 0,.str 0 0,.aA])) H fun a38 H =>
 ve (dX 6 H a38 a37) fun _ H =>
 vq (aO 2 a38) H fun a40 H =>
 vq (aX 4 H a40) H fun a41 H =>
 ve (call (.f 41) [a41] H) fun a42 H =>
 vq (bK 0 a42) H fun a43 H =>
 vq (bK 1 a42) H fun a44 H =>
 vq (aG a43) H fun a45 H =>
 zac call (fun H=>qx6 call g32 x70 H) x1 x5 x10 bI a38 a43 a45 (iN 0) H
def qya(tY:Hp->R1)(x1 x5 x10 bI x68 x69:AV)(g32:AV->Hp->R1)(x70:AV)(H:Hp):R1 :=
 vq (aB (aK .lss).f x70 x69) H fun a33 H =>
 cd a33 (
 q09 call g32 x1 x5 x10 bI x68 x70 H) (
 tY H)
def qks(tY:Hp->R1)(x1 x5 x10 bI x68 x69:AV)(n:Nat):AV->Hp->R1 :=
 Nat.rec (motive:=fun _=>AV->Hp->R1) (fun _ _=> .bad) (fun _ ih=>qya call tY x1 x5 x10 bI x68 x69 ih) n
def zad(tY:Hp->R1)(x1 x5 x10 bI x68 x69:AV):AV->Hp->R1:=qks call tY x1 x5 x10 bI x68 x69 dM
def q08(g21:AV->Hp->R1)(x1 x5 x10 x61 x63:AV)(H:Hp):R1 :=
 vq (aL 2 x61 x63) H fun a25 H =>
 vq (aX 2 H a25) H fun a26 H =>
 vq (.new (.ptr H.nx 0) (aD 0 [.str 0 0,.aA])) H fun a27 H =>
 ve (dX 2 H a27 a26) fun _ H =>
 vq (aO 1 a27) H fun a29 H =>
 vq (aH H a29) H fun a30 H =>
 vq (aG a30) H fun a31 H =>
 zad call (fun H=>qqy call g21 x63 H) x1 x5 x10 a27 a30 a31 (iN 0) H
def qyb(uY:Hp->R1)(x1 x5 x10 x61 x62:AV)(g21:AV->Hp->R1)(x63:AV)(H:Hp):R1 :=
 vq (aB (aK .lss).f x63 x62) H fun a22 H =>
 cd a22 (
 q08 call g21 x1 x5 x10 x61 x63 H) (
 uY H)
def qif(uY:Hp->R1)(x1 x5 x10 x61 x62:AV)(n:Nat):AV->Hp->R1 :=
 Nat.rec (motive:=fun _=>AV->Hp->R1) (fun _ _=> .bad) (fun _ ih=>qyb call uY x1 x5 x10 x61 x62 ih) n
def zae(uY:Hp->R1)(x1 x5 x10 x61 x62:AV):AV->Hp->R1:=qif call uY x1 x5 x10 x61 x62 dM
def qjq(x1 x2 x5:AV)(H:Hp):R1 :=
 vq (aH H x5) H fun a5 H =>
 vq (yG H a5) H fun a6 H =>
 vq (dH (dD [iN 0,.aA] [(0,1,a6)])) H fun a7 H =>
 vq (.new (.ptr H.nx 0) (aD 0 [iN 0,.aA])) H fun a8 H =>
 ve (dX 2 H a8 a7) fun _ H =>
 vq (aO 0 x1) H fun cZ H =>
 vq (aH H cZ) H fun dJ H =>
 vq (aG dJ) H fun a20 H =>
 zae call (fun H=>qkt call x2 a8 H) x1 x5 a8 dJ a20 (iN 0) H
def qqz(call:Ev.Call)(aBy:AV->Hp->R1)(yI:AV)(H:Hp):R1 :=
 vq (aB (aK .add).f yI (iN 1)) H fun xH H =>
 aBy xH H
def q07(call:Ev.Call)(aBa:AV->Hp->R1)(x43:AV)(H:Hp):R1 :=
 vq (aB (aK .add).f x43 (iN 1)) H fun aFU H =>
 aBa aFU H
def q06(aBa:AV->Hp->R1)(x5 x7 q8 x43:AV)(H:Hp):R1 :=
 vq (aL 6 q8 x43) H fun a127 H =>
 vq (aX 6 H a127) H fun uZ H =>
 vq (.new (.ptr H.nx 0) (aD 0 [.str 0 0,.aA,.int .u8 (.ofNat 0),.str 0 0,.str 0 0,.aA])) H fun zU H =>
 ve (dX 6 H zU uZ) fun _ H =>
 vq (aH H x5) H fun a131 H =>
 vq (aO 0 x7) H fun aA8 H =>
 vq (aH H aA8) H fun aE9 H =>
 vq (aO 0 zU) H fun aA6 H =>
 vq (aH H aA6) H fun aA7 H =>
 vq (dH (dD [.str 0 0,.str 0 0] [(0,1,aE9),(1,1,aA7)])) H fun aBh H =>
 vq (aH H x5) H fun rF H =>
 vq (yG H rF) H fun a138 H =>
 ve (pE ⟨(⟨lT fun xs ys=>wQ p1 ⟨iB⟩ 1 xs ys 2 0⟩:E2).f,some 2⟩ H a131 aBh a138) fun _ H =>
 q07 call aBa x43 H
def qq0(oP:Hp->R1)(x5 x7 q8 x42:AV)(aBa:AV->Hp->R1)(x43:AV)(H:Hp):R1 :=
 vq (aB (aK .lss).f x43 x42) H fun a124 H =>
 cd a124 (
 q06 call aBa x5 x7 q8 x43 H) (
 oP H)
def qjp(oP:Hp->R1)(x5 x7 q8 x42:AV)(n:Nat):AV->Hp->R1 :=
 Nat.rec (motive:=fun _=>AV->Hp->R1) (fun _ _=> .bad) (fun _ ih=>qq0 call oP x5 x7 q8 x42 ih) n
def q1c(oP:Hp->R1)(x5 x7 q8 x42:AV):AV->Hp->R1:=qjp call oP x5 x7 q8 x42 dM
def q05(aBy:AV->Hp->R1)(x5 x34 yI:AV)(H:Hp):R1 :=
 vq (aL 2 x34 yI) H fun a116 H =>
 vq (aX 2 H a116) H fun a117 H =>
 vq (.new (.ptr H.nx 0) (aD 0 [.str 0 0,.aA])) H fun pZ H =>
 ve (dX 2 H pZ a117) fun _ H =>
 vq (aO 1 pZ) H fun xB H =>
 vq (aH H xB) H fun aAi H =>
 vq (aG aAi) H fun aES H =>
 q1c call (fun H=>qqz call aBy yI H) x5 pZ aAi aES (iN 0) H
def qq1(pJ:Hp->R1)(x5 x34 pV:AV)(aBy:AV->Hp->R1)(yI:AV)(H:Hp):R1 :=
 vq (aB (aK .lss).f yI pV) H fun qQ H =>
 cd qQ (
 q05 call aBy x5 x34 yI H) (
 pJ H)
def qg7(pJ:Hp->R1)(x5 x34 pV:AV)(n:Nat):AV->Hp->R1 :=
 Nat.rec (motive:=fun _=>AV->Hp->R1) (fun _ _=> .bad) (fun _ ih=>qq1 call pJ x5 x34 pV ih) n
def q1d(pJ:Hp->R1)(x5 x34 pV:AV):AV->Hp->R1:=qg7 call pJ x5 x34 pV dM
def q04(x1 x2:AV)(H:Hp):R1 :=
 vq (.new (.map H.nx) (.map [] 0)) H fun a2 H =>
 vq (.new (.ptr H.nx 0) (aD 0 [.dQ])) H fun a3 H =>
 ve (eY H a3 a2) fun _ H =>
 vq (aO 0 x1) H fun a109 H =>
 vq (aH H a109) H fun rO H =>
 vq (aG rO) H fun sG H =>
 q1d call (fun H=>qjq call x1 x2 a3 H) a3 rO sG (iN 0) H
def zrt(x0:AV)(H:Hp):R1 :=
 vq (bM 1 H.nx x0) H fun a0 H =>
 vq (.new (.ptr H.nx 0) (aD 0 [iN 0,.aA])) H fun a1 H =>
 vq (aX 1 H a0) H fun a143 H =>
 ve (call (.f 40) [a143] H) fun aEU H =>
 vq (aB (aK .neq).f aEU (iN 0)) H fun a145 H =>
 cd a145 (
 vq (dH (dD [iN 0,.aA] [])) H fun a146 H =>
 ve (dX 2 H a1 a146) fun _ H =>
 eG (jC (iY (rV (aX 2 H a1)) (iY (some aEU) (some [])))) H) (
 q04 call a0 a1 H)
def zAt(x0:AV)(H:Hp):R1:=zrt call x0 H
def q02(call:Ev.Call)(x8:AV)(H:Hp):R1 :=
 .ok (.aZ [x8,(iN 0)]) H
def qx2(call:Ev.Call)(g11:AV->Hp->R1)(q8:AV)(H:Hp):R1 :=
 vq (aB (aK .add).f q8 (iN 1)) H fun bR H =>
 g11 bR H
def q94(call:Ev.Call)(g18:AV->Hp->R1)(x85:AV)(H:Hp):R1 :=
 vq (aB (aK .add).f x85 (iN 1)) H fun a20 H =>
 g18 a20 H
def q93(g18:AV->Hp->R1)(x8 bY x83 x85:AV)(H:Hp):R1 :=
 vq (aL 1 x83 x85) H fun a22 H =>
 vq (aH H a22) H fun a23 H =>
 ve (call (.f 38) [bY] H) fun a24 H =>
 vq (aL 1 x8 a23) H fun a25 H =>
 ve (eY H a25 a24) fun _ H =>
 q94 call g18 x85 H
def qx4(uM:Hp->R1)(x8 bY x83 x84:AV)(g18:AV->Hp->R1)(x85:AV)(H:Hp):R1 :=
 vq (aB (aK .lss).f x85 x84) H fun dJ H =>
 cd dJ (
 q93 call g18 x8 bY x83 x85 H) (
 uM H)
def qqq(uM:Hp->R1)(x8 bY x83 x84:AV)(n:Nat):AV->Hp->R1 :=
 Nat.rec (motive:=fun _=>AV->Hp->R1) (fun _ _=> .bad) (fun _ ih=>qx4 call uM x8 bY x83 x84 ih) n
def q97(uM:Hp->R1)(x8 bY x83 x84:AV):AV->Hp->R1:=qqq call uM x8 bY x83 x84 dM
def qqu(g11:AV->Hp->R1)(x8 x10 bY q8:AV)(H:Hp):R1 :=
 vq (aG x10) H fun a17 H =>
 q97 call (fun H=>qx2 call g11 q8 H) x8 bY x10 a17 (iN 0) H
def qkq(call:Ev.Call)(g32:AV->AV->Hp->R1)(bY x49:AV)(H:Hp):R1 :=
 vq (aB (aK .add).f x49 (iN 1)) H fun a34 H =>
 g32 bY a34 H
def qqt(g32:AV->AV->Hp->R1)(x4 x8 x9 bY x47 x49:AV)(H:Hp):R1 :=
 vq (aL 3 x47 x49) H fun a36 H =>
 vq (aX 3 H a36) H fun a37 H =>
 vq (.new (.ptr H.nx 0) (aD 0 [iN 0,iN 0,.bool false])) H fun a38 H =>
 ve (dX 3 H a38 a37) fun _ H =>
 vq (aO 1 x4) H fun a40 H =>
 vq (aH H a40) H fun a41 H =>
 vq (aO 0 a38) H fun a42 H =>
 vq (aH H a42) H fun a43 H =>
 vq (aL 1 a41 a43) H fun a44 H =>
 vq (aH H a44) H fun a45 H =>
 vq (aB (aK .eql).f a45 x9) H fun a46 H =>
 vg (aP true a46) (aO 1 x4) H fun a47 H =>
 vg (aP true a46) (aH H a47) H fun a48 H =>
 vg (aP true a46) (aO 1 a38) H fun a49 H =>
 vg (aP true a46) (aH H a49) H fun a50 H =>
 vg (aP true a46) (aL 1 a48 a50) H fun a51 H =>
 vg (aP true a46) (aH H a51) H fun a52 H =>
 vg (aP true a46) (.val x9) H fun a53 H =>
 vg (aP true a46) (aB (aK .neq).f a52 a53) H fun a54 H =>
 vq (fI a46 a54 (.bool false)) H fun a55 H =>
 cd a55 (
 dz 12 H fun b56 H =>
 dn 0 0 b56 H [] [] (.val bY) fun a57 H p w =>
 dn 1 0 b56 H p w (.val x8) fun a58 H p w =>
 dn 2 0 b56 H p w (aO 1 a38) fun a59 H p w =>
 dl 3 4 b56 H p w (fun H=>aH H a59) fun a60 H p w =>
 dn 4 14 b56 H p w (aL 1 a58 a60) fun a61 H p w =>
 dl 5 30 b56 H p w (fun H=>aH H a61) fun a62 H p w =>
 dl 6 0 b56 H p w (fun H=>aX 3 H a38) fun a63 H p w =>
 de 64 H p w (call (.f 54) [a63] (bO 64 p H)) (some true) fun a64 H p w =>
 dn 8 254 b56 H p w (aB (aK .add).f a62 a64) fun a65 H p w =>
 da 9 510 b56 H p w (jL 1 (b56+9) (dD (bB [iN 0] 1) [(0,1,a65)])) fun a66 H p w =>
 de 1023 H p w (iJ 1 8 (bO 1023 p H) a57 (jY 1 (bO 1023 p H) a66)) (some true) fun a67 H p w =>
 dn 11 2047 b56 H p w (.val a67) fun a68 H p w =>
 jO p H fun H =>
 qkq call g32 a68 x49 H) (
 qkq call g32 bY x49 H)
def q92:=cst qqt
theorem qny:q92=qqt:=jM _
def qx3(tX:AV->Hp->R1)(x4 x8 x9 x47 x48:AV)(g32:AV->AV->Hp->R1)(bY x49:AV)(H:Hp):R1 :=
 vq (aB (aK .lss).f x49 x48) H fun a33 H =>
 cd a33 (
 q92 call g32 x4 x8 x9 bY x47 x49 H) (
 tX bY H)
def qib(tX:AV->Hp->R1)(x4 x8 x9 x47 x48:AV)(n:Nat):AV->AV->Hp->R1 :=
 Nat.rec (motive:=fun _=>AV->AV->Hp->R1) (fun _ _ _=> .bad) (fun _ ih=>qx3 call tX x4 x8 x9 x47 x48 ih) n
def q96(tX:AV->Hp->R1)(x4 x8 x9 x47 x48:AV):AV->AV->Hp->R1:=qib call tX x4 x8 x9 x47 x48 dM
def q91(g11:AV->Hp->R1)(x1 x4 x8 x39 q8:AV)(H:Hp):R1 :=
 vq (aL 1 x39 q8) H fun bV H =>
 vq (aH H bV) H fun a16 H =>
 vq (aO 1 x1) H fun a29 H =>
 vq (aH H a29) H fun a30 H =>
 vq (aG a30) H fun a31 H =>
 q96 call (fun bY H=>qqu call g11 x8 a16 bY q8 H) x4 x8 q8 a30 a31 (.aA) (iN 0) H
def qkr(kW:Hp->R1)(x1 x4 x8 x39 x40:AV)(g11:AV->Hp->R1)(q8:AV)(H:Hp):R1 :=
 vq (aB (aK .lss).f q8 x40) H fun a12 H =>
 cd a12 (
 q91 call g11 x1 x4 x8 x39 q8 H) (
 kW H)
def qic(kW:Hp->R1)(x1 x4 x8 x39 x40:AV)(n:Nat):AV->Hp->R1 :=
 Nat.rec (motive:=fun _=>AV->Hp->R1) (fun _ _=> .bad) (fun _ ih=>qkr call kW x1 x4 x8 x39 x40 ih) n
def qx5(kW:Hp->R1)(x1 x4 x8 x39 x40:AV):AV->Hp->R1:=qic call kW x1 x4 x8 x39 x40 dM
def qjo(x1 x4 x8:AV)(H:Hp):R1 :=
 vq (aO 0 x4) H fun a8 H =>
 vq (aH H a8) H fun a9 H =>
 vq (aG a9) H fun bQ H =>
 qx5 call (fun H=>q02 call x8 H) x1 x4 x8 a9 bQ (iN 0) H
def qx1:=cst qjo
theorem qid:qx1=qjo:=jM _
def qqs(x1 x4:AV)(H:Hp):R1 :=
 vq (aO 0 x1) H fun a72 H =>
 vq (aH H a72) H fun a73 H =>
 vq (aB (aK .gtr).f a73 (iN 0)) H fun a74 H =>
 cd a74 (
 vq (aO 0 x1) H fun a75 H =>
 vq (aH H a75) H fun a76 H =>
 vq (qe7 [iN 0] 8 H.nx a76 a76) H fun a77 H =>
 qx1 call x1 x4 a77 H) (
 qx1 call x1 x4 (.aA) H)
def q90:=cst qqs
theorem qnx:q90=qqs:=jM _
def qqr(x1 x4:AV)(H:Hp):R1 :=
 vq (aX 2 H x1) H fun a79 H =>
 ve (call (.f 53) [a79] H) fun a80 H =>
 vq (bK 0 a80) H fun a81 H =>
 vq (bK 1 a80) H fun a82 H =>
 vq (aG a81) H fun a83 H =>
 vq (aB (aK .gtr).f a83 (iN 0)) H fun a84 H =>
 cd a84 (
 .ok (.aZ [(.aA),(iN 12)]) H) (
 q90 call x1 x4 H)
def q9z:=cst qqr
theorem qnw:q9z=qqr:=jM _
def zrs(x0:AV)(H:Hp):R1 :=
 vq (bM 2 H.nx x0) H fun a0 H =>
 vq (aX 2 H a0) H fun a1 H =>
 ve (call (.f 48) [a1] H) fun a2 H =>
 vq (bK 0 a2) H fun a3 H =>
 vq (bK 1 a2) H fun a4 H =>
 vq (.new (.ptr H.nx 0) (aD 0 [.aA,.aA])) H fun a5 H =>
 ve (dX 2 H a5 a3) fun _ H =>
 vq (aB (aK .neq).f a4 (iN 0)) H fun a86 H =>
 cd a86 (
 .ok (.aZ [(.aA),a4]) H) (
 q9z call a0 a5 H)
def zAu(x0:AV)(H:Hp):R1:=zrs call x0 H
def q9y(call:Ev.Call)(x1 x8:AV)(H:Hp):R1 :=
 vl (aV x8) fun a3 =>
 vl (aO 4 a3) fun a4 =>
 vl (aH H a4) fun a5 =>
 vl (aL 1 a5 x1) fun a6 =>
 vl (aH H a6) fun a7 =>
 vl (aV x8) fun a8 =>
 vl (aO 3 a8) fun a9 =>
 vl (aH H a9) fun bQ =>
 vl (aL 1 bQ x1) fun bN =>
 vl (aH H bN) fun a12 =>
 vl (aV a12) fun bR =>
 vl (aO 0 bR) fun cB =>
 vl (aH H cB) fun bV =>
 .ok (.aZ [a7,bV,(iN 0)]) H
def q9x(x1 x2:AV)(H:Hp):R1 :=
 vq (aX 1 H x2) H fun a1 H =>
 ve (call (.f 61) [a1] H) fun a2 H =>
 vq (aB (aK .lss).f x1 (iN 0)) H fun a17 H =>
 vg (aP false a17) (.val x1) H fun cZ H =>
 vg (aP false a17) (.val a2) H fun dJ H =>
 vg (aP false a17) (aV dJ) H fun a20 H =>
 vg (aP false a17) (aO 3 a20) H fun a21 H =>
 vg (aP false a17) (aH H a21) H fun a22 H =>
 vg (aP false a17) (aG a22) H fun a23 H =>
 vg (aP false a17) (aB (aK .geq).f cZ a23) H fun a24 H =>
 vq (fI a17 (.bool true) a24) H fun a25 H =>
 cd a25 (
 .ok (.aZ [(.str 0 0),(.str 0 0),(iN 4)]) H) (
 q9y call x1 a2 H)
def zrr(x0 x1:AV)(H:Hp):R1 :=
 vq (bM 1 H.nx x0) H fun a0 H =>
 vq (aX 1 H a0) H fun a27 H =>
 ve (call (.f 40) [a27] H) fun a28 H =>
 vq (aB (aK .neq).f a28 (iN 0)) H fun a29 H =>
 cd a29 (
 .ok (.aZ [(.str 0 0),(.str 0 0),a28]) H) (
 q9x call x1 a0 H)
def zAv(x0 x1:AV)(H:Hp):R1:=zrr call x0 x1 H
def zrq(call:Ev.Call)(x0 x1:AV)(H:Hp):R1 :=
 vq (aV x0) H fun a0 H =>
 vq (aO 2 a0) H fun a1 H =>
 ve (eY H a1 x1) fun _ H =>
 .ok (.aZ []) H
def zAw(x0 x1:AV)(H:Hp):R1:=zrq call x0 x1 H
def zrp(call:Ev.Call)(x0:AV)(H:Hp):R1 :=
 vq (.new (.ptr H.nx 0) (aD 0 [iN 0,.aA])) H fun a0 H =>
 vq (aB (aK .mul).f x0 x0) H fun a1 H =>
 vq (qe7 [iN 0] 8 H.nx a1 a1) H fun a2 H =>
 vq (dH (dD [iN 0,.aA] [(0,1,x0),(1,1,a2)])) H fun a3 H =>
 ve (dX 2 H a0 a3) fun _ H =>
 eG (rV (aX 2 H a0)) H
def zAx(x0:AV)(H:Hp):R1:=zrp call x0 H
def q00(call:Ev.Call)(x6:AV)(H:Hp):R1 :=
 vq (dH (dD [.str 0 0,.aA,.int .u8 (.ofNat 0),.str 0 0,.str 0 0,.aA] [])) H fun a4 H =>
 ve (dX 6 H x6 a4) fun _ H =>
 eG (jC (iY (rV (aX 6 H x6)) (iY (some (.bool false)) (some [])))) H
def zok(call:Ev.Call)(g7:AV->Hp->R1)(x9:AV)(H:Hp):R1 :=
 vq (aB (aK .add).f x9 (iN 1)) H fun a8 H =>
 g7 a8 H
def q9w(wU:AV->Hp->R1)(g7:AV->Hp->R1)(x2 x3 x6 x8 x9:AV)(H:Hp):R1 :=
 vq (aO 0 x3) H fun bQ H =>
 vq (aH H bQ) H fun bN H =>
 vq (aL 2 bN x8) H fun a12 H =>
 vq (aO 1 a12) H fun bR H =>
 vq (aH H bR) H fun cB H =>
 vq (aL 6 cB x9) H fun bV H =>
 vq (aO 0 bV) H fun a16 H =>
 vq (aH H a16) H fun a17 H =>
 vq (gY (oI .eql).f a17 x2) H fun cZ H =>
 cd cZ (
 vq (aO 0 x3) H fun dJ H =>
 vq (aH H dJ) H fun a20 H =>
 vq (aL 2 a20 x8) H fun a21 H =>
 vq (aO 1 a21) H fun a22 H =>
 vq (aH H a22) H fun a23 H =>
 vq (aL 6 a23 x9) H fun a24 H =>
 vq (aX 6 H a24) H fun a25 H =>
 ve (dX 6 H x6 a25) fun _ H =>
 wU (.bool true) H) (
 zok call g7 x9 H)
def qty(wU:AV->Hp->R1)(pP:Hp->R1)(x2 x3 x6 x8:AV)(g7:AV->Hp->R1)(x9:AV)(H:Hp):R1 :=
 vq (aB (aK .geq).f x8 (iN 0)) H fun a28 H =>
 vg (aP true a28) (.val x9) H fun a29 H =>
 vg (aP true a28) (aO 0 x3) H fun a30 H =>
 vg (aP true a28) (aH H a30) H fun a31 H =>
 vg (aP true a28) (.val x8) H fun a32 H =>
 vg (aP true a28) (aL 2 a31 a32) H fun a33 H =>
 vg (aP true a28) (aO 1 a33) H fun a34 H =>
 vg (aP true a28) (aH H a34) H fun a35 H =>
 vg (aP true a28) (aG a35) H fun a36 H =>
 vg (aP true a28) (aB (aK .lss).f a29 a36) H fun a37 H =>
 vq (fI a28 a37 (.bool false)) H fun a38 H =>
 cd a38 (
 q9w call wU g7 x2 x3 x6 x8 x9 H) (
 pP H)
def qtx(wU:AV->Hp->R1)(pP:Hp->R1)(x2 x3 x6 x8:AV)(n:Nat):AV->Hp->R1 :=
 Nat.rec (motive:=fun _=>AV->Hp->R1) (fun _ _=> .bad) (fun _ ih=>qty call wU pP x2 x3 x6 x8 ih) n
def zol(wU:AV->Hp->R1)(pP:Hp->R1)(x2 x3 x6 x8:AV):AV->Hp->R1:=qtx call wU pP x2 x3 x6 x8 dM
def zro(x0 x1 x2:AV)(H:Hp):R1 :=
 vq (bM 1 H.nx x0) H fun a0 H =>
 vq (.new (.ptr H.nx 0) (aD 0 [.str 0 0,.aA,.int .u8 (.ofNat 0),.str 0 0,.str 0 0,.aA])) H fun a1 H =>
 vq (aX 1 H a0) H fun a2 H =>
 ve (call (.f 46) [a2,x1] H) fun a3 H =>
 zol call (fun x7 H=>eG (jC (iY (rV (aX 6 H a1)) (iY (some x7) (some [])))) H) (fun H=>q00 call a1 H) x2 a0 a1 a3 (iN 0) H
def zAy(x0 x1 x2:AV)(H:Hp):R1:=zro call x0 x1 x2 H
def qqp(call:Ev.Call)(x0 x7 x8:AV)(H:Hp):R1 :=
 vq (aL 5 x0 x7) H fun bN H =>
 vq (aO 3 bN) H fun a12 H =>
 ve (eY H a12 x8) fun _ H =>
 .ok x0 H
def qqo(call:Ev.Call)(g15:AV->AV->AV->Hp->R1)(x0 x8 x9:AV)(H:Hp):R1 :=
 vq (aB (aK .add).f x9 (iN 1)) H fun a16 H =>
 g15 x0 x8 a16 H
def qxz(g15:AV->AV->AV->Hp->R1)(x0 x2 x4 x8 x9:AV)(H:Hp):R1 :=
 vq (aG x0) H fun cZ H =>
 vq (jL 1 H.nx (dD (bB [iN 0] 1) [(0,1,cZ)])) H fun dJ H =>
 ve (iJ 1 8 H x8 (jY 1 H dJ)) fun a20 H =>
 dz 0 H fun kG H =>
 dn 0 0 kG H [] [] (.val x0) fun a22 H p w =>
 dn 1 0 kG H p w (aO 3 x4) fun a23 H p w =>
 dl 2 2 kG H p w (fun H=>aH H a23) fun a24 H p w =>
 dn 3 0 kG H p w (.val x9) fun a25 H p w =>
 dn 4 14 kG H p w (aL 4 a24 a25) fun a26 H p w =>
 dl 5 30 kG H p w (fun H=>aX 4 H a26) fun a27 H p w =>
 dn 6 0 kG H p w (.val x2) fun a28 H p w =>
 dn 7 64 kG H p w (.val a28) fun a29 H p w =>
 dq false false 8 192 (kG+8) H p w (fun _=>aO 0 x4) (aP false a29) fun a30 H p w =>
 dq true false 9 448 (kG+9) H p w (fun H=>aH H a30) (aP false a29) fun a31 H p w =>
 dq false false 10 960 (kG+10) H p w (fun _=>aB (aK .eql).f a31 (.int .u8 (.ofNat 6))) (aP false a29) fun a32 H p w =>
 dq false false 11 1984 (kG+11) H p w (fun _=> .val a32) (aP false a29) fun a33 H p w =>
 dq false false 12 4032 (kG+12) H p w (fun _=> .val x9) (aP true a33) fun a34 H p w =>
 dq false false 13 8128 (kG+13) H p w (fun _=>aB (aK .eql).f a34 (iN 1)) (aP true a33) fun a35 H p w =>
 dq false false 14 16320 (kG+14) H p w (fun _=>fI a33 a35 (.bool false)) (aP false a29) fun a36 H p w =>
 dn 15 32704 kG H p w (fI a29 (.bool true) a36) fun a37 H p w =>
 de 65535 H p w (call (.f 35) [a22,a27,a37] (bO 65535 p H)) (some true) fun a38 H p w =>
 dn 17 131071 kG H p w (.val a38) fun a39 H p w =>
 jO p H fun H =>
 qqo call g15 a39 a20 x9 H
def qia(tQ:AV->AV->Hp->R1)(x2 x4:AV)(g15:AV->AV->AV->Hp->R1)(x0 x8 x9:AV)(H:Hp):R1 :=
 vq (aO 3 x4) H fun a41 H =>
 vq (aH H a41) H fun a42 H =>
 vq (aG a42) H fun a43 H =>
 vq (aB (aK .lss).f x9 a43) H fun a44 H =>
 cd a44 (
 qxz call g15 x0 x2 x4 x8 x9 H) (
 tQ x0 x8 H)
def qqn(tQ:AV->AV->Hp->R1)(x2 x4:AV)(n:Nat):AV->AV->AV->Hp->R1 :=
 Nat.rec (motive:=fun _=>AV->AV->AV->Hp->R1) (fun _ _ _ _=> .bad) (fun _ ih=>qia call tQ x2 x4 ih) n
def qx0(tQ:AV->AV->Hp->R1)(x2 x4:AV):AV->AV->AV->Hp->R1:=qqn call tQ x2 x4 dM
def zi6(x0 x1 x2:AV)(H:Hp):R1 :=
 vq (bM 4 H.nx x1) H fun a0 H =>
 vq (aG x0) H fun a1 H =>
 vq (aO 0 a0) H fun a2 H =>
 vq (aH H a2) H fun a3 H =>
 vq (aO 1 a0) H fun a4 H =>
 vq (aH H a4) H fun a5 H =>
 vq (aO 2 a0) H fun a6 H =>
 vq (aH H a6) H fun a7 H =>
 vq (dH (dD [.int .u8 (.ofNat 0),.str 0 0,.str 0 0,.aA,.bool false] [(0,1,a3),(1,1,a5),(2,1,a7),(4,1,x2)])) H fun a8 H =>
 vq (jL 1 H.nx (dD (bB [.int .u8 (.ofNat 0),.str 0 0,.str 0 0,.aA,.bool false] 1) [(0,5,a8)])) H fun a9 H =>
 ve (iJ 5 72 H x0 (jY 5 H a9)) fun bQ H =>
 qx0 call (fun x0 x8 H=>qqp call x0 a1 x8 H) x2 a0 bQ (.aA) (iN 0) H
def zAz(x0 x1 x2:AV)(H:Hp):R1:=zi6 call x0 x1 x2 H
def qqm(call:Ev.Call)(x1 x2 x4 x8:AV)(H:Hp):R1 :=
 vq (aO 1 x4) H fun a1 H =>
 vq (aH H a1) H fun a2 H =>
 vq (aO 0 x4) H fun a3 H =>
 vq (aH H a3) H fun a4 H =>
 vq (aB (aK .mul).f x1 a4) H fun a5 H =>
 vq (aB (aK .add).f a5 x2) H fun a6 H =>
 vq (aL 1 a2 a6) H fun a7 H =>
 vq (aH H a7) H fun a8 H =>
 vq (aB (aK .quo).f a8 x8) H fun a9 H =>
 vq (aB (aK .rem).f a9 (iN 2)) H fun bQ H =>
 vq (aB (aK .eql).f bQ (iN 0)) H fun bN H =>
 cd bN (
 vq (aO 1 x4) H fun a12 H =>
 vq (aH H a12) H fun bR H =>
 vq (aO 0 x4) H fun cB H =>
 vq (aH H cB) H fun bV H =>
 vq (aB (aK .mul).f x1 bV) H fun a16 H =>
 vq (aB (aK .add).f a16 x2) H fun a17 H =>
 vq (aL 1 bR a17) H fun cZ H =>
 vq (aH H cZ) H fun dJ H =>
 vq (aB (aK .add).f dJ x8) H fun a20 H =>
 vq (aL 1 bR a17) H fun a21 H =>
 ve (eY H a21 a20) fun _ H =>
 .ok (.aZ []) H) (
 .ok (.aZ []) H)
def zrn(x0 x1 x2 x3:AV)(H:Hp):R1 :=
 vq (bM 2 H.nx x0) H fun a0 H =>
 cd x3 (
 qqm call x1 x2 a0 (iN 2) H) (
 qqm call x1 x2 a0 (iN 1) H)
def zBa(x0 x1 x2 x3:AV)(H:Hp):R1:=zrn call x0 x1 x2 x3 H
def q9s(call:Ev.Call)(x9:AV)(H:Hp):R1 :=
 .ok x9 H
def qh9(call:Ev.Call)(g8:AV->AV->Hp->R1)(x9 bI:AV)(H:Hp):R1 :=
 vq (aB (aK .add).f bI (iN 1)) H fun a9 H =>
 g8 x9 a9 H
def qql(g8:AV->AV->Hp->R1)(x3 x4 x9 x10 bI:AV)(H:Hp):R1 :=
 dz 15 H fun b11 H =>
 dl 0 0 b11 H [] [] (fun H=>aX 1 H x4) fun a12 H p w =>
 dn 1 0 b11 H p w (aO 1 x10) fun bR H p w =>
 dl 2 2 b11 H p w (fun H=>aH H bR) fun cB H p w =>
 dn 3 0 b11 H p w (.val bI) fun bV H p w =>
 dn 4 14 b11 H p w (aL 2 cB bV) fun a16 H p w =>
 dn 5 30 b11 H p w (aO 0 a16) fun a17 H p w =>
 dl 6 62 b11 H p w (fun H=>aH H a17) fun cZ H p w =>
 dn 7 0 b11 H p w (.val x3) fun dJ H p w =>
 da 12 0 b11 H p w (.new (.ptr (b11+12) 0) (aD 0 [.str 0 0,.aA,.int .u8 (.ofNat 0),.str 0 0,.str 0 0,.aA])) fun a20 H p w =>
 de 255 H p w (call (.f 34) [a12,cZ,dJ] (bO 255 p H)) (some true) fun a21 H p w =>
 dn 9 511 b11 H p w (.val a21) fun a22 H p w =>
 dn 10 1023 b11 H p w (bK 0 a22) fun a23 H p w =>
 dn 11 1023 b11 H p w (bK 1 a22) fun a24 H p w =>
 de 6143 H p w (dX 6 (bO 6143 p H) a20 a23) (some true) fun _ H p w =>
 dn 14 16383 b11 H p w (.val a24) fun a26 H p w =>
 jO p H fun H =>
 vq (aO 1 x10) H fun a27 H =>
 vq (aH H a27) H fun a28 H =>
 vq (aL 2 a28 bI) H fun a29 H =>
 vq (aO 1 a29) H fun a30 H =>
 vq (aH H a30) H fun a31 H =>
 vq (gY (oI .eql).f a31 (.str 0 0)) H fun a32 H =>
 vg (aP true a32) (.val a26) H fun a33 H =>
 vq (fI a32 a33 (.bool false)) H fun a34 H =>
 cd a34 (
 vq (aO 1 x10) H fun a35 H =>
 vq (aH H a35) H fun a36 H =>
 vq (aL 2 a36 bI) H fun a37 H =>
 vq (aO 0 a37) H fun a38 H =>
 vq (aH H a38) H fun a39 H =>
 vq (jL 1 H.nx (dD (bB [.str 0 0] 1) [(0,1,a39)])) H fun a40 H =>
 ve (iJ 1 16 H x9 (jY 1 H a40)) fun a41 H =>
 qh9 call g8 a41 bI H) (
 qh9 call g8 x9 bI H)
def q9t:=cst qql
theorem qnv:q9t=qql:=jM _
def q9u(oV:AV->Hp->R1)(x3 x4 x10:AV)(g8:AV->AV->Hp->R1)(x9 bI:AV)(H:Hp):R1 :=
 vq (aO 1 x10) H fun a43 H =>
 vq (aH H a43) H fun a44 H =>
 vq (aG a44) H fun a45 H =>
 vq (aB (aK .lss).f bI a45) H fun a46 H =>
 cd a46 (
 q9t call g8 x3 x4 x9 x10 bI H) (
 oV x9 H)
def qkp(oV:AV->Hp->R1)(x3 x4 x10:AV)(n:Nat):AV->AV->Hp->R1 :=
 Nat.rec (motive:=fun _=>AV->AV->Hp->R1) (fun _ _ _=> .bad) (fun _ ih=>q9u call oV x3 x4 x10 ih) n
def q9v(oV:AV->Hp->R1)(x3 x4 x10:AV):AV->AV->Hp->R1:=qkp call oV x3 x4 x10 dM
def zrm(x0 x1 x2 x3:AV)(H:Hp):R1 :=
 vq (bM 1 H.nx x0) H fun a0 H =>
 vq (aX 1 H a0) H fun a1 H =>
 ve (call (.f 34) [a1,x1,x2] H) fun a2 H =>
 vq (bK 0 a2) H fun a3 H =>
 vq (bK 1 a2) H fun a4 H =>
 vq (.new (.ptr H.nx 0) (aD 0 [.str 0 0,.aA,.int .u8 (.ofNat 0),.str 0 0,.str 0 0,.aA])) H fun a5 H =>
 ve (dX 6 H a5 a3) fun _ H =>
 q9v call (fun x9 H=>q9s call x9 H) x3 a0 a5 (.aA) (iN 0) H
def zBb(x0 x1 x2 x3:AV)(H:Hp):R1:=zrm call x0 x1 x2 x3 H
def zoi(call:Ev.Call)(x3:AV)(H:Hp):R1 :=
 .ok x3 H
def zoh(call:Ev.Call)(g2:AV->AV->Hp->R1)(x3 x8:AV)(H:Hp):R1 :=
 vq (aB (aK .add).f x8 (iN 1)) H fun a4 H =>
 g2 x3 a4 H
def zog(g2:AV->AV->Hp->R1)(x3 x6 x8:AV)(H:Hp):R1 :=
 vq (aL 1 x6 x8) H fun a6 H =>
 vq (aH H a6) H fun a7 H =>
 vq (nW mY x3 [a7]) H fun a8 H =>
 zoh call g2 a8 x8 H
def q9q(bL:AV->Hp->R1)(x6 x7:AV)(g2:AV->AV->Hp->R1)(x3 x8:AV)(H:Hp):R1 :=
 vq (aB (aK .lss).f x8 x7) H fun a3 H =>
 cd a3 (
 zog call g2 x3 x6 x8 H) (
 bL x3 H)
def q0y(bL:AV->Hp->R1)(x6 x7:AV)(n:Nat):AV->AV->Hp->R1 :=
 Nat.rec (motive:=fun _=>AV->AV->Hp->R1) (fun _ _ _=> .bad) (fun _ ih=>q9q call bL x6 x7 ih) n
def zoj(bL:AV->Hp->R1)(x6 x7:AV):AV->AV->Hp->R1:=q0y call bL x6 x7 dM
def zrl(x0:AV)(H:Hp):R1 :=
 vq (aG x0) H fun a1 H =>
 zoj call (fun x3 H=>zoi call x3 H) x0 a1 (iN 0) (iN 0) H
def zBc(x0:AV)(H:Hp):R1:=zrl call x0 H
def zi1(call:Ev.Call)(x0:AV)(H:Hp):R1 :=
 vq (aG x0) H fun a0 H =>
 vq (aG x0) H fun a1 H =>
 vq (lH 1 x0 none (some a0) (some a1)) H fun a2 H =>
 .ok a2 H
def zBd(x0:AV)(H:Hp):R1:=zi1 call x0 H
def zof(call:Ev.Call)(x2:AV)(H:Hp):R1 :=
 vq (dH (dD [.int .u8 (.ofNat 0),.str 0 0,.str 0 0,.aA] [(0,1,(.int .u8 (.ofNat 1)))])) H fun a1 H =>
 ve (dX 4 H x2 a1) fun _ H =>
 eG (rV (aX 4 H x2)) H
def zrk(x0:AV)(H:Hp):R1 :=
 vq (.new (.ptr H.nx 0) (aD 0 [.int .u8 (.ofNat 0),.str 0 0,.str 0 0,.aA])) H fun a0 H =>
 cd x0 (
 vq (dH (dD [.int .u8 (.ofNat 0),.str 0 0,.str 0 0,.aA] [(0,1,(.int .u8 (.ofNat 2))),(1,1,(.str 2 12402))])) H fun a4 H =>
 ve (dX 4 H a0 a4) fun _ H =>
 eG (rV (aX 4 H a0)) H) (
 zof call a0 H)
def zBe(x0:AV)(H:Hp):R1:=zrk call x0 H
def q9o(call:Ev.Call)(x2 x8 x9:AV)(H:Hp):R1 :=
 vq (qz0 .i64 x2) H fun a2 H =>
 vq (aG x9) H fun a3 H =>
 vq (aB (aK .rem).f a2 a3) H fun a4 H =>
 vq (aL 1 x9 a4) H fun a5 H =>
 vq (aH H a5) H fun a6 H =>
 vq (dH (dD [.int .u8 (.ofNat 0),.str 0 0,.str 0 0,.aA] [(0,1,(.int .u8 (.ofNat 2))),(1,1,a6)])) H fun a7 H =>
 ve (dX 4 H x8 a7) fun _ H =>
 eG (rV (aX 4 H x8)) H
def qqk(call:Ev.Call)(g12:AV->AV->Hp->R1)(x9 x10:AV)(H:Hp):R1 :=
 vq (aB (aK .add).f x10 (iN 1)) H fun bR H =>
 g12 x9 bR H
def zri(g12:AV->AV->Hp->R1)(x1 x3 x9 x10:AV)(H:Hp):R1 :=
 ve (call (.f 89) [x1,x10,x3] H) fun bV H =>
 cd bV (
 ve (call (.f 28) [x10] H) fun a16 H =>
 vq (jL 1 H.nx (dD (bB [.str 0 0] 1) [(0,1,a16)])) H fun a17 H =>
 ve (iJ 1 16 H x9 (jY 1 H a17)) fun cZ H =>
 qqk call g12 cZ x10 H) (
 qqk call g12 x9 x10 H)
def qxy(lC:AV->Hp->R1)(x1 x3 x4:AV)(g12:AV->AV->Hp->R1)(x9 x10:AV)(H:Hp):R1 :=
 vq (aX 1 H x4) H fun a20 H =>
 ve (call (.f 25) [a20] H) fun a21 H =>
 vq (aB (aK .lss).f x10 a21) H fun a22 H =>
 vg (aP true a22) (.val x10) H fun a23 H =>
 vg (aP true a22) (.val x1) H fun a24 H =>
 vg (aP true a22) (aB (aK .quo).f a24 (iN 4)) H fun a25 H =>
 vg (aP true a22) (aB (aK .mul).f a25 (iN 4)) H fun a26 H =>
 vg (aP true a22) (aB (aK .add).f a26 (iN 4)) H fun a27 H =>
 vg (aP true a22) (aB (aK .lss).f a23 a27) H fun a28 H =>
 vq (fI a22 a28 (.bool false)) H fun a29 H =>
 cd a29 (
 zri call g12 x1 x3 x9 x10 H) (
 lC x9 H)
def qqj(lC:AV->Hp->R1)(x1 x3 x4:AV)(n:Nat):AV->AV->Hp->R1 :=
 Nat.rec (motive:=fun _=>AV->AV->Hp->R1) (fun _ _ _=> .bad) (fun _ ih=>qxy call lC x1 x3 x4 ih) n
def q9p(lC:AV->Hp->R1)(x1 x3 x4:AV):AV->AV->Hp->R1:=qqj call lC x1 x3 x4 dM
def zrj(x0 x1 x2 x3:AV)(H:Hp):R1 :=
 vq (bM 1 H.nx x0) H fun a0 H =>
 vq (.new (.ptr H.nx 0) (aD 0 [.int .u8 (.ofNat 0),.str 0 0,.str 0 0,.aA])) H fun a1 H =>
 vq (aB (aK .quo).f x1 (iN 4)) H fun bQ H =>
 vq (aB (aK .mul).f bQ (iN 4)) H fun bN H =>
 q9p call (fun x9 H=>q9o call x2 a1 x9 H) x1 x3 a0 (.aA) bN H
def zBf(x0 x1 x2 x3:AV)(H:Hp):R1:=zrj call x0 x1 x2 x3 H
def zod(call:Ev.Call)(x2 x8 x9:AV)(H:Hp):R1 :=
 vq (qz0 .i64 x2) H fun a2 H =>
 vq (aG x9) H fun a3 H =>
 vq (aB (aK .rem).f a2 a3) H fun a4 H =>
 vq (aL 4 x9 a4) H fun a5 H =>
 vq (aX 4 H a5) H fun a6 H =>
 ve (dX 4 H x8 a6) fun _ H =>
 eG (rV (aX 4 H x8)) H
def qqi(x2 x3 x8 x9:AV)(H:Hp):R1 :=
 vq (aG x9) H fun a9 H =>
 vq (aB (aK .eql).f a9 (iN 0)) H fun bQ H =>
 cd bQ (
 ve (call (.f 56) [x3] H) fun bN H =>
 ve (dX 4 H x8 bN) fun _ H =>
 eG (rV (aX 4 H x8)) H) (
 zod call x2 x8 x9 H)
def qxu(call:Ev.Call)(g16:AV->AV->Hp->R1)(x9 x10:AV)(H:Hp):R1 :=
 vq (aB (aK .add).f x10 (iN 1)) H fun a17 H =>
 g16 x9 a17 H
def qxt(call:Ev.Call)(g21:AV->AV->Hp->R1)(x9 bI:AV)(H:Hp):R1 :=
 vq (aB (aK .add).f bI (iN 1)) H fun a22 H =>
 g21 x9 a22 H
def qh8(call:Ev.Call)(g24:AV->AV->Hp->R1)(x9 dV:AV)(H:Hp):R1 :=
 vq (aB (aK .add).f dV (iN 1)) H fun a25 H =>
 g24 x9 a25 H
def q9k(g24:AV->AV->Hp->R1)(x1 x3 x9 x10 bY bI dV:AV)(H:Hp):R1 :=
 dz 0 H fun jU H =>
 dn 0 0 jU H [] [] (.val bY) fun a28 H p w =>
 dn 1 0 jU H p w (.val bI) fun a29 H p w =>
 dn 2 3 jU H p w (aL 2 a28 a29) fun a30 H p w =>
 dn 3 7 jU H p w (aO 1 a30) fun a31 H p w =>
 dl 4 15 jU H p w (fun H=>aH H a31) fun a32 H p w =>
 dn 5 31 jU H p w (gY (oI .eql).f a32 (.str 0 0)) fun a33 H p w =>
 dn 6 63 jU H p w (.val a33) fun a34 H p w =>
 dq false false 7 127 (jU+7) H p w (fun _=> .val bY) (aP true a34) fun a35 H p w =>
 dq false false 8 127 (jU+8) H p w (fun _=> .val bI) (aP true a34) fun a36 H p w =>
 dq false false 9 511 (jU+9) H p w (fun _=>aL 2 a35 a36) (aP true a34) fun a37 H p w =>
 dq false false 10 1023 (jU+10) H p w (fun _=>aO 0 a37) (aP true a34) fun a38 H p w =>
 dq true false 11 2047 (jU+11) H p w (fun H=>aH H a38) (aP true a34) fun a39 H p w =>
 dq false false 12 127 (jU+12) H p w (fun _=> .val dV) (aP true a34) fun a40 H p w =>
 dq false false 13 4223 (jU+13) H p w (fun _=>aB (aK .quo).f a40 (iN 4)) (aP true a34) fun a41 H p w =>
 de 12415 H p w (call (.f 26) [a41] (bO 12415 p H)) (aP true a34) fun a42 H p w =>
 dq false false 15 32767 (jU+15) H p w (fun _=>gY (oI .eql).f a39 a42) (aP true a34) fun a43 H p w =>
 dn 16 65535 jU H p w (fI a34 a43 (.bool false)) fun a44 H p w =>
 dn 17 131071 jU H p w (.val a44) fun a45 H p w =>
 dq false false 18 262143 (jU+18) H p w (fun _=> .val x1) (aP true a45) fun a46 H p w =>
 dq false false 19 262143 (jU+19) H p w (fun _=> .val dV) (aP true a45) fun a47 H p w =>
 dq false false 20 262143 (jU+20) H p w (fun _=> .val x3) (aP true a45) fun a48 H p w =>
 de 2097151 H p w (call (.f 89) [a46,a47,a48] (bO 2097151 p H)) (aP true a45) fun a49 H p w =>
 dn 22 4194303 jU H p w (fI a45 a49 (.bool false)) fun a50 H p w =>
 jO p H fun H =>
 cd a50 (
 ve (call (.f 28) [x10] H) fun a51 H =>
 ve (call (.f 28) [dV] H) fun a52 H =>
 vq (dH (dD [.int .u8 (.ofNat 0),.str 0 0,.str 0 0,.aA] [(0,1,(.int .u8 (.ofNat 3))),(1,1,a51),(2,1,a52)])) H fun a53 H =>
 vq (jL 1 H.nx (dD (bB [.int .u8 (.ofNat 0),.str 0 0,.str 0 0,.aA] 1) [(0,4,a53)])) H fun a54 H =>
 ve (iJ 4 64 H x9 (jY 4 H a54)) fun a55 H =>
 qh8 call g24 a55 dV H) (
 qh8 call g24 x9 dV H)
def qxv(tN:AV->Hp->R1)(x1 x3 x4 x10 bY bI:AV)(g24:AV->AV->Hp->R1)(x9 dV:AV)(H:Hp):R1 :=
 vq (aX 1 H x4) H fun a57 H =>
 ve (call (.f 25) [a57] H) fun a58 H =>
 vq (aB (aK .lss).f dV a58) H fun a59 H =>
 cd a59 (
 q9k call g24 x1 x3 x9 x10 bY bI dV H) (
 tN x9 H)
def qqh(tN:AV->Hp->R1)(x1 x3 x4 x10 bY bI:AV)(n:Nat):AV->AV->Hp->R1 :=
 Nat.rec (motive:=fun _=>AV->AV->Hp->R1) (fun _ _ _=> .bad) (fun _ ih=>qxv call tN x1 x3 x4 x10 bY bI ih) n
def q9l(tN:AV->Hp->R1)(x1 x3 x4 x10 bY bI:AV):AV->AV->Hp->R1:=qqh call tN x1 x3 x4 x10 bY bI dM
def q9j(g21:AV->AV->Hp->R1)(x1 x3 x4 x9 x10 bY bI:AV)(H:Hp):R1 :=
 q9l call (fun x9 H=>qxt call g21 x9 bI H) x1 x3 x4 x10 bY bI x9 (iN 0) H
def qxw(tF:AV->Hp->R1)(x1 x3 x4 x10 bY:AV)(g21:AV->AV->Hp->R1)(x9 bI:AV)(H:Hp):R1 :=
 vq (aG bY) H fun a61 H =>
 vq (aB (aK .lss).f bI a61) H fun a62 H =>
 cd a62 (
 q9j call g21 x1 x3 x4 x9 x10 bY bI H) (
 tF x9 H)
def qkn(tF:AV->Hp->R1)(x1 x3 x4 x10 bY:AV)(n:Nat):AV->AV->Hp->R1 :=
 Nat.rec (motive:=fun _=>AV->AV->Hp->R1) (fun _ _ _=> .bad) (fun _ ih=>qxw call tF x1 x3 x4 x10 bY ih) n
def q9m(tF:AV->Hp->R1)(x1 x3 x4 x10 bY:AV):AV->AV->Hp->R1:=qkn call tF x1 x3 x4 x10 bY dM
def q9i(g16:AV->AV->Hp->R1)(x1 x3 x4 x9 x10:AV)(H:Hp):R1 :=
 vq (aX 1 H x4) H fun dJ H =>
 ve (call (.f 29) [dJ,x10] H) fun a20 H =>
 q9m call (fun x9 H=>qxu call g16 x9 x10 H) x1 x3 x4 x10 a20 x9 (iN 0) H
def qxx(uS:AV->Hp->R1)(x1 x3 x4:AV)(g16:AV->AV->Hp->R1)(x9 x10:AV)(H:Hp):R1 :=
 vq (aX 1 H x4) H fun a64 H =>
 ve (call (.f 25) [a64] H) fun a65 H =>
 vq (aB (aK .lss).f x10 a65) H fun a66 H =>
 vg (aP true a66) (.val x10) H fun a67 H =>
 vg (aP true a66) (.val x1) H fun a68 H =>
 vg (aP true a66) (aB (aK .quo).f a68 (iN 4)) H fun a69 H =>
 vg (aP true a66) (aB (aK .mul).f a69 (iN 4)) H fun a70 H =>
 vg (aP true a66) (aB (aK .add).f a70 (iN 4)) H fun a71 H =>
 vg (aP true a66) (aB (aK .lss).f a67 a71) H fun a72 H =>
 vq (fI a66 a72 (.bool false)) H fun a73 H =>
 cd a73 (
 q9i call g16 x1 x3 x4 x9 x10 H) (
 uS x9 H)
def qko(uS:AV->Hp->R1)(x1 x3 x4:AV)(n:Nat):AV->AV->Hp->R1 :=
 Nat.rec (motive:=fun _=>AV->AV->Hp->R1) (fun _ _ _=> .bad) (fun _ ih=>qxx call uS x1 x3 x4 ih) n
def q9n(uS:AV->Hp->R1)(x1 x3 x4:AV):AV->AV->Hp->R1:=qko call uS x1 x3 x4 dM
def zrh(x0 x1 x2 x3:AV)(H:Hp):R1 :=
 vq (bM 1 H.nx x0) H fun a0 H =>
 vq (.new (.ptr H.nx 0) (aD 0 [.int .u8 (.ofNat 0),.str 0 0,.str 0 0,.aA])) H fun a1 H =>
 vq (aB (aK .quo).f x1 (iN 4)) H fun cB H =>
 vq (aB (aK .mul).f cB (iN 4)) H fun bV H =>
 q9n call (fun x9 H=>qqi call x2 x3 a1 x9 H) x1 x3 a0 (.aA) bV H
def zBg(x0 x1 x2 x3:AV)(H:Hp):R1:=zrh call x0 x1 x2 x3 H
def zrg(call:Ev.Call)(x0:AV)(H:Hp):R1 :=
 vq (jL 4 H.nx (dD (bB [iN 0] 4) [(0,1,(iN 0)),(1,1,(iN 1)),(2,1,(iN 1)),(3,1,(iN 2))])) H fun a0 H =>
 vq (aB (aK .rem).f x0 (iN 4)) H fun a1 H =>
 vq (aL 1 a0 a1) H fun a2 H =>
 vq (aH H a2) H fun a3 H =>
 .ok a3 H
def zBh(x0:AV)(H:Hp):R1:=zrg call x0 H
def zvg(call:Ev.Call)(H:Hp):R1 :=
 .ok (.int .u8 (.ofNat 0)) H
def zrf(x0 x1 x2:AV)(H:Hp):R1 :=
 vq (bM 1 H.nx x0) H fun a0 H =>
 vq (aO 0 a0) H fun a2 H =>
 vq (aH H a2) H fun a3 H =>
 vq (aL 1 a3 x1) H fun a4 H =>
 vq (aH H a4) H fun a5 H =>
 vq (aG a5) H fun a6 H =>
 vq (aB (aK .lss).f x2 a6) H fun a7 H =>
 cd a7 (
 vq (aO 0 a0) H fun a8 H =>
 vq (aH H a8) H fun a9 H =>
 vq (aL 1 a9 x1) H fun bQ H =>
 vq (aH H bQ) H fun bN H =>
 vq (aL 1 bN x2) H fun a12 H =>
 vq (aH H a12) H fun bR H =>
 .ok bR H) (
 zvg call H)
def zBi(x0 x1 x2:AV)(H:Hp):R1:=zrf call x0 x1 x2 H
def q0x(call:Ev.Call)(H:Hp):R1 :=
 .ok (iN 0) H
def qxr(call:Ev.Call)(g7:AV->AV->Hp->R1)(x5 x28:AV)(H:Hp):R1 :=
 vq (aB (aK .add).f x28 (iN 1)) H fun a9 H =>
 g7 x5 a9 H
def q9f(call:Ev.Call)(g18:AV->AV->Hp->R1)(x5 pV:AV)(H:Hp):R1 :=
 vq (aB (aK .add).f pV (iN 1)) H fun a20 H =>
 g18 x5 a20 H
def q9e(g18:AV->AV->Hp->R1)(x5 pV:AV)(H:Hp):R1 :=
 vq (aB (aK .add).f x5 (iN 1)) H fun a22 H =>
 q9f call g18 a22 pV H
def q9d(xJ:AV->Hp->R1)(g18:AV->AV->Hp->R1)(x4 x5 x7 pV:AV)(H:Hp):R1 :=
 vq (aX 2 H x7) H fun a24 H =>
 ve (call (.f 63) [x4,a24,x5] H) fun a25 H =>
 vq (aB (aK .neq).f a25 (iN 0)) H fun a26 H =>
 cd a26 (
 xJ a25 H) (
 q9e call g18 x5 pV H)
def qxs(xJ:AV->Hp->R1)(uX:AV->Hp->R1)(x4 x7 x34:AV)(g18:AV->AV->Hp->R1)(x5 pV:AV)(H:Hp):R1 :=
 vq (aB (aK .lss).f pV x34) H fun dJ H =>
 cd dJ (
 q9d call xJ g18 x4 x5 x7 pV H) (
 uX x5 H)
def qqg(xJ:AV->Hp->R1)(uX:AV->Hp->R1)(x4 x7 x34:AV)(n:Nat):AV->AV->Hp->R1 :=
 Nat.rec (motive:=fun _=>AV->AV->Hp->R1) (fun _ _ _=> .bad) (fun _ ih=>qxs call xJ uX x4 x7 x34 ih) n
def q9h(xJ:AV->Hp->R1)(uX:AV->Hp->R1)(x4 x7 x34:AV):AV->AV->Hp->R1:=qqg call xJ uX x4 x7 x34 dM
def q9c(wU:AV->Hp->R1)(g7:AV->AV->Hp->R1)(x4 x5 x26 x28:AV)(H:Hp):R1 :=
 vq (aL 2 x26 x28) H fun bN H =>
 vq (aX 2 H bN) H fun a12 H =>
 vq (.new (.ptr H.nx 0) (aD 0 [.str 0 0,.aA])) H fun bR H =>
 ve (dX 2 H bR a12) fun _ H =>
 vq (aO 1 bR) H fun bV H =>
 vq (aH H bV) H fun a16 H =>
 vq (aG a16) H fun a17 H =>
 q9h call (fun x2 H=>wU x2 H) (fun x5 H=>qxr call g7 x5 x28 H) x4 bR a17 x5 (iN 0) H
def q9g(wU:AV->Hp->R1)(pP:Hp->R1)(x4 x26 x27:AV)(g7:AV->AV->Hp->R1)(x5 x28:AV)(H:Hp):R1 :=
 vq (aB (aK .lss).f x28 x27) H fun a8 H =>
 cd a8 (
 q9c call wU g7 x4 x5 x26 x28 H) (
 pP H)
def qtw(wU:AV->Hp->R1)(pP:Hp->R1)(x4 x26 x27:AV)(n:Nat):AV->AV->Hp->R1 :=
 Nat.rec (motive:=fun _=>AV->AV->Hp->R1) (fun _ _ _=> .bad) (fun _ ih=>q9g call wU pP x4 x26 x27 ih) n
def zoc(wU:AV->Hp->R1)(pP:Hp->R1)(x4 x26 x27:AV):AV->AV->Hp->R1:=qtw call wU pP x4 x26 x27 dM
def q9b(x1 x4:AV)(H:Hp):R1 :=
 vq (aO 0 x1) H fun a4 H =>
 vq (aH H a4) H fun a5 H =>
 vq (aG a5) H fun a6 H =>
 zoc call (fun x2 H=> .ok x2 H) (fun H=>q0x call H) x4 a5 a6 (iN 0) (iN 0) H
def q9a(x1:AV)(H:Hp):R1 :=
 vq (aX 1 H x1) H fun a1 H =>
 ve (call (.f 61) [a1] H) fun a2 H =>
 vl (aV a2) fun a30 =>
 vl (aO 1 a30) fun a31 =>
 vl (aH H a31) fun a32 =>
 vl (yG H a32) fun a33 =>
 vl (aO 0 x1) fun a34 =>
 vl (aH H a34) fun a35 =>
 vl (aG a35) fun a36 =>
 vl (aB (aK .lss).f a33 a36) fun a37 =>
 cd a37 (
 .ok (iN 7) H) (
 q9b call x1 a2 H)
def zre(x0:AV)(H:Hp):R1 :=
 vq (bM 1 H.nx x0) H fun a0 H =>
 vq (aX 1 H a0) H fun a39 H =>
 ve (call (.f 62) [a39] H) fun a40 H =>
 vq (aB (aK .neq).f a40 (iN 0)) H fun a41 H =>
 cd a41 (
 .ok a40 H) (
 q9a call a0 H)
def zBj(x0:AV)(H:Hp):R1:=zre call x0 H
def zrd(x0:AV)(H:Hp):R1 :=
 vq (bM 4 H.nx x0) H fun a0 H =>
 ve (call (.f 64) [a0] H) fun a1 H =>
 vq (bK 0 a1) H fun a2 H =>
 vq (bK 1 a1) H fun a3 H =>
 vq (bK 2 a1) H fun a4 H =>
 .ok (.aZ [a2,a4]) H
def zBk(x0:AV)(H:Hp):R1:=zrd call x0 H
def zrc(call:Ev.Call)(x0 x1 x2 x3 x4 x5 x6:AV)(H:Hp):R1 :=
 dz 21 H fun b0 H =>
 dn 0 0 b0 H [] [] (aO 1 x2) fun a1 H p w =>
 dl 1 1 b0 H p w (fun H=>aH H a1) fun a2 H p w =>
 dl 2 0 b0 H p w (fun H=>aH H x3) fun a3 H p w =>
 dn 3 0 b0 H p w (aO 0 x4) fun a4 H p w =>
 dl 4 8 b0 H p w (fun H=>aH H a4) fun a5 H p w =>
 dn 5 0 b0 H p w (aO 0 x5) fun a6 H p w =>
 dl 6 32 b0 H p w (fun H=>aH H a6) fun a7 H p w =>
 dn 7 120 b0 H p w (dH (dD [.str 0 0,.str 0 0] [(0,1,a5),(1,1,a7)])) fun a8 H p w =>
 dl 8 252 b0 H p w (fun H=>qP ⟨(⟨lT fun xs ys=>wQ p1 ⟨iB⟩ 1 xs ys 2 0⟩:E2).f,some 2⟩ (iN 0) false H a3 a8) fun a9 H p w =>
 dl 9 0 b0 H p w (fun H=>aH H x3) fun bQ H p w =>
 dn 10 0 b0 H p w (.val x0) fun bN H p w =>
 dn 11 0 b0 H p w (.val x1) fun a12 H p w =>
 dn 12 3072 b0 H p w (dH (dD [.str 0 0,.str 0 0] [(0,1,bN),(1,1,a12)])) fun bR H p w =>
 dl 13 7680 b0 H p w (fun H=>qP ⟨(⟨lT fun xs ys=>wQ p1 ⟨iB⟩ 1 xs ys 2 0⟩:E2).f,some 2⟩ (iN 0) false H bQ bR) fun cB H p w =>
 dn 14 0 b0 H p w (aO 4 x6) fun bV H p w =>
 dl 15 16384 b0 H p w (fun H=>aH H bV) fun a16 H p w =>
 dn 16 65532 b0 H p w (dH (dD [iN 0,iN 0,.bool false] [(0,1,a9),(1,1,cB),(2,1,a16)])) fun a17 H p w =>
 da 17 131068 b0 H p w (jL 1 (b0+17) (dD (bB [iN 0,iN 0,.bool false] 1) [(0,3,a17)])) fun cZ H p w =>
 de 262143 H p w (iJ 3 24 (bO 262143 p H) a2 (jY 3 (bO 262143 p H) cZ)) (some true) fun dJ H p w =>
 dn 19 524287 b0 H p w (aO 1 x2) fun a20 H p w =>
 de 1048575 H p w (eY (bO 1048575 p H) a20 dJ) (some true) fun _ H p w =>
 jO p H fun H =>
 .ok (.aZ []) H
def zBl(x0 x1 x2 x3 x4 x5 x6:AV)(H:Hp):R1:=zrc call x0 x1 x2 x3 x4 x5 x6 H
def zvf(call:Ev.Call)(bI:AV)(H:Hp):R1 :=
 .ok (.aZ [bI,(iN 0)]) H
def zve(x1 x2 x3 bY:AV)(H:Hp):R1 :=
 ve (call (.f 66) [bY,x1,x2,x3] H) fun a3 H =>
 vq (aG a3) H fun a5 H =>
 vq (aB (aK .eql).f a5 (iN 0)) H fun a6 H =>
 cd a6 (
 .ok (.aZ [(.aA),(iN 11)]) H) (
 zvf call a3 H)
def q89(x1 x2 x3 x4:AV)(H:Hp):R1 :=
 vq (aX 1 H x4) H fun a1 H =>
 ve (call (.f 61) [a1] H) fun a2 H =>
 ve (call (.f 65) [a2,x1,x2] H) fun a8 H =>
 vq (qZ false ((⟨E2.f ⟨qms⟩⟩:E2).f a8 (.bZ))) H fun a9 H =>
 cd a9 (
 .ok (.aZ [(.aA),(iN 6)]) H) (
 zve call x1 x2 x3 a2 H)
def zrb(x0 x1 x2 x3:AV)(H:Hp):R1 :=
 vq (bM 1 H.nx x0) H fun a0 H =>
 vq (aX 1 H a0) H fun bN H =>
 ve (call (.f 40) [bN] H) fun a12 H =>
 vq (aB (aK .neq).f a12 (iN 0)) H fun bR H =>
 cd bR (
 .ok (.aZ [(.aA),a12]) H) (
 q89 call x1 x2 x3 a0 H)
def zBm(x0 x1 x2 x3:AV)(H:Hp):R1:=zrb call x0 x1 x2 x3 H
def zvd(x0:AV)(H:Hp):R1 :=
 ve (call (.f 68) [x0,(.fn 67 [] [])] H) fun a0 H =>
 ve (call (.f 70) [x0] H) fun a1 H =>
 ve (call (.f 69) [a1] H) fun a2 H =>
 .ok a2 H
def zBn(x0:AV)(H:Hp):R1:=zvd call x0 H
def q86(x6:AV)(H:Hp):R1 :=
 ve (call (.f 82) [x6] H) fun a7 H =>
 ve (call (.f 83) [x6] H) fun a8 H =>
 ve (call (.f 39) [a8] H) fun a9 H =>
 .ok (.aZ [a9,(iN 0)]) H
def qkl(call:Ev.Call)(g14:AV->AV->Hp->R1)(x6 x20:AV)(H:Hp):R1 :=
 vq (aB (aK .add).f x20 (iN 1)) H fun a16 H =>
 g14 x6 a16 H
def q85(g14:AV->AV->Hp->R1)(x4 x6 x18 x20:AV)(H:Hp):R1 :=
 vq (aL 3 x18 x20) H fun cZ H =>
 vq (aX 3 H cZ) H fun dJ H =>
 vq (.new (.ptr H.nx 0) (aD 0 [iN 0,iN 0,.bool false])) H fun a20 H =>
 ve (dX 3 H a20 dJ) fun _ H =>
 vl (aO 2 a20) fun a22 =>
 vl (aH H a22) fun a23 =>
 rD (aP true a23) (aO 1 x4) fun a24 =>
 rD (aP true a23) (aH H a24) fun a25 =>
 rD (aP true a23) (aO 0 a20) fun a26 =>
 rD (aP true a23) (aH H a26) fun a27 =>
 rD (aP true a23) (aL 1 a25 a27) fun a28 =>
 rD (aP true a23) (aH H a28) fun a29 =>
 rD (aP true a23) (aO 1 x4) fun a30 =>
 rD (aP true a23) (aH H a30) fun a31 =>
 rD (aP true a23) (aO 1 a20) fun a32 =>
 rD (aP true a23) (aH H a32) fun a33 =>
 rD (aP true a23) (aL 1 a31 a33) fun a34 =>
 rD (aP true a23) (aH H a34) fun a35 =>
 rD (aP true a23) (aB (aK .eql).f a29 a35) fun a36 =>
 vl (fI a23 a36 (.bool false)) fun a37 =>
 cd a37 (
 vq (aO 1 x4) H fun a38 H =>
 vq (aH H a38) H fun a39 H =>
 vq (aO 0 a20) H fun a40 H =>
 vq (aH H a40) H fun a41 H =>
 vq (aL 1 a39 a41) H fun a42 H =>
 vq (aH H a42) H fun a43 H =>
 vq (jL 1 H.nx (dD (bB [iN 0] 1) [(0,1,a43)])) H fun a44 H =>
 ve (iJ 1 8 H x6 (jY 1 H a44)) fun a45 H =>
 qkl call g14 a45 x20 H) (
 qkl call g14 x6 x20 H)
def qxk(uR:AV->Hp->R1)(x4 x18 jP:AV)(g14:AV->AV->Hp->R1)(x6 x20:AV)(H:Hp):R1 :=
 vq (aB (aK .lss).f x20 jP) H fun bV H =>
 cd bV (
 q85 call g14 x4 x6 x18 x20 H) (
 uR x6 H)
def qqe(uR:AV->Hp->R1)(x4 x18 jP:AV)(n:Nat):AV->AV->Hp->R1 :=
 Nat.rec (motive:=fun _=>AV->AV->Hp->R1) (fun _ _ _=> .bad) (fun _ ih=>qxk call uR x4 x18 jP ih) n
def q87(uR:AV->Hp->R1)(x4 x18 jP:AV):AV->AV->Hp->R1:=qqe call uR x4 x18 jP dM
def qqf(x1 x4:AV)(H:Hp):R1 :=
 vq (aO 1 x1) H fun bN H =>
 vq (aH H bN) H fun a12 H =>
 vq (aG a12) H fun bR H =>
 q87 call (fun x6 H=>q86 call x6 H) x4 a12 bR (.aA) (iN 0) H
def q84:=cst qqf
theorem qnu:q84=qqf:=jM _
def zq9(x0:AV)(H:Hp):R1 :=
 vq (bM 2 H.nx x0) H fun a0 H =>
 vq (aX 2 H a0) H fun a1 H =>
 ve (call (.f 48) [a1] H) fun a2 H =>
 vq (bK 0 a2) H fun a3 H =>
 vq (bK 1 a2) H fun a4 H =>
 vq (.new (.ptr H.nx 0) (aD 0 [.aA,.aA])) H fun a5 H =>
 ve (dX 2 H a5 a3) fun _ H =>
 vq (aB (aK .neq).f a4 (iN 0)) H fun a48 H =>
 cd a48 (
 .ok (.aZ [(.aA),a4]) H) (
 q84 call a0 a5 H)
def zBp(x0:AV)(H:Hp):R1:=zq9 call x0 H
def zvc(call:Ev.Call)(H:Hp):R1 :=
 .ok (iN 0) H
def zq8(x0:AV)(H:Hp):R1 :=
 vq (bM 3 H.nx x0) H fun a0 H =>
 vq (aO 2 a0) H fun a2 H =>
 vq (aH H a2) H fun a3 H =>
 cd a3 (
 .ok (iN 1) H) (
 zvc call H)
def zBq(x0:AV)(H:Hp):R1:=zq8 call x0 H
def q80(call:Ev.Call)(x3:AV)(H:Hp):R1 :=
 .ok x3 H
def qxh(call:Ev.Call)(g10:AV->Hp->R1)(x18:AV)(H:Hp):R1 :=
 vq (aB (aK .add).f x18 (iN 1)) H fun a12 H =>
 g10 a12 H
def q81(call:Ev.Call)(g31:AV->Hp->R1)(vQ:AV)(H:Hp):R1 :=
 vq (aB (aK .add).f vQ (iN 1)) H fun a33 H =>
 g31 a33 H
def qxg(g31:AV->Hp->R1)(x3 x5 x7 vQ:AV)(H:Hp):R1 :=
 dz 23 H fun qC H =>
 dn 0 0 qC H [] [] (.val x3) fun a39 H p w =>
 dn 1 0 qC H p w (.val x3) fun a40 H p w =>
 dn 2 0 qC H p w (.val x3) fun a41 H p w =>
 dn 3 4 qC H p w (aV a41) fun a42 H p w =>
 dn 4 12 qC H p w (aO 3 a42) fun a43 H p w =>
 dl 5 28 qC H p w (fun H=>aH H a43) fun a44 H p w =>
 dn 6 0 qC H p w (.val x7) fun a45 H p w =>
 da 7 64 qC H p w (jL 1 (qC+7) (dD (bB [.bZ] 1) [(0,1,a45)])) fun a46 H p w =>
 dn 9 0 qC H p w (.val x3) fun a47 H p w =>
 dn 10 512 qC H p w (aV a47) fun a48 H p w =>
 dn 11 1536 qC H p w (aO 4 a48) fun a49 H p w =>
 dl 12 3584 qC H p w (fun H=>aH H a49) fun a50 H p w =>
 dn 13 0 qC H p w (aO 0 x5) fun a51 H p w =>
 dl 14 8192 qC H p w (fun H=>aH H a51) fun a52 H p w =>
 da 15 24576 qC H p w (jL 1 (qC+15) (dD (bB [.str 0 0] 1) [(0,1,a52)])) fun a53 H p w =>
 de 252 H p w (iJ 1 8 (bO 252 p H) a44 (jY 1 (bO 252 p H) a46)) (some true) fun a54 H p w =>
 de 65532 H p w (iJ 1 16 (bO 65532 p H) a50 (jY 1 (bO 65532 p H) a53)) (some true) fun a55 H p w =>
 dn 17 131069 qC H p w (aV a39) fun a56 H p w =>
 dn 18 262141 qC H p w (aO 3 a56) fun a57 H p w =>
 de 524285 H p w (eY (bO 524285 p H) a57 a54) (some true) fun _ H p w =>
 dn 20 1048575 qC H p w (aV a40) fun a59 H p w =>
 dn 21 2097151 qC H p w (aO 4 a59) fun a60 H p w =>
 de 4194303 H p w (eY (bO 4194303 p H) a60 a55) (some true) fun _ H p w =>
 jO p H fun H =>
 q81 call g31 vQ H
def qxf(g31:AV->Hp->R1)(x3 x5 vQ:AV)(H:Hp):R1 :=
 vq (aO 1 x5) H fun a35 H =>
 vq (aH H a35) H fun a36 H =>
 vq (aL 6 a36 vQ) H fun a37 H =>
 vl (aV x3) fun a63 =>
 vl (aO 2 a63) fun a64 =>
 vl (aH H a64) fun a65 =>
 vl (aO 0 x5) fun a66 =>
 vl (aH H a66) fun a67 =>
 vl (aV a37) fun a68 =>
 vl (aO 0 a68) fun a69 =>
 vl (aH H a69) fun a70 =>
 vl (dH (dD [.str 0 0,.str 0 0] [(0,1,a67),(1,1,a70)])) fun a71 =>
 vl (qP ⟨(⟨lT (eqFields [(p1,⟨iB⟩,0),(p1,⟨iB⟩,1)])⟩:E2).f,some 2⟩ (iN 0) true H a65 a71) fun a72 =>
 vl (bK 0 a72) fun a73 =>
 vl (bK 1 a72) fun a74 =>
 vq ((mZ .not).f a74) H fun a75 H =>
 cd a75 (
 dz 0 H fun vS H =>
 dn 0 0 vS H [] [] (.val x3) fun a77 H p w =>
 dn 1 1 vS H p w (aV a77) fun a78 H p w =>
 dn 2 3 vS H p w (aO 2 a78) fun a79 H p w =>
 dl 3 7 vS H p w (fun H=>aH H a79) fun a80 H p w =>
 dn 4 0 vS H p w (aO 0 x5) fun a81 H p w =>
 dl 5 16 vS H p w (fun H=>aH H a81) fun a82 H p w =>
 dn 6 0 vS H p w (.val a37) fun a83 H p w =>
 dn 7 64 vS H p w (aV a83) fun a84 H p w =>
 dn 8 192 vS H p w (aO 0 a84) fun a85 H p w =>
 dl 9 448 vS H p w (fun H=>aH H a85) fun a86 H p w =>
 dn 10 1008 vS H p w (dH (dD [.str 0 0,.str 0 0] [(0,1,a82),(1,1,a86)])) fun a87 H p w =>
 dn 11 0 vS H p w (.val x3) fun a88 H p w =>
 dn 12 2048 vS H p w (aV a88) fun a89 H p w =>
 dn 13 6144 vS H p w (aO 3 a89) fun a90 H p w =>
 dl 14 14336 vS H p w (fun H=>aH H a90) fun a91 H p w =>
 dn 15 30720 vS H p w (aG a91) fun a92 H p w =>
 de 65535 H p w (pE ⟨(⟨lT (eqFields [(p1,⟨iB⟩,0),(p1,⟨iB⟩,1)])⟩:E2).f,some 2⟩ (bO 65535 p H) a80 a87 a92) (some true) fun _ H p w =>
 jO p H fun H =>
 qxg call g31 x3 x5 a37 vQ H) (
 qxg call g31 x3 x5 a37 vQ H)
def qxi(uG:Hp->R1)(x3 x5 x32:AV)(g31:AV->Hp->R1)(vQ:AV)(H:Hp):R1 :=
 vq (aB (aK .lss).f vQ x32) H fun a32 H =>
 cd a32 (
 qxf call g31 x3 x5 vQ H) (
 uG H)
def qqd(uG:Hp->R1)(x3 x5 x32:AV)(n:Nat):AV->Hp->R1 :=
 Nat.rec (motive:=fun _=>AV->Hp->R1) (fun _ _=> .bad) (fun _ ih=>qxi call uG x3 x5 x32 ih) n
def q82(uG:Hp->R1)(x3 x5 x32:AV):AV->Hp->R1:=qqd call uG x3 x5 x32 dM
def q8z(g10:AV->Hp->R1)(x3 jT x18:AV)(H:Hp):R1 :=
 vq (aL 2 jT x18) H fun cB H =>
 vq (aX 2 H cB) H fun bV H =>
 vq (.new (.ptr H.nx 0) (aD 0 [.str 0 0,.aA])) H fun a16 H =>
 ve (dX 2 H a16 bV) fun _ H =>
 dz 0 H fun b18 H =>
 dn 0 0 b18 H [] [] (.val x3) fun dJ H p w =>
 dn 1 1 b18 H p w (aV dJ) fun a20 H p w =>
 dn 2 3 b18 H p w (aO 1 a20) fun a21 H p w =>
 dl 3 7 b18 H p w (fun H=>aH H a21) fun a22 H p w =>
 dn 4 0 b18 H p w (aO 0 a16) fun a23 H p w =>
 dl 5 16 b18 H p w (fun H=>aH H a23) fun a24 H p w =>
 dl 6 63 b18 H p w (fun H=>qP ⟨(⟨iB⟩:E2).f,none⟩ (iN 0) false H a22 a24) fun a25 H p w =>
 dn 7 127 b18 H p w (aB (aK .add).f a25 (iN 1)) fun a26 H p w =>
 de 255 H p w (pE ⟨(⟨iB⟩:E2).f,none⟩ (bO 255 p H) a22 a24 a26) (some true) fun _ H p w =>
 jO p H fun H =>
 vq (aO 1 a16) H fun a28 H =>
 vq (aH H a28) H fun a29 H =>
 vq (aG a29) H fun a30 H =>
 q82 call (fun H=>qxh call g10 x18 H) x3 a16 a30 (iN 0) H
def qxj(uH:Hp->R1)(x3 jT gH:AV)(g10:AV->Hp->R1)(x18:AV)(H:Hp):R1 :=
 vq (aB (aK .lss).f x18 gH) H fun bN H =>
 cd bN (
 q8z call g10 x3 jT x18 H) (
 uH H)
def qkk(uH:Hp->R1)(x3 jT gH:AV)(n:Nat):AV->Hp->R1 :=
 Nat.rec (motive:=fun _=>AV->Hp->R1) (fun _ _=> .bad) (fun _ ih=>qxj call uH x3 jT gH ih) n
def q83(uH:Hp->R1)(x3 jT gH:AV):AV->Hp->R1:=qkk call uH x3 jT gH dM
def zq7(x0:AV)(H:Hp):R1 :=
 vq (bM 1 H.nx x0) H fun a0 H =>
 vq (aX 1 H a0) H fun a1 H =>
 vq (.new (.map H.nx) (.map [] 0)) H fun a2 H =>
 vq (.new (.map H.nx) (.map [] 0)) H fun a3 H =>
 vq (dH (dD [.aA,.dQ,.dQ,.aA,.aA] [(0,1,a1),(1,1,a2),(2,1,a3)])) H fun a4 H =>
 vq (bM 5 H.nx a4) H fun a5 H =>
 vq (aO 0 a0) H fun a7 H =>
 vq (aH H a7) H fun a8 H =>
 vq (aG a8) H fun a9 H =>
 q83 call (fun H=>q80 call a5 H) a5 a8 a9 (iN 0) H
def zBr(x0:AV)(H:Hp):R1:=zq7 call x0 H
def q8x(call:Ev.Call)(H:Hp):R1 :=
 .ok (.int .i64 (.negSucc 0)) H
def zoa(call:Ev.Call)(g2:AV->Hp->R1)(x5:AV)(H:Hp):R1 :=
 vq (aB (aK .add).f x5 (iN 1)) H fun a3 H =>
 g2 a3 H
def q8w(eF:AV->Hp->R1)(g2:AV->Hp->R1)(x1 x2 x5:AV)(H:Hp):R1 :=
 vq (aO 0 x2) H fun a5 H =>
 vq (aH H a5) H fun a6 H =>
 vq (aL 2 a6 x5) H fun a7 H =>
 vq (aO 0 a7) H fun a8 H =>
 vq (aH H a8) H fun a9 H =>
 vq (gY (oI .eql).f a9 x1) H fun bQ H =>
 cd bQ (
 eF x5 H) (
 zoa call g2 x5 H)
def q8y(eF:AV->Hp->R1)(bL:Hp->R1)(x1 x2:AV)(g2:AV->Hp->R1)(x5:AV)(H:Hp):R1 :=
 vq (aO 0 x2) H fun a12 H =>
 vq (aH H a12) H fun bR H =>
 vq (aG bR) H fun cB H =>
 vq (aB (aK .lss).f x5 cB) H fun bV H =>
 cd bV (
 q8w call eF g2 x1 x2 x5 H) (
 bL H)
def q0w(eF:AV->Hp->R1)(bL:Hp->R1)(x1 x2:AV)(n:Nat):AV->Hp->R1 :=
 Nat.rec (motive:=fun _=>AV->Hp->R1) (fun _ _=> .bad) (fun _ ih=>q8y call eF bL x1 x2 ih) n
def zob(eF:AV->Hp->R1)(bL:Hp->R1)(x1 x2:AV):AV->Hp->R1:=q0w call eF bL x1 x2 dM
def zq6(x0 x1:AV)(H:Hp):R1 :=
 vq (bM 1 H.nx x0) H fun a0 H =>
 zob call (fun x4 H=> .ok x4 H) (fun H=>q8x call H) x1 a0 (iN 0) H
def zBs(x0 x1:AV)(H:Hp):R1:=zq6 call x0 x1 H
def zvb(x0 x1 x2:AV)(H:Hp):R1 :=
 ve (call (.f 59) [x1] H) fun a0 H =>
 ve (call (.f 59) [x0] H) fun a1 H =>
 vq (aB (aK .lss).f a0 a1) H fun a2 H =>
 vg (aP false a2) (.val x2) H fun a3 H =>
 vg (aP false a2) ((mZ .not).f a3) H fun a4 H =>
 vg (aP false a2) (.val a4) H fun a5 H =>
 vg (aP true a5) (.val x1) H fun a6 H =>
 qA (aP true a5) (call (.f 59) [a6] H) H fun a7 H =>
 vg (aP true a5) (.val x0) H fun a8 H =>
 qA (aP true a5) (call (.f 59) [a8] H) H fun a9 H =>
 vg (aP true a5) (aB (aK .eql).f a7 a9) H fun bQ H =>
 vg (aP false a2) (fI a5 bQ (.bool false)) H fun bN H =>
 vq (fI a2 (.bool true) bN) H fun a12 H =>
 .ok a12 H
def zBt(x0 x1 x2:AV)(H:Hp):R1:=zvb call x0 x1 x2 H
def q8t(call:Ev.Call)(H:Hp):R1 :=
 .ok (iN 0) H
def q8m(call:Ev.Call)(g5:AV->Hp->R1)(mW:AV)(H:Hp):R1 :=
 vq (aB (aK .add).f mW (iN 1)) H fun a7 H =>
 g5 a7 H
def q8s(call:Ev.Call)(g16:AV->Hp->R1)(x32:AV)(H:Hp):R1 :=
 vq (aB (aK .add).f x32 (iN 1)) H fun cZ H =>
 g16 cZ H
def q8q(yF:AV->Hp->R1)(g16:AV->Hp->R1)(x30 x32:AV)(H:Hp):R1 :=
 vq (aL 6 x30 x32) H fun a20 H =>
 vq (aX 6 H a20) H fun a21 H =>
 vq (.new (.ptr H.nx 0) (aD 0 [.str 0 0,.aA,.int .u8 (.ofNat 0),.str 0 0,.str 0 0,.aA])) H fun a22 H =>
 ve (dX 6 H a22 a21) fun _ H =>
 vq (aX 6 H a22) H fun a24 H =>
 ve (call (.f 91) [a24] H) fun a25 H =>
 vq (aB (aK .neq).f a25 (iN 0)) H fun a26 H =>
 cd a26 (
 yF a25 H) (
 q8s call g16 x32 H)
def qxe(yF:AV->Hp->R1)(tZ:Hp->R1)(x30 x31:AV)(g16:AV->Hp->R1)(x32:AV)(H:Hp):R1 :=
 vq (aB (aK .lss).f x32 x31) H fun a17 H =>
 cd a17 (
 q8q call yF g16 x30 x32 H) (
 tZ H)
def qqc(yF:AV->Hp->R1)(tZ:Hp->R1)(x30 x31:AV)(n:Nat):AV->Hp->R1 :=
 Nat.rec (motive:=fun _=>AV->Hp->R1) (fun _ _=> .bad) (fun _ ih=>qxe call yF tZ x30 x31 ih) n
def q8v(yF:AV->Hp->R1)(tZ:Hp->R1)(x30 x31:AV):AV->Hp->R1:=qqc call yF tZ x30 x31 dM
def q8p(gW:AV->Hp->R1)(g5:AV->Hp->R1)(x4 mW:AV)(H:Hp):R1 :=
 vq (aO 1 x4) H fun bR H =>
 vq (aH H bR) H fun cB H =>
 vq (aG cB) H fun bV H =>
 q8v call (fun x2 H=>gW x2 H) (fun H=>q8m call g5 mW H) cB bV (iN 0) H
def q8o(gW:AV->Hp->R1)(g5:AV->Hp->R1)(dV mW:AV)(H:Hp):R1 :=
 vq (aL 2 dV mW) H fun a9 H =>
 vq (aX 2 H a9) H fun bQ H =>
 vq (.new (.ptr H.nx 0) (aD 0 [.str 0 0,.aA])) H fun bN H =>
 ve (dX 2 H bN bQ) fun _ H =>
 vq (aO 0 bN) H fun a29 H =>
 vq (aH H a29) H fun a30 H =>
 ve (call (.f 90) [a30] H) fun a31 H =>
 vq ((mZ .not).f a31) H fun a32 H =>
 cd a32 (
 gW (iN 6) H) (
 vq (aO 1 bN) H fun a33 H =>
 vq (aH H a33) H fun a34 H =>
 vq (aG a34) H fun a35 H =>
 vq (aB (aK .gtr).f a35 (iN 16)) H fun a36 H =>
 cd a36 (
 gW (iN 3) H) (
 q8p call gW g5 bN mW H))
def q8u(gW:AV->Hp->R1)(dU:Hp->R1)(dV kE:AV)(g5:AV->Hp->R1)(mW:AV)(H:Hp):R1 :=
 vq (aB (aK .lss).f mW kE) H fun a6 H =>
 cd a6 (
 q8o call gW g5 dV mW H) (
 dU H)
def qtv(gW:AV->Hp->R1)(dU:Hp->R1)(dV kE:AV)(n:Nat):AV->Hp->R1 :=
 Nat.rec (motive:=fun _=>AV->Hp->R1) (fun _ _=> .bad) (fun _ ih=>q8u call gW dU dV kE ih) n
def zn9(gW:AV->Hp->R1)(dU:Hp->R1)(dV kE:AV):AV->Hp->R1:=qtv call gW dU dV kE dM
def q8n(x1:AV)(H:Hp):R1 :=
 vq (aO 0 x1) H fun a2 H =>
 vq (aH H a2) H fun a3 H =>
 vq (aG a3) H fun a4 H =>
 zn9 call (fun x2 H=> .ok x2 H) (fun H=>q8t call H) a3 a4 (iN 0) H
def zq5(x0:AV)(H:Hp):R1 :=
 vq (bM 1 H.nx x0) H fun a0 H =>
 vq (aO 0 a0) H fun a39 H =>
 vq (aH H a39) H fun a40 H =>
 vq (aG a40) H fun a41 H =>
 vq (aB (aK .gtr).f a41 (iN 16)) H fun a42 H =>
 cd a42 (
 .ok (iN 3) H) (
 q8n call a0 H)
def zBu(x0:AV)(H:Hp):R1:=zq5 call x0 H
def zq4(x0 x1 x2:AV)(H:Hp):R1 :=
 vq (lJ H.nx x0) H fun a0 H =>
 vq (bM 2 H.nx x1) H fun a1 H =>
 vq (lJ H.nx x2) H fun a2 H =>
 dz 9 H fun b3 H =>
 dl 0 0 b3 H [] [] (fun H=>aH H a0) fun a4 H p w =>
 dn 1 1 b3 H p w (aV a4) fun a5 H p w =>
 dn 2 3 b3 H p w (aO 3 a5) fun a6 H p w =>
 dl 3 7 b3 H p w (fun H=>aH H a6) fun a7 H p w =>
 dl 4 0 b3 H p w (fun H=>aH H a2) fun a8 H p w =>
 dn 5 31 b3 H p w (aL 1 a7 a8) fun a9 H p w =>
 dl 6 63 b3 H p w (fun H=>aH H a9) fun bQ H p w =>
 da 7 0 b3 H p w (.new (.ptr (b3+7) 0) (aD 0 [.bZ])) fun bN H p w =>
 de 255 H p w (eY (bO 255 p H) bN bQ) (some true) fun _ H p w =>
 jO p H fun H =>
 vq (aH H bN) H fun bR H =>
 vq (aV bR) H fun cB H =>
 vq (aO 2 cB) H fun bV H =>
 vq (aX 4 H bV) H fun a16 H =>
 ve (call (.f 41) [a16] H) fun a17 H =>
 vq (bK 0 a17) H fun cZ H =>
 vq (bK 1 a17) H fun dJ H =>
 vq (.new (.ptr H.nx 0) (aD 0 [.aA])) H fun a20 H =>
 ve (eY H a20 cZ) fun _ H =>
 vq (.new (.ptr H.nx 0) (aD 0 [.bool false])) H fun a22 H =>
 ve (eY H a22 (.bool false)) fun _ H =>
 vq (jL 4 H.nx (dD (bB [.iT] 4) [(0,1,(.fn 93 [] [a0,a1,bN,a2])),(1,1,(.fn 94 [] [a0,bN])),(2,1,(.fn 96 [] [a0,a1,a20,a22])),(3,1,(.fn 98 [] [a22,bN,a1]))])) H fun a24 H =>
 ve (call (.f 92) [a24] H) fun a25 H =>
 .ok a25 H
def zBv(x0 x1 x2:AV)(H:Hp):R1:=zq4 call x0 x1 x2 H
def q8l(x2 x3:AV)(H:Hp):R1 :=
 dz 0 H fun b6 H =>
 dl 0 0 b6 H [] [] (fun H=>aH H x2) fun a7 H p w =>
 dl 2 0 b6 H p w (fun H=>aH H x3) fun a8 H p w =>
 de 1 H p w (call (.f 102) [a7] (bO 1 p H)) (some true) fun a9 H p w =>
 de 3 H p w (eY (bO 3 p H) x2 a9) (some true) fun _ H p w =>
 de 15 H p w (eY (bO 15 p H) x3 a8) (some true) fun _ H p w =>
 dn 5 31 b6 H p w (.val (iN 0)) fun a12 H p w =>
 jO p H fun H =>
 eG (jC (iY (rV (aH H x2)) (iY (rV (aH H x3)) (iY (some a12) (some []))))) H
def q8k(x2 x3 x5:AV)(H:Hp):R1 :=
 vq (aH H x5) H fun cB H =>
 vq (aB (aK .neq).f cB (iN 0)) H fun bV H =>
 cd bV (
 dz 0 H fun b16 H =>
 dl 0 0 b16 H [] [] (fun H=>aH H x5) fun a17 H p w =>
 de 0 H p w (eY (bO 0 p H) x2 (.aA)) (some true) fun _ H p w =>
 de 2 H p w (eY (bO 2 p H) x3 (iN 0)) (some true) fun _ H p w =>
 dn 3 7 b16 H p w (.val a17) fun a20 H p w =>
 jO p H fun H =>
 eG (jC (iY (rV (aH H x2)) (iY (rV (aH H x3)) (iY (some a20) (some []))))) H) (
 q8l call x2 x3 H)
def zq3(x0:AV)(H:Hp):R1 :=
 vq (.new (.ptr H.nx 0) (aD 0 [.aA])) H fun a0 H =>
 vq (.new (.ptr H.nx 0) (aD 0 [iN 0])) H fun a1 H =>
 vq (.new (.ptr H.nx 0) (aD 0 [iN 0])) H fun a2 H =>
 ve (eY H a2 (iN 0)) fun _ H =>
 vq (.new (.ptr H.nx 0) (aD 0 [.iT])) H fun a4 H =>
 ve (eY H a4 (.fn 100 [] [a0,a1,a2,a4])) fun _ H =>
 vq (aH H a4) H fun a22 H =>
 ve (vN call a22 [x0,(iN 1),(.bool false)] H) fun a23 H =>
 vq ((mZ .not).f a23) H fun a24 H =>
 cd a24 (
 ve (eY H a0 (.aA)) fun _ H =>
 ve (eY H a1 (iN 0)) fun _ H =>
 eG (jC (iY (rV (aH H a0)) (iY (rV (aH H a1)) (iY (some (iN 3)) (some []))))) H) (
 q8k call a0 a1 a2 H)
def zBw(x0:AV)(H:Hp):R1:=zq3 call x0 H
def q8j(call:Ev.Call)(x0 x7:AV)(H:Hp):R1 :=
 vq (aV x0) H fun a7 H =>
 vq (aO 3 a7) H fun a8 H =>
 vq (aH H a8) H fun a9 H =>
 vq (aL 1 a9 x7) H fun bQ H =>
 vq (aH H bQ) H fun bN H =>
 .ok bN H
def zid(x0 x1 x2:AV)(H:Hp):R1 :=
 vq (aV x0) H fun a0 H =>
 vq (aO 2 a0) H fun a1 H =>
 vq (aH H a1) H fun a2 H =>
 vq (dH (dD [.str 0 0,.str 0 0] [(0,1,x1),(1,1,x2)])) H fun a3 H =>
 vq (qP ⟨(⟨lT (eqFields [(p1,⟨iB⟩,0),(p1,⟨iB⟩,1)])⟩:E2).f,some 2⟩ (iN 0) true H a2 a3) H fun a4 H =>
 vq (bK 0 a4) H fun a5 H =>
 vq (bK 1 a4) H fun a6 H =>
 vq ((mZ .not).f a6) H fun bR H =>
 cd bR (
 .ok (.bZ) H) (
 q8j call x0 a5 H)
def zBx(x0 x1 x2:AV)(H:Hp):R1:=zid call x0 x1 x2 H
def q0v(x9:AV)(H:Hp):R1 :=
 ve (call (.f 103) [x9] H) fun a0 H =>
 .ok a0 H
def qkj(call:Ev.Call)(g8:AV->AV->Hp->R1)(x9 x24:AV)(H:Hp):R1 :=
 vq (aB (aK .add).f x24 (iN 1)) H fun bQ H =>
 g8 x9 bQ H
def q8h(g8:AV->AV->Hp->R1)(x0 x3 x9 wR x24:AV)(H:Hp):R1 :=
 vq (aL 2 wR x24) H fun a12 H =>
 vq (aX 2 H a12) H fun bR H =>
 vq (.new (.ptr H.nx 0) (aD 0 [.str 0 0,.str 0 0])) H fun cB H =>
 ve (dX 2 H cB bR) fun _ H =>
 vq (aO 1 cB) H fun a16 H =>
 vq (aH H a16) H fun a17 H =>
 vq (gY (oI .eql).f a17 (.str 0 0)) H fun cZ H =>
 vg (aP true cZ) (.val x0) H fun dJ H =>
 vg (aP true cZ) (aO 0 cB) H fun a20 H =>
 vg (aP true cZ) (aH H a20) H fun a21 H =>
 vg (aP true cZ) (.val x3) H fun a22 H =>
 qA (aP true cZ) (call (.f 65) [dJ,a21,a22] H) H fun a23 H =>
 vg (aP true cZ) (qZ true ((⟨E2.f ⟨qms⟩⟩:E2).f a23 (.bZ))) H fun a24 H =>
 vq (fI cZ a24 (.bool false)) H fun a25 H =>
 cd a25 (
 vq (aO 0 cB) H fun a26 H =>
 vq (aH H a26) H fun a27 H =>
 vq (jL 1 H.nx (dD (bB [.str 0 0] 1) [(0,1,a27)])) H fun a28 H =>
 ve (iJ 1 16 H x9 (jY 1 H a28)) fun a29 H =>
 qkj call g8 a29 x24 H) (
 qkj call g8 x9 x24 H)
def q8i(oV:AV->Hp->R1)(x0 x3 wR rR:AV)(g8:AV->AV->Hp->R1)(x9 x24:AV)(H:Hp):R1 :=
 vq (aB (aK .lss).f x24 rR) H fun a9 H =>
 cd a9 (
 q8h call g8 x0 x3 x9 wR x24 H) (
 oV x9 H)
def qtu(oV:AV->Hp->R1)(x0 x3 wR rR:AV)(n:Nat):AV->AV->Hp->R1 :=
 Nat.rec (motive:=fun _=>AV->AV->Hp->R1) (fun _ _ _=> .bad) (fun _ ih=>q8i call oV x0 x3 wR rR ih) n
def zn8(oV:AV->Hp->R1)(x0 x3 wR rR:AV):AV->AV->Hp->R1:=qtu call oV x0 x3 wR rR dM
def zq2(x0 x1 x2 x3:AV)(H:Hp):R1 :=
 ve (call (.f 65) [x0,x1,x2] H) fun a2 H =>
 vq (qZ true ((⟨E2.f ⟨qms⟩⟩:E2).f a2 (.bZ))) H fun a3 H =>
 cd a3 (
 vq (aV a2) H fun a4 H =>
 vq (aO 1 a4) H fun a5 H =>
 vq (aH H a5) H fun a6 H =>
 vq (aG a6) H fun a7 H =>
 zn8 call (fun x9 H=>q0v call x9 H) x0 x3 a6 a7 (.aA) (iN 0) H) (
 q0v call (.aA) H)
def zBy(x0 x1 x2 x3:AV)(H:Hp):R1:=zq2 call x0 x1 x2 x3 H
def zq1(x0 x1:AV)(H:Hp):R1 :=
 vq (bM 3 H.nx x0) H fun a0 H =>
 vq (bM 3 H.nx x1) H fun a1 H =>
 dz 18 H fun b2 H =>
 dn 0 0 b2 H [] [] (aO 0 a0) fun a3 H p w =>
 dl 1 1 b2 H p w (fun H=>aH H a3) fun a4 H p w =>
 dn 2 0 b2 H p w (aO 0 a1) fun a5 H p w =>
 dl 3 4 b2 H p w (fun H=>aH H a5) fun a6 H p w =>
 dn 5 0 b2 H p w (aO 1 a0) fun a7 H p w =>
 dl 6 32 b2 H p w (fun H=>aH H a7) fun a8 H p w =>
 dn 7 0 b2 H p w (aO 1 a1) fun a9 H p w =>
 dl 8 128 b2 H p w (fun H=>aH H a9) fun bQ H p w =>
 dl 10 0 b2 H p w (fun H=>aX 3 H a0) fun bN H p w =>
 dl 12 0 b2 H p w (fun H=>aX 3 H a1) fun a12 H p w =>
 de 15 H p w (call (.f 105) [a4,a6] (bO 15 p H)) (some true) fun bR H p w =>
 de 511 H p w (call (.f 105) [a8,bQ] (bO 511 p H)) (some true) fun cB H p w =>
 de 2047 H p w (call (.f 106) [bN] (bO 2047 p H)) (some true) fun bV H p w =>
 de 8191 H p w (call (.f 106) [a12] (bO 8191 p H)) (some true) fun a16 H p w =>
 de 16383 H p w (call (.f 105) [bV,a16] (bO 16383 p H)) (some true) fun a17 H p w =>
 da 15 32767 b2 H p w (jL 3 (b2+15) (dD (bB [iN 0] 3) [(0,1,bR),(1,1,cB),(2,1,a17)])) fun cZ H p w =>
 de 65535 H p w (call (.f 104) [cZ] (bO 65535 p H)) (some true) fun dJ H p w =>
 dn 17 131071 b2 H p w (.val dJ) fun a20 H p w =>
 jO p H fun H =>
 .ok a20 H
def zBz(x0 x1:AV)(H:Hp):R1:=zq1 call x0 x1 H
def zn6(call:Ev.Call)(x0:AV)(H:Hp):R1 :=
 .ok x0 H
def zn5(call:Ev.Call)(g1:AV->Hp->R1)(x3:AV)(H:Hp):R1 :=
 vq (aB (aK .add).f x3 (iN 1)) H fun a2 H =>
 g1 a2 H
def qqb(call:Ev.Call)(jB:AV->Hp->R1)(x0 x3:AV)(H:Hp):R1 :=
 vq (lH 3 x0 (some x3) none none) H fun bN H =>
 ve (qg3 [iN 0,iN 0,.bool false] H bN) fun _ H =>
 vq (lH 3 x0 none (some x3) none) H fun bR H =>
 jB bR H
def qqa(call:Ev.Call)(g15:AV->AV->Hp->R1)(x3 x5:AV)(H:Hp):R1 :=
 vq (aB (aK .add).f x5 (iN 1)) H fun a16 H =>
 g15 x3 a16 H
def q8e(g15:AV->AV->Hp->R1)(x0 x3 x4 x5:AV)(H:Hp):R1 :=
 vl (aL 3 x4 x5) fun cZ =>
 vl (aX 3 H cZ) fun dJ =>
 vl (aB (aK .sub).f x5 (iN 1)) fun a20 =>
 vl (aL 3 x4 a20) fun a21 =>
 vl (aX 3 H a21) fun a22 =>
 vl (qZ true ((⟨E2.f ⟨lT (eqFields [(p1,⟨qjm⟩,0),(p1,⟨qjm⟩,1),(p1,⟨qfo⟩,2)])⟩⟩:E2).f dJ a22)) fun a23 =>
 cd a23 (
 vq (aL 3 x4 x5) H fun a24 H =>
 vq (aX 3 H a24) H fun a25 H =>
 vq (aL 3 x0 x3) H fun a26 H =>
 ve (dX 3 H a26 a25) fun _ H =>
 vq (aB (aK .add).f x3 (iN 1)) H fun a28 H =>
 qqa call g15 a28 x5 H) (
 qqa call g15 x3 x5 H)
def qxd(kQ:AV->Hp->R1)(x0 x4:AV)(g15:AV->AV->Hp->R1)(x3 x5:AV)(H:Hp):R1 :=
 vq (aG x4) H fun a30 H =>
 vq (aB (aK .lss).f x5 a30) H fun a31 H =>
 cd a31 (
 q8e call g15 x0 x3 x4 x5 H) (
 kQ x3 H)
def qki(kQ:AV->Hp->R1)(x0 x4:AV)(n:Nat):AV->AV->Hp->R1 :=
 Nat.rec (motive:=fun _=>AV->AV->Hp->R1) (fun _ _ _=> .bad) (fun _ ih=>qxd call kQ x0 x4 ih) n
def q8g(kQ:AV->Hp->R1)(x0 x4:AV):AV->AV->Hp->R1:=qki call kQ x0 x4 dM
def q8d(jB:AV->Hp->R1)(g1:AV->Hp->R1)(x0 x3:AV)(H:Hp):R1 :=
 vl (aL 3 x0 x3) fun a4 =>
 vl (aX 3 H a4) fun a5 =>
 vl (aB (aK .sub).f x3 (iN 1)) fun a6 =>
 vl (aL 3 x0 a6) fun a7 =>
 vl (aX 3 H a7) fun a8 =>
 vl (qZ false ((⟨E2.f ⟨lT (eqFields [(p1,⟨qjm⟩,0),(p1,⟨qjm⟩,1),(p1,⟨qfo⟩,2)])⟩⟩:E2).f a5 a8)) fun a9 =>
 cd a9 (
 vq (lH 3 x0 (some x3) none none) H fun bQ H =>
 q8g call (fun x3 H=>qqb call jB x0 x3 H) x0 bQ x3 (iN 1) H) (
 zn5 call g1 x3 H)
def q8f(jB:AV->Hp->R1)(iE:Hp->R1)(x0:AV)(g1:AV->Hp->R1)(x3:AV)(H:Hp):R1 :=
 vq (aG x0) H fun a33 H =>
 vq (aB (aK .lss).f x3 a33) H fun a34 H =>
 cd a34 (
 q8d call jB g1 x0 x3 H) (
 iE H)
def q0u(jB:AV->Hp->R1)(iE:Hp->R1)(x0:AV)(n:Nat):AV->Hp->R1 :=
 Nat.rec (motive:=fun _=>AV->Hp->R1) (fun _ _=> .bad) (fun _ ih=>q8f call jB iE x0 ih) n
def zn7(jB:AV->Hp->R1)(iE:Hp->R1)(x0:AV):AV->Hp->R1:=q0u call jB iE x0 dM
def q8c(x0:AV)(H:Hp):R1 :=
 zn7 call (fun x2 H=> .ok x2 H) (fun H=>zn6 call x0 H) x0 (iN 1) H
def zq0(x0:AV)(H:Hp):R1 :=
 vq (aG x0) H fun a36 H =>
 vq (aB (aK .lss).f a36 (iN 2)) H fun a37 H =>
 cd a37 (
 .ok x0 H) (
 q8c call x0 H)
def zCb(x0:AV)(H:Hp):R1:=zq0 call x0 H
def zqz(call:Ev.Call)(x0:AV)(H:Hp):R1 :=
 vq (aG x0) H fun a0 H =>
 vq (aG x0) H fun a1 H =>
 vq (lH 3 x0 none (some a0) (some a1)) H fun a2 H =>
 .ok a2 H
def zCc(x0:AV)(H:Hp):R1:=zqz call x0 H
def zn3(call:Ev.Call)(H:Hp):R1 :=
 .ok (iN 0) H
def q78(call:Ev.Call)(g5:AV->Hp->R1)(jT:AV)(H:Hp):R1 :=
 vq (aB (aK .add).f jT (iN 1)) H fun a7 H =>
 g5 a7 H
def zva(gW:AV->Hp->R1)(g5:AV->Hp->R1)(x1 x3 x4 jT:AV)(H:Hp):R1 :=
 vq (aO 0 x4) H fun bR H =>
 vq (aH H bR) H fun cB H =>
 vq (aO 1 x4) H fun bV H =>
 vq (aH H bV) H fun a16 H =>
 vq (nW mI cB [a16]) H fun a17 H =>
 vq (aB (aK .lss).f a17 (iN 0)) H fun cZ H =>
 vg (aP false cZ) (aO 0 x4) H fun dJ H =>
 vg (aP false cZ) (aH H dJ) H fun a20 H =>
 vg (aP false cZ) (aO 1 x4) H fun a21 H =>
 vg (aP false cZ) (aH H a21) H fun a22 H =>
 vg (aP false cZ) (nW mY a20 [a22]) H fun a23 H =>
 vg (aP false cZ) (aO 0 x1) H fun a24 H =>
 vg (aP false cZ) (aH H a24) H fun a25 H =>
 vg (aP false cZ) (aB (aK .geq).f a23 a25) H fun a26 H =>
 vq (fI cZ (.bool true) a26) H fun a27 H =>
 cd a27 (
 gW (iN 4) H) (
 dz 0 H fun z8 H =>
 dn 0 0 z8 H [] [] (.val x3) fun a29 H p w =>
 dn 1 1 z8 H p w (aB (aK .gtr).f a29 (iN 0)) fun a30 H p w =>
 dn 2 3 z8 H p w (.val a30) fun a31 H p w =>
 dq false false 3 7 (z8+3) H p w (fun _=>aO 1 x1) (aP true a31) fun a32 H p w =>
 dq true false 4 15 (z8+4) H p w (fun H=>aH H a32) (aP true a31) fun a33 H p w =>
 dq false false 5 7 (z8+5) H p w (fun _=> .val x3) (aP true a31) fun a34 H p w =>
 dq false false 6 39 (z8+6) H p w (fun _=>aB (aK .sub).f a34 (iN 1)) (aP true a31) fun a35 H p w =>
 dq false false 7 127 (z8+7) H p w (fun _=>aL 3 a33 a35) (aP true a31) fun a36 H p w =>
 dq true false 8 255 (z8+8) H p w (fun H=>aX 3 H a36) (aP true a31) fun a37 H p w =>
 dq true false 9 7 (z8+9) H p w (fun H=>aX 3 H x4) (aP true a31) fun a38 H p w =>
 de 1023 H p w (call (.f 67) [a37,a38] (bO 1023 p H)) (aP true a31) fun a39 H p w =>
 dq false false 11 2047 (z8+11) H p w (fun _=>aB (aK .geq).f a39 (iN 0)) (aP true a31) fun a40 H p w =>
 dn 12 4095 z8 H p w (fI a31 a40 (.bool false)) fun a41 H p w =>
 dn 13 8191 z8 H p w (.val a41) fun a42 H p w =>
 jO p H fun H =>
 cd a42 (
 gW (iN 18) H) (
 q78 call g5 jT H))
def q8a(gW:AV->Hp->R1)(g5:AV->Hp->R1)(x1 kE jT:AV)(H:Hp):R1 :=
 vq (aL 3 kE jT) H fun a9 H =>
 vq (aX 3 H a9) H fun bQ H =>
 vq (.new (.ptr H.nx 0) (aD 0 [iN 0,iN 0,.bool false])) H fun bN H =>
 ve (dX 3 H bN bQ) fun _ H =>
 zva call gW g5 x1 jT bN jT H
def q8b(gW:AV->Hp->R1)(dU:Hp->R1)(x1 kE mW:AV)(g5:AV->Hp->R1)(jT:AV)(H:Hp):R1 :=
 vq (aB (aK .lss).f jT mW) H fun a6 H =>
 cd a6 (
 q8a call gW g5 x1 kE jT H) (
 dU H)
def q0t(gW:AV->Hp->R1)(dU:Hp->R1)(x1 kE mW:AV)(n:Nat):AV->Hp->R1 :=
 Nat.rec (motive:=fun _=>AV->Hp->R1) (fun _ _=> .bad) (fun _ ih=>q8b call gW dU x1 kE mW ih) n
def zn4(gW:AV->Hp->R1)(dU:Hp->R1)(x1 kE mW:AV):AV->Hp->R1:=q0t call gW dU x1 kE mW dM
def q79(x1:AV)(H:Hp):R1 :=
 vq (aO 1 x1) H fun a2 H =>
 vq (aH H a2) H fun a3 H =>
 vq (aG a3) H fun a4 H =>
 zn4 call (fun x2 H=> .ok x2 H) (fun H=>zn3 call H) x1 a3 a4 (iN 0) H
def zqy(x0:AV)(H:Hp):R1 :=
 vq (bM 2 H.nx x0) H fun a0 H =>
 vq (aO 0 a0) H fun a45 H =>
 vq (aH H a45) H fun a46 H =>
 vq (aB (aK .lss).f a46 (iN 0)) H fun a47 H =>
 vg (aP false a47) (aO 0 a0) H fun a48 H =>
 vg (aP false a47) (aH H a48) H fun a49 H =>
 vg (aP false a47) (aB (aK .gtr).f a49 (iN 256)) H fun a50 H =>
 vq (fI a47 (.bool true) a50) H fun a51 H =>
 cd a51 (
 .ok (iN 3) H) (
 q79 call a0 H)
def zCd(x0:AV)(H:Hp):R1:=zqy call x0 H
def q73(call:Ev.Call)(x3:AV)(H:Hp):R1 :=
 vq (aO 1026 x3) H fun a2 H =>
 vq (aH H a2) H fun a3 H =>
 .ok a3 H
def qp9(call:Ev.Call)(g7:AV->Hp->R1)(x30:AV)(H:Hp):R1 :=
 vq (aB (aK .add).f x30 (iN 1)) H fun a9 H =>
 g7 a9 H
def q75(g7:AV->Hp->R1)(x3 x30:AV)(H:Hp):R1 :=
 vq (aO 256 x3) H fun bN H =>
 vq (fO 256 1 bN x30) H fun a12 H =>
 vq (aH H a12) H fun bR H =>
 vq (aB (aK .eql).f bR (iN 0)) H fun cB H =>
 cd cB (
 ve (call (.f 115) [x3,x30] H) fun bV H =>
 qp9 call g7 x30 H) (
 qp9 call g7 x30 H)
def q76(aAW:Hp->R1)(x3 x29:AV)(g7:AV->Hp->R1)(x30:AV)(H:Hp):R1 :=
 vq (aB (aK .lss).f x30 x29) H fun a8 H =>
 cd a8 (
 q75 call g7 x3 x30 H) (
 aAW H)
def q0s(aAW:Hp->R1)(x3 x29:AV)(n:Nat):AV->Hp->R1 :=
 Nat.rec (motive:=fun _=>AV->Hp->R1) (fun _ _=> .bad) (fun _ ih=>q76 call aAW x3 x29 ih) n
def zn2(aAW:Hp->R1)(x3 x29:AV):AV->Hp->R1:=q0s call aAW x3 x29 dM
def qxb(x1 x3:AV)(H:Hp):R1 :=
 vq (aO 0 x1) H fun a5 H =>
 vq (aH H a5) H fun a6 H =>
 zn2 call (fun H=>q73 call x3 H) x3 a6 (iN 0) H
def q74(call:Ev.Call)(g21:AV->Hp->R1)(x10:AV)(H:Hp):R1 :=
 vq (aB (aK .add).f x10 (iN 1)) H fun a23 H =>
 g21 a23 H
def q72(g21:AV->Hp->R1)(x3 x8 x10:AV)(H:Hp):R1 :=
 vq (aL 3 x8 x10) H fun a25 H =>
 vq (aX 3 H a25) H fun a26 H =>
 vq (.new (.ptr H.nx 0) (aD 0 [iN 0,iN 0,.bool false])) H fun a27 H =>
 ve (dX 3 H a27 a26) fun _ H =>
 dz 14 H fun zV H =>
 dn 0 0 zV H [] [] (aO 0 a27) fun a30 H p w =>
 dl 1 1 zV H p w (fun H=>aH H a30) fun a31 H p w =>
 dn 2 0 zV H p w (aO 0 a27) fun a32 H p w =>
 dl 3 4 zV H p w (fun H=>aH H a32) fun a33 H p w =>
 dn 4 0 zV H p w (aO 0 x3) fun a34 H p w =>
 dn 5 28 zV H p w (fO 256 1 a34 a33) fun a35 H p w =>
 dl 6 60 zV H p w (fun H=>aH H a35) fun a36 H p w =>
 dn 7 0 zV H p w (aO 1 a27) fun a37 H p w =>
 dl 8 128 zV H p w (fun H=>aH H a37) fun a38 H p w =>
 da 9 384 zV H p w (jL 1 (zV+9) (dD (bB [iN 0] 1) [(0,1,a38)])) fun a39 H p w =>
 dn 11 0 zV H p w (aO 0 x3) fun a40 H p w =>
 de 1020 H p w (iJ 1 8 (bO 1020 p H) a36 (jY 1 (bO 1020 p H) a39)) (some true) fun a41 H p w =>
 dn 12 4095 zV H p w (fO 256 1 a40 a31) fun a42 H p w =>
 de 8191 H p w (eY (bO 8191 p H) a42 a41) (some true) fun _ H p w =>
 jO p H fun H =>
 q74 call g21 x10 H
def qxc(uK:Hp->R1)(x3 x8 x9:AV)(g21:AV->Hp->R1)(x10:AV)(H:Hp):R1 :=
 vq (aB (aK .lss).f x10 x9) H fun a22 H =>
 cd a22 (
 q72 call g21 x3 x8 x10 H) (
 uK H)
def qp8(uK:Hp->R1)(x3 x8 x9:AV)(n:Nat):AV->Hp->R1 :=
 Nat.rec (motive:=fun _=>AV->Hp->R1) (fun _ _=> .bad) (fun _ ih=>qxc call uK x3 x8 x9 ih) n
def q77(uK:Hp->R1)(x3 x8 x9:AV):AV->Hp->R1:=qp8 call uK x3 x8 x9 dM
def zqx(x0:AV)(H:Hp):R1 :=
 vq (bM 2 H.nx x0) H fun a0 H =>
 vq (.new (.ptr H.nx 0) (aD 0 (List.replicate 256 (.aA)++List.replicate 512 (iN 0)++List.replicate 256 (.bool false)++[.aA]++[iN 0]++[.aA]))) H fun a1 H =>
 vq (aO 1 a0) H fun cZ H =>
 vq (aH H cZ) H fun dJ H =>
 vq (aG dJ) H fun a20 H =>
 q77 call (fun H=>qxb call a0 a1 H) a1 dJ a20 (iN 0) H
def zCe(x0:AV)(H:Hp):R1:=zqx call x0 H
def q0r(call:Ev.Call)(x2 x3 x5:AV)(H:Hp):R1 :=
 .ok (.fn 114 [] [x3,x2,x5]) H
def qw8(call:Ev.Call)(g12:AV->Hp->R1)(gH:AV)(H:Hp):R1 :=
 vq (aB (aK .add).f gH (iN 1)) H fun cB H =>
 g12 cB H
def q7z(call:Ev.Call)(g19:AV->Hp->R1)(x24:AV)(H:Hp):R1 :=
 vq (aB (aK .add).f x24 (iN 1)) H fun a21 H =>
 g19 a21 H
def q7y(g19:AV->Hp->R1)(x5 x6 wR x24:AV)(H:Hp):R1 :=
 vq (aL 1 wR x24) H fun a23 H =>
 vq (aH H a23) H fun a24 H =>
 vq (aH H x5) H fun a25 H =>
 vq (aL 1 a25 a24) H fun a26 H =>
 ve (eY H a26 x6) fun _ H =>
 q7z call g19 x24 H
def qw9(kR:Hp->R1)(x5 x6 wR rR:AV)(g19:AV->Hp->R1)(x24:AV)(H:Hp):R1 :=
 vq (aB (aK .lss).f x24 rR) H fun a20 H =>
 cd a20 (
 q7y call g19 x5 x6 wR x24 H) (
 kR H)
def qp7(kR:Hp->R1)(x5 x6 wR rR:AV)(n:Nat):AV->Hp->R1 :=
 Nat.rec (motive:=fun _=>AV->Hp->R1) (fun _ _=> .bad) (fun _ ih=>qw9 call kR x5 x6 wR rR ih) n
def q70(kR:Hp->R1)(x5 x6 wR rR:AV):AV->Hp->R1:=qp7 call kR x5 x6 wR rR dM
def q7x(g12:AV->Hp->R1)(x5 mW gH:AV)(H:Hp):R1 :=
 vq (aL 1 mW gH) H fun a16 H =>
 vq (aH H a16) H fun a17 H =>
 vq (aG a17) H fun cZ H =>
 q70 call (fun H=>qw8 call g12 gH H) x5 gH a17 cZ (iN 0) H
def qxa(lC:Hp->R1)(x5 mW jT:AV)(g12:AV->Hp->R1)(gH:AV)(H:Hp):R1 :=
 vq (aB (aK .lss).f gH jT) H fun bR H =>
 cd bR (
 q7x call g12 x5 mW gH H) (
 lC H)
def qkh(lC:Hp->R1)(x5 mW jT:AV)(n:Nat):AV->Hp->R1 :=
 Nat.rec (motive:=fun _=>AV->Hp->R1) (fun _ _=> .bad) (fun _ ih=>qxa call lC x5 mW jT ih) n
def q71(lC:Hp->R1)(x5 mW jT:AV):AV->Hp->R1:=qkh call lC x5 mW jT dM
def zqw(x0 x1:AV)(H:Hp):R1 :=
 vq (bM 2 H.nx x0) H fun a0 H =>
 vq (lJ H.nx x1) H fun a1 H =>
 vq (aH H a1) H fun a2 H =>
 ve (call (.f 112) [a2,(.fn 113 [] [])] H) fun a3 H =>
 vq (aO 0 a0) H fun a4 H =>
 vq (aH H a4) H fun a5 H =>
 vq (qe7 [iN 0] 8 H.nx a5 a5) H fun a6 H =>
 vq (.new (.ptr H.nx 0) (aD 0 [.aA])) H fun a7 H =>
 ve (eY H a7 a6) fun _ H =>
 vq (aH H a1) H fun bQ H =>
 vq (aG bQ) H fun bN H =>
 q71 call (fun H=>q0r call a0 a1 a7 H) a7 bQ bN (iN 0) H
def zCf(x0 x1:AV)(H:Hp):R1:=zqw call x0 x1 H
def zqv(call:Ev.Call)(x0:AV)(H:Hp):R1 :=
 vq (aG x0) H fun a0 H =>
 vq (aG x0) H fun a1 H =>
 vq (lH 1 x0 none (some a0) (some a1)) H fun a2 H =>
 .ok a2 H
def zCg(x0:AV)(H:Hp):R1:=zqv call x0 H
def qfd(call:Ev.Call)(x0:AV)(H:Hp):R1 :=
 .ok x0 H
def qje(call:Ev.Call)(g1:AV->Hp->R1)(x3:AV)(H:Hp):R1 :=
 vq (aB (aK .add).f x3 (iN 1)) H fun a2 H =>
 g1 a2 H
def qes(call:Ev.Call)(jB:AV->Hp->R1)(x0 x3:AV)(H:Hp):R1 :=
 vq (lH 1 x0 (some x3) none none) H fun bN H =>
 ve (qg3 [iN 0] H bN) fun _ H =>
 vq (lH 1 x0 none (some x3) none) H fun bR H =>
 jB bR H
def qdb(call:Ev.Call)(g15:AV->AV->Hp->R1)(x3 x5:AV)(H:Hp):R1 :=
 vq (aB (aK .add).f x5 (iN 1)) H fun a16 H =>
 g15 x3 a16 H
def qhq(g15:AV->AV->Hp->R1)(x0 x3 x4 x5:AV)(H:Hp):R1 :=
 vl (aL 1 x4 x5) fun cZ =>
 vl (aH H cZ) fun dJ =>
 vl (aB (aK .sub).f x5 (iN 1)) fun a20 =>
 vl (aL 1 x4 a20) fun a21 =>
 vl (aH H a21) fun a22 =>
 vl (aB (aK .neq).f dJ a22) fun a23 =>
 cd a23 (
 vq (aL 1 x4 x5) H fun a24 H =>
 vq (aH H a24) H fun a25 H =>
 vq (aL 1 x0 x3) H fun a26 H =>
 ve (eY H a26 a25) fun _ H =>
 vq (aB (aK .add).f x3 (iN 1)) H fun a28 H =>
 qdb call g15 a28 x5 H) (
 qdb call g15 x3 x5 H)
def qet(kQ:AV->Hp->R1)(x0 x4:AV)(g15:AV->AV->Hp->R1)(x3 x5:AV)(H:Hp):R1 :=
 vq (aG x4) H fun a30 H =>
 vq (aB (aK .lss).f x5 a30) H fun a31 H =>
 cd a31 (
 qhq call g15 x0 x3 x4 x5 H) (
 kQ x3 H)
def qda(kQ:AV->Hp->R1)(x0 x4:AV)(n:Nat):AV->AV->Hp->R1 :=
 Nat.rec (motive:=fun _=>AV->AV->Hp->R1) (fun _ _ _=> .bad) (fun _ ih=>qet call kQ x0 x4 ih) n
def qhr(kQ:AV->Hp->R1)(x0 x4:AV):AV->AV->Hp->R1:=qda call kQ x0 x4 dM
def qhp(jB:AV->Hp->R1)(g1:AV->Hp->R1)(x0 x3:AV)(H:Hp):R1 :=
 vl (aL 1 x0 x3) fun a4 =>
 vl (aH H a4) fun a5 =>
 vl (aB (aK .sub).f x3 (iN 1)) fun a6 =>
 vl (aL 1 x0 a6) fun a7 =>
 vl (aH H a7) fun a8 =>
 vl (aB (aK .eql).f a5 a8) fun a9 =>
 cd a9 (
 vq (lH 1 x0 (some x3) none none) H fun bQ H =>
 qhr call (fun x3 H=>qes call jB x0 x3 H) x0 bQ x3 (iN 1) H) (
 qje call g1 x3 H)
def qfe(jB:AV->Hp->R1)(iE:Hp->R1)(x0:AV)(g1:AV->Hp->R1)(x3:AV)(H:Hp):R1 :=
 vq (aG x0) H fun a33 H =>
 vq (aB (aK .lss).f x3 a33) H fun a34 H =>
 cd a34 (
 qhp call jB g1 x0 x3 H) (
 iE H)
def qdx(jB:AV->Hp->R1)(iE:Hp->R1)(x0:AV)(n:Nat):AV->Hp->R1 :=
 Nat.rec (motive:=fun _=>AV->Hp->R1) (fun _ _=> .bad) (fun _ ih=>qfe call jB iE x0 ih) n
def qjf(jB:AV->Hp->R1)(iE:Hp->R1)(x0:AV):AV->Hp->R1:=qdx call jB iE x0 dM
def qho(x0:AV)(H:Hp):R1 :=
 qjf call (fun x2 H=> .ok x2 H) (fun H=>qfd call x0 H) x0 (iN 1) H
def qg1(x0:AV)(H:Hp):R1 :=
 vq (aG x0) H fun a36 H =>
 vq (aB (aK .lss).f a36 (iN 2)) H fun a37 H =>
 cd a37 (
 .ok x0 H) (
 qho call x0 H)
def jG(x0:AV)(H:Hp):R1:=qg1 call x0 H
def q7t(x1:AV)(H:Hp):R1 :=
 vq (aO 2 x1) H fun a1 H =>
 vq (aX 4 H a1) H fun a2 H =>
 ve (call (.f 123) [a2] H) fun a3 H =>
 .ok a3 H
def qw7(call:Ev.Call)(g8:AV->Hp->R1)(x18:AV)(H:Hp):R1 :=
 vq (aB (aK .add).f x18 (iN 1)) H fun bQ H =>
 g8 bQ H
def q7v(q8r:AV->Hp->R1)(g8:AV->Hp->R1)(jT x18:AV)(H:Hp):R1 :=
 vq (aL 2 jT x18) H fun a12 H =>
 vq (aX 2 H a12) H fun bR H =>
 vq (.new (.ptr H.nx 0) (aD 0 [.str 0 0,.str 0 0])) H fun cB H =>
 ve (dX 2 H cB bR) fun _ H =>
 vq (aO 0 cB) H fun a16 H =>
 vq (aH H a16) H fun a17 H =>
 ve (call (.f 90) [a17] H) fun cZ H =>
 vq ((mZ .not).f cZ) H fun dJ H =>
 vg (aP false dJ) (aO 1 cB) H fun a20 H =>
 vg (aP false dJ) (aH H a20) H fun a21 H =>
 vg (aP false dJ) (gY (oI .neq).f a21 (.str 0 0)) H fun a22 H =>
 vg (aP false dJ) (.val a22) H fun a23 H =>
 vg (aP true a23) (aO 1 cB) H fun a24 H =>
 vg (aP true a23) (aH H a24) H fun a25 H =>
 qA (aP true a23) (call (.f 90) [a25] H) H fun a26 H =>
 vg (aP true a23) ((mZ .not).f a26) H fun a27 H =>
 vg (aP false dJ) (fI a23 a27 (.bool false)) H fun a28 H =>
 vq (fI dJ (.bool true) a28) H fun a29 H =>
 cd a29 (
 q8r (iN 6) H) (
 qw7 call g8 x18 H)
def q7w(q8r:AV->Hp->R1)(aBk:Hp->R1)(jT gH:AV)(g8:AV->Hp->R1)(x18:AV)(H:Hp):R1 :=
 vq (aB (aK .lss).f x18 gH) H fun a9 H =>
 cd a9 (
 q7v call q8r g8 jT x18 H) (
 aBk H)
def q0q(q8r:AV->Hp->R1)(aBk:Hp->R1)(jT gH:AV)(n:Nat):AV->Hp->R1 :=
 Nat.rec (motive:=fun _=>AV->Hp->R1) (fun _ _=> .bad) (fun _ ih=>q7w call q8r aBk jT gH ih) n
def zn1(q8r:AV->Hp->R1)(aBk:Hp->R1)(jT gH:AV):AV->Hp->R1:=q0q call q8r aBk jT gH dM
def q7u(x1:AV)(H:Hp):R1 :=
 vq (aO 1 x1) H fun a5 H =>
 vq (aH H a5) H fun a6 H =>
 vq (aG a6) H fun a7 H =>
 zn1 call (fun x2 H=> .ok x2 H) (fun H=>q7t call x1 H) a6 a7 (iN 0) H
def zqu(x0:AV)(H:Hp):R1 :=
 vq (bM 6 H.nx x0) H fun a0 H =>
 vq (aO 0 a0) H fun a32 H =>
 vq (aH H a32) H fun a33 H =>
 ve (call (.f 90) [a33] H) fun a34 H =>
 vq ((mZ .not).f a34) H fun a35 H =>
 cd a35 (
 .ok (iN 6) H) (
 vq (aO 1 a0) H fun a36 H =>
 vq (aH H a36) H fun a37 H =>
 vq (aG a37) H fun a38 H =>
 vq (aB (aK .gtr).f a38 (iN 8)) H fun a39 H =>
 cd a39 (
 .ok (iN 3) H) (
 q7u call a0 H))
def zCi(x0:AV)(H:Hp):R1:=zqu call x0 H
def zu9(call:Ev.Call)(H:Hp):R1 :=
 .ok (iN 0) H
def zqt(x0 x1 x2 x3:AV)(H:Hp):R1 :=
 vl (aH H x0) fun a1 =>
 vl (aV a1) fun a2 =>
 vl (aO 2 a2) fun a3 =>
 vl (aH H a3) fun a4 =>
 vl (aO 0 x1) fun a5 =>
 vl (aH H a5) fun a6 =>
 vl (aH H x2) fun a7 =>
 vl (aV a7) fun a8 =>
 vl (aO 0 a8) fun a9 =>
 vl (aH H a9) fun bQ =>
 vl (dH (dD [.str 0 0,.str 0 0] [(0,1,a6),(1,1,bQ)])) fun bN =>
 vl (qP ⟨(⟨lT (eqFields [(p1,⟨iB⟩,0),(p1,⟨iB⟩,1)])⟩:E2).f,some 2⟩ (iN 0) false H a4 bN) fun a12 =>
 vl (aH H x3) fun bR =>
 vl (aB (aK .neq).f a12 bR) fun cB =>
 cd cB (
 .ok (iN 7) H) (
 zu9 call H)
def zCj(x0 x1 x2 x3:AV)(H:Hp):R1:=zqt call x0 x1 x2 x3 H
def zqs(x0 x1:AV)(H:Hp):R1 :=
 vq (aH H x0) H fun a0 H =>
 vq (aH H x1) H fun a1 H =>
 ve (call (.f 95) [a0,a1] H) fun a2 H =>
 .ok a2 H
def zCk(x0 x1:AV)(H:Hp):R1:=zqs call x0 x1 H
def zqr(x0 x1 x2 x3:AV)(H:Hp):R1 :=
 vq (aH H x0) H fun a0 H =>
 vq (aO 0 x1) H fun a1 H =>
 vq (aH H a1) H fun a2 H =>
 vq (aH H x2) H fun a3 H =>
 ve (call (.f 97) [a0,a2,a3] H) fun a4 H =>
 vq (bK 0 a4) H fun a5 H =>
 vq (bK 1 a4) H fun a6 H =>
 ve (eY H x3 a5) fun _ H =>
 .ok a6 H
def zCl(x0 x1 x2 x3:AV)(H:Hp):R1:=zqr call x0 x1 x2 x3 H
def zu8(call:Ev.Call)(H:Hp):R1 :=
 .ok (iN 0) H
def zqq(x0 x1 x2:AV)(H:Hp):R1 :=
 dz 0 H fun b1 H =>
 dl 0 0 b1 H [] [] (fun H=>aH H x0) fun a2 H p w =>
 dn 1 1 b1 H p w (.val a2) fun a3 H p w =>
 dq true false 2 3 (b1+2) H p w (fun H=>aH H x1) (aP true a3) fun a4 H p w =>
 dq false false 3 7 (b1+3) H p w (fun _=>aV a4) (aP true a3) fun a5 H p w =>
 dq false false 4 15 (b1+4) H p w (fun _=>aO 1 a5) (aP true a3) fun a6 H p w =>
 dq true false 5 31 (b1+5) H p w (fun H=>aH H a6) (aP true a3) fun a7 H p w =>
 dq false false 6 63 (b1+6) H p w (fun _=>aG a7) (aP true a3) fun a8 H p w =>
 dq false false 7 127 (b1+7) H p w (fun _=>aB (aK .eql).f a8 (iN 0)) (aP true a3) fun a9 H p w =>
 dn 8 255 b1 H p w (fI a3 a9 (.bool false)) fun bQ H p w =>
 dn 9 511 b1 H p w (.val bQ) fun bN H p w =>
 dq true false 10 1023 (b1+10) H p w (fun H=>aH H x0) (aP false bN) fun a12 H p w =>
 dq false false 11 2047 (b1+11) H p w (fun _=>(mZ .not).f a12) (aP false bN) fun bR H p w =>
 dq false false 12 4095 (b1+12) H p w (fun _=> .val bR) (aP false bN) fun cB H p w =>
 dq true false 13 8191 (b1+13) H p w (fun H=>aH H x1) (aP true cB) fun bV H p w =>
 dq false false 14 16383 (b1+14) H p w (fun _=>aV bV) (aP true cB) fun a16 H p w =>
 dq false false 15 32767 (b1+15) H p w (fun _=>aO 1 a16) (aP true cB) fun a17 H p w =>
 dq true false 16 65535 (b1+16) H p w (fun H=>aH H a17) (aP true cB) fun cZ H p w =>
 dq false false 17 131071 (b1+17) H p w (fun _=>aG cZ) (aP true cB) fun dJ H p w =>
 dq false false 18 262143 (b1+18) H p w (fun _=>aB (aK .gtr).f dJ (iN 0)) (aP true cB) fun a20 H p w =>
 dq false false 19 524287 (b1+19) H p w (fun _=>fI cB a20 (.bool false)) (aP false bN) fun a21 H p w =>
 dq false false 20 1048575 (b1+20) H p w (fun _=> .val a21) (aP false bN) fun a22 H p w =>
 dq true false 21 2097151 (b1+21) H p w (fun H=>aX 2 H x2) (aP true a22) fun a23 H p w =>
 dq true false 22 2097151 (b1+22) H p w (fun H=>aH H x1) (aP true a22) fun a24 H p w =>
 dq false false 23 6291455 (b1+23) H p w (fun _=>aV a24) (aP true a22) fun a25 H p w =>
 dq false false 24 14680063 (b1+24) H p w (fun _=>aO 0 a25) (aP true a22) fun a26 H p w =>
 dq true false 25 31457279 (b1+25) H p w (fun H=>aH H a26) (aP true a22) fun a27 H p w =>
 de 67108863 H p w (call (.f 99) [a23,a27] (bO 67108863 p H)) (aP true a22) fun a28 H p w =>
 dq false false 27 134217727 (b1+27) H p w (fun _=>(mZ .not).f a28) (aP true a22) fun a29 H p w =>
 dq false false 28 268435455 (b1+28) H p w (fun _=>fI a22 a29 (.bool false)) (aP false bN) fun a30 H p w =>
 dn 29 536870911 b1 H p w (fI bN (.bool true) a30) fun a31 H p w =>
 jO p H fun H =>
 cd a31 (
 .ok (iN 11) H) (
 zu8 call H)
def zCm(x0 x1 x2:AV)(H:Hp):R1:=zqq call x0 x1 x2 H
def znz(call:Ev.Call)(H:Hp):R1 :=
 .ok (iN 0) H
def qtt(call:Ev.Call)(g2:AV->Hp->R1)(x8:AV)(H:Hp):R1 :=
 vq (aB (aK .add).f x8 (iN 1)) H fun a4 H =>
 g2 a4 H
def qkf(eF:AV->Hp->R1)(g2:AV->Hp->R1)(x6 x8:AV)(H:Hp):R1 :=
 vq (aL 1 x6 x8) H fun a6 H =>
 vq (aH H a6) H fun a7 H =>
 ve (vN call a7 [] H) fun a8 H =>
 vq (aB (aK .neq).f a8 (iN 0)) H fun a9 H =>
 cd a9 (
 eF a8 H) (
 qtt call g2 x8 H)
def qkg(eF:AV->Hp->R1)(bL:Hp->R1)(x6 x7:AV)(g2:AV->Hp->R1)(x8:AV)(H:Hp):R1 :=
 vq (aB (aK .lss).f x8 x7) H fun a3 H =>
 cd a3 (
 qkf call eF g2 x6 x8 H) (
 bL H)
def q0p(eF:AV->Hp->R1)(bL:Hp->R1)(x6 x7:AV)(n:Nat):AV->Hp->R1 :=
 Nat.rec (motive:=fun _=>AV->Hp->R1) (fun _ _=> .bad) (fun _ ih=>qkg call eF bL x6 x7 ih) n
def zn0(eF:AV->Hp->R1)(bL:Hp->R1)(x6 x7:AV):AV->Hp->R1:=q0p call eF bL x6 x7 dM
def zqp(x0:AV)(H:Hp):R1 :=
 vq (aG x0) H fun a1 H =>
 zn0 call (fun x2 H=> .ok x2 H) (fun H=>znz call H) x0 a1 (iN 0) H
def zCn(x0:AV)(H:Hp):R1:=zqp call x0 H
def qke(x3 bY bI:AV)(H:Hp):R1 :=
 dz 0 H fun b24 H =>
 dl 0 0 b24 H [] [] (fun H=>aH H x3) fun a25 H p w =>
 dn 1 0 b24 H p w (.val bY) fun a26 H p w =>
 dn 2 0 b24 H p w (.val bI) fun a27 H p w =>
 de 4 H p w (call (.f 39) [a27] (bO 4 p H)) (some true) fun a28 H p w =>
 dn 4 15 b24 H p w (aL 5 a25 a26) fun a29 H p w =>
 dn 5 31 b24 H p w (aO 3 a29) fun a30 H p w =>
 de 63 H p w (eY (bO 63 p H) a30 a28) (some true) fun _ H p w =>
 jO p H fun H =>
 .ok (.bool true) H
def qp5(call:Ev.Call)(g37:AV->AV->Hp->R1)(bI x52:AV)(H:Hp):R1 :=
 vq (aB (aK .add).f x52 (iN 1)) H fun a39 H =>
 g37 bI a39 H
def qw6(xY:AV->Hp->R1)(g37:AV->AV->Hp->R1)(x0 x1 x2 x3 x6 bI x52:AV)(H:Hp):R1 :=
 vq (aH H x3) H fun a41 H =>
 vq (aG a41) H fun a42 H =>
 vq (jL 1 H.nx (dD (bB [iN 0] 1) [(0,1,a42)])) H fun a43 H =>
 ve (iJ 1 8 H bI (jY 1 H a43)) fun a44 H =>
 dz 0 H fun pX H =>
 dl 0 0 pX H [] [] (fun H=>aH H x6) fun a46 H p w =>
 dn 1 0 pX H p w (.val x0) fun a47 H p w =>
 dn 2 2 pX H p w (aV a47) fun a48 H p w =>
 dn 3 6 pX H p w (aO 3 a48) fun a49 H p w =>
 dl 4 14 pX H p w (fun H=>aH H a49) fun a50 H p w =>
 dn 5 0 pX H p w (.val x52) fun a51 H p w =>
 dn 6 62 pX H p w (aL 4 a50 a51) fun a52 H p w =>
 dn 7 0 pX H p w (.val x1) fun a53 H p w =>
 dn 8 128 pX H p w (aB (aK .add).f a53 (iN 1)) fun a54 H p w =>
 dn 9 0 pX H p w (.val x2) fun a55 H p w =>
 dn 10 512 pX H p w (.val a55) fun a56 H p w =>
 dq false false 11 1536 (pX+11) H p w (fun _=> .val x0) (aP false a56) fun a57 H p w =>
 dq false false 12 3584 (pX+12) H p w (fun _=>aV a57) (aP false a56) fun a58 H p w =>
 dq false false 13 7680 (pX+13) H p w (fun _=>aO 0 a58) (aP false a56) fun a59 H p w =>
 dq true false 14 15872 (pX+14) H p w (fun H=>aH H a59) (aP false a56) fun a60 H p w =>
 dq false false 15 32256 (pX+15) H p w (fun _=>aB (aK .eql).f a60 (.int .u8 (.ofNat 6))) (aP false a56) fun a61 H p w =>
 dq false false 16 65024 (pX+16) H p w (fun _=> .val a61) (aP false a56) fun a62 H p w =>
 dq false false 17 130560 (pX+17) H p w (fun _=> .val x52) (aP true a62) fun a63 H p w =>
 dq false false 18 261632 (pX+18) H p w (fun _=>aB (aK .eql).f a63 (iN 1)) (aP true a62) fun a64 H p w =>
 dq false false 19 523776 (pX+19) H p w (fun _=>fI a62 a64 (.bool false)) (aP false a56) fun a65 H p w =>
 dn 20 1048064 pX H p w (fI a56 (.bool true) a65) fun a66 H p w =>
 de 2097151 H p w (vN call a46 [a52,a54,a66] (bO 2097151 p H)) (some true) fun a67 H p w =>
 dn 22 4194303 pX H p w ((mZ .not).f a67) fun a68 H p w =>
 jO p H fun H =>
 cd a68 (
 xY (.bool false) H) (
 qp5 call g37 a44 x52 H)
def qh6(xY:AV->Hp->R1)(tV:AV->Hp->R1)(x0 x1 x2 x3 x6 x51:AV)(g37:AV->AV->Hp->R1)(bI x52:AV)(H:Hp):R1 :=
 vq (aB (aK .lss).f x52 x51) H fun a38 H =>
 cd a38 (
 qw6 call xY g37 x0 x1 x2 x3 x6 bI x52 H) (
 tV bI H)
def qp4(xY:AV->Hp->R1)(tV:AV->Hp->R1)(x0 x1 x2 x3 x6 x51:AV)(n:Nat):AV->AV->Hp->R1 :=
 Nat.rec (motive:=fun _=>AV->AV->Hp->R1) (fun _ _ _=> .bad) (fun _ ih=>qh6 call xY tV x0 x1 x2 x3 x6 x51 ih) n
def qp6(xY:AV->Hp->R1)(tV:AV->Hp->R1)(x0 x1 x2 x3 x6 x51:AV):AV->AV->Hp->R1:=qp4 call xY tV x0 x1 x2 x3 x6 x51 dM
def qw5(x0 x1 x2 x3 x6:AV)(H:Hp):R1 :=
 vq (aH H x3) H fun a3 H =>
 vq (aG a3) H fun a4 H =>
 dz 18 H fun b5 H =>
 dl 0 0 b5 H [] [] (fun H=>aH H x3) fun a6 H p w =>
 dn 1 0 b5 H p w (.val x0) fun a7 H p w =>
 dn 2 2 b5 H p w (aV a7) fun a8 H p w =>
 dn 3 6 b5 H p w (aO 0 a8) fun a9 H p w =>
 dl 4 14 b5 H p w (fun H=>aH H a9) fun bQ H p w =>
 dn 5 0 b5 H p w (.val x0) fun bN H p w =>
 dn 6 32 b5 H p w (aV bN) fun a12 H p w =>
 dn 7 96 b5 H p w (aO 1 a12) fun bR H p w =>
 dl 8 224 b5 H p w (fun H=>aH H bR) fun cB H p w =>
 dn 9 0 b5 H p w (.val x0) fun bV H p w =>
 dn 10 512 b5 H p w (aV bV) fun a16 H p w =>
 dn 11 1536 b5 H p w (aO 2 a16) fun a17 H p w =>
 dl 12 3584 b5 H p w (fun H=>aH H a17) fun cZ H p w =>
 dn 13 0 b5 H p w (.val x2) fun dJ H p w =>
 dn 14 16382 b5 H p w (dH (dD [.int .u8 (.ofNat 0),.str 0 0,.str 0 0,.aA,.bool false] [(0,1,bQ),(1,1,cB),(2,1,cZ),(4,1,dJ)])) fun a20 H p w =>
 da 15 32766 b5 H p w (jL 1 (b5+15) (dD (bB [.int .u8 (.ofNat 0),.str 0 0,.str 0 0,.aA,.bool false] 1) [(0,5,a20)])) fun a21 H p w =>
 de 65535 H p w (iJ 5 72 (bO 65535 p H) a6 (jY 5 (bO 65535 p H) a21)) (some true) fun a22 H p w =>
 de 131071 H p w (eY (bO 131071 p H) x3 a22) (some true) fun _ H p w =>
 jO p H fun H =>
 vq (aV x0) H fun a33 H =>
 vq (aO 3 a33) H fun a34 H =>
 vq (aH H a34) H fun a35 H =>
 vq (aG a35) H fun a36 H =>
 qp6 call (fun x10 H=> .ok x10 H) (fun bI H=>qke call x3 a4 bI H) x0 x1 x2 x3 x6 a36 (.aA) (iN 0) H
def q7s(x0 x1 x2 x3 x4 x5 x6:AV)(H:Hp):R1 :=
 vq (aH H x4) H fun a0 H =>
 vq (nW mY a0 [x1]) H fun a1 H =>
 ve (eY H x4 a1) fun _ H =>
 vq (aH H x5) H fun a71 H =>
 vq (aB (aK .eql).f a71 (iN 0)) H fun a72 H =>
 cd a72 (
 ve (call (.f 101) [x0] H) fun a73 H =>
 ve (eY H x5 a73) fun _ H =>
 qw5 call x0 x1 x2 x3 x6 H) (
 qw5 call x0 x1 x2 x3 x6 H)
def zhx(x0 x1 x2 x3 x4 x5 x6:AV)(H:Hp):R1 :=
 vq (aH H x3) H fun a76 H =>
 vq (aG a76) H fun a77 H =>
 vq (aB (aK .eql).f a77 (iN 32)) H fun a78 H =>
 vg (aP false a78) (.val x1) H fun a79 H =>
 vg (aP false a78) (aB (aK .gtr).f a79 (iN 8)) H fun a80 H =>
 vq (fI a78 (.bool true) a80) H fun a81 H =>
 cd a81 (
 .ok (.bool false) H) (
 q7s call x0 x1 x2 x3 x4 x5 x6 H)
def zCo(x0 x1 x2 x3 x4 x5 x6:AV)(H:Hp):R1:=zhx call x0 x1 x2 x3 x4 x5 x6 H
def zqo(call:Ev.Call)(x0:AV)(H:Hp):R1 :=
 vq (aG x0) H fun a0 H =>
 vq (aG x0) H fun a1 H =>
 vq (lH 5 x0 none (some a0) (some a1)) H fun a2 H =>
 .ok a2 H
def zCp(x0:AV)(H:Hp):R1:=zqo call x0 H
def zqn(call:Ev.Call)(x0:AV)(H:Hp):R1 :=
 vq (aG x0) H fun a0 H =>
 vq (aG x0) H fun a1 H =>
 vq (lH 1 x0 none (some a0) (some a1)) H fun a2 H =>
 .ok a2 H
def zCq(x0:AV)(H:Hp):R1:=zqn call x0 H
def zny(call:Ev.Call)(H:Hp):R1 :=
 .ok (iN 0) H
def znx(x0 x1:AV)(H:Hp):R1 :=
 vq (aB (aK .gtr).f x0 x1) H fun a3 H =>
 cd a3 (
 .ok (iN 1) H) (
 zny call H)
def znw(x0 x1:AV)(H:Hp):R1 :=
 vq (aB (aK .lss).f x0 x1) H fun a5 H =>
 cd a5 (
 .ok (.int .i64 (.negSucc 0)) H) (
 znx call x0 x1 H)
def znv(x0 x1 x6:AV)(H:Hp):R1 :=
 cd x6 (
 .ok (iN 1) H) (
 znw call x0 x1 H)
def zu7(call:Ev.Call)(H:Hp):R1 :=
 .ok (.int .i64 (.negSucc 0)) H
def zqm(x0 x1:AV)(H:Hp):R1 :=
 ve (call (.f 130) [x0] H) fun a0 H =>
 ve (call (.f 130) [x1] H) fun a1 H =>
 cd a0 (
 cd a1 (
 .ok (iN 0) H) (
 zu7 call H)) (
 znv call x0 x1 a1 H)
def zCr(x0 x1:AV)(H:Hp):R1:=zqm call x0 x1 H
def znu(call:Ev.Call)(H:Hp):R1 :=
 .ok (iN 0) H
def zql(x0:AV)(H:Hp):R1 :=
 vq (bM 3 H.nx x0) H fun a0 H =>
 vq (aO 2 a0) H fun a2 H =>
 vq (aH H a2) H fun a3 H =>
 cd a3 (
 .ok (iN 1) H) (
 znu call H)
def zCs(x0:AV)(H:Hp):R1:=zql call x0 H
def q7p(call:Ev.Call)(x3:AV)(H:Hp):R1 :=
 .ok x3 H
def zns(call:Ev.Call)(g2:AV->Hp->R1)(x8:AV)(H:Hp):R1 :=
 vq (aB (aK .add).f x8 (iN 1)) H fun a4 H =>
 g2 a4 H
def znr(eF:AV->Hp->R1)(g2:AV->Hp->R1)(x3 x6 x8:AV)(H:Hp):R1 :=
 vq (aL 1 x6 x8) H fun a6 H =>
 vq (aH H a6) H fun a7 H =>
 vq (aB (aK .neq).f a7 x3) H fun a8 H =>
 cd a8 (
 eF a7 H) (
 zns call g2 x8 H)
def q7q(eF:AV->Hp->R1)(bL:Hp->R1)(x3 x6 x7:AV)(g2:AV->Hp->R1)(x8:AV)(H:Hp):R1 :=
 vq (aB (aK .lss).f x8 x7) H fun a3 H =>
 cd a3 (
 znr call eF g2 x3 x6 x8 H) (
 bL H)
def q0o(eF:AV->Hp->R1)(bL:Hp->R1)(x3 x6 x7:AV)(n:Nat):AV->Hp->R1 :=
 Nat.rec (motive:=fun _=>AV->Hp->R1) (fun _ _=> .bad) (fun _ ih=>q7q call eF bL x3 x6 x7 ih) n
def znt(eF:AV->Hp->R1)(bL:Hp->R1)(x3 x6 x7:AV):AV->Hp->R1:=q0o call eF bL x3 x6 x7 dM
def zqk(x0:AV)(H:Hp):R1 :=
 vq (aG x0) H fun a1 H =>
 znt call (fun x2 H=> .ok x2 H) (fun H=>q7p call (iN 0) H) (iN 0) x0 a1 (iN 0) H
def zCt(x0:AV)(H:Hp):R1:=zqk call x0 H
def qp3(g3:AV->Hp->R1)(x0 x4 x5:AV)(H:Hp):R1 :=
 vq (aV x5) H fun a7 H =>
 vq (aO 0 a7) H fun a8 H =>
 vq (aH H a8) H fun a9 H =>
 ve (call (.f 144) [x0,a9] H) fun bQ H =>
 vq (aG x4) H fun bN H =>
 vq (aB (aK .sub).f bN (iN 1)) H fun a12 H =>
 vq (lH 2 x4 none (some a12) none) H fun bR H =>
 vq (aG bR) H fun cB H =>
 vq (aB (aK .gtr).f cB (iN 0)) H fun bV H =>
 cd bV (
 vq (aG bR) H fun a16 H =>
 vq (aB (aK .sub).f a16 (iN 1)) H fun a17 H =>
 vq (aL 2 bR a17) H fun cZ H =>
 vq (aO 0 cZ) H fun dJ H =>
 vq (aH H dJ) H fun a20 H =>
 dz 0 H fun kG H =>
 dn 0 0 kG H [] [] (.val x0) fun a22 H p w =>
 dn 1 0 kG H p w (.val a20) fun a23 H p w =>
 dn 2 0 kG H p w (.val x0) fun a24 H p w =>
 dn 3 0 kG H p w (.val a20) fun a25 H p w =>
 dn 4 4 kG H p w (aV a24) fun a26 H p w =>
 dn 5 20 kG H p w (aO 512 a26) fun a27 H p w =>
 dn 6 60 kG H p w (fO 256 1 a27 a25) fun a28 H p w =>
 dl 7 124 kG H p w (fun H=>aH H a28) fun a29 H p w =>
 dn 8 0 kG H p w (.val x0) fun a30 H p w =>
 dn 9 0 kG H p w (.val a9) fun a31 H p w =>
 dn 10 256 kG H p w (aV a30) fun a32 H p w =>
 dn 11 1280 kG H p w (aO 512 a32) fun a33 H p w =>
 dn 12 3840 kG H p w (fO 256 1 a33 a31) fun a34 H p w =>
 dl 13 7936 kG H p w (fun H=>aH H a34) fun a35 H p w =>
 dn 14 16380 kG H p w (nW mI a29 [a35]) fun a36 H p w =>
 dn 15 1 kG H p w (aV a22) fun a37 H p w =>
 dn 16 32769 kG H p w (aO 512 a37) fun a38 H p w =>
 dn 17 131071 kG H p w (fO 256 1 a38 a23) fun a39 H p w =>
 de 262143 H p w (eY (bO 262143 p H) a39 a36) (some true) fun _ H p w =>
 jO p H fun H =>
 g3 bR H) (
 g3 bR H)
def q7m(call:Ev.Call)(g42:AV->Hp->R1)(x0 x4 x5 x6:AV)(H:Hp):R1 :=
 vq (aV x0) H fun a62 H =>
 vq (aO 768 a62) H fun a63 H =>
 vq (fO 256 1 a63 x6) H fun a64 H =>
 vq (aH H a64) H fun a65 H =>
 cd a65 (
 dz 0 H fun oF H =>
 dn 0 0 oF H [] [] (.val x0) fun a67 H p w =>
 dn 1 0 oF H p w (.val x5) fun a68 H p w =>
 dn 2 2 oF H p w (aV a68) fun a69 H p w =>
 dn 3 6 oF H p w (aO 0 a69) fun a70 H p w =>
 dl 4 14 oF H p w (fun H=>aH H a70) fun a71 H p w =>
 dn 5 0 oF H p w (.val x0) fun a72 H p w =>
 dn 6 0 oF H p w (.val x5) fun a73 H p w =>
 dn 7 64 oF H p w (aV a73) fun a74 H p w =>
 dn 8 192 oF H p w (aO 0 a74) fun a75 H p w =>
 dl 9 448 oF H p w (fun H=>aH H a75) fun a76 H p w =>
 dn 10 32 oF H p w (aV a72) fun a77 H p w =>
 dn 11 1056 oF H p w (aO 512 a77) fun a78 H p w =>
 dn 12 4064 oF H p w (fO 256 1 a78 a76) fun a79 H p w =>
 dl 13 8160 oF H p w (fun H=>aH H a79) fun a80 H p w =>
 dn 14 0 oF H p w (.val x0) fun a81 H p w =>
 dn 15 0 oF H p w (.val x6) fun a82 H p w =>
 dn 16 16384 oF H p w (aV a81) fun a83 H p w =>
 dn 17 81920 oF H p w (aO 256 a83) fun a84 H p w =>
 dn 18 245760 oF H p w (fO 256 1 a84 a82) fun a85 H p w =>
 dl 19 507904 oF H p w (fun H=>aH H a85) fun a86 H p w =>
 dn 20 1048544 oF H p w (nW mI a80 [a86]) fun a87 H p w =>
 dn 21 1 oF H p w (aV a67) fun a88 H p w =>
 dn 22 2097153 oF H p w (aO 512 a88) fun a89 H p w =>
 dn 23 8388607 oF H p w (fO 256 1 a89 a71) fun a90 H p w =>
 de 16777215 H p w (eY (bO 16777215 p H) a90 a87) (some true) fun _ H p w =>
 jO p H fun H =>
 g42 x4 H) (
 g42 x4 H)
def q0n(oL:AV->Hp->R1)(g42:AV->Hp->R1)(x0 x4 x5:AV)(H:Hp):R1 :=
 vl (aV x5) fun a43 =>
 vl (aO 0 a43) fun a44 =>
 vl (aH H a44) fun a45 =>
 vl (aV x0) fun a46 =>
 vl (aO 0 a46) fun a47 =>
 vl (fO 256 1 a47 a45) fun a48 =>
 vl (aH H a48) fun a49 =>
 vl (aV x5) fun a50 =>
 vl (aO 1 a50) fun a51 =>
 vl (aH H a51) fun a52 =>
 vl (aL 1 a49 a52) fun a53 =>
 vl (aH H a53) fun a54 =>
 vq (aV x5) H fun a55 H =>
 vq (aO 1 a55) H fun a56 H =>
 vq (aH H a56) H fun a57 H =>
 vq (aB (aK .add).f a57 (iN 1)) H fun a58 H =>
 vq (aV x5) H fun a59 H =>
 vq (aO 1 a59) H fun a60 H =>
 ve (eY H a60 a58) fun _ H =>
 vq (aV x0) H fun a93 H =>
 vq (aO 256 a93) H fun a94 H =>
 vq (fO 256 1 a94 a54) H fun a95 H =>
 vq (aH H a95) H fun a96 H =>
 vq (aB (aK .eql).f a96 (iN 0)) H fun a97 H =>
 cd a97 (
 ve (call (.f 143) [x0,a54] H) fun a98 H =>
 vq (dH (dD [iN 0,iN 0] [(0,1,a54),(1,1,(iN 0))])) H fun a99 H =>
 vq (jL 1 H.nx (dD (bB [iN 0,iN 0] 1) [(0,2,a99)])) H fun rQ H =>
 ve (iJ 2 16 H x4 (jY 2 H rQ)) fun uV H =>
 oL uV H) (
 q7m call g42 x0 x4 x5 a54 H)
def qw4(oL:AV->Hp->R1)(uI:AV->Hp->R1)(x0 x5:AV)(g42:AV->Hp->R1)(x4:AV)(H:Hp):R1 :=
 vl (aV x5) fun zH =>
 vl (aO 1 zH) fun wE =>
 vl (aH H wE) fun a105 =>
 vl (aV x5) fun yH =>
 vl (aO 0 yH) fun a107 =>
 vl (aH H a107) fun aAR =>
 vl (aV x0) fun a109 =>
 vl (aO 0 a109) fun rO =>
 vl (fO 256 1 rO aAR) fun sG =>
 vl (aH H sG) fun yC =>
 vl (aG yC) fun qQ =>
 vl (aB (aK .lss).f a105 qQ) fun xH =>
 cd xH (
 q0n call oL g42 x0 x4 x5 H) (
 uI x4 H)
def qp2(oL:AV->Hp->R1)(uI:AV->Hp->R1)(x0 x5:AV)(n:Nat):AV->Hp->R1 :=
 Nat.rec (motive:=fun _=>AV->Hp->R1) (fun _ _=> .bad) (fun _ ih=>qw4 call oL uI x0 x5 ih) n
def q7o(oL:AV->Hp->R1)(uI:AV->Hp->R1)(x0 x5:AV):AV->Hp->R1:=qp2 call oL uI x0 x5 dM
def q0m(g3:AV->Hp->R1)(x0 x4:AV)(H:Hp):R1 :=
 vq (aG x4) H fun a4 H =>
 vq (aB (aK .sub).f a4 (iN 1)) H fun a5 H =>
 vq (aL 2 x4 a5) H fun a6 H =>
 q7o call (fun x4 H=>g3 x4 H) (fun x4 H=>qp3 call g3 x0 x4 a6 H) x0 a6 x4 H
def q7n(oU:Hp->R1)(x0:AV)(g3:AV->Hp->R1)(x4:AV)(H:Hp):R1 :=
 vq (aG x4) H fun a116 H =>
 vq (aB (aK .gtr).f a116 (iN 0)) H fun a117 H =>
 cd a117 (
 q0m call g3 x0 x4 H) (
 oU H)
def qnt(oU:Hp->R1)(x0:AV)(n:Nat):AV->Hp->R1 :=
 Nat.rec (motive:=fun _=>AV->Hp->R1) (fun _ _=> .bad) (fun _ ih=>q7n call oU x0 ih) n
def znq(oU:Hp->R1)(x0:AV):AV->Hp->R1:=qnt call oU x0 dM
def q0l(x0 x4:AV)(H:Hp):R1 :=
 znq call (fun H=> .ok (.aZ []) H) x0 x4 H
def zu6(x0 x1:AV)(H:Hp):R1 :=
 ve (call (.f 143) [x0,x1] H) fun a0 H =>
 vq (dH (dD [iN 0,iN 0] [(0,1,x1),(1,1,(iN 0))])) H fun a1 H =>
 vq (jL 1 H.nx (dD (bB [iN 0,iN 0] 1) [(0,2,a1)])) H fun a2 H =>
 q0l call x0 a2 H
def zCu(x0 x1:AV)(H:Hp):R1:=zu6 call x0 x1 H
def zu5(call:Ev.Call)(x0 x1:AV)(H:Hp):R1 :=
 vl (aL 1 x0 (iN 0)) fun a0 =>
 vl (aH H a0) fun a1 =>
 vl (aL 1 x1 (iN 0)) fun a2 =>
 vl (aH H a2) fun a3 =>
 vl (aB (aK .sub).f a1 a3) fun a4 =>
 .ok a4 H
def zCv(x0 x1:AV)(H:Hp):R1:=zu5 call x0 x1 H
def q0k(call:Ev.Call)(g5:AV->Hp->R1)(gH:AV)(H:Hp):R1 :=
 vq (aB (aK .add).f gH (iN 1)) H fun a7 H =>
 g5 a7 H
def qw1(call:Ev.Call)(g14:AV->Hp->R1)(x55:AV)(H:Hp):R1 :=
 vq (aB (aK .add).f x55 (iN 1)) H fun a16 H =>
 g14 a16 H
def q7i(qJ:Hp->R1)(nM:Hp->R1)(g14:AV->Hp->R1)(x0 x1 x5 x6 x55:AV)(H:Hp):R1 :=
 vq (aL 1 x5 x55) H fun cZ H =>
 vq (aH H cZ) H fun dJ H =>
 vq ((mZ .not).f dJ) H fun a20 H =>
 vg (aP true a20) (.val x6) H fun a21 H =>
 vg (aP true a20) (.val x55) H fun a22 H =>
 vg (aP true a20) (aL 1 a21 a22) H fun a23 H =>
 vg (aP true a20) (aH H a23) H fun a24 H =>
 vg (aP true a20) ((mZ .not).f a24) H fun a25 H =>
 vq (fI a20 a25 (.bool false)) H fun a26 H =>
 cd a26 (
 vq (aL 1 x5 x55) H fun a27 H =>
 ve (eY H a27 (.bool true)) fun _ H =>
 vq (aH H x1) H fun a29 H =>
 vq (aL 1 a29 x55) H fun a30 H =>
 vq (aH H a30) H fun a31 H =>
 ve (vN call x0 [a31] H) fun a32 H =>
 vq ((mZ .not).f a32) H fun a33 H =>
 cd a33 (
 qJ H) (
 nM H)) (
 qw1 call g14 x55 H)
def qw3(qJ:Hp->R1)(nM:Hp->R1)(x0 x1 x5 x6 x54:AV)(g14:AV->Hp->R1)(x55:AV)(H:Hp):R1 :=
 vq (aB (aK .lss).f x55 x54) H fun bV H =>
 cd bV (
 q7i call qJ nM g14 x0 x1 x5 x6 x55 H) (
 nM H)
def qkd(qJ:Hp->R1)(nM:Hp->R1)(x0 x1 x5 x6 x54:AV)(n:Nat):AV->Hp->R1 :=
 Nat.rec (motive:=fun _=>AV->Hp->R1) (fun _ _=> .bad) (fun _ ih=>qw3 call qJ nM x0 x1 x5 x6 x54 ih) n
def q7l(qJ:Hp->R1)(nM:Hp->R1)(x0 x1 x5 x6 x54:AV):AV->Hp->R1:=qkd call qJ nM x0 x1 x5 x6 x54 dM
def qw0(gW:Hp->R1)(g5:AV->Hp->R1)(x0 x1 x5 x6 gH:AV)(H:Hp):R1 :=
 vq (aH H x1) H fun a12 H =>
 vq (aG a12) H fun bR H =>
 q7l call (fun H=>gW H) (fun H=>q0k call g5 gH H) x0 x1 x5 x6 bR (iN 0) H
def qp1(call:Ev.Call)(g39:AV->Hp->R1)(x25:AV)(H:Hp):R1 :=
 vq (aB (aK .add).f x25 (iN 1)) H fun a41 H =>
 g39 a41 H
def q7h(g39:AV->Hp->R1)(x3 x5 x6 rR x25:AV)(H:Hp):R1 :=
 vq (aL 3 rR x25) H fun a43 H =>
 vq (aX 3 H a43) H fun a44 H =>
 vq (.new (.ptr H.nx 0) (aD 0 [iN 0,iN 0,.bool false])) H fun a45 H =>
 ve (dX 3 H a45 a44) fun _ H =>
 vl (aH H x3) fun a47 =>
 vl (aO 0 a45) fun a48 =>
 vl (aH H a48) fun a49 =>
 vl (aL 1 a47 a49) fun a50 =>
 vl (aH H a50) fun a51 =>
 vl (aH H x3) fun a52 =>
 vl (aO 1 a45) fun a53 =>
 vl (aH H a53) fun a54 =>
 vl (aL 1 a52 a54) fun a55 =>
 vl (aH H a55) fun a56 =>
 vq (aB (aK .neq).f a51 a56) H fun a57 H =>
 vg (aP true a57) (.val x5) H fun a58 H =>
 vg (aP true a57) (.val a56) H fun a59 H =>
 vg (aP true a57) (aL 1 a58 a59) H fun a60 H =>
 vg (aP true a57) (aH H a60) H fun a61 H =>
 vg (aP true a57) ((mZ .not).f a61) H fun a62 H =>
 vq (fI a57 a62 (.bool false)) H fun a63 H =>
 cd a63 (
 vq (aL 1 x6 a51) H fun a64 H =>
 ve (eY H a64 (.bool true)) fun _ H =>
 qp1 call g39 x25 H) (
 qp1 call g39 x25 H)
def qw2(tK:Hp->R1)(x3 x5 x6 rR x24:AV)(g39:AV->Hp->R1)(x25:AV)(H:Hp):R1 :=
 vq (aB (aK .lss).f x25 x24) H fun a40 H =>
 cd a40 (
 q7h call g39 x3 x5 x6 rR x25 H) (
 tK H)
def qkc(tK:Hp->R1)(x3 x5 x6 rR x24:AV)(n:Nat):AV->Hp->R1 :=
 Nat.rec (motive:=fun _=>AV->Hp->R1) (fun _ _=> .bad) (fun _ ih=>qw2 call tK x3 x5 x6 rR x24 ih) n
def q7k(tK:Hp->R1)(x3 x5 x6 rR x24:AV):AV->Hp->R1:=qkc call tK x3 x5 x6 rR x24 dM
def q7g(gW:Hp->R1)(g5:AV->Hp->R1)(x0 x1 x2 x3 x5 gH:AV)(H:Hp):R1 :=
 vq (aH H x1) H fun a9 H =>
 vq (aG a9) H fun bQ H =>
 vq (qe7 [.bool false] 1 H.nx bQ bQ) H fun bN H =>
 vq (aO 1 x2) H fun a36 H =>
 vq (aH H a36) H fun a37 H =>
 vq (aG a37) H fun a38 H =>
 q7k call (fun H=>qw0 call gW g5 x0 x1 x5 bN gH H) x3 x5 bN a37 a38 (iN 0) H
def q7j(gW:Hp->R1)(dU:Hp->R1)(x0 x1 x2 x3 x5 jT:AV)(g5:AV->Hp->R1)(gH:AV)(H:Hp):R1 :=
 vq (aB (aK .lss).f gH jT) H fun a6 H =>
 cd a6 (
 q7g call gW g5 x0 x1 x2 x3 x5 gH H) (
 dU H)
def qns(gW:Hp->R1)(dU:Hp->R1)(x0 x1 x2 x3 x5 jT:AV)(n:Nat):AV->Hp->R1 :=
 Nat.rec (motive:=fun _=>AV->Hp->R1) (fun _ _=> .bad) (fun _ ih=>q7j call gW dU x0 x1 x2 x3 x5 jT ih) n
def znp(gW:Hp->R1)(dU:Hp->R1)(x0 x1 x2 x3 x5 jT:AV):AV->Hp->R1:=qns call gW dU x0 x1 x2 x3 x5 jT dM
def zqj(x0 x1 x2 x3:AV)(H:Hp):R1 :=
 vq (aH H x1) H fun a0 H =>
 vq (aG a0) H fun a1 H =>
 vq (qe7 [.bool false] 1 H.nx a1 a1) H fun a2 H =>
 vq (aH H x1) H fun a3 H =>
 vq (aG a3) H fun a4 H =>
 znp call (fun H=> .ok (.aZ []) H) (fun H=> .ok (.aZ []) H) x0 x1 x2 x3 a2 a4 (iN 0) H
def zCw(x0 x1 x2 x3:AV)(H:Hp):R1:=zqj call x0 x1 x2 x3 H
def zqi(x0:AV)(H:Hp):R1 :=
 vq (bM 4 H.nx x0) H fun a0 H =>
 ve (call (.f 64) [a0] H) fun a1 H =>
 vq (bK 0 a1) H fun a2 H =>
 vq (bK 1 a1) H fun a3 H =>
 vq (bK 2 a1) H fun a4 H =>
 .ok a4 H
def zCx(x0:AV)(H:Hp):R1:=zqi call x0 H
def q7e(call:Ev.Call)(H:Hp):R1 :=
 .ok (iN 0) H
def q0j:=cst q7e
theorem qtr:q0j=q7e:=jM _
def qwz(call:Ev.Call)(g1:AV->Hp->R1)(bI:AV)(H:Hp):R1 :=
 vq (aB (aK .add).f bI (iN 1)) H fun a3 H =>
 g1 a3 H
def q7c:=cst qwz
theorem qtq:q7c=qwz:=jM _
def qwy(jB:AV->Hp->R1)(g1:AV->Hp->R1)(bI x40:AV)(H:Hp):R1 :=
 cd x40 (
 jB (iN 7) H) (
 q7c call g1 bI H)
def znn:=cst qwy
theorem qtp:znn=qwy:=jM _
def qpz(jB:AV->Hp->R1)(g1:AV->Hp->R1)(x1 x5 x6 bI gH:AV)(H:Hp):R1 :=
 cd gH (
 jB (iN 6) H) (
 dz 0 H fun b6 H =>
 dn 0 0 b6 H [] [] (.val x1) fun a7 H p w =>
 dn 1 1 b6 H p w (aV a7) fun a8 H p w =>
 dn 2 3 b6 H p w (aO 1 a8) fun a9 H p w =>
 dl 3 7 b6 H p w (fun H=>aH H a9) fun bQ H p w =>
 dn 4 0 b6 H p w (.val x5) fun bN H p w =>
 dn 5 31 b6 H p w (lH 2 bQ none (some bN) none) fun a12 H p w =>
 dl 6 0 b6 H p w (fun H=>aX 2 H x6) fun bR H p w =>
 de 127 H p w (call (.f 124) [a12,bR] (bO 127 p H)) (some true) fun cB H p w =>
 dn 8 255 b6 H p w (.val cB) fun bV H p w =>
 jO p H fun H =>
 znn call jB g1 bI bV H)
def q7b:=cst qpz
theorem qnp:q7b=qpz:=jM _
def qpy(jB:AV->Hp->R1)(g1:AV->Hp->R1)(x0 x1 x5 x6 bI:AV)(H:Hp):R1 :=
 dz 0 H fun b17 H =>
 dn 0 0 b17 H [] [] (.val x0) fun cZ H p w =>
 dn 1 1 b17 H p w (aV cZ) fun dJ H p w =>
 dn 2 3 b17 H p w (aO 1 dJ) fun a20 H p w =>
 dl 3 7 b17 H p w (fun H=>aH H a20) fun a21 H p w =>
 dn 4 0 b17 H p w (aO 0 x6) fun a22 H p w =>
 dl 5 16 b17 H p w (fun H=>aH H a22) fun a23 H p w =>
 dl 6 63 b17 H p w (fun H=>qP ⟨(⟨iB⟩:E2).f,none⟩ (iN 0) false H a21 a23) fun a24 H p w =>
 dn 7 127 b17 H p w (aB (aK .eql).f a24 (iN 0)) fun a25 H p w =>
 dn 8 255 b17 H p w (.val a25) fun a26 H p w =>
 dq false false 9 511 (b17+9) H p w (fun _=>aO 1 x6) (aP false a26) fun a27 H p w =>
 dq true false 10 1023 (b17+10) H p w (fun H=>aH H a27) (aP false a26) fun a28 H p w =>
 dq false false 11 2047 (b17+11) H p w (fun _=>gY (oI .neq).f a28 (.str 0 0)) (aP false a26) fun a29 H p w =>
 dq false false 12 4095 (b17+12) H p w (fun _=> .val a29) (aP false a26) fun a30 H p w =>
 dq false false 13 8191 (b17+13) H p w (fun _=> .val x0) (aP true a30) fun a31 H p w =>
 dq false false 14 8191 (b17+14) H p w (fun _=>aO 0 x6) (aP true a30) fun a32 H p w =>
 dq true false 15 24575 (b17+15) H p w (fun H=>aH H a32) (aP true a30) fun a33 H p w =>
 dq false false 16 8191 (b17+16) H p w (fun _=>aO 1 x6) (aP true a30) fun a34 H p w =>
 dq true false 17 73727 (b17+17) H p w (fun H=>aH H a34) (aP true a30) fun a35 H p w =>
 de 262143 H p w (call (.f 65) [a31,a33,a35] (bO 262143 p H)) (aP true a30) fun a36 H p w =>
 dq false false 19 524287 (b17+19) H p w (fun _=>qZ false ((⟨E2.f ⟨qms⟩⟩:E2).f a36 (.bZ))) (aP true a30) fun a37 H p w =>
 dq false false 20 1048575 (b17+20) H p w (fun _=>fI a30 a37 (.bool false)) (aP false a26) fun a38 H p w =>
 dn 21 2097151 b17 H p w (fI a26 (.bool true) a38) fun a39 H p w =>
 dn 22 4194303 b17 H p w (.val a39) fun a40 H p w =>
 jO p H fun H =>
 q7b call jB g1 x1 x5 x6 bI a40 H
def q7a:=cst qpy
theorem qno:q7a=qpy:=jM _
def qp0(jB:AV->Hp->R1)(g1:AV->Hp->R1)(x0 x1 x10 bI:AV)(H:Hp):R1 :=
 vq (aL 2 x10 bI) H fun a42 H =>
 vq (aX 2 H a42) H fun a43 H =>
 vq (.new (.ptr H.nx 0) (aD 0 [.str 0 0,.str 0 0])) H fun a44 H =>
 ve (dX 2 H a44 a43) fun _ H =>
 q7a call jB g1 x0 x1 bI a44 bI H
def q7d:=cst qp0
theorem qnr:q7d=qp0:=jM _
def q7f(jB:AV->Hp->R1)(iE:Hp->R1)(x0 x1 x10 bY:AV)(g1:AV->Hp->R1)(bI:AV)(H:Hp):R1 :=
 vq (aB (aK .lss).f bI bY) H fun a2 H =>
 cd a2 (
 q7d call jB g1 x0 x1 x10 bI H) (
 iE H)
def qnq(jB:AV->Hp->R1)(iE:Hp->R1)(x0 x1 x10 bY:AV)(n:Nat):AV->Hp->R1 :=
 Nat.rec (motive:=fun _=>AV->Hp->R1) (fun _ _=> .bad) (fun _ ih=>q7f call jB iE x0 x1 x10 bY ih) n
def zno(jB:AV->Hp->R1)(iE:Hp->R1)(x0 x1 x10 bY:AV):AV->Hp->R1:=qnq call jB iE x0 x1 x10 bY dM
def qpx(x0 x1 x10 bY bI:AV)(H:Hp):R1 :=
 zno call (fun x4 H=> .ok x4 H) (fun H=>q0j call H) x0 x1 x10 bY bI H
def q69:=cst qpx
theorem qnn:q69=qpx:=jM _
def zqh(x0 x1:AV)(H:Hp):R1 :=
 vq (aV x1) H fun a48 H =>
 vq (aO 1 a48) H fun a49 H =>
 vq (aH H a49) H fun a50 H =>
 vq (aG a50) H fun a51 H =>
 q69 call x0 x1 a50 a51 (iN 0) H
def zCy(x0 x1:AV)(H:Hp):R1:=zqh call x0 x1 H
def znl(call:Ev.Call)(x6:AV)(H:Hp):R1 :=
 .ok (.aZ [x6,(iN 0)]) H
def q66(call:Ev.Call)(g2:AV->AV->Hp->R1)(x6 dV:AV)(H:Hp):R1 :=
 vq (aB (aK .add).f dV (iN 1)) H fun a4 H =>
 g2 x6 a4 H
def qwx(g2:AV->AV->Hp->R1)(x6 x9 dV:AV)(H:Hp):R1 :=
 vg (aP false x6) (aO 0 x9) H fun a17 H =>
 vg (aP false x6) (aH H a17) H fun cZ H =>
 vg (aP false x6) (aB (aK .eql).f cZ (.int .u8 (.ofNat 1))) H fun dJ H =>
 vq (fI x6 (.bool true) dJ) H fun a20 H =>
 q66 call g2 a20 dV H
def q67(eF:AV->AV->Hp->R1)(g2:AV->AV->Hp->R1)(x0 x1 x6 bY dV:AV)(H:Hp):R1 :=
 vq (aL 5 bY dV) H fun a6 H =>
 vq (aX 5 H a6) H fun a7 H =>
 vq (.new (.ptr H.nx 0) (aD 0 [.int .u8 (.ofNat 0),.str 0 0,.str 0 0,.aA,.bool false])) H fun a8 H =>
 ve (dX 5 H a8 a7) fun _ H =>
 vq (aO 0 a8) H fun bQ H =>
 vq (aH H bQ) H fun bN H =>
 vq (aB (aK .eql).f bN (.int .u8 (.ofNat 2))) H fun a12 H =>
 vg (aP false a12) (aO 0 a8) H fun bR H =>
 vg (aP false a12) (aH H bR) H fun cB H =>
 vg (aP false a12) (aB (aK .eql).f cB (.int .u8 (.ofNat 3))) H fun bV H =>
 vq (fI a12 (.bool true) bV) H fun a16 H =>
 vg (aP true a16) (.val x0) H fun a22 H =>
 vg (aP true a16) (.val x1) H fun a23 H =>
 vg (aP true a16) (aO 1 a8) H fun a24 H =>
 vg (aP true a16) (aH H a24) H fun a25 H =>
 qA (aP true a16) (call (.f 65) [a22,a23,a25] H) H fun a26 H =>
 vg (aP true a16) (qZ false ((⟨E2.f ⟨qms⟩⟩:E2).f a26 (.bZ))) H fun a27 H =>
 vq (fI a16 a27 (.bool false)) H fun a28 H =>
 cd a28 (
 eF x6 (iN 6) H) (
 vq (aO 0 a8) H fun a29 H =>
 vq (aH H a29) H fun a30 H =>
 vq (aB (aK .eql).f a30 (.int .u8 (.ofNat 3))) H fun a31 H =>
 vg (aP true a31) (.val x0) H fun a32 H =>
 vg (aP true a31) (.val x1) H fun a33 H =>
 vg (aP true a31) (aO 1 a8) H fun a34 H =>
 vg (aP true a31) (aH H a34) H fun a35 H =>
 vg (aP true a31) (aO 2 a8) H fun a36 H =>
 vg (aP true a31) (aH H a36) H fun a37 H =>
 qA (aP true a31) (call (.f 66) [a32,a33,a35,a37] H) H fun a38 H =>
 vg (aP true a31) (aG a38) H fun a39 H =>
 vg (aP true a31) (aB (aK .eql).f a39 (iN 0)) H fun a40 H =>
 vq (fI a31 a40 (.bool false)) H fun a41 H =>
 cd a41 (
 eF x6 (iN 11) H) (
 qwx call g2 x6 a8 dV H))
def q68(eF:AV->AV->Hp->R1)(bL:AV->Hp->R1)(x0 x1 bY bI:AV)(g2:AV->AV->Hp->R1)(x6 dV:AV)(H:Hp):R1 :=
 vq (aB (aK .lss).f dV bI) H fun a3 H =>
 cd a3 (
 q67 call eF g2 x0 x1 x6 bY dV H) (
 bL x6 H)
def qto(eF:AV->AV->Hp->R1)(bL:AV->Hp->R1)(x0 x1 bY bI:AV)(n:Nat):AV->AV->Hp->R1 :=
 Nat.rec (motive:=fun _=>AV->AV->Hp->R1) (fun _ _ _=> .bad) (fun _ ih=>q68 call eF bL x0 x1 bY bI ih) n
def znm(eF:AV->AV->Hp->R1)(bL:AV->Hp->R1)(x0 x1 bY bI:AV):AV->AV->Hp->R1:=qto call eF bL x0 x1 bY bI dM
def zqg(x0 x1 x2:AV)(H:Hp):R1 :=
 vq (aG x2) H fun a1 H =>
 znm call (fun x6 x7 H=> .ok (.aZ [x6,x7]) H) (fun x6 H=>znl call x6 H) x0 x1 x2 a1 (.bool false) (iN 0) H
def zCz(x0 x1 x2:AV)(H:Hp):R1:=zqg call x0 x1 x2 H
def zqf(x0 x1:AV)(H:Hp):R1 :=
 vq (bM 2 H.nx x0) H fun a0 H =>
 vq (lJ H.nx x1) H fun a1 H =>
 vq (aO 1 a0) H fun a2 H =>
 vq (aH H a2) H fun a3 H =>
 ve (call (.f 125) [a3,(.fn 126 [] [a1])] H) fun a4 H =>
 .ok a4 H
def zDa(x0 x1:AV)(H:Hp):R1:=zqf call x0 x1 H
def qkb(call:Ev.Call)(H:Hp):R1 :=
 .ok (iN 0) H
def qh5(x57:AV)(H:Hp):R1 :=
 cd x57 (
 .ok (iN 6) H) (
 qkb call H)
def qem(x0 x3 x4 x6:AV)(H:Hp):R1 :=
 vq ((mZ .not).f x6) H fun a23 H =>
 vg (aP false a23) (aX 2 H x3) H fun a24 H =>
 vg (aP false a23) (aX 2 H x4) H fun a25 H =>
 vg (aP false a23) (qZ true ((⟨E2.f ⟨lT fun xs ys=>wQ p1 ⟨qfo⟩ 1 xs ys 2 0⟩⟩:E2).f a24 a25)) H fun a26 H =>
 vq (fI a23 (.bool true) a26) H fun a27 H =>
 cd a27 (
 .ok (iN 5) H) (
 vq (aV x0) H fun a29 H =>
 vq (aO 0 a29) H fun a30 H =>
 vq (aH H a30) H fun a31 H =>
 vq (aB (aK .eql).f a31 (.int .u8 (.ofNat 3))) H fun a32 H =>
 vg (aP true a32) (.val x0) H fun a33 H =>
 vg (aP true a32) (aV a33) H fun a34 H =>
 vg (aP true a32) (aO 2 a34) H fun a35 H =>
 vg (aP true a32) (aH H a35) H fun a36 H =>
 qA (aP true a32) (call (.f 129) [a36] H) H fun a37 H =>
 vg (aP true a32) ((mZ .not).f a37) H fun a38 H =>
 vq (fI a32 a38 (.bool false)) H fun a39 H =>
 cd a39 (
 qh5 call a39 H) (
 vq (aV x0) H fun a40 H =>
 vq (aO 0 a40) H fun a41 H =>
 vq (aH H a41) H fun a42 H =>
 vq (aB (aK .eql).f a42 (.int .u8 (.ofNat 2))) H fun a43 H =>
 vg (aP false a43) (.val x0) H fun a44 H =>
 vg (aP false a43) (aV a44) H fun a45 H =>
 vg (aP false a43) (aO 0 a45) H fun a46 H =>
 vg (aP false a43) (aH H a46) H fun a47 H =>
 vg (aP false a43) (aB (aK .eql).f a47 (.int .u8 (.ofNat 3))) H fun a48 H =>
 vq (fI a43 (.bool true) a48) H fun a49 H =>
 vg (aP true a49) (.val x0) H fun a50 H =>
 vg (aP true a49) (aV a50) H fun a51 H =>
 vg (aP true a49) (aO 1 a51) H fun a52 H =>
 vg (aP true a49) (aH H a52) H fun a53 H =>
 qA (aP true a49) (call (.f 129) [a53] H) H fun a54 H =>
 vg (aP true a49) ((mZ .not).f a54) H fun a55 H =>
 vq (fI a49 a55 (.bool false)) H fun a56 H =>
 qh5 call a56 H))
def qww(x0 x3 x4 x5 x29 x40:AV)(H:Hp):R1 :=
 cd x40 (
 vq (aB (aK .geq).f x5 (iN 2)) H fun a70 H =>
 qem call x0 x3 x4 a70 H) (
 vq (aB (aK .eql).f x29 (.int .u8 (.ofNat 6))) H fun a71 H =>
 cd a71 (
 vq (aB (aK .eql).f x5 (iN 2)) H fun a72 H =>
 qem call x0 x3 x4 a72 H) (
 .ok (iN 10) H))
def zqe(x0:AV)(H:Hp):R1 :=
 dz 13 H fun b0 H =>
 dn 0 0 b0 H [] [] (.val x0) fun a1 H p w =>
 dn 1 1 b0 H p w (aV a1) fun a2 H p w =>
 dn 2 3 b0 H p w (aO 1 a2) fun a3 H p w =>
 dl 3 7 b0 H p w (fun H=>aH H a3) fun a4 H p w =>
 dn 4 15 b0 H p w (gY (oI .neq).f a4 (.str 0 0)) fun a5 H p w =>
 dn 5 0 b0 H p w (.val x0) fun a6 H p w =>
 dn 6 32 b0 H p w (aV a6) fun a7 H p w =>
 dn 7 96 b0 H p w (aO 2 a7) fun a8 H p w =>
 dl 8 224 b0 H p w (fun H=>aH H a8) fun a9 H p w =>
 dn 9 480 b0 H p w (gY (oI .neq).f a9 (.str 0 0)) fun bQ H p w =>
 dn 10 1023 b0 H p w (dH (dD [.bool false,.bool false] [(0,1,a5),(1,1,bQ)])) fun bN H p w =>
 da 11 0 b0 H p w (.new (.ptr (b0+11) 0) (aD 0 [.bool false,.bool false])) fun a12 H p w =>
 de 4095 H p w (dX 2 (bO 4095 p H) a12 bN) (some true) fun _ H p w =>
 jO p H fun H =>
 vq (dH (dD [.bool false,.bool false] [])) H fun cB H =>
 vq (.new (.ptr H.nx 0) (aD 0 [.bool false,.bool false])) H fun bV H =>
 ve (dX 2 H bV cB) fun _ H =>
 vq (aV x0) H fun a17 H =>
 vq (aO 3 a17) H fun cZ H =>
 vq (aH H cZ) H fun dJ H =>
 vq (aG dJ) H fun a20 H =>
 vq (aB (aK .eql).f a20 (iN 0)) H fun a21 H =>
 vq (aV x0) H fun a58 H =>
 vq (aO 0 a58) H fun a59 H =>
 vq (aH H a59) H fun a60 H =>
 vq (aB (aK .eql).f a60 (.int .u8 (.ofNat 1))) H fun a61 H =>
 cd a61 (
 qem call x0 a12 bV a21 H) (
 vq (aB (aK .eql).f a60 (.int .u8 (.ofNat 2))) H fun a62 H =>
 cd a62 (
 vq (fO 2 1 a12 (iN 0)) H fun a63 H =>
 vq (aH H a63) H fun a64 H =>
 vq (dH (dD [.bool false,.bool false] [(0,1,a64),(1,1,(.bool false))])) H fun a65 H =>
 ve (dX 2 H bV a65) fun _ H =>
 qem call x0 a12 bV a21 H) (
 vq (aB (aK .eql).f a60 (.int .u8 (.ofNat 3))) H fun a67 H =>
 cd a67 (
 vq (aX 2 H a12) H fun a68 H =>
 ve (dX 2 H bV a68) fun _ H =>
 qem call x0 a12 bV a21 H) (
 vq (aB (aK .eql).f a60 (.int .u8 (.ofNat 4))) H fun a74 H =>
 cd a74 (
 qww call x0 a12 bV a20 a60 a74 H) (
 vq (aB (aK .eql).f a60 (.int .u8 (.ofNat 5))) H fun a75 H =>
 qww call x0 a12 bV a20 a60 a75 H))))
def zDb(x0:AV)(H:Hp):R1:=zqe call x0 H
def zqd(call:Ev.Call)(x0:AV)(H:Hp):R1 :=
 vq (aB (aK .neq).f x0 x0) H fun a0 H =>
 .ok a0 H
def zDc(x0:AV)(H:Hp):R1:=zqd call x0 H
def zqc(call:Ev.Call)(x0 x1:AV)(H:Hp):R1 :=
 vq (aV x0) H fun a0 H =>
 vq (aO 1025 a0) H fun a1 H =>
 vq (aH H a1) H fun a2 H =>
 vq (aB (aK .add).f a2 (iN 1)) H fun a3 H =>
 vq (aV x0) H fun a4 H =>
 vq (aO 1025 a4) H fun a5 H =>
 ve (eY H a5 a3) fun _ H =>
 dz 0 H fun b7 H =>
 dn 0 0 b7 H [] [] (.val x0) fun a8 H p w =>
 dn 1 0 b7 H p w (.val x1) fun a9 H p w =>
 dn 2 0 b7 H p w (.val x0) fun bQ H p w =>
 dn 3 0 b7 H p w (.val x1) fun bN H p w =>
 dn 4 0 b7 H p w (.val x0) fun a12 H p w =>
 dn 5 0 b7 H p w (.val x1) fun bR H p w =>
 dn 6 0 b7 H p w (.val x0) fun cB H p w =>
 dn 7 64 b7 H p w (aV cB) fun bV H p w =>
 dn 8 192 b7 H p w (aO 1025 bV) fun a16 H p w =>
 dl 9 448 b7 H p w (fun H=>aH H a16) fun a17 H p w =>
 dn 10 0 b7 H p w (.val x0) fun cZ H p w =>
 dn 11 1024 b7 H p w (aV cZ) fun dJ H p w =>
 dn 12 3072 b7 H p w (aO 1025 dJ) fun a20 H p w =>
 dl 13 7168 b7 H p w (fun H=>aH H a20) fun a21 H p w =>
 dn 14 1 b7 H p w (aV a8) fun a22 H p w =>
 dn 15 16385 b7 H p w (aO 256 a22) fun a23 H p w =>
 dn 16 65475 b7 H p w (fO 256 1 a23 a9) fun a24 H p w =>
 dn 18 4 b7 H p w (aV bQ) fun a25 H p w =>
 dn 19 262148 b7 H p w (aO 512 a25) fun a26 H p w =>
 dn 22 16 b7 H p w (aV a12) fun a27 H p w =>
 dn 23 4194320 b7 H p w (aO 768 a27) fun a28 H p w =>
 de 131011 H p w (eY (bO 131011 p H) a24 a17) (some true) fun _ H p w =>
 dn 20 1048527 b7 H p w (fO 256 1 a26 bN) fun a30 H p w =>
 de 2097103 H p w (eY (bO 2097103 p H) a30 a21) (some true) fun _ H p w =>
 dn 24 16777215 b7 H p w (fO 256 1 a28 bR) fun a32 H p w =>
 de 33554431 H p w (eY (bO 33554431 p H) a32 (.bool true)) (some true) fun _ H p w =>
 jO p H fun H =>
 vq (aV x0) H fun a34 H =>
 vq (aO 1024 a34) H fun a35 H =>
 vq (aH H a35) H fun a36 H =>
 vq (jL 1 H.nx (dD (bB [iN 0] 1) [(0,1,x1)])) H fun a37 H =>
 ve (iJ 1 8 H a36 (jY 1 H a37)) fun a38 H =>
 vq (aV x0) H fun a39 H =>
 vq (aO 1024 a39) H fun a40 H =>
 ve (eY H a40 a38) fun _ H =>
 .ok (.aZ []) H
def zDd(x0 x1:AV)(H:Hp):R1:=zqc call x0 x1 H
def qwu(call:Ev.Call)(x0 x4 x5:AV)(H:Hp):R1 :=
 vq (aV x0) H fun bQ H =>
 vq (aO 1024 bQ) H fun bN H =>
 vq (aH H bN) H fun a12 H =>
 vq (lH 1 a12 none (some x4) none) H fun bR H =>
 vq (aV x0) H fun cB H =>
 vq (aO 1024 cB) H fun bV H =>
 ve (eY H bV bR) fun _ H =>
 vq (aV x0) H fun a17 H =>
 vq (aO 1026 a17) H fun cZ H =>
 vq (aH H cZ) H fun dJ H =>
 vq (jL 1 H.nx (dD (bB [.aA] 1) [(0,1,x5)])) H fun a20 H =>
 ve (iJ 1 24 H dJ (jY 1 H a20)) fun a21 H =>
 vq (aV x0) H fun a22 H =>
 vq (aO 1026 a22) H fun a23 H =>
 ve (eY H a23 a21) fun _ H =>
 .ok (.aZ []) H
def q64(call:Ev.Call)(g27:AV->Hp->R1)(x37:AV)(H:Hp):R1 :=
 vq (aB (aK .add).f x37 (iN 1)) H fun a29 H =>
 g27 a29 H
def q63(g27:AV->Hp->R1)(x0 pV x37:AV)(H:Hp):R1 :=
 vq (aL 1 pV x37) H fun a31 H =>
 vq (aH H a31) H fun a32 H =>
 vq (aV x0) H fun a33 H =>
 vq (aO 768 a33) H fun a34 H =>
 vq (fO 256 1 a34 a32) H fun a35 H =>
 ve (eY H a35 (.bool false)) fun _ H =>
 q64 call g27 x37 H
def qwv(vK:Hp->R1)(x0 pV yI:AV)(g27:AV->Hp->R1)(x37:AV)(H:Hp):R1 :=
 vq (aB (aK .lss).f x37 yI) H fun a28 H =>
 cd a28 (
 q63 call g27 x0 pV x37 H) (
 vK H)
def qpw(vK:Hp->R1)(x0 pV yI:AV)(n:Nat):AV->Hp->R1 :=
 Nat.rec (motive:=fun _=>AV->Hp->R1) (fun _ _=> .bad) (fun _ ih=>qwv call vK x0 pV yI ih) n
def q65(vK:Hp->R1)(x0 pV yI:AV):AV->Hp->R1:=qpw call vK x0 pV yI dM
def q62(x0 x1:AV)(H:Hp):R1 :=
 vq (aV x0) H fun a0 H =>
 vq (aO 1024 a0) H fun a1 H =>
 vq (aH H a1) H fun a2 H =>
 ve (call (.f 171) [a2,x1] H) fun a3 H =>
 vq (aV x0) H fun a4 H =>
 vq (aO 1024 a4) H fun a5 H =>
 vq (aH H a5) H fun a6 H =>
 vq (lH 1 a6 (some a3) none none) H fun a7 H =>
 ve (call (.f 173) [a7] H) fun a8 H =>
 ve (call (.f 172) [a8] H) fun a9 H =>
 vq (aG a9) H fun a26 H =>
 q65 call (fun H=>qwu call x0 a3 a9 H) x0 a9 a26 (iN 0) H
def zhg(x0 x1:AV)(H:Hp):R1 :=
 vl (aV x0) fun a39 =>
 vl (aO 512 a39) fun a40 =>
 vl (fO 256 1 a40 x1) fun a41 =>
 vl (aH H a41) fun a42 =>
 vl (aV x0) fun a43 =>
 vl (aO 256 a43) fun a44 =>
 vl (fO 256 1 a44 x1) fun a45 =>
 vl (aH H a45) fun a46 =>
 vl (aB (aK .lss).f a42 a46) fun a47 =>
 cd a47 (
 .ok (.aZ []) H) (
 q62 call x0 x1 H)
def zDe(x0 x1:AV)(H:Hp):R1:=zhg call x0 x1 H
def zqb(x0 x1:AV)(H:Hp):R1 :=
 vq (bM 2 H.nx x1) H fun a0 H =>
 vq (aX 2 H a0) H fun a1 H =>
 ve (call (.f 155) [x0,a1] H) fun a2 H =>
 vq (aB (aK .geq).f a2 (iN 0)) H fun a3 H =>
 .ok a3 H
def zDf(x0 x1:AV)(H:Hp):R1:=zqb call x0 x1 H
def zqa(x0 x1:AV)(H:Hp):R1 :=
 vq (bM 6 H.nx x0) H fun a0 H =>
 vq (aO 2 a0) H fun a1 H =>
 vq (aX 4 H a1) H fun a2 H =>
 ve (call (.f 41) [a2] H) fun a3 H =>
 vq (bK 0 a3) H fun a4 H =>
 vq (bK 1 a3) H fun a5 H =>
 ve (call (.f 127) [a4,(.fn 128 [] [x1])] H) fun a6 H =>
 .ok a6 H
def zDg(x0 x1:AV)(H:Hp):R1:=zqa call x0 x1 H
def zp9(x0 x1:AV)(H:Hp):R1 :=
 ve (call (.f 156) [x0,x1] H) fun a0 H =>
 vq (aB (aK .geq).f a0 (iN 0)) H fun a1 H =>
 .ok a1 H
def zDh(x0 x1:AV)(H:Hp):R1:=zp9 call x0 x1 H
def znj(call:Ev.Call)(H:Hp):R1 :=
 .ok (.int .i64 (.negSucc 0)) H
def zni(call:Ev.Call)(g2:AV->Hp->R1)(x8:AV)(H:Hp):R1 :=
 vq (aB (aK .add).f x8 (iN 1)) H fun a4 H =>
 g2 a4 H
def znh(eF:AV->Hp->R1)(g2:AV->Hp->R1)(x0 x1 x8:AV)(H:Hp):R1 :=
 vq (aL 1 x0 x8) H fun a6 H =>
 vq (aH H a6) H fun a7 H =>
 vq (aB (aK .eql).f x1 a7) H fun a8 H =>
 cd a8 (
 eF x8 H) (
 zni call g2 x8 H)
def q61(eF:AV->Hp->R1)(bL:Hp->R1)(x0 x1 x7:AV)(g2:AV->Hp->R1)(x8:AV)(H:Hp):R1 :=
 vq (aB (aK .lss).f x8 x7) H fun a3 H =>
 cd a3 (
 znh call eF g2 x0 x1 x8 H) (
 bL H)
def q0i(eF:AV->Hp->R1)(bL:Hp->R1)(x0 x1 x7:AV)(n:Nat):AV->Hp->R1 :=
 Nat.rec (motive:=fun _=>AV->Hp->R1) (fun _ _=> .bad) (fun _ ih=>q61 call eF bL x0 x1 x7 ih) n
def znk(eF:AV->Hp->R1)(bL:Hp->R1)(x0 x1 x7:AV):AV->Hp->R1:=q0i call eF bL x0 x1 x7 dM
def zp8(x0 x1:AV)(H:Hp):R1 :=
 vq (aG x0) H fun a1 H =>
 znk call (fun x4 H=> .ok x4 H) (fun H=>znj call H) x0 x1 a1 (iN 0) H
def zDj(x0 x1:AV)(H:Hp):R1:=zp8 call x0 x1 H
def zp7(call:Ev.Call)(x0:AV)(H:Hp):R1 :=
 vq (lJ H.nx x0) H fun a0 H =>
 .ok (.fn 186 [] [a0]) H
def zDk(x0:AV)(H:Hp):R1:=zp7 call x0 H
def zu4(x0:AV)(H:Hp):R1 :=
 ve (call (.f 185) [x0] H) fun a0 H =>
 ve (call (.f 82) [a0] H) fun a1 H =>
 .ok a0 H
def zDl(x0:AV)(H:Hp):R1:=zu4 call x0 H
def q6y(call:Ev.Call)(H:Hp):R1 :=
 .ok (.int .i64 (.negSucc 0)) H
def znf(call:Ev.Call)(g3:AV->Hp->R1)(x8:AV)(H:Hp):R1 :=
 vq (aB (aK .add).f x8 (iN 1)) H fun a5 H =>
 g3 a5 H
def q6x(q3r:AV->Hp->R1)(g3:AV->Hp->R1)(x0 x3 x8:AV)(H:Hp):R1 :=
 vl (aX 2 H x3) fun a7 =>
 vl (aL 2 x0 x8) fun a8 =>
 vl (aX 2 H a8) fun a9 =>
 vl (qZ false ((⟨E2.f ⟨lT (eqFields [(p1,⟨iB⟩,0),(p1,⟨iB⟩,1)])⟩⟩:E2).f a7 a9)) fun bQ =>
 cd bQ (
 q3r x8 H) (
 znf call g3 x8 H)
def q60(q3r:AV->Hp->R1)(oU:Hp->R1)(x0 x3 x7:AV)(g3:AV->Hp->R1)(x8:AV)(H:Hp):R1 :=
 vq (aB (aK .lss).f x8 x7) H fun a4 H =>
 cd a4 (
 q6x call q3r g3 x0 x3 x8 H) (
 oU H)
def q0h(q3r:AV->Hp->R1)(oU:Hp->R1)(x0 x3 x7:AV)(n:Nat):AV->Hp->R1 :=
 Nat.rec (motive:=fun _=>AV->Hp->R1) (fun _ _=> .bad) (fun _ ih=>q60 call q3r oU x0 x3 x7 ih) n
def zng(q3r:AV->Hp->R1)(oU:Hp->R1)(x0 x3 x7:AV):AV->Hp->R1:=q0h call q3r oU x0 x3 x7 dM
def zp6(x0 x1:AV)(H:Hp):R1 :=
 vq (bM 2 H.nx x1) H fun a0 H =>
 vq (aG x0) H fun a2 H =>
 zng call (fun x4 H=> .ok x4 H) (fun H=>q6y call H) x0 a0 a2 (iN 0) H
def zDm(x0 x1:AV)(H:Hp):R1:=zp6 call x0 x1 H
def zp5(call:Ev.Call)(x0 x1:AV)(H:Hp):R1 :=
 vq (bM 5 H.nx x0) H fun a0 H =>
 vq (aO 0 a0) H fun a1 H =>
 vq (aH H a1) H fun a2 H =>
 vq (aB (aK .eql).f a2 (.int .u8 (.ofNat 3))) H fun a3 H =>
 vg (aP true a3) (aO 1 a0) H fun a4 H =>
 vg (aP true a3) (aH H a4) H fun a5 H =>
 vg (aP true a3) (aH H x1) H fun a6 H =>
 vg (aP true a3) (gY (oI .eql).f a5 a6) H fun a7 H =>
 vq (fI a3 a7 (.bool false)) H fun a8 H =>
 .ok a8 H
def zDn(x0 x1:AV)(H:Hp):R1:=zp5 call x0 x1 H
def zp4(x0 x1:AV)(H:Hp):R1 :=
 ve (call (.f 157) [x0,x1] H) fun a0 H =>
 vq (aB (aK .geq).f a0 (iN 0)) H fun a1 H =>
 .ok a1 H
def zDo(x0 x1:AV)(H:Hp):R1:=zp4 call x0 x1 H
def q6v(call:Ev.Call)(H:Hp):R1 :=
 .ok (.int .i64 (.negSucc 0)) H
def znd(call:Ev.Call)(g2:AV->Hp->R1)(x8:AV)(H:Hp):R1 :=
 vq (aB (aK .add).f x8 (iN 1)) H fun a4 H =>
 g2 a4 H
def znc(eF:AV->Hp->R1)(g2:AV->Hp->R1)(x0 x1 x8:AV)(H:Hp):R1 :=
 vq (aL 6 x0 x8) H fun a6 H =>
 vq (aX 6 H a6) H fun a7 H =>
 ve (vN call x1 [a7] H) fun a8 H =>
 cd a8 (
 eF x8 H) (
 znd call g2 x8 H)
def q6w(eF:AV->Hp->R1)(bL:Hp->R1)(x0 x1 x7:AV)(g2:AV->Hp->R1)(x8:AV)(H:Hp):R1 :=
 vq (aB (aK .lss).f x8 x7) H fun a3 H =>
 cd a3 (
 znc call eF g2 x0 x1 x8 H) (
 bL H)
def q0g(eF:AV->Hp->R1)(bL:Hp->R1)(x0 x1 x7:AV)(n:Nat):AV->Hp->R1 :=
 Nat.rec (motive:=fun _=>AV->Hp->R1) (fun _ _=> .bad) (fun _ ih=>q6w call eF bL x0 x1 x7 ih) n
def zne(eF:AV->Hp->R1)(bL:Hp->R1)(x0 x1 x7:AV):AV->Hp->R1:=q0g call eF bL x0 x1 x7 dM
def zp3(x0 x1:AV)(H:Hp):R1 :=
 vq (aG x0) H fun a1 H =>
 zne call (fun x4 H=> .ok x4 H) (fun H=>q6v call H) x0 x1 a1 (iN 0) H
def zDp(x0 x1:AV)(H:Hp):R1:=zp3 call x0 x1 H
def zna(call:Ev.Call)(g2:AV->Hp->R1)(x7:AV)(H:Hp):R1 :=
 vq (aB (aK .add).f x7 (iN 1)) H fun a4 H =>
 g2 a4 H
def q6t(eF:Hp->R1)(g2:AV->Hp->R1)(x0 x5 x7:AV)(H:Hp):R1 :=
 vq (aL 1 x5 x7) H fun a6 H =>
 vq (aH H a6) H fun a7 H =>
 ve (vN call x0 [a7] H) fun a8 H =>
 vq ((mZ .not).f a8) H fun a9 H =>
 cd a9 (
 eF H) (
 zna call g2 x7 H)
def q6u(eF:Hp->R1)(bL:Hp->R1)(x0 x5 x6:AV)(g2:AV->Hp->R1)(x7:AV)(H:Hp):R1 :=
 vq (aB (aK .lss).f x7 x6) H fun a3 H =>
 cd a3 (
 q6t call eF g2 x0 x5 x7 H) (
 bL H)
def q0f(eF:Hp->R1)(bL:Hp->R1)(x0 x5 x6:AV)(n:Nat):AV->Hp->R1 :=
 Nat.rec (motive:=fun _=>AV->Hp->R1) (fun _ _=> .bad) (fun _ ih=>q6u call eF bL x0 x5 x6 ih) n
def znb(eF:Hp->R1)(bL:Hp->R1)(x0 x5 x6:AV):AV->Hp->R1:=q0f call eF bL x0 x5 x6 dM
def zp2(x0 x1:AV)(H:Hp):R1 :=
 vq (aH H x1) H fun a0 H =>
 vq (aG a0) H fun a1 H =>
 znb call (fun H=> .ok (.aZ []) H) (fun H=> .ok (.aZ []) H) x0 a0 a1 (iN 0) H
def zDq(x0 x1:AV)(H:Hp):R1:=zp2 call x0 x1 H
def zu3(x0:AV)(H:Hp):R1 :=
 ve (call (.f 190) [(.aA),x0] H) fun a0 H =>
 .ok a0 H
def zDr(x0:AV)(H:Hp):R1:=zu3 call x0 H
def q6q(call:Ev.Call)(H:Hp):R1 :=
 .ok (.int .i64 (.negSucc 0)) H
def q6p(call:Ev.Call)(g2:AV->Hp->R1)(x8:AV)(H:Hp):R1 :=
 vq (aB (aK .add).f x8 (iN 1)) H fun a4 H =>
 g2 a4 H
def zm8(eF:AV->Hp->R1)(g2:AV->Hp->R1)(x0 x1 x8:AV)(H:Hp):R1 :=
 vq (aL 5 x0 x8) H fun a6 H =>
 vq (aX 5 H a6) H fun a7 H =>
 ve (vN call x1 [a7] H) fun a8 H =>
 cd a8 (
 eF x8 H) (
 q6p call g2 x8 H)
def q6s(eF:AV->Hp->R1)(bL:Hp->R1)(x0 x1 x7:AV)(g2:AV->Hp->R1)(x8:AV)(H:Hp):R1 :=
 vq (aB (aK .lss).f x8 x7) H fun a3 H =>
 cd a3 (
 zm8 call eF g2 x0 x1 x8 H) (
 bL H)
def qtn(eF:AV->Hp->R1)(bL:Hp->R1)(x0 x1 x7:AV)(n:Nat):AV->Hp->R1 :=
 Nat.rec (motive:=fun _=>AV->Hp->R1) (fun _ _=> .bad) (fun _ ih=>q6s call eF bL x0 x1 x7 ih) n
def zm9(eF:AV->Hp->R1)(bL:Hp->R1)(x0 x1 x7:AV):AV->Hp->R1:=qtn call eF bL x0 x1 x7 dM
def zp1(x0 x1:AV)(H:Hp):R1 :=
 vq (aG x0) H fun a1 H =>
 zm9 call (fun x4 H=> .ok x4 H) (fun H=>q6q call H) x0 x1 a1 (iN 0) H
def zDs(x0 x1:AV)(H:Hp):R1:=zp1 call x0 x1 H
end Go.Di
end
