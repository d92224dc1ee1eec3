/-
 For ReachesGoals: functions in direct style, their contracts, and the plain mathematics, part 2 of 11. No conditions beyond those that each theorem states.
-/
import Derived.Test.YtnojgpkbpnimhaaGreatConA
set_option linter.unusedSimpArgs false
set_option linter.unusedVariables false
noncomputable section
namespace Go.Di
open Go.Ev
def cst{α:Type}(a:α):α:=Classical.choose (⟨a,rfl⟩:∃ f,f=a)
variable (O:Ev.Call)
def cK{α:Type}(a:α):{b:α // b=a}:=Classical.choice ⟨⟨a,rfl⟩⟩
def kA{α:Type}(a:α):α:=(cK a).1
theorem kE{α:Type}(a:α):kA a=a:=(cK a).2
section
variable (a:AV->pD)(b c:pD)(d e:pH)(f:pD)(g:AV->pD)(h:AV->AV->pD)(i j k l m n o q r s t u v:AV)(x:pD)(y:AV->pD)(z:AV->AV->pD)(A B C D E F:AV)
def qme:=wA 5 j fun a=>wA 3 i fun b=>wc O 11 [a,b] fun c=>wc O 10 [k,l,c,(iN 0)] fun d=>wg (wv d) (.val m) fun e=>wg (wv d) (.val n) fun f=>wg (wv d) (.val o) fun g=>wx (wv d) (O (.f 10) [e,f,g,(iN 0)]) fun h=>wq (dV d h (.bool false)) fun q=>wx (wv q) (O (.f 4) []) fun r=>wq (dV q r (.bool false)) fun s=>.ok s
def qmd:=wA 5 j fun a=>wA 3 i fun b=>wc O 7 [a,b] fun c=>wq (aU 0 c) fun d=>wq (aU 1 c) fun e=>(kA qme) O i j k l m n d
def qmc:=wd o (wc O 10 [k,l,(.aA),(iN 6)] fun a=>wg (wv a) (.val m) fun b=>wg (wv a) (.val n) fun c=>wx (wv a) (O (.f 10) [b,c,(.aA),(iN 6)]) fun d=>wq (dV a d (.bool false)) fun e=>wx (wv e) (O (.f 4) []) fun f=>wq (dV e f (.bool false)) fun g=>.ok g) ((kA qmd) O i j k l m n)
def qmb:=wA 1 j fun a=>wA 3 i fun b=>wc O 12 [a,b] fun c=>wq ((lH .not).f c) fun d=>(kA qmc) O i k l m n o d
def qma:=wA 1 j fun a=>wA 3 i fun b=>wc O 9 [a,k,b] fun c=>wq (aU 0 c) fun d=>wq (aU 1 c) fun e=>(kA qmb) O i j l m n d e
def qg9:=wA 1 j fun a=>wA 3 i fun b=>wc O 8 [a,k,b] fun c=>wq (aU 0 c) fun d=>wq (aU 1 c) fun e=>(kA qma) O i j k l d e
def ql9:=wd m (.ok (.bool false)) ((kA qg9) O i j k l)
def ql8:=wA 5 l fun a=>wA 3 m fun b=>wc O 11 [a,b] fun c=>wc O 10 [o,q,c,(iN 0)] fun d=>wq ((lH .not).f d) fun e=>wg (bV false e) (.val r) fun f=>wg (bV false e) (.val s) fun g=>wg (bV false e) (.val n) fun h=>wx (bV false e) (O (.f 10) [f,g,h,(iN 0)]) fun t=>wg (bV false e) ((lH .not).f t) fun u=>wq (dV e (.bool true) u) fun v=>(kA ql9) O i j k l v
def ql7:=wA 1 j fun a=>wA 3 n fun b=>wc O 9 [a,m,b] fun c=>wq (aU 0 c) fun d=>wq (aU 1 c) fun e=>(kA ql8) O i j k l n o q r d e
def ql6:=wA 1 j fun a=>wA 3 n fun b=>wc O 8 [a,m,b] fun c=>wq (aU 0 c) fun d=>wq (aU 1 c) fun e=>(kA ql7) O i j k l m n o d e
def qiy:=wA 5 l fun a=>wA 3 n fun b=>wc O 7 [a,b] fun c=>wq (aU 0 c) fun d=>wq (aU 1 c) fun e=>(kA ql6) O i j k l m n d
def qg8:=wd o (wz 12 fun a=>wn 0 0 a (aN 4 m) fun b=>wo 1 1 a (aR · b) fun c=>wn 2 0 a (.val i) fun d=>wa 3 4 a (qq3 .i64 d) fun e=>wn 4 0 a (aN 4 m) fun f=>wo 5 16 a (aR · f) fun g=>wn 6 48 a (aD g) fun h=>wn 7 124 a (ib .rem e h) fun q=>wn 8 255 a (aH 3 c q) fun r=>wo 9 511 a (cO 3 · r) fun s=>wa 10 0 a (.new (.ptr (a+10) 0) (aB 0 [zS,zS,zS])) fun t=>wu 2047 (xA 3 · t s) fun _=>wy <| (kA qiy) O j k l m n t) ((kA qg9) O j k l m)
def qg7:=wF 4 m fun a=>wq (aD a) fun b=>wq (ib .gtr b (iN 0)) fun c=>(kA qg8) O i j k l m n c
def ql5(O:Ev.Call)(a:AV->pD)(b c:AV):=wq (ib .sub c (iN 1)) fun d=>a b d
def qi3(a:AV->pD)(b c d:AV)(H:Hp):R1:=dz 12 H fun e H=>dn 0 0 e H [] [] (.val c) fun f H p w=>dn 1 0 e H p w (.val b) fun g H p w=>dn 2 0 e H p w (.val d) fun h H p w=>dn 3 6 e H p w (aH 6 g h) fun i H p w=>dl 4 14 e H p w (fun H=>cO 6 H i) fun j H p w=>dn 5 0 e H p w (.val b) fun k H p w=>dn 6 0 e H p w (.val d) fun l H p w=>dn 7 96 e H p w (aH 6 k l) fun m H p w=>dl 8 224 e H p w (fun H=>cO 6 H m) fun n H p w=>da 9 510 e H p w (rJ 2 (e+9) (bH (aS [zS,zS,zS,zS,zS,zS] 2) [(0,6,j),(6,6,n)])) fun o H p w=>de 1023 H p w (iM 6 96 (dZ 1023 p H) f (lY 6 (dZ 1023 p H) o)) (some true) fun q H p w=>dn 11 2047 e H p w (.val q) fun r H p w=>xZ p H fun H=>(kA ql5) O a r d H
def q0n:=wq (ib .geq B (iN 0)) fun a=>wd a ((kA qi3) O y i A B) (b A)
def qkb:=kZ (q0n O b i)
def zco:=qkb O b i dG
def qi2:=zco O (kA qg7 O i j k l m) l n o
def qi1:=wq (aD l) fun a=>wq (ib .sub a (iN 1)) fun b=>(kA qi2) O i j k l m (.aA) b
def qi0:=wA 1 k fun a=>wc O 6 [a,l] fun b=>wN [.aA,.aA,.aA,.aA,.aA] fun c=>wT 5 c b <| (kA qi1) O i j k l c
def qiz:=wA 2 j fun a=>wc O 5 [a] fun b=>wq (aU 0 b) fun c=>wq (aU 1 b) fun d=>wN [.aA] fun e=>wT 1 e c <| (kA qi0) O i k e d
def qdn:=wd l (wc O 4 [] fun a=>.ok a) ((kA qiz) O i j k)
def zyw:=wB 2 i fun a=>wB 3 k fun b=>wq (aN 0 b) fun c=>wF 0 c fun d=>wq (lG d) fun e=>wq (ib .gtr e (iN 20)) fun f=>wg (bV false f) (aN 0 b) fun g=>wg (bV false f) (aN 1 g) fun h=>wG (bV false f) (aR · h) fun l=>wg (bV false f) (lG l) fun m=>wg (bV false f) (ib .gtr m (iN 20)) fun n=>wq (dV f (.bool true) n) fun o=>wg (bV false o) (aN 2 b) fun q=>wG (bV false o) (aR · q) fun r=>wg (bV false o) (lG r) fun s=>wg (bV false o) (ib .gtr s (iN 20)) fun t=>wq (dV o (.bool true) t) fun u=>(kA qdn) O j a b u
def zIc:=zyw O i j k
def q00:=wz 0 fun a=>wo 0 0 a (cO 1 · j) fun b=>wn 1 0 a (.val k) fun c=>wu 2 (O (.f 18) [c]) fun d=>wu 7 (xA 1 · i b) fun _=>wn 4 15 a (.val d) fun e=>wy <| fun H=>dM (gH (fQ (rV (cO 1 H i)) (fQ (some e) (some [])))) H
def qfh(O:Ev.Call)(a:AV->pD)(b c:AV):=wI c fun d=>a b d
def zdy:=wz 13 fun b=>wo 0 0 b (cO 1 · j) fun c=>wn 1 0 b (aN 1 i) fun d=>wo 2 2 b (aR · d) fun e=>wn 3 0 b (.val l) fun f=>wn 4 14 b (aH 4 e f) fun g=>wo 5 30 b (cO 4 · g) fun h=>wa 10 0 b (.new (.ptr (b+10) 0) (aB 0 [zS,zS,zS,zS,zS,zS])) fun m=>wu 63 (O (.f 17) [c,h]) fun n=>wn 7 127 b (.val n) fun o=>wn 8 255 b (aU 0 o) fun q=>wn 9 255 b (aU 1 o) fun r=>wu 1535 (xA 6 · m q) fun _=>wn 12 4095 b (.val r) fun s=>wy <| wd s (wA 6 m fun t=>wQ 1 (bH (aS [zS,zS,zS,zS,zS,zS] 1) [(0,6,t)]) fun u=>wP 6 96 k u fun v=>qfh O a v l) (qfh O a k l)
def q02:=wF 1 i fun a=>wq (aD a) fun c=>wq (ib .lss B c) fun d=>wg (wv d) (.val B) fun e=>wg (wv d) (ib .lss e (iN 20)) fun f=>wq (dV d f (.bool false)) fun g=>wd g (zdy O y i j A B) (b A)
def qtc:=kZ (q02 O b i j)
def zdz:=qtc O b i j dG
def zz1:=wB 2 i fun a=>wN [.aA] fun b=>wq (aN 0 a) fun c=>wA 1 c fun d=>wc O 16 [d] fun e=>wN [.aA] fun f=>wT 1 f e <| zdz O (q00 O b f) a f (.aA) (iN 0)
def zDw:=zz1 O i
def zyv:=wB 1 i fun a=>wN [.aA,.aA,.aA,.aA,.aA] fun b=>wA 1 a fun c=>wc O 20 [c] fun d=>wc O 19 [d] fun e=>wq (aU 0 e) fun f=>wq (aU 1 e) fun g=>wz 0 fun h=>wo 0 0 h (cO 1 · a) fun k=>wn 1 0 h (.val j) fun l=>wo 2 0 h (cO 1 · a) fun m=>wn 4 0 h (.val f) fun n=>wo 5 0 h (cO 1 · a) fun o=>wn 6 0 h (.val j) fun q=>wu 4 (O (.f 21) [m]) fun r=>wu 108 (O (.f 22) [o,q]) fun s=>wn 8 255 h (bP (bH [.aA,.aA,.aA,.aA,.aA] [(0,1,k),(1,1,l),(2,1,r),(3,1,n),(4,1,s)])) fun t=>wu 511 (xA 5 · b t) fun _=>wy <| fun H=>dM (rV (cO 5 H b)) H
def zIe:=zyv O i j
def qix(O:Ev.Call)(a b:AV):pH:=.ok (.bA [a,b])
def zci(O:Ev.Call)(a:AV->AV->pD)(b c d:AV):=wI d fun e=>a b c e
def vN(O:Ev.Call)(a:AV->pD)(b c:AV):=wI c fun d=>a b d
def zck:=wq (aH 3 j k) fun b=>wA 3 b fun c=>wc O 23 [i,c] fun d=>wq (ib .lss d (iN 0)) fun e=>wd e (wq (aH 3 j k) fun f=>wA 3 f fun g=>wQ 1 (bH (aS [zS,zS,zS] 1) [(0,3,g)]) fun h=>wP 3 48 i h fun l=>vN O a l k) (vN O a i k)
def q0m:=wq (aD i) fun a=>wq (ib .lss B a) fun c=>wd c (zck O y A i B) (b A)
def qnu:=kZ (q0m O b i)
def zcm:=qnu O b i dG
def zcj:=wz 0 fun a=>wo 0 0 a (cO 5 · i) fun b=>wn 1 0 a (.val j) fun c=>wn 2 0 a (.val l) fun d=>wn 3 6 a (aH 3 c d) fun e=>wo 4 14 a (cO 3 · e) fun f=>wu 31 (O (.f 11) [b,f]) fun g=>wn 6 63 a (.val g) fun m=>wy <| wq (aD m) fun n=>wq (ib .add k n) fun o=>fun H=>zcm O (fun j H=>zci O h j o l H) m j (iN 0) H
def zcl:=wq (aD A) fun b=>wq (ib .lss C b) fun c=>wd c (zcj O z i A B C) (a A B)
def qwc:=lq3 (zcl O a i)
def zu7:=qwc O a i dG
def zyu:=wB 5 i fun a=>wB 3 j fun b=>wA 3 b fun c=>wQ 1 (bH (aS [zS,zS,zS] 1) [(0,3,c)]) fun d=>zu7 O (qix O) a d (iN 0) (iN 0)
def zIf:=zyu O i j
def zch:=wA 2 j fun a=>wA 3 i fun b=>wc O 26 [a,b] fun c=>.ok (.bA [c,(iN 0)])
def zcg:=wF 0 j fun a=>wA 3 i fun b=>wc O 25 [a,b] fun c=>wq ((lH .not).f c) fun d=>wd d (.ok (.bA [(.aA),(iN 6)])) (zch O i j)
def zyt:=wB 1 i fun a=>wB 3 k fun b=>wA 1 a fun c=>wc O 24 [c,j] fun d=>wq (aU 0 d) fun e=>wq (aU 1 d) fun f=>wN [.bJ,.bQ] fun g=>wT 2 g e <| wq (ib .neq f (iN 0)) fun h=>wd h (.ok (.bA [(.aA),f])) (zcg O b g)
def zIg:=zyt O i j k
def zcf:=wA 2 j fun a=>wA 3 i fun b=>wc O 27 [a,b] fun c=>wq (aU 0 c) fun d=>wq (aU 1 c) fun e=>.ok (.bA [d,(iN 0)])
def zce:=wF 0 j fun a=>wA 3 i fun b=>wc O 25 [a,b] fun c=>wq ((lH .not).f c) fun d=>wd d (.ok (.bA [(.aA),(iN 6)])) (zcf O i j)
def zys:=wB 1 i fun a=>wB 3 k fun b=>wA 1 a fun c=>wc O 24 [c,j] fun d=>wq (aU 0 d) fun e=>wq (aU 1 d) fun f=>wN [.bJ,.bQ] fun g=>wT 2 g e <| wq (ib .neq f (iN 0)) fun h=>wd h (.ok (.bA [(.aA),f])) (zce O b g)
def zIh:=zys O i j k
def gM(O:Ev.Call)(a:AV):pH:=.ok a
def qgd(O:Ev.Call)(a:AV->pD)(b c:AV):=wI c fun d=>a b d
def qka(O:Ev.Call)(a:AV->pD)(b c:AV):=wI c fun d=>a b d
def qg6:=wl (aN 0 n) fun b=>wL (cO 3 · b) fun c=>wl (aN 0 i) fun d=>wL (cO 2 · d) fun e=>wl (aH 5 k l) fun f=>wl (aN 1 f) fun g=>wL (aR · g) fun h=>wl (bP (bH [zS,zS,zS] [(0,2,e),(2,1,h)])) fun q=>wl (jT false ((⟨E2.f ⟨dQ (eqFields [((pA 2),⟨dQ (eqFields [(p1,⟨bL⟩,0),(p1,⟨bL⟩,1)])⟩,0),(p1,⟨bL⟩,2)])⟩⟩:E2).f c q)) fun r=>wm (wv r) (aN 3 n) fun s=>wm (wv r) (aN 2 s) fun t=>wM (wv r) (aR · t) fun u=>wm (wv r) (eD (lC .eql).f u zS) fun v=>wl (dV r v (.bool false)) fun x=>wm (wv x) (aN 3 n) fun y=>wm (wv x) (aN 0 y) fun z=>wm (wv x) (aN 0 z) fun A=>wM (wv x) (aR · A) fun B=>wm (wv x) (.val m) fun C=>wm (wv x) (.val o) fun D=>wm (wv x) (aH 1 C D) fun E=>wM (wv x) (aR · E) fun F=>wm (wv x) (eD (lC .eql).f B F) fun G=>wl (dV x G (.bool false)) fun I=>wd I (fun H=>dz 13 H fun J H =>   dn 0 0 J H [] [] (.val j) fun K H p w =>   dn 1 0 J H p w (aN 3 n) fun L H p w =>   dn 2 2 J H p w (aN 0 L) fun M H p w =>   dl 3 6 J H p w (fun H=>cO 2 H M) fun N H p w =>   dn 4 0 J H p w (.val k) fun P H p w =>   dn 5 0 J H p w (.val l) fun Q H p w =>   dn 6 48 J H p w (aH 5 P Q) fun R H p w =>   dn 7 112 J H p w (aN 2 R) fun S H p w =>   dl 8 240 J H p w (fun H=>aR H S) fun T H p w =>   dn 9 510 J H p w (bP (bH [zS,zS,zS] [(0,2,N),(2,1,T)])) fun U H p w =>   da 10 1022 J H p w (rJ 1 (J+10) (bH (aS [zS,zS,zS] 1) [(0,3,U)])) fun V H p w =>   de 2047 H p w (iM 3 48 (dZ 2047 p H) K (lY 3 (dZ 2047 p H) V)) (some true) fun W H p w =>   dn 12 4095 J H p w (.val W) fun X H p w =>   xZ p H fun H =>   qka O a X o H) (qka O a j o)
def q0g:=wq (aD l) fun a=>wq (ib .lss B a) fun c=>wg (wv c) (.val j) fun d=>wg (wv c) (.val k) fun e=>wg (wv c) (aH 5 d e) fun f=>wg (wv c) (aN 0 f) fun g=>wG (wv c) (aR · g) fun h=>wg (wv c) (ib .eql h (uN 3)) fun n=>wq (dV c n (.bool false)) fun o=>wd o ((kA qg6) O y i A j k l m B) (b A)
def qff:=kZ (q0g O b i j k l m)
def q0j:=qff O b i j k l m dG
def qdu(a:AV->pD)(b c d e f g h:AV)(H:Hp):R1:=q0j O (fun c H=>qgd O a c g H) b d e f h c (iN 0) H
def qe0:=wF 1 i fun b=>wq (aH 6 b o) fun c=>wA 6 c fun d=>wN [zS,zS,zS,zS,zS,zS] fun e=>wT 6 e d <| wq (aH 5 l m) fun f=>wF 0 f fun g=>wq (ib .eql g (uN 1)) fun h=>wg (wv h) (aN 0 e) fun q=>wG (wv h) (cO 3 · q) fun r=>wG (wv h) (cO 3 · j) fun s=>wg (wv h) (jT false ((⟨E2.f ⟨dQ (eqFields [((pA 2),⟨dQ (eqFields [(p1,⟨bL⟩,0),(p1,⟨bL⟩,1)])⟩,0),(p1,⟨bL⟩,2)])⟩⟩:E2).f r s)) fun t=>wq (dV h t (.bool false)) fun u=>wg (wv u) (aN 3 e) fun v=>wg (wv u) (aN 2 v) fun x=>wG (wv u) (aR · x) fun y=>wg (wv u) (eD (lC .neq).f y zS) fun z=>wq (dV u z (.bool false)) fun A=>wd A (wq (aN 3 e) fun B=>wq (aN 0 B) fun C=>wA 2 C fun D=>wq (aN 3 e) fun E=>wF 2 E fun F=>wq (bP (bH [zS,zS,zS] [(0,2,D),(2,1,F)])) fun G=>wQ 1 (bH (aS [zS,zS,zS] 1) [(0,3,G)]) fun I=>wP 3 48 k I fun J=>(kA qdu) O a j J l m n o e) ((kA qdu) O a j k l m n o e)
def q0h:=wF 1 i fun a=>wq (aD a) fun c=>wq (ib .lss B c) fun d=>wd d ((kA qe0) O y i j A k l m B) (b A)
def qcn:=kZ (q0h O b i j k l m)
def q0k:=qcn O b i j k l m dG
def qdm:=wz 0 fun b=>wn 0 0 b (aN 0 i) fun c=>wo 1 1 b (cO 1 · c) fun d=>wn 2 0 b (aN 0 j) fun e=>wn 3 4 b (aN 0 e) fun f=>wo 4 12 b (aR · f) fun g=>wn 5 0 b (.val l) fun h=>wn 6 0 b (.val m) fun n=>wn 7 96 b (aH 5 h n) fun o=>wn 8 224 b (aN 1 o) fun q=>wo 9 480 b (aR · q) fun r=>wn 10 0 b (.val l) fun s=>wn 11 0 b (.val m) fun t=>wn 12 3072 b (aH 5 s t) fun u=>wn 13 7168 b (aN 2 u) fun v=>wo 14 15360 b (aR · v) fun x=>wu 32767 (O (.f 30) [d,g,r,x]) fun y=>wn 16 65535 b (.val y) fun z=>wy <| fun H=>q0k O (fun k H=>vN O a k m H) i j l m z k (iN 0) H
def qez:=wq (aH 5 l m) fun b=>wF 0 b fun c=>wq (ib .eql c (uN 2)) fun d=>wd d (fun H=>dz 12 H fun e H =>   dn 0 0 e H [] [] (.val k) fun f H p w =>   dn 1 0 e H p w (aN 0 j) fun g H p w =>   dl 2 2 e H p w (fun H=>cO 2 H g) fun h H p w =>   dn 3 0 e H p w (.val l) fun n H p w =>   dn 4 0 e H p w (.val m) fun o H p w =>   dn 5 24 e H p w (aH 5 n o) fun q H p w =>   dn 6 56 e H p w (aN 1 q) fun r H p w =>   dl 7 120 e H p w (fun H=>aR H r) fun s H p w =>   dn 8 254 e H p w (bP (bH [zS,zS,zS] [(0,2,h),(2,1,s)])) fun t H p w =>   da 9 510 e H p w (rJ 1 (e+9) (bH (aS [zS,zS,zS] 1) [(0,3,t)])) fun u H p w =>   de 1023 H p w (iM 3 48 (dZ 1023 p H) f (lY 3 (dZ 1023 p H) u)) (some true) fun v H p w =>   dn 11 2047 e H p w (.val v) fun x H p w =>   xZ p H fun H =>   kA qdm O a i j x l m H) ((kA qdm) O a i j k l m)
def q0i:=wq (aD k) fun a=>wq (ib .lss B a) fun c=>wd c ((kA qez) O y i j A k B) (b A)
def uO:=kZ (q0i O b i j k)
def q0l:=uO O b i j k dG
def zyr:=wB 5 i fun a=>wB 3 j fun b=>wq (aN 0 a) fun c=>wA 1 c fun d=>wq (aN 0 b) fun e=>wF 0 e fun f=>wF 2 b fun g=>wc O 28 [d,f,g] fun h=>wq (aU 0 h) fun k=>wq (aU 1 h) fun l=>wN [zS,.aA,uN 0,zS,zS,.aA] fun m=>wT 6 m k <| wq (aN 2 m) fun n=>wA 4 n fun o=>wc O 29 [(.aA),o,(.bool false)] fun q=>q0l O (gM O) a b q (.aA) (iN 0)
def zIi:=zyr O i j
def zu5(O:Ev.Call):pH:=.ok (.bool true)
def qh0(O:Ev.Call)(a:pD)(b:AV):=wI b a
def zu4:=wl (aH 3 i k) fun a=>wL (cO 3 · a) fun d=>wl (aH 3 j k) fun e=>wL (cO 3 · e) fun f=>wl (jT true ((⟨E2.f ⟨dQ (eqFields [((pA 2),⟨dQ (eqFields [(p1,⟨bL⟩,0),(p1,⟨bL⟩,1)])⟩,0),(p1,⟨bL⟩,2)])⟩⟩:E2).f d f)) fun g=>wd g (b (.bool false)) (qh0 O c k)
def zcd:=wq (aD j) fun a=>wq (ib .lss A a) fun c=>wd c (zu4 O b x i j A) (d)
def q40:=gN (zcd O b d i j)
def zu6:=q40 O b d i j dG
def zcc:=zu6 O .ok (zu5 O) i j (iN 0)
def zyq:=wq (ib .neq j l) fun a=>wg (bV false a) (.val i) fun b=>wg (bV false a) (aD b) fun c=>wg (bV false a) (.val k) fun d=>wg (bV false a) (aD d) fun e=>wg (bV false a) (ib .neq c e) fun f=>wq (dV a (.bool true) f) fun g=>wg (bV false g) (.val i) fun h=>wg (bV false g) (dU h) fun m=>wg (bV false g) (.val i) fun n=>wg (bV false g) (aD n) fun o=>wg (bV false g) (ib .neq m o) fun q=>wq (dV g (.bool true) q) fun r=>wd r (.ok (.bool false)) (zcc O i k)
def zIj:=zyq O i j k l
def zyp:=wB 1 i fun a=>wB 3 j fun b=>wA 1 a fun c=>wq (aN 0 b) fun d=>wF 0 d fun e=>wF 2 b fun f=>wc O 28 [c,e,f] fun g=>wq (aU 0 g) fun h=>wq (aU 1 g) fun k=>wN [zS,.aA,uN 0,zS,zS,.aA] fun l=>wT 6 l h <| wG (wv k) (cO 3 · b) fun m=>wx (wv k) (O (.f 31) [m]) fun n=>wg (wv k) (ib .eql n (iN 0)) fun o=>wq (dV k o (.bool false)) fun q=>.ok q
def zIk:=zyp O i j
def qgh(O:Ev.Call)(a b:AV):=wA 1 b fun c=>wT 1 a c <| fun H=>dM (rV (cO 1 H a)) H
def wE(O:Ev.Call)(a:pD)(b:AV):=wI b a
def qdh(O:Ev.Call)(a:pD)(b:AV):=wI b a
def qjb:=wq ((lH .not).f k) fun a=>wd a (wq (aH 6 i j) fun c=>wq (aN 1 c) fun d=>wU d (.aA) <| (kA qdh) O b j) ((kA qdh) O b j)
def qdv(O:Ev.Call)(a:AV->pD)(b c:AV):=wI c fun d=>a b d
def qna:=wz 0 fun b=>wn 0 0 b (.val k) fun c=>wn 1 1 b (.val c) fun d=>wr 2 3 b (.val i) (bV false d) fun e=>wr 3 3 b (.val l) (bV false d) fun f=>wr 4 15 b (aH 6 e f) (bV false d) fun g=>wr 5 31 b (aN 2 g) (bV false d) fun h=>ws 6 63 b (cO 4 · h) (bV false d) fun m=>wr 7 3 b (.val i) (bV false d) fun n=>wr 8 3 b (.val j) (bV false d) fun o=>wr 9 387 b (aH 6 n o) (bV false d) fun q=>wr 10 899 b (aN 0 q) (bV false d) fun r=>ws 11 1923 b (aR · r) (bV false d) fun s=>wt 4095 (O (.f 58) [m,(uN 3),s]) (bV false d) fun t=>wn 13 8191 b (dV d (.bool true) t) fun u=>wn 14 16383 b (.val u) fun v=>wy <| (kA qdv) O a v l
def qm6:=wd m ((kA qna) O a i j k l) (b k)
def zht:=(cK qm6).1
theorem qrq:zht=qm6:=(cK qm6).2
def q2u:=wq (aD i) fun a=>wq (ib .lss B a) fun c=>zht O y b i j A B c
def qop:=kZ (q2u O b i j)
def zhx:=qop O b i j dG
def qm5:=zhx O (kA qjb O b i j) i j k (iN 0)
def zhs:=(cK qm5).1
theorem qrp:zhs=qm5:=(cK qm5).2
def qm9:=wq (aH 6 i j) fun a=>wq (aN 2 a) fun c=>wA 4 c fun d=>wc O 58 [d,(uN 1),zS] fun e=>zhs O b i j e
def qm4:=wd k ((kA qm9) O b i j) (d)
def zhr:=(cK qm4).1
theorem qro:zhr=qm4:=(cK qm4).2
def q2v:=wq (aD i) fun a=>wq (ib .lss A a) fun b=>zhr O x d i A b
def qoq:=gN (q2v O d i)
def zhy:=qoq O d i dG
def qm3:=zhy O (kA wE O b i) j (iN 0)
def zhq:=(cK qm3).1
theorem qrn:zhq=qm3:=(cK qm3).2
def qm8:=wF 0 i fun a=>wq (aH 2 a j) fun c=>wF 1 c fun d=>zhq O b j d
def qm2:=wd k ((kA qm8) O b i j) (d)
def zhp:=(cK qm2).1
theorem qrm:zhp=qm2:=(cK qm2).2
def q2w:=wF 0 i fun a=>wq (aD a) fun b=>wq (ib .lss A b) fun c=>zhp O x d i A c
def qkq:=gN (q2w O d i)
def zhz:=qkq O d i dG
def qfk:=zhz O (kA qgh O i j) j (iN 1)
def qm7(O:Ev.Call)(a:pD)(b:AV):=wI b a
def qm1(a:pD)(b c d e:AV)(H:Hp):R1:=dz 17 H fun f H=>dn 0 0 f H [] [] (.val e) fun g H p w=>dn 1 0 f H p w (.val e) fun h H p w=>dn 2 2 f H p w (aY h) fun i H p w=>dn 3 6 f H p w (aN 1 i) fun j H p w=>dl 4 14 f H p w (fun H=>aR H j) fun k H p w=>dn 5 0 f H p w (.val c) fun l H p w=>dl 7 0 f H p w (fun H=>cO 1 H b) fun m H p w=>dn 8 0 f H p w (.val c) fun n H p w=>dl 10 0 f H p w (fun H=>cO 4 H d) fun o H p w=>de 32 H p w (O (.f 56) [l] (dZ 32 p H)) (some true) fun q H p w=>de 480 H p w (O (.f 57) [m,n] (dZ 480 p H)) (some true) fun r H p w=>dn 11 2016 f H p w (bP (bH [zS,.aA,uN 0,zS,zS,.aA] [(0,1,q),(1,1,r),(2,4,o)])) fun s H p w=>da 12 4064 f H p w (rJ 1 (f+12) (bH (aS [zS,.aA,uN 0,zS,zS,.aA] 1) [(0,6,s)])) fun t H p w=>de 8190 H p w (iM 6 104 (dZ 8190 p H) k (lY 6 (dZ 8190 p H) t)) (some true) fun u H p w=>dn 14 16383 f H p w (aY g) fun v H p w=>dn 15 32767 f H p w (aN 1 v) fun x H p w=>de 65535 H p w (j5 (dZ 65535 p H) x u) (some true) fun _ H p w=>xZ p H fun H=>(kA qm7) O a c H
def zho:=(cK qm1).1
theorem qrl:zho=qm1:=(cK qm1).2
def qm0:=wF 0 j fun a=>wq (ib .quo k (iN 4)) fun c=>wq (ib .add (iN 1) c) fun d=>wq (aH 2 a d) fun e=>zho O b i k l e
def zhn:=(cK qm0).1
theorem qrk:zhn=qm0:=(cK qm0).2
def qeh:=wA 1 i fun a=>wc O 55 [a,k,(iN 2),(iN 1),(.bool false)] fun c=>wq (aU 0 c) fun d=>wq (aU 1 c) fun e=>wN [uN 0,zS,zS,.aA] fun f=>wT 4 f d <| zhn O b i j k f
def qd5:=wq (ib .rem k (iN 4)) fun a=>wq (ib .eql a (iN 0)) fun c=>wd c (fun H=>dz 10 H fun d H =>   dn 0 0 d H [] [] (aN 0 j) fun e H p w =>   dl 1 1 d H p w (fun H=>aR H e) fun f H p w =>   dn 2 0 d H p w (.val k) fun g H p w =>   dn 3 4 d H p w (ib .quo g (iN 4)) fun h H p w =>   de 12 H p w (O (.f 54) [h] (dZ 12 p H)) (some true) fun l H p w =>   dn 5 28 d H p w (bP (bH [zS,.aA] [(0,1,l)])) fun m H p w =>   da 6 60 d H p w (rJ 1 (d+6) (bH (aS [zS,.aA] 1) [(0,2,m)])) fun n H p w =>   de 127 H p w (iM 2 40 (dZ 127 p H) f (lY 2 (dZ 127 p H) n)) (some true) fun o H p w =>   dn 8 255 d H p w (aN 0 j) fun q H p w =>   de 511 H p w (j5 (dZ 511 p H) q o) (some true) fun _ H p w =>   xZ p H fun H =>   kA qeh O b i j k H) ((kA qeh) O b i j k)
def qja:=wd l ((kA qd5) O b i j k) (d)
def q6v:=(cK qja).1
theorem qoo:q6v=qja:=(cK qja).2
def q2s:=wA 1 i fun a=>wc O 53 [a] fun b=>wq (ib .lss A b) fun c=>q6v O x d i j A c
def qkp:=gN (q2s O d i j)
def zhw:=qkp O d i j dG
def qi9:=zhw O (kA qfk O j k) i k (iN 0)
def q6u:=(cK qi9).1
theorem qon:q6u=qi9:=(cK qi9).2
def z11:=wB 1 i fun a=>wN [.aA] fun b=>wq (bP (bH [zS,.aA] [(0,1,(.str 4 1919251317))])) fun c=>wQ 1 (bH (aS [zS,.aA] 1) [(0,2,c)]) fun d=>wq (bP (bH [.aA] [(0,1,d)])) fun e=>wN [.aA] fun f=>wT 1 f e <| q6u O a b f
def zAc:=z11 O i
def qfg:=wz 13 fun a=>wn 0 0 a (aN 1 l) fun b=>wo 1 1 a (aR · b) fun c=>wn 2 0 a (gQ 4 1 i (iN 2)) fun d=>wo 3 4 a (aR · d) fun e=>wa 4 12 a (qq3 .i64 e) fun f=>wn 5 0 a (aN 1 l) fun g=>wo 6 32 a (aR · g) fun h=>wn 7 96 a (aD h) fun m=>wn 8 252 a (ib .rem f m) fun n=>wn 9 511 a (aH 2 c n) fun o=>wo 10 1023 a (cO 2 · o) fun q=>wa 11 0 a (.new (.ptr (a+11) 0) (aB 0 [zS,zS])) fun r=>wu 4095 (xA 2 · r q) fun _=>wy <| wz 0 fun s=>wn 0 0 s (aN 0 k) fun t=>wo 1 1 s (aR · t) fun u=>wn 2 0 s (gQ 4 1 i (iN 1)) fun v=>wo 3 4 s (aR · v) fun x=>wn 6 0 s (aN 1 k) fun y=>wo 7 64 s (aR · y) fun z=>wn 9 0 s (aN 0 r) fun A=>wo 10 512 s (aR · A) fun B=>wn 11 0 s (gQ 4 1 i (iN 3)) fun C=>wo 12 2048 s (aR · C) fun D=>wn 15 0 s (aN 1 r) fun E=>wo 16 32768 s (aR · E) fun F=>wu 12 (O (.f 59) [x]) fun G=>wn 5 31 s (bP (bH [zS,zS] [(0,1,u),(1,1,G)])) fun I=>wn 8 255 s (bP (bH [zS,zS,zS] [(0,2,I),(2,1,z)])) fun J=>wu 6172 (O (.f 59) [D]) fun K=>wn 14 15900 s (bP (bH [zS,zS] [(0,1,B),(1,1,K)])) fun L=>wn 17 130588 s (bP (bH [zS,zS,zS] [(0,2,L),(2,1,F)])) fun M=>wn 18 262143 s (bP (bH [zS,zS,zS,zS,zS,zS] [(0,3,J),(3,3,M)])) fun N=>wu 524287 (xA 6 · j N) fun _=>wn 20 1048575 s (.val (.bool true)) fun P=>wy <| fun H=>dM (gH (fQ (rV (cO 6 H j)) (fQ (some P) (some [])))) H
def qha:=wq (gQ 4 1 j (iN 0)) fun a=>w1 a fun b=>wq (qq3 .i64 b) fun c=>wq (aD l) fun d=>wq (ib .rem c d) fun e=>wq (aH 2 l e) fun f=>wA 2 f fun g=>wN [zS,zS] fun h=>wT 2 h g <| wA 1 i fun m=>wF 0 h fun n=>wF 1 h fun o=>wc O 28 [m,n,o] fun q=>wq (aU 0 q) fun r=>wq (aU 1 q) fun s=>wN [zS,.aA,uN 0,zS,zS,.aA] fun t=>wT 6 t r <| wF 1 t fun u=>wq (aD u) fun v=>wq (ib .eql v (iN 0)) fun x=>wd x (wq (bP (bH [zS,zS,zS,zS,zS,zS] [])) fun y=>wT 6 k y <| fun H=>dM (gH (fQ (rV (cO 6 H k)) (fQ (some (.bool false)) (some [])))) H) ((kA qfg) O j k h t)
def zzz:=wB 1 i fun a=>wB 4 j fun b=>wN [zS,zS,zS,zS,zS,zS] fun c=>wA 1 a fun d=>wc O 21 [d] fun e=>wq (aD e) fun f=>wq (ib .eql f (iN 0)) fun g=>wd g (wq (bP (bH [zS,zS,zS,zS,zS,zS] [])) fun h=>wT 6 c h <| fun H=>dM (gH (fQ (rV (cO 6 H c)) (fQ (some (.bool false)) (some [])))) H) ((kA qha) O a b c e)
def zEc:=zzz O i j
def qn0(O:Ev.Call)(a:AV->pD)(b c:AV):=wI c fun d=>a b d
def q5d:=qn0 O a j i
def q0x:=wq ((lH .not).f l) fun b=>wd b (wq (aH 6 i j) fun c=>wA 6 c fun d=>wQ 1 (bH (aS [zS,zS,zS,zS,zS,zS] 1) [(0,6,d)]) fun e=>wP 6 96 k e fun f=>q5d O a j f) (q5d O a j k)
def zdr(O:Ev.Call)(a:AV->AV->pD)(b c d:AV):=wI d fun e=>a b c e
def qtb:=wq (aH 6 i l) fun a=>wA 6 a fun b=>wQ 1 (bH (aS [zS,zS,zS,zS,zS,zS] 1) [(0,6,b)]) fun c=>wP 6 96 j c fun d=>zdr O h d k l
def zdq:=wz 0 fun a=>wn 0 0 a (.val m) fun b=>wn 1 1 a ((lH .not).f b) fun c=>wn 2 3 a (.val c) fun d=>wr 3 7 a (.val i) (wv d) fun e=>wr 4 7 a (.val k) (wv d) fun f=>wr 5 31 a (aH 6 e f) (wv d) fun g=>ws 6 63 a (cO 6 · g) (wv d) fun o=>wr 7 7 a (.val j) (wv d) fun q=>wr 8 7 a (.val n) (wv d) fun r=>wr 9 391 a (aH 6 q r) (wv d) fun s=>ws 10 903 a (cO 6 · s) (wv d) fun t=>wt 2047 (O (.f 61) [o,t]) (wv d) fun u=>wr 12 4095 a (ib .lss u (iN 0)) (wv d) fun v=>wn 13 8191 a (dV d v (.bool false)) fun x=>wy <| wd x (wq (aH 6 i k) fun y=>wA 6 y fun z=>wQ 1 (bH (aS [zS,zS,zS,zS,zS,zS] 1) [(0,6,z)]) fun A=>wP 6 96 l A fun B=>qtb O h j B (.bool true) n) (qtb O h j l m n)
def q0y:=wq (aD j) fun b=>wq (ib .lss C b) fun c=>wd c (zdq O z i j k A B C) (a A B)
def qnz:=lq3 (q0y O a i j k)
def zdt:=qnz O a i j k dG
def zdp:=zdt O (q0x O a i k) i j k (.aA) (.bool false) (iN 0)
def zdo:=wq (aH 6 i k) fun b=>wA 6 b fun c=>wc O 60 [j,c] fun d=>wq (ib .eql d (iN 1)) fun e=>wd e (qn0 O a j k) (zdp O a i j k)
def zds:=wq (aD i) fun a=>wq (ib .lss B a) fun c=>wd c (zdo O y i A B) (b A)
def qwo:=kZ (zds O b i)
def zvy:=qwo O b i dG
def zzy:=zvy O (gM O) i (.aA) (iN 0)
def zEd:=zzy O i
def que(O:Ev.Call)(a b:AV):=wA 2 b fun c=>wT 2 a c <| fun H=>dM (rV (cO 2 H a)) H
def qko(O:Ev.Call)(a:pD)(b:AV):=wI b a
def qie(O:Ev.Call)(a:pD)(b:AV):=wI b a
def qud(O:Ev.Call)(a:pD)(b:AV):=wI b a
def zhe:=wF 1 l fun a=>wq (aH 2 a o) fun c=>wF 1 c fun d=>wq (eD (lC .neq).f d zS) fun e=>wd e (wz 0 fun f=>wo 0 0 f (cO 2 · j) fun g=>wn 1 0 f (.val k) fun h=>wo 2 0 f (cO 1 · i) fun q=>wn 3 0 f (aN 1 l) fun r=>wo 4 8 f (aR · r) fun s=>wn 5 0 f (.val o) fun t=>wn 6 56 f (aH 2 s t) fun u=>wn 7 120 f (aN 0 u) fun v=>wo 8 248 f (aR · v) fun x=>wn 9 0 f (aN 1 l) fun y=>wo 10 512 f (aR · y) fun z=>wn 11 0 f (.val o) fun A=>wn 12 3584 f (aH 2 z A) fun B=>wn 13 7680 f (aN 1 B) fun C=>wo 14 15872 f (aR · C) fun D=>wn 16 0 f (.val m) fun E=>wn 17 0 f (.val n) fun F=>wn 18 196608 f (aH 5 E F) fun G=>wn 19 458752 f (aN 4 G) fun I=>wo 20 983040 f (aR · I) fun J=>wu 32764 (O (.f 64) [q,x,D]) fun K=>wu 2097151 (O (.f 63) [g,h,K,J]) fun L=>wy <| qud O b o) (qud O b o)
def q2m:=wF 1 l fun a=>wq (aD a) fun b=>wq (ib .lss A b) fun c=>wd c (zhe O x i j k l m n A) (d)
def quc:=gN (q2m O d i j k l m n)
def zhf:=quc O d i j k l m n dG
def q6s(O:Ev.Call)(a:pD)(b:AV):=wI b a
def q6q:=wz 0 fun a=>wo 0 0 a (cO 2 · j) fun c=>wn 1 0 a (.val k) fun d=>wo 2 0 a (cO 1 · i) fun e=>wn 3 0 a (.val n) fun f=>wn 4 0 a (.val o) fun g=>wn 5 24 a (aH 1 f g) fun h=>wo 6 56 a (aR · h) fun q=>wn 7 0 a (.val l) fun r=>wn 8 0 a (.val m) fun s=>wn 9 384 a (aH 5 r s) fun t=>wn 10 896 a (aN 2 t) fun u=>wo 11 1920 a (aR · u) fun v=>wn 13 0 a (.val l) fun x=>wn 14 0 a (.val m) fun y=>wn 15 24576 a (aH 5 x y) fun z=>wn 16 57344 a (aN 4 z) fun A=>wo 17 122880 a (aR · A) fun B=>wu 4092 (O (.f 64) [e,q,v]) fun C=>wu 262143 (O (.f 63) [c,d,C,B]) fun D=>wy <| q6s O b o
def quf:=wq (aD n) fun a=>wq (ib .lss A a) fun b=>wd b (q6q O x i j k l m n A) (d)
def qmz:=gN (quf O d i j k l m n)
def q6t:=qmz O d i j k l m n dG
def q6p:=wq (aH 5 n o) fun a=>wF 0 a fun c=>wq (ib .eql c (uN 1)) fun d=>wd d (zhf O (qie O b o) i k l m n o (iN 0)) (wq (ib .eql c (uN 2)) fun e=>wd e (wz 0 fun f=>wo 0 0 f (cO 2 · k) fun g=>wn 1 0 f (.val l) fun h=>wo 2 0 f (cO 1 · i) fun q=>wn 3 0 f (.val j) fun r=>wn 4 0 f (.val l) fun s=>wn 5 24 f (aH 2 r s) fun t=>wn 6 56 f (aN 0 t) fun u=>wo 7 120 f (aR · u) fun v=>wn 8 0 f (.val n) fun x=>wn 9 0 f (.val o) fun y=>wn 10 768 f (aH 5 x y) fun z=>wn 11 1792 f (aN 1 z) fun A=>wo 12 3840 f (aR · A) fun B=>wn 14 0 f (.val n) fun C=>wn 15 0 f (.val o) fun D=>wn 16 49152 f (aH 5 C D) fun E=>wn 17 114688 f (aN 4 E) fun F=>wo 18 245760 f (aR · F) fun G=>wu 8188 (O (.f 64) [q,v,B]) fun I=>wu 524287 (O (.f 63) [g,h,I,G]) fun J=>wy <| qie O b o) (wq (ib .eql c (uN 3)) fun K=>wd K (wz 0 fun L=>wo 0 0 L (cO 1 · i) fun M=>wn 1 0 L (.val j) fun N=>wn 2 0 L (.val l) fun P=>wn 3 6 L (aH 2 N P) fun Q=>wn 4 14 L (aN 0 Q) fun R=>wo 5 30 L (aR · R) fun S=>wn 6 0 L (.val n) fun T=>wn 7 0 L (.val o) fun U=>wn 8 192 L (aH 5 T U) fun V=>wn 9 448 L (aN 1 V) fun W=>wo 10 960 L (aR · W) fun X=>wn 11 0 L (.val n) fun Y=>wn 12 0 L (.val o) fun Z=>wn 13 6144 L (aH 5 Y Z) fun a117=>wn 14 14336 L (aN 2 a117) fun vQ=>wo 15 30720 L (aR · vQ) fun a119=>wu 65535 (O (.f 30) [M,S,X,a119]) fun aJn=>wn 17 131071 L (.val aJn) fun aCT=>wy <| q6t O (qie O b o) i k l n o aCT (iN 0)) (qie O b o)))
def q2n:=wq (aD n) fun a=>wq (ib .lss A a) fun b=>wd b (q6p O x i j k l m n A) (d)
def qkn:=gN (q2n O d i j k l m n)
def zhg:=qkn O d i j k l m n dG
def q6o:=wz 18 fun a=>wo 0 0 a (cO 1 · i) fun c=>wn 1 0 a (.val j) fun d=>wn 2 0 a (.val l) fun e=>wn 3 6 a (aH 2 d e) fun f=>wn 4 14 a (aN 0 f) fun g=>wo 5 30 a (aR · g) fun h=>wn 6 0 a (.val j) fun m=>wn 7 0 a (.val l) fun n=>wn 8 192 a (aH 2 m n) fun o=>wn 9 448 a (aN 1 o) fun q=>wo 10 960 a (aR · q) fun r=>wa 15 0 a (.new (.ptr (a+15) 0) (aB 0 [zS,.aA,uN 0,zS,zS,.aA])) fun s=>wu 2047 (O (.f 28) [c,h,r]) fun t=>wn 12 4095 a (.val t) fun u=>wn 13 8191 a (aU 0 u) fun v=>wn 14 8191 a (aU 1 u) fun x=>wu 49151 (xA 6 · s v) fun _=>wn 17 131071 a (.val x) fun y=>wy <| wq (aN 2 s) fun z=>wA 4 z fun A=>wc O 29 [(.aA),A,(.bool false)] fun B=>zhg O (qko O b l) i j k l s B (iN 0)
def q2o:=wq (aD j) fun a=>wq (ib .lss A a) fun b=>wd b (q6o O x i j k A) (d)
def qom:=gN (q2o O d i j k)
def zhh:=qom O d i j k dG
def z1y:=wB 1 i fun a=>wN [iN 0,.aA] fun b=>wA 1 a fun c=>wc O 21 [c] fun d=>wq (aD d) fun e=>wc O 62 [e] fun f=>wN [iN 0,.aA] fun g=>wT 2 g f <| zhh O (que O b g) a d g (iN 0)
def zAf:=z1y O i
def qw3(O:Ev.Call)(a:AV):pH:=.ok (.bA [a,(.bool true)])
def zg8(O:Ev.Call)(a:AV->pD)(b c:AV):=wI c fun d=>a b d
def qid(O:Ev.Call)(a:AV->pD)(b c:AV):=wI c fun d=>a b d
def qol:=wl (aH 1 j l) fun b=>wL (aR · b) fun c=>wl (aN 0 i) fun d=>wL (aR · d) fun e=>wl (ib .gtr c e) fun f=>wd f (a (.aA) (.bool false)) (qid O g k m)
def qok:=wq (aH 1 j l) fun b=>w1 b fun c=>wq (ib .lss c n) fun d=>wd d (wq (aH 1 j l) fun e=>wU e n <| qol O a g i j (.bool true) l m) (qol O a g i j k l m)
def qoj:=wF 1 i fun b=>wF 0 i fun c=>wq (ib .mul l c) fun d=>wq (ib .add d m) fun e=>wq (aH 1 b e) fun f=>w1 f fun h=>wq (ib .gtr h (iN 1)) fun o=>wd o (wq (aH 1 j m) fun q=>w1 q fun r=>wI r fun s=>qok O a g i j k l m s) (qok O a g i j k l m n)
def zhb:=wF 1 i fun b=>wF 0 i fun c=>wq (ib .mul l c) fun d=>wq (ib .add d m) fun e=>wq (aH 1 b e) fun f=>w1 f fun h=>wq (ib .eql h (iN 1)) fun n=>wd n (wq (aH 1 j m) fun o=>w1 o fun q=>qoj O a g i j k l m q) (qoj O a g i j k l m (.int .i64 (.negSucc 0)))
def zhc:=wF 0 i fun c=>wq (ib .lss B c) fun d=>wd d (zhb O a y i j A k B) (b A)
def qrj:=kZ (zhc O a b i j k)
def zw5:=qrj O a b i j k dG
def zha(a b:AV->pD)(c d e f:AV)(H:Hp):R1:=zw5 O (fun g h H=>a g h H) (fun e H=>zg8 O b e f H) c d f e (iN 0) H
def zhd:=wF 0 i fun c=>wq (ib .lss B c) fun d=>wd d (zha O a y i j A B) (b A)
def qw2:=kZ (zhd O a b i j)
def zw6:=qw2 O a b i j dG
def zg9:=zw6 O a b i j (.bool false) (iN 0)
def qw4:=wd A (zg9 O a x i j) (d)
def qoi:=gN (qw4 O a d i j)
def zw7:=qoi O a d i j dG
def z1x:=wB 2 i fun a=>wF 0 a fun b=>wh (fun H=>qe9 [iN 0] 8 H.nx b b) fun c=>fun H=>zw7 O (fun d e H=>.ok (.bA [d,e]) H) (qw3 O c) a c (.bool true) H
def zAg:=z1x O i
def qln(O:Ev.Call)(a:AV->pD)(b c:AV):=wI c fun d=>a b d
def qoh(O:Ev.Call)(a:AV->pD)(b c:AV):=wI c fun d=>a b d
def zg5(a:AV->pD)(b c d e:AV)(H:Hp):R1:=dz 21 H fun f H=>dn 0 0 f H [] [] (.val c) fun g H p w=>dn 1 0 f H p w (aN 0 b) fun h H p w=>dl 2 2 f H p w (fun H=>aR H h) fun i H p w=>dn 3 0 f H p w (.val d) fun j H p w=>dn 4 14 f H p w (aH 2 i j) fun k H p w=>dn 5 30 f H p w (aN 0 k) fun l H p w=>dl 6 62 f H p w (fun H=>aR H l) fun m H p w=>dn 7 0 f H p w (aN 0 b) fun n H p w=>dl 8 128 f H p w (fun H=>aR H n) fun o H p w=>dn 9 0 f H p w (.val d) fun q H p w=>dn 10 896 f H p w (aH 2 o q) fun r H p w=>dn 11 1920 f H p w (aN 1 r) fun s H p w=>dl 12 3968 f H p w (fun H=>aR H s) fun t H p w=>dn 13 0 f H p w (.val e) fun u H p w=>dn 14 16256 f H p w (aH 6 t u) fun v H p w=>dn 15 32640 f H p w (aN 0 v) fun x H p w=>dl 16 65408 f H p w (fun H=>aR H x) fun y H p w=>dn 17 131070 f H p w (bP (bH [zS,zS] [(0,1,m),(1,1,y)])) fun z H p w=>da 18 262142 f H p w (rJ 1 (f+18) (bH (aS [zS,zS] 1) [(0,2,z)])) fun A H p w=>de 524287 H p w (iM 2 32 (dZ 524287 p H) g (lY 2 (dZ 524287 p H) A)) (some true) fun B H p w=>dn 20 1048575 f H p w (.val B) fun C H p w=>xZ p H fun H=>qoh O a C e H
def zg6:=wF 0 i fun a=>wq (aH 2 a j) fun c=>wF 1 c fun d=>wq (aD d) fun e=>wq (ib .lss B e) fun f=>wd f (zg5 O y i A j B) (b A)
def q6n:=kZ (zg6 O b i j)
def zw3:=q6n O b i j dG
def zg4(a:AV->pD)(b c d:AV)(H:Hp):R1:=zw3 O (fun c H=>qln O a c d H) b d c (iN 0) H
def zg7:=wF 0 i fun a=>wq (aD a) fun c=>wq (ib .lss B c) fun d=>wd d (zg4 O y i A B) (b A)
def qw1:=kZ (zg7 O b i)
def zw4:=qw1 O b i dG
def z1w:=wB 1 i fun a=>zw4 O (gM O) a (.aA) (iN 0)
def zAh:=z1w O i
def yP(O:Ev.Call)(a:AV->pD)(b c:AV):=wI c fun d=>a b d
def zc5:=wl (aH 2 k m) fun b=>wl (aN 0 b) fun c=>wL (aR · c) fun d=>wl (aH 2 j l) fun e=>wl (aN 0 e) fun f=>wL (aR · f) fun g=>wl (eD (lC .eql).f d g) fun h=>wd h (fun H=>dz 14 H fun n H =>   dn 0 0 n H [] [] (.val i) fun o H p w =>   dn 1 0 n H p w (.val j) fun q H p w =>   dn 2 0 n H p w (.val l) fun r H p w =>   dn 3 6 n H p w (aH 2 q r) fun s H p w =>   dl 4 14 n H p w (fun H=>cO 2 H s) fun t H p w =>   dn 5 0 n H p w (.val k) fun u H p w =>   dn 6 0 n H p w (.val m) fun v H p w =>   dn 7 96 n H p w (aH 2 u v) fun x H p w =>   dn 8 224 n H p w (aN 1 x) fun y H p w =>   dl 9 480 n H p w (fun H=>aR H y) fun z H p w =>   dn 10 1022 n H p w (bP (bH [zS,zS,zS] [(0,2,t),(2,1,z)])) fun A H p w =>   da 11 2046 n H p w (rJ 1 (n+11) (bH (aS [zS,zS,zS] 1) [(0,3,A)])) fun B H p w =>   de 4095 H p w (iM 3 48 (dZ 4095 p H) o (lY 3 (dZ 4095 p H) B)) (some true) fun C H p w =>   dn 13 8191 n H p w (.val C) fun D H p w =>   xZ p H fun H =>   yP O a D m H) (yP O a i m)
def zc6:=wq (aD j) fun a=>wq (ib .lss B a) fun c=>wd c (zc5 O y A i j k B) (b A)
def q48:=kZ (zc6 O b i j k)
def zvh:=q48 O b i j k dG
def zc4(a:AV->pD)(b c d e:AV)(H:Hp):R1:=zvh O (fun b H=>qoh O a b e H) c d e b (iN 0) H
def zc7:=wq (aD i) fun a=>wq (ib .lss B a) fun c=>wd c (zc4 O y A i j B) (b A)
def qwj:=kZ (zc7 O b i j)
def zvi:=qwj O b i j dG
def zzb:=wB 1 i fun a=>wc O 65 [j] fun b=>wA 1 a fun c=>wc O 21 [c] fun d=>zvi O (gM O) b d (.aA) (iN 0)
def zFg:=zzb O i j
def qT(O:Ev.Call):pH:=.ok (.int .i64 (.negSucc 0))
def kQ(O:Ev.Call)(a:pD)(b:AV):=wI b a
def zu1:=wl (aH 3 i k) fun a=>wL (cO 3 · a) fun d=>wL (cO 3 · j) fun e=>wl (jT false ((⟨E2.f ⟨dQ (eqFields [((pA 2),⟨dQ (eqFields [(p1,⟨bL⟩,0),(p1,⟨bL⟩,1)])⟩,0),(p1,⟨bL⟩,2)])⟩⟩:E2).f d e)) fun f=>wd f (b k) (kQ O c k)
def zcb:=wq (aD i) fun a=>wq (ib .lss A a) fun c=>wd c (zu1 O b x i j A) (d)
def q4y:=gN (zcb O b d i j)
def zu3:=q4y O b d i j dG
def zyo:=wB 3 j fun a=>zu3 O .ok (qT O) i a (iN 0)
def zIl:=zyo O i j
def q0e(O:Ev.Call)(a b c:AV):=wA 2 c fun d=>wT 2 a d <| fun H=>dM (gH (fQ (rV (cO 2 H a)) (fQ (some b) (some [])))) H
def zb9(O:Ev.Call)(a:pD)(b:AV):=wI b a
def zb8:=wq (aH 6 j k) fun a=>wA 6 a fun c=>wN [zS,zS,zS,zS,zS,zS] fun d=>wT 6 d c <| wF 1 i fun e=>wq (aN 0 d) fun f=>wA 3 f fun g=>wA 6 d fun h=>wQ 1 (bH (aS [zS,zS,zS,zS,zS,zS] 1) [(0,6,h)]) fun l=>we (qj1 ⟨(⟨dQ (eqFields [((pA 2),⟨dQ (eqFields [(p1,⟨bL⟩,0),(p1,⟨bL⟩,1)])⟩,0),(p1,⟨bL⟩,2)])⟩:E2).f,some 3⟩ (.aA) · e g) fun m=>wq (aU 0 m) fun n=>wP 6 96 n l fun o=>wq (aU 1 m) fun q=>we (qhu · e q o) fun _=>zb9 O b k
def q0f:=wq (ib .lss A k) fun a=>wd a (zb8 O x i j A) (d)
def qs6:=gN (q0f O d i j k)
def zca:=qs6 O d i j k dG
def zb7:=wA 1 j fun a=>wc O 67 [a] fun b=>wq (aU 0 b) fun c=>wq (aU 1 b) fun d=>wh (fun H=>.new (.map H.nx) (.map [] 0)) fun e=>wq (bP (bH [.bJ,.bQ] [(0,1,c),(1,1,e)])) fun f=>wN [.bJ,.bQ] fun g=>wT 2 g f <| wc O 68 [i] fun h=>wq (aD h) fun l=>zca O (q0e O k d g) g h l (iN 0)
def zyn:=wB 1 i fun a=>wN [.bJ,.bQ] fun b=>wA 1 a fun c=>wc O 66 [c,j] fun d=>wq (aU 0 d) fun e=>wq (aU 1 d) fun f=>wq (ib .neq f (iN 0)) fun g=>wd g (wq (bP (bH [.bJ,.bQ] [])) fun h=>wT 2 b h <| fun H=>dM (gH (fQ (rV (cO 2 H b)) (fQ (some f) (some [])))) H) (zb7 O j a b)
def zIm:=zyn O i j
def zym:=wB 3 j fun a=>wA 3 a fun b=>wc O 69 [b] fun c=>wq (ib .eql c (iN 0)) fun d=>wg (wv d) (.val i) fun e=>wg (wv d) (aN 0 a) fun f=>wg (wv d) (aN 0 f) fun g=>wG (wv d) (aR · g) fun h=>wg (wv d) (aN 2 a) fun k=>wG (wv d) (aR · k) fun l=>wx (wv d) (O (.f 70) [e,h,l]) fun m=>wq (dV d m (.bool false)) fun n=>.ok n
def zIn:=zym O i j
def q0c:=wc O 73 [i] fun a=>.ok a
def qgc(O:Ev.Call)(a:AV->pD)(b c:AV):=wI c fun d=>a b d
def zb5:=wq (aH 6 l m) fun b=>wA 6 b fun c=>wN [uN 0,zS,zS,.aA,.aA,iN 0] fun d=>wT 6 d c <| wF 5 d fun e=>wq (ib .geq e (iN 0)) fun f=>wd f (wA 2 i fun g=>wA 6 d fun h=>wA 3 j fun n=>wc O 72 [g,h,n] fun o=>wq (aU 0 o) fun q=>wq (aU 1 o) fun r=>wP 3 48 k r fun s=>qgc O a s m) (qgc O a k m)
def q0d:=wq (ib .lss B l) fun a=>wd a (zb5 O y i j A k B) (b A)
def qnt:=kZ (q0d O b i j k l)
def zb6:=qnt O b i j k l dG
def zyl:=wB 2 i fun a=>wB 3 j fun b=>wF 0 a fun c=>wq (aN 0 b) fun d=>wF 0 d fun e=>wF 2 b fun f=>wc O 71 [c,e,f] fun g=>wq (aU 0 g) fun h=>wq (aU 1 g) fun k=>wN [zS,zS,iN 0,iN 0,.aA,.aA] fun l=>wT 6 l h <| wF 5 l fun m=>wq (aD m) fun n=>zb6 O (q0c O) a b m n (.aA) (iN 0)
def zIo:=zyl O i j
def q4x:=wc O 73 [i] fun a=>.ok (.bA [a,j])
def q0a(O:Ev.Call)(a:AV->AV->pD)(b c d:AV):=wI d fun e=>a b c e
def qg5(O:Ev.Call)(a:AV->AV->pD)(b c d:AV):=wI d fun e=>a b c e
def ql4:=wq (aH 3 l m) fun a=>wA 3 a fun b=>wN [zS,zS,zS] fun c=>wT 3 c b <| wI j fun d=>wA 3 c fun e=>wh (nR ⟨(⟨dQ (eqFields [((pA 2),⟨dQ (eqFields [(p1,⟨bL⟩,0),(p1,⟨bL⟩,1)])⟩,0),(p1,⟨bL⟩,2)])⟩:E2).f,some 3⟩ (iN 0) true · k e) fun f=>wq (aU 0 f) fun g=>wq (aU 1 f) fun n=>wq ((lH .not).f n) fun o=>wd o (wA 3 c fun q=>wq (aD i) fun r=>we (kL ⟨(⟨dQ (eqFields [((pA 2),⟨dQ (eqFields [(p1,⟨bL⟩,0),(p1,⟨bL⟩,1)])⟩,0),(p1,⟨bL⟩,2)])⟩:E2).f,some 3⟩ · k q r) fun _=>wA 3 c fun s=>wQ 1 (bH (aS [zS,zS,zS] 1) [(0,3,s)]) fun t=>wP 3 48 i t fun u=>(kA qg5) O h u d m) ((kA qg5) O h i d m)
def q0b:=wq (ib .lss C k) fun b=>wd b ((kA ql4) O z A B i j C) (a A B)
def qh8:=lq3 (q0b O a i j k)
def zb4:=qh8 O a i j k dG
def ql3:=wz 0 fun a=>wo 0 0 a (cO 2 · i) fun b=>wn 1 0 a (.val j) fun c=>wn 2 0 a (.val m) fun d=>wn 3 6 a (aH 3 c d) fun e=>wo 4 14 a (cO 3 · e) fun f=>wn 7 0 a (.val (iN 0)) fun g=>wu 31 (O (.f 26) [b,f]) fun n=>wn 6 63 a (aD n) fun o=>wy <| fun H=>zb4 O (fun j k H=>q0a O h j k m H) l n o j k g H
def zb3:=wq (aD A) fun b=>wq (ib .eql C b) fun c=>wd c (a A B) ((kA ql3) O z i A B j C)
def qq8:=lq3 (zb3 O a i j)
def zu0:=qq8 O a i j dG
def ql2:=zu0 O (q4x O) i l j k m
def zyk:=wB 2 i fun a=>wB 3 j fun b=>wA 3 b fun c=>wQ 1 (bH (aS [zS,zS,zS] 1) [(0,3,c)]) fun d=>wh (fun H=>.new (.map H.nx) (.map [] 0)) fun e=>wA 3 b fun f=>we (kL ⟨(⟨dQ (eqFields [((pA 2),⟨dQ (eqFields [(p1,⟨bL⟩,0),(p1,⟨bL⟩,1)])⟩,0),(p1,⟨bL⟩,2)])⟩:E2).f,some 3⟩ · e f (iN 0)) fun _=>(kA ql2) O a d (iN 0) e (iN 0)
def zIp:=zyk O i j
def q58(O:Ev.Call)(a:AV):=wq (bP (bH [zS,.aA,uN 0,zS,zS,.aA] [])) fun b=>wT 6 a b <| fun H=>dM (gH (fQ (rV (cO 6 H a)) (fQ (some (.bool false)) (some [])))) H
def qrh(O:Ev.Call)(a:pD)(b:AV):=wI b a
def zgb:=wF 0 j fun a=>wq (aH 2 a l) fun d=>wF 1 d fun e=>wq (aH 6 e m) fun f=>wF 0 f fun g=>wq (eD (lC .eql).f g i) fun h=>wd h (wF 0 j fun n=>wq (aH 2 n l) fun o=>wF 1 o fun q=>wq (aH 6 q m) fun r=>wA 6 r fun s=>wT 6 k s <| b (.bool true)) (qrh O c m)
def qwx:=wq (ib .geq l (iN 0)) fun a=>wg (wv a) (.val A) fun c=>wg (wv a) (aN 0 j) fun e=>wG (wv a) (aR · e) fun f=>wg (wv a) (.val l) fun g=>wg (wv a) (aH 2 f g) fun h=>wg (wv a) (aN 1 h) fun m=>wG (wv a) (aR · m) fun n=>wg (wv a) (aD n) fun o=>wg (wv a) (ib .lss c o) fun q=>wq (dV a q (.bool false)) fun r=>wd r (zgb O b x i j k l A) (d)
def qww:=gN (qwx O b d i j k l)
def zww:=qww O b d i j k l dG
def z1h:=wB 1 i fun a=>wN [zS,.aA,uN 0,zS,zS,.aA] fun b=>wA 1 a fun c=>wc O 74 [c,j] fun d=>fun H=>zww O (fun e H=>dM (gH (fQ (rV (cO 6 H b)) (fQ (some e) (some [])))) H) (q58 O b) k a b d (iN 0) H
def zAy:=z1h O i j k
def qtz(O:Ev.Call)(a b c:AV):=wq (aH 5 a b) fun d=>wq (aN 3 d) fun e=>wU e c <| .ok a
def qty(O:Ev.Call)(a:AV->AV->pD)(b c d:AV):=wI d fun e=>a b c e
def q17:=wq (aD i) fun a=>wQ 1 (bH (aS [iN 0] 1) [(0,1,a)]) fun b=>wP 1 8 l b fun c=>wz 0 fun d=>wn 0 0 d (.val i) fun e=>wn 1 0 d (aN 3 k) fun f=>wo 2 2 d (aR · f) fun g=>wn 3 0 d (.val m) fun n=>wn 4 14 d (aH 4 g n) fun o=>wo 5 30 d (cO 4 · o) fun q=>wn 6 0 d (.val j) fun r=>wn 7 64 d (.val r) fun s=>wr 8 192 d (aN 0 k) (bV false s) fun t=>ws 9 448 d (aR · t) (bV false s) fun u=>wr 10 960 d (ib .eql u (uN 6)) (bV false s) fun v=>wr 11 1984 d (.val v) (bV false s) fun x=>wr 12 4032 d (.val m) (wv x) fun y=>wr 13 8128 d (ib .eql y (iN 1)) (wv x) fun z=>wr 14 16320 d (dV x z (.bool false)) (bV false s) fun A=>wn 15 32704 d (dV s (.bool true) A) fun B=>wu 65535 (O (.f 29) [e,q,B]) fun C=>wn 17 131071 d (.val C) fun D=>wy <| qty O h D c m
def qkh:=wF 3 j fun b=>wq (aD b) fun c=>wq (ib .lss C c) fun d=>wd d (q17 O z A i j B C) (a A B)
def qtx:=lq3 (qkh O a i j)
def q18:=qtx O a i j dG
def zqz:=wB 4 j fun a=>wq (aD i) fun b=>wF 0 a fun c=>wF 1 a fun d=>wF 2 a fun e=>wq (bP (bH [uN 0,zS,zS,.aA,.bool false] [(0,1,c),(1,1,d),(2,1,e),(4,1,k)])) fun f=>wQ 1 (bH (aS [uN 0,zS,zS,.aA,.bool false] 1) [(0,5,f)]) fun g=>wP 5 72 i g fun h=>fun H=>q18 O (fun i l H=>qtz O i b l H) k a h (.aA) (iN 0) H
def zAz:=zqz O i j k
def qmt:=wz 15 fun b=>wo 0 0 b (cO 1 · j) fun c=>wn 1 0 b (aN 1 l) fun d=>wo 2 2 b (aR · d) fun e=>wn 3 0 b (.val m) fun f=>wn 4 14 b (aH 2 e f) fun g=>wn 5 30 b (aN 0 g) fun h=>wo 6 62 b (aR · h) fun n=>wn 7 0 b (.val i) fun o=>wa 12 0 b (.new (.ptr (b+12) 0) (aB 0 [zS,.aA,uN 0,zS,zS,.aA])) fun q=>wu 255 (O (.f 28) [c,n,o]) fun r=>wn 9 511 b (.val r) fun s=>wn 10 1023 b (aU 0 s) fun t=>wn 11 1023 b (aU 1 s) fun u=>wu 6143 (xA 6 · q t) fun _=>wn 14 16383 b (.val u) fun v=>wy <| wF 1 l fun x=>wq (aH 2 x m) fun y=>wF 1 y fun z=>wq (eD (lC .eql).f z zS) fun A=>wg (wv A) (.val v) fun B=>wq (dV A B (.bool false)) fun C=>wd C (wF 1 l fun D=>wq (aH 2 D m) fun E=>wF 0 E fun F=>wQ 1 (bH (aS [zS] 1) [(0,1,F)]) fun G=>wP 1 16 k G fun I=>yP O a I m) (yP O a k m)
def zf9:=wF 1 k fun a=>wq (aD a) fun c=>wq (ib .lss B c) fun d=>wd d ((kA qmt) O y i j A k B) (b A)
def qoc:=kZ (zf9 O b i j k)
def zga:=qoc O b i j k dG
def z1f:=wB 1 i fun a=>wA 1 a fun b=>wc O 28 [b,j,k] fun c=>wq (aU 0 c) fun d=>wq (aU 1 c) fun e=>wN [zS,.aA,uN 0,zS,zS,.aA] fun f=>wT 6 f d <| zga O (gM O) l a f (.aA) (iN 0)
def zBb:=z1f O i j k l
def zzs:=wB 3 i fun a=>wz 0 fun b=>wn 0 0 b (aN 0 a) fun c=>wo 1 1 b (cO 2 · c) fun d=>wn 3 0 b (aN 2 a) fun e=>wo 4 8 b (aR · e) fun f=>wu 3 (O (.f 75) [d]) fun g=>wu 31 (O (.f 76) [f]) fun h=>wn 6 63 b (qL pF g [h]) fun j=>wn 7 127 b (.val j) fun k=>wy <| .ok k
def zEl:=zzs O i
def z1s(O:Ev.Call)(a:AV):=wB 1 a fun b=>wF 0 b fun c=>wq (aD c) fun d=>wq (qL o7 d [(iN 12)]) fun e=>.ok e
def zAn:=z1s O i
def z1r(O:Ev.Call)(a:AV):=wQ 3 (bH (aS [zS] 3) [(0,1,(.str 1 97)),(1,1,(.str 1 98)),(2,1,(.str 1 99))]) fun b=>wq (ib .rem a (iN 3)) fun c=>wq (aH 1 b c) fun d=>w1 d fun e=>.ok e
def zAo:=z1r O i
def qic:=wA 1 m fun a=>wI k fun b=>wc O 55 [a,i,j,b,l] fun c=>wq (aU 0 c) fun d=>wq (aU 1 c) fun e=>wN [uN 0,zS,zS,.aA] fun f=>wT 4 f d <| wA 1 m fun g=>wI k fun h=>wg (bV false l) (.val o) fun q=>wg (bV false l) (ib .eql q (uN 6)) fun r=>wq (dV l (.bool true) r) fun s=>wc O 55 [g,i,e,h,s] fun t=>wq (aU 0 t) fun u=>wq (aU 1 t) fun v=>wN [uN 0,zS,zS,.aA] fun x=>wT 4 x u <| wA 4 f fun y=>wA 4 x fun z=>wQ 2 (bH (aS [uN 0,zS,zS,.aA] 2) [(0,4,y),(4,4,z)]) fun A=>wq (bP (bH [uN 0,zS,zS,.aA] [(0,1,o),(3,1,A)])) fun B=>wT 4 n B <| fun H=>dM (gH (fQ (rV (cO 4 H n)) (fQ (some v) (some [])))) H
def qfj:=wd s (wA 1 m fun a=>wq (ib .quo o (uN 8)) fun b=>wc O 110 [a,i,b,l] fun c=>wT 4 n c <| fun H=>dM (gH (fQ (rV (cO 4 H n)) (fQ (some j) (some [])))) H) (wq (ib .eql r (uN 4)) fun d=>wd d (wA 1 m fun e=>wq (ib .quo o (uN 8)) fun f=>wc O 111 [e,i,f,l] fun g=>wT 4 n g <| fun H=>dM (gH (fQ (rV (cO 4 H n)) (fQ (some j) (some [])))) H) (wq (ib .eql r (uN 6)) fun h=>wd h (qic O i j k l m n (uN 5)) (wq (ib .eql r (uN 7)) fun t=>wd t (wc O 112 [i] fun u=>wq (ib .gtr u (iN 0)) fun v=>wd v (qic O i j k l m n (uN 6)) (qic O i j k l m n q)) (qic O i j k l m n q))))
def qd4:=wd s (wc O 109 [l] fun a=>wT 4 n a <| fun H=>dM (gH (fQ (rV (cO 4 H n)) (fQ (some j) (some [])))) H) (wq (ib .eql r (uN 2)) fun b=>wd b (qfj O i j k l m n o q r b) (wq (ib .eql r (uN 3)) fun c=>qfj O i j k l m n o q r c))
def zgw:=wF 0 m fun a=>wq (aH 1 a i) fun b=>w1 b fun c=>wq (aH 1 c j) fun d=>w1 d fun e=>wI j fun f=>wq (ib .rem e (uN 8)) fun g=>wq (ib .eql g (uN 0)) fun h=>wd h (qd4 O i f k l m n e (uN 4) g h) (wq (ib .eql g (uN 1)) fun o=>qd4 O i f k l m n e (uN 4) g o)
def zq9:=wB 1 i fun a=>wN [uN 0,zS,zS,.aA] fun b=>wF 0 a fun c=>wq (aH 1 c j) fun d=>w1 d fun e=>wq (aD e) fun f=>wq (ib .geq k f) fun g=>wg (bV false g) (.val k) fun h=>wg (bV false g) (ib .geq h (iN 12)) fun n=>wq (dV g (.bool true) n) fun o=>wg (bV false o) (.val l) fun q=>wg (bV false o) (ib .gtr q (iN 6)) fun r=>wq (dV o (.bool true) r) fun s=>wd s (wc O 109 [m] fun t=>wT 4 b t <| fun H=>dM (gH (fQ (rV (cO 4 H b)) (fQ (some k) (some [])))) H) (zgw O j k l m a b)
def zAp:=zq9 O i j k l m
def z1q(O:Ev.Call)(a:AV):=wQ 4 (bH (aS [zS] 4) [(0,1,(.str 2 12402)),(1,1,(.str 2 12658)),(2,1,(.str 2 12914)),(3,1,(.str 2 13170))]) fun b=>wq (ib .rem a (iN 4)) fun c=>wq (aH 1 b c) fun d=>w1 d fun e=>.ok e
def zAq:=z1q O i
def q2j:=wA 1 j fun a=>wc O 113 [a,i,(iN 1)] fun b=>wq (ib .quo b (uN 2)) fun c=>wq (qq3 .i64 c) fun d=>wq (aD l) fun e=>wq (ib .rem d e) fun f=>wq (aH 2 l f) fun g=>wA 2 g fun h=>wQ 1 (bH (aS [zS,zS] 1) [(0,2,h)]) fun m=>wP 2 32 k m fun n=>gM O n
def z1o:=wc O 112 [k] fun b=>wc O 112 [i] fun c=>wq (ib .leq b c) fun d=>wd d (wq (ib .quo k (iN 4)) fun e=>wc O 54 [e] fun f=>wc O 56 [k] fun g=>wq (bP (bH [zS,zS] [(0,1,f),(1,1,g)])) fun h=>wQ 1 (bH (aS [zS,zS] 1) [(0,2,h)]) fun l=>wP 2 32 j l fun m=>qgc O a m k) (qgc O a j k)
def q2l:=wA 1 j fun a=>wc O 53 [a] fun c=>wq (ib .lss B c) fun d=>wd d (z1o O y i A B) (b A)
def qt9:=kZ (q2l O b i j)
def zgv:=qt9 O b i j dG
def qub:=wA 1 j fun a=>wc O 113 [a,i,(iN 1)] fun b=>wq (ib .rem b (uN 2)) fun c=>wq (ib .eql c (uN 1)) fun d=>wd d (zgv O (q2j O i j k) i j (.aA) (iN 0)) (gM O k)
def qua(O:Ev.Call)(a:AV->pD)(b c:AV):=wI c fun d=>a b d
def zgt:=wA 1 j fun b=>wc O 113 [b,i,(iN 0)] fun c=>wq (qxt (qjl .shr).f c l) fun d=>wq (ib .rem d (uN 2)) fun e=>wq (ib .eql e (uN 1)) fun f=>wd f (wc O 54 [l] fun g=>wq (bP (bH [zS,zS] [(0,1,g)])) fun h=>wQ 1 (bH (aS [zS,zS] 1) [(0,2,h)]) fun m=>wP 2 32 k m fun n=>qua O a n l) (qua O a k l)
def q2k:=wq (ib .mul (iN 4) B) fun a=>wA 1 j fun c=>wc O 53 [c] fun d=>wq (ib .lss a d) fun e=>wg (wv e) (.val B) fun f=>wg (wv e) (ib .lss f (iN 3)) fun g=>wq (dV e g (.bool false)) fun h=>wd h (zgt O y i j A B) (b A)
def qt8:=kZ (q2k O b i j)
def zgu:=qt8 O b i j dG
def z1p:=wB 1 i fun a=>wq (bP (bH [zS,zS] [(0,1,(.str 4 1919251317))])) fun b=>wQ 1 (bH (aS [zS,zS] 1) [(0,2,b)]) fun c=>zgu O (qub O j a) j a c (iN 0)
def zAr:=z1p O i j
def qwy(O:Ev.Call):pH:=.ok (.bool false)
def qri(O:Ev.Call)(a:pD)(b:AV):=wI b a
def zgr:=wq (aH 5 k l) fun a=>wF 0 a fun d=>wq (ib .eql d i) fun e=>wg (wv e) (.val k) fun f=>wg (wv e) (.val l) fun g=>wg (wv e) (aH 5 f g) fun h=>wg (wv e) (aN 1 h) fun m=>wG (wv e) (aR · m) fun n=>wg (wv e) (.val j) fun o=>wg (wv e) (eD (lC .eql).f n o) fun q=>wq (dV e q (.bool false)) fun r=>wd r (b (.bool true)) (qri O c l)
def zgs:=wq (aD k) fun a=>wq (ib .lss A a) fun c=>wd c (zgr O b x i j k A) (d)
def q6k:=gN (zgs O b d i j k)
def zwz:=q6k O b d i j k dG
def z1n:=wB 4 i fun a=>wA 4 a fun b=>wc O 29 [(.aA),b,(.bool false)] fun c=>zwz O .ok (qwy O) j k c (iN 0)
def zAs:=z1n O i j k
def zzv(O:Ev.Call)(a:AV):=wQ 5 (bH (aS [zS] 5) [(0,1,(.str 1 49)),(1,1,(.str 1 50)),(2,1,(.str 1 51)),(3,1,(.str 1 52)),(4,1,(.str 4 1953460082))]) fun b=>wq (ib .rem a (uN 5)) fun c=>wq (aH 1 b c) fun d=>w1 d fun e=>.ok e
def zEi:=zzv O i
def jW(O:Ev.Call):pH:=.ok (iN 0)
def zvv:=wl (aH 6 i k) fun a=>wL (cO 6 · a) fun d=>wL (cO 6 · j) fun e=>wl (jT false ((⟨E2.f ⟨dQ (eqFields [((pA 3),⟨dQ (eqFields [((pA 2),⟨dQ (eqFields [(p1,⟨bL⟩,0),(p1,⟨bL⟩,1)])⟩,0),(p1,⟨bL⟩,2)])⟩,0),((pA 3),⟨dQ (eqFields [((pA 2),⟨dQ (eqFields [(p1,⟨bL⟩,0),(p1,⟨bL⟩,1)])⟩,0),(p1,⟨bL⟩,2)])⟩,3)])⟩⟩:E2).f d e)) fun f=>wd f (b (iN 1)) (kQ O c k)
def zdh:=wq (aD i) fun a=>wq (ib .lss A a) fun c=>wd c (zvv O b x i j A) (d)
def q5c:=gN (zdh O b d i j)
def zvw:=q5c O b d i j dG
def zzu:=wB 6 j fun a=>zvw O .ok (jW O) i a (iN 0)
def zEj:=zzu O i j
def zvu:=wq (aN 3 i) fun a=>wA 3 a fun b=>wq (aN 3 j) fun c=>wA 3 c fun d=>wc O 115 [b,d] fun e=>.ok e
def zzt:=wB 6 i fun a=>wB 6 j fun b=>wq (aN 0 a) fun c=>wA 3 c fun d=>wq (aN 0 b) fun e=>wA 3 e fun f=>wq (jT true ((⟨E2.f ⟨dQ (eqFields [((pA 2),⟨dQ (eqFields [(p1,⟨bL⟩,0),(p1,⟨bL⟩,1)])⟩,0),(p1,⟨bL⟩,2)])⟩⟩:E2).f d f)) fun g=>wd g (wq (aN 0 a) fun h=>wA 3 h fun k=>wq (aN 0 b) fun l=>wA 3 l fun m=>wc O 114 [k,m] fun n=>.ok n) (zvu O a b)
def zEk:=zzt O i j
def z1i(O:Ev.Call)(a:AV):=wN [iN 0,.aA] fun b=>wq (ib .mul a a) fun c=>wh (fun H=>qe9 [iN 0] 8 H.nx c c) fun d=>wq (bP (bH [iN 0,.aA] [(0,1,a),(1,1,d)])) fun e=>wT 2 b e <| fun H=>dM (rV (cO 2 H b)) H
def zAx:=z1i O i
def zgx:=wq (aH 2 k l) fun a=>wF 0 a fun d=>wq (eD (lC .eql).f d i) fun e=>wg (wv e) (.val k) fun f=>wg (wv e) (.val l) fun g=>wg (wv e) (aH 2 f g) fun h=>wg (wv e) (aN 1 h) fun m=>wG (wv e) (aR · m) fun n=>wg (wv e) (.val j) fun o=>wg (wv e) (eD (lC .eql).f n o) fun q=>wq (dV e q (.bool false)) fun r=>wd r (b l) (qri O c l)
def zgy:=wq (aD k) fun a=>wq (ib .lss A a) fun c=>wd c (zgx O b x i j k A) (d)
def qwz:=gN (zgy O b d i j k)
def zw0:=qwz O b d i j k dG
def z1t:=wB 1 i fun a=>wA 1 a fun b=>wc O 21 [b] fun c=>zw0 O .ok (qT O) j k c (iN 0)
def zAm:=z1t O i j k
def qtw(O:Ev.Call)(a b c d:AV):=wF 1 c fun e=>wF 0 c fun f=>wq (ib .mul a f) fun g=>wq (ib .add g b) fun h=>wq (aH 1 e h) fun i=>w1 i fun j=>wq (ib .quo j d) fun k=>wq (ib .rem k (iN 2)) fun l=>wq (ib .eql l (iN 0)) fun m=>wd m (wF 1 c fun n=>wF 0 c fun o=>wq (ib .mul a o) fun q=>wq (ib .add q b) fun r=>wq (aH 1 n r) fun s=>w1 s fun t=>wq (ib .add t d) fun u=>wq (aH 1 n r) fun v=>wU v u <| .ok (.bA [])) (.ok (.bA []))
def z1g:=wB 2 i fun a=>wd l (qtw O j k a (iN 2)) (qtw O j k a (iN 1))
def zBa:=z1g O i j k l
def zc8:=wz 0 fun b=>wn 0 0 b (.val j) fun c=>wn 1 0 b (.val i) fun d=>wn 2 0 b (.val k) fun e=>wn 3 6 b (aH 6 d e) fun f=>wn 4 14 b (aN 0 f) fun g=>wn 5 30 b (aN 0 g) fun h=>wo 6 62 b (cO 2 · h) fun l=>wn 8 0 b (.val i) fun m=>wn 9 0 b (.val k) fun n=>wn 10 768 b (aH 6 m n) fun o=>wn 11 1792 b (aN 3 o) fun q=>wn 12 3840 b (aN 0 q) fun r=>wo 13 7936 b (cO 2 · r) fun s=>wu 127 (O (.f 116) [c,l]) fun t=>wu 16383 (O (.f 116) [t,s]) fun u=>wn 15 32767 b (.val u) fun v=>wy <| qn0 O a v k
def zc9:=wq (aD i) fun a=>wq (ib .lss B a) fun c=>wd c (zc8 O y i A B) (b A)
def q49:=kZ (zc9 O b i)
def zvj:=q49 O b i dG
def zzc:=zvj O (gM O) i (.aA) (iN 0)
def zFc:=zzc O i
def zdu(O:Ev.Call)(a:AV):=wq (aD a) fun b=>.ok (.bA [b,(iN 0)])
def qi7(O:Ev.Call)(a:pD)(b:AV):=wI b a
def zdw:=wq (aH 6 j k) fun c=>wA 6 c fun d=>wN [zS,zS,zS,zS,zS,zS] fun e=>wT 6 e d <| wA 6 e fun f=>wc O 118 [i,f] fun g=>wq (ib .neq g (iN 0)) fun h=>wd h (a k g) (qi7 O b k)
def zdx:=wq (ib .lss A k) fun b=>wd b (zdw O a x i j A) (d)
def q5f:=gN (zdx O a d i j k)
def zvz:=q5f O a d i j k dG
def zdv:=wA 1 j fun a=>wc O 117 [a] fun b=>wq (aD i) fun c=>fun H=>zvz O (fun d e H=>.ok (.bA [d,e]) H) (zdu O i) b i c (iN 0) H
def zz0:=wB 1 i fun a=>wA 1 a fun b=>wc O 83 [b] fun c=>wq (ib .neq c (iN 0)) fun d=>wd d (.ok (.bA [(iN 0),c])) (zdv O j a)
def zDz:=zz0 O i j
def qct(O:Ev.Call)(a:AV):pH:=.ok (.bA [a,(iN 0)])
def qi5(a:pD)(b c d e f g h:AV)(H:Hp):R1:=dz 27 H fun i H=>dn 0 0 i H [] [] (.val c) fun j H p w=>dn 1 0 i H p w (.val c) fun k H p w=>dn 2 2 i H p w (aY k) fun l H p w=>dn 3 6 i H p w (aN 1 l) fun m H p w=>dl 4 14 i H p w (fun H=>aR H m) fun n H p w=>dn 5 0 i H p w (aN 0 d) fun o H p w=>dl 6 32 i H p w (fun H=>aR H o) fun q H p w=>dn 7 0 i H p w (aN 0 e) fun r H p w=>dl 8 128 i H p w (fun H=>aR H r) fun s H p w=>dn 9 0 i H p w (.val c) fun t H p w=>dn 10 512 i H p w (aY t) fun u H p w=>dn 11 1536 i H p w (aN 1 u) fun v H p w=>dl 12 3584 i H p w (fun H=>aR H v) fun x H p w=>dn 13 7680 i H p w (aD x) fun y H p w=>dn 14 0 i H p w (.val g) fun z H p w=>dn 15 0 i H p w (aN 1 e) fun A H p w=>dl 16 32768 i H p w (fun H=>aR H A) fun B H p w=>dl 18 0 i H p w (fun H=>cO 4 H f) fun C H p w=>dn 19 0 i H p w (.val (.fn 125 [] [b,d])) fun D H p w=>de 98304 H p w (O (.f 123) [B] (dZ 98304 p H)) (some true) fun E H p w=>de 1015808 H p w (O (.f 124) [C,D] (dZ 1015808 p H)) (some true) fun F H p w=>dn 21 2097120 i H p w (bP (bH [zS,zS,iN 0,iN 0,.aA,.aA] [(0,1,q),(1,1,s),(2,1,y),(3,1,z),(4,1,E),(5,1,F)])) fun G H p w=>da 22 4194272 i H p w (rJ 1 (i+22) (bH (aS [zS,zS,iN 0,iN 0,.aA,.aA] 1) [(0,6,G)])) fun I H p w=>de 8388606 H p w (iM 6 96 (dZ 8388606 p H) n (lY 6 (dZ 8388606 p H) I)) (some true) fun J H p w=>dn 24 16777215 i H p w (aY j) fun K H p w=>dn 25 33554431 i H p w (aN 1 K) fun L H p w=>de 67108863 H p w (j5 (dZ 67108863 p H) L J) (some true) fun _ H p w=>xZ p H fun H=>(kA qi7) O a h H
def qmn:=wz 0 fun a=>wn 0 0 a (.val j) fun c=>wn 1 1 a (aY c) fun d=>wn 2 3 a (aN 2 d) fun e=>wo 3 7 a (aR · e) fun f=>wn 4 0 a (aN 0 k) fun g=>wo 5 16 a (aR · g) fun h=>wn 6 0 a (aN 0 l) fun q=>wo 7 64 a (aR · q) fun r=>wn 8 240 a (bP (bH [zS,zS] [(0,1,h),(1,1,r)])) fun s=>wn 9 0 a (.val j) fun t=>wn 10 512 a (aY t) fun u=>wn 11 1536 a (aN 1 u) fun v=>wo 12 3584 a (aR · v) fun x=>wn 13 7680 a (aD x) fun y=>wu 16383 (kL ⟨(⟨dQ (eqFields [(p1,⟨bL⟩,0),(p1,⟨bL⟩,1)])⟩:E2).f,some 2⟩ · f s y) fun _=>wy <| (kA qi5) O b i j k l m n o
def qmm:=wA 1 j fun a=>wF 0 l fun c=>wF 0 m fun d=>wc O 122 [a,c,d] fun e=>wq (aU 0 e) fun f=>wq (aU 1 e) fun g=>(kA qmn) O b i k l m n f o
def qml:=wq (aN 2 m) fun a=>wA 4 a fun c=>wc O 121 [c] fun d=>wq (aU 0 d) fun e=>wq (aU 1 d) fun f=>wN [uN 0,zS,zS,.aA] fun g=>wT 4 g e <| (kA qmm) O b i j k l m g n
def qi4:=wq (aH 6 m n) fun a=>wA 6 a fun c=>wN [zS,.aA,uN 0,zS,zS,.aA] fun d=>wT 6 d c <| (kA qml) O b i j k l d n
def zcv:=wq (ib .lss A n) fun a=>wd a ((kA qi4) O x i j k l m A) (d)
def qwg:=gN (zcv O d i j k l m n)
def zcx:=qwg O d i j k l m n dG
def qmk:=zcx O (kA kQ O b m) i j k l n o q
def qmj:=wF 1 l fun a=>wq (aD a) fun c=>(kA qmk) O b i j k l m a c (iN 0)
def qmi:=wq (aH 2 l m) fun a=>wA 2 a fun c=>wN [zS,.aA] fun d=>wT 2 d c <| (kA qmj) O b i j k d m
def zcw:=wq (ib .lss A m) fun a=>wd a ((kA qmi) O x i j k l A) (d)
def qwh:=gN (zcw O d i j k l m)
def zcy:=qwh O d i j k l m dG
def qmh:=zcy O (kA qct O k) i j k l m n
def qmg:=wF 0 i fun a=>wq (aD a) fun b=>(kA qmh) O i j k a b (iN 0)
def qmf:=wh (fun H=>.new (.map H.nx) (.map [] 0)) fun a=>wA 1 j fun b=>wc O 120 [b] fun c=>wq (bP (bH [.bool false,.aA,.bQ,iN 0] [(0,1,(.bool true)),(2,1,a),(3,1,c)])) fun d=>wB 4 d fun e=>(kA qmg) O i j e
def qi6:=wq (ib .neq k (iN 0)) fun a=>wd a (.ok (.bA [(.bJ),k])) ((kA qmf) O i j)
def zy7:=wB 1 i fun a=>wA 1 a fun b=>wc O 119 [b] fun c=>wq (aU 0 c) fun d=>wq (aU 1 c) fun e=>wN [.aA] fun f=>wT 1 f d <| (kA qi6) O a f e
def zGv:=zy7 O i
def z5g:=wc O 127 [i] fun a=>wc O 128 [a,(.fn 129 [] [])] fun b=>wc O 130 [a] fun c=>wq (aD c) fun d=>wq (aD c) fun e=>wq (kU 6 c none (some d) (some e)) fun f=>.ok f
def zIq:=z5g O i
def zzm:=wB 3 i fun a=>wq (aN 0 a) fun b=>wF 0 b fun c=>wq (aN 0 a) fun d=>wF 1 d fun e=>wF 2 a fun f=>wQ 3 (bH (aS [zS] 3) [(0,1,c),(1,1,e),(2,1,f)]) fun g=>wc O 131 [g] fun h=>.ok h
def zEs:=zzm O i
def z5k:=wc O 71 [i,j,k] fun a=>wq (aU 0 a) fun b=>wq (aU 1 a) fun c=>wN [zS,zS,iN 0,iN 0,.aA,.aA] fun d=>wT 6 d b <| wq (ib .eql c (iN 0)) fun e=>.ok e
def zHb:=z5k O i j k
def q0v:=wq (aY i) fun a=>wF 1 a fun b=>wq (aH 6 b k) fun c=>wA 6 c fun d=>wc O 132 [d] fun e=>wT 6 j e <| fun H=>dM (gH (fQ (rV (cO 6 H j)) (fQ (some (iN 0)) (some [])))) H
def q0u:=wq (aY i) fun a=>wF 2 a fun b=>wq (bP (bH [zS,zS] [(0,1,j),(1,1,k)])) fun c=>wh (nR ⟨(⟨dQ (eqFields [(p1,⟨bL⟩,0),(p1,⟨bL⟩,1)])⟩:E2).f,some 2⟩ (iN 0) true · b c) fun d=>wq (aU 0 d) fun e=>wq (aU 1 d) fun f=>wq ((lH .not).f f) fun g=>wd g (wq (bP (bH [zS,zS,iN 0,iN 0,.aA,.aA] [])) fun h=>wT 6 l h <| fun H=>dM (gH (fQ (rV (cO 6 H l)) (fQ (some (iN 6)) (some [])))) H) (q0v O i l e)
def zy6:=wN [zS,zS,iN 0,iN 0,.aA,.aA] fun a=>wq (jT false ((⟨E2.f ⟨ql1⟩⟩:E2).f i (.bJ))) fun b=>wg (bV false b) (.val i) fun c=>wg (bV false b) (aY c) fun d=>wg (bV false b) (aN 0 d) fun e=>wG (bV false b) (aR · e) fun f=>wg (bV false b) ((lH .not).f f) fun g=>wq (dV b (.bool true) g) fun h=>wd h (wq (bP (bH [zS,zS,iN 0,iN 0,.aA,.aA] [])) fun l=>wT 6 a l <| fun H=>dM (gH (fQ (rV (cO 6 H a)) (fQ (some (iN 2)) (some [])))) H) (q0u O i j k a)
def zGz:=zy6 O i j k
def qs5(O:Ev.Call)(a:AV->AV->pD)(b c d:AV):=wI d fun e=>a b c e
def zbz:=wq (aH 6 k l) fun a=>wA 6 a fun b=>wN [zS,zS,zS,zS,zS,zS] fun c=>wT 6 c b <| wq (aN 3 c) fun d=>wF 2 d fun e=>wq (eD (lC .eql).f e zS) fun f=>wd f (wq (aN 3 c) fun g=>wq (aN 0 g) fun m=>wA 2 m fun n=>wQ 1 (bH (aS [zS,zS] 1) [(0,2,n)]) fun o=>wP 2 32 i o fun q=>qs5 O h q j l) (wq (aN 3 c) fun r=>wA 3 r fun s=>wQ 1 (bH (aS [zS,zS,zS] 1) [(0,3,s)]) fun t=>wP 3 48 j t fun u=>qs5 O h i u l)
def qz9:=wq (ib .lss C j) fun b=>wd b (zbz O z A B i C) (a A B)
def qns:=lq3 (qz9 O a i j)
def zb1:=qns O a i j dG
def qs4(O:Ev.Call)(a:AV->pD)(b c:AV):=wI c fun d=>a b d
def zby:=wq (aH 6 k l) fun b=>wA 6 b fun c=>wN [zS,zS,zS,zS,zS,zS] fun d=>wT 6 d c <| wq (aN 3 d) fun e=>wF 2 e fun f=>wq (eD (lC .eql).f f zS) fun g=>wg (wv g) (aN 3 i) fun h=>wG (wv g) (aR · h) fun m=>wg (wv g) (aN 3 d) fun n=>wg (wv g) (aN 0 n) fun o=>wg (wv g) (aN 0 o) fun q=>wG (wv g) (aR · q) fun r=>wx (wv g) (O (.f 133) [m,r]) fun s=>wq (dV g s (.bool false)) fun t=>wd t (wq (aN 3 d) fun u=>wq (aN 0 u) fun v=>wA 2 v fun x=>wF 2 i fun y=>wq (bP (bH [zS,zS,zS] [(0,2,x),(2,1,y)])) fun z=>wQ 1 (bH (aS [zS,zS,zS] 1) [(0,3,z)]) fun A=>wP 3 48 j A fun B=>qs4 O a B l) (qs4 O a j l)
def qz8:=wq (ib .lss B k) fun a=>wd a (zby O y i A j B) (b A)
def qnr:=kZ (qz8 O b i j k)
def zb0:=qnr O b i j k dG
def zyj:=wB 2 i fun a=>wB 6 j fun b=>wB 3 k fun c=>wF 0 b fun d=>wq (ib .eql d (uN 1)) fun e=>wd e (wF 1 a fun f=>wA 3 c fun g=>wh (nR ⟨(⟨dQ (eqFields [((pA 2),⟨dQ (eqFields [(p1,⟨bL⟩,0),(p1,⟨bL⟩,1)])⟩,0),(p1,⟨bL⟩,2)])⟩:E2).f,some 3⟩ (.aA) false · f g) fun h=>wq (aD h) fun l=>zb1 O (qix O) h l (.aA) (.aA) (iN 0)) (wq (ib .eql d (uN 2)) fun m=>wd m (wq (aN 0 c) fun n=>wA 2 n fun o=>wF 1 b fun q=>wq (bP (bH [zS,zS,zS] [(0,2,o),(2,1,q)])) fun r=>wQ 1 (bH (aS [zS,zS,zS] 1) [(0,3,r)]) fun s=>qix O (.aA) s) (wq (ib .eql d (uN 3)) fun t=>wd t (wF 1 a fun u=>wq (aN 0 c) fun v=>wA 2 v fun x=>wF 1 b fun y=>wq (bP (bH [zS,zS,zS] [(0,2,x),(2,1,y)])) fun z=>wh (nR ⟨(⟨dQ (eqFields [((pA 2),⟨dQ (eqFields [(p1,⟨bL⟩,0),(p1,⟨bL⟩,1)])⟩,0),(p1,⟨bL⟩,2)])⟩:E2).f,some 3⟩ (.aA) false · u z) fun A=>wq (aD A) fun B=>zb0 O (qix O (.aA)) b A B (.aA) (iN 0)) (qix O (.aA) (.aA))))
def zIr:=zyj O i j k
def q9q(O:Ev.Call)(a:AV):=wq (aD a) fun b=>wq (aD a) fun c=>wq (kU 3 a none (some b) (some c)) fun d=>.ok d
def zFk:=q9q O i
def zfi:=wF 0 j fun a=>wq (aH 2 a k) fun d=>wF 0 d fun e=>wq (eD (lC .eql).f e i) fun f=>wd f (b k) (kQ O c k)
def zfj:=wF 0 j fun a=>wq (aD a) fun c=>wq (ib .lss A c) fun e=>wd e (zfi O b x i j A) (d)
def q53:=gN (zfj O b d i j)
def zwp:=q53 O b d i j dG
def z00:=wB 1 i fun a=>zwp O .ok (qT O) j a (iN 0)
def zBs:=z00 O i j
def zzo:=wB 2 i fun a=>wz 0 fun b=>wn 0 0 b (aN 0 a) fun c=>wo 1 1 b (aR · c) fun d=>wn 3 0 b (aN 1 a) fun e=>wo 4 8 b (aR · e) fun f=>wu 3 (O (.f 76) [d]) fun g=>wu 31 (O (.f 76) [f]) fun h=>wn 6 63 b (qL pF g [h]) fun j=>wn 7 127 b (.val j) fun k=>wy <| .ok k
def zEq:=zzo O i
def z5m(O:Ev.Call):pH:=.ok (iN 6)
def qwl:=wd i (.ok (iN 0)) (z5m O)
def zdg:=wq (qdp i j) fun b=>wq (ib .geq b (uN 97)) fun c=>wg (wv c) (.val i) fun d=>wg (wv c) (.val j) fun e=>wg (wv c) (qdp d e) fun f=>wg (wv c) (ib .leq f (uN 122)) fun g=>wq (dV c g (.bool false)) fun h=>wg (bV false h) (.val i) fun k=>wg (bV false h) (.val j) fun l=>wg (bV false h) (qdp k l) fun m=>wg (bV false h) (ib .geq m (uN 48)) fun n=>wg (bV false h) (.val n) fun o=>wg (wv o) (.val i) fun q=>wg (wv o) (.val j) fun r=>wg (wv o) (qdp q r) fun s=>wg (wv o) (ib .leq s (uN 57)) fun t=>wg (bV false h) (dV o t (.bool false)) fun u=>wq (dV h (.bool true) u) fun v=>yP O a v j
def qwm:=wq (lG i) fun a=>wq (ib .lss B a) fun c=>wg (wv c) (.val A) fun d=>wq (dV c d (.bool false)) fun e=>wd e (zdg O y i B) (b A)
def qra:=kZ (qwm O b i)
def q5b:=qra O b i dG
def zzn:=wq (lG i) fun a=>wq (ib .gtr a (iN 0)) fun b=>wg (wv b) (.val i) fun c=>wg (wv b) (lG c) fun d=>wg (wv b) (ib .leq d (iN 16)) fun e=>wq (dV b e (.bool false)) fun f=>q5b O (qwl O) i f (iN 0)
def zEr:=zzn O i
def zwt(O:Ev.Call)(a:AV):=wq (bP (bH [uN 0,zS,zS,.aA] [(0,1,(uN 1))])) fun b=>wT 4 a b <| fun H=>dM (rV (cO 4 H a)) H
def z1d:=wN [uN 0,zS,zS,.aA] fun a=>wd i (wq (bP (bH [uN 0,zS,zS,.aA] [(0,1,(uN 2)),(1,1,(.str 2 12402))])) fun b=>wT 4 a b <| fun H=>dM (rV (cO 4 H a)) H) (zwt O a)
def zBe:=z1d O i
def zf6(O:Ev.Call)(a b c:AV):=wq (qq3 .i64 a) fun d=>wq (aD c) fun e=>wq (ib .rem d e) fun f=>wq (aH 1 c f) fun g=>w1 g fun h=>wq (bP (bH [uN 0,zS,zS,.aA] [(0,1,(uN 2)),(1,1,h)])) fun i=>wT 4 b i <| fun H=>dM (rV (cO 4 H b)) H
def qtv(O:Ev.Call)(a:AV->pD)(b c:AV):=wI c fun d=>a b d
def z1b:=wc O 160 [i,l,j] fun b=>wd b (wc O 56 [l] fun c=>wQ 1 (bH (aS [zS] 1) [(0,1,c)]) fun d=>wP 1 16 k d fun e=>qtv O a e l) (qtv O a k l)
def q15:=wA 1 k fun a=>wc O 53 [a] fun c=>wq (ib .lss B c) fun d=>wg (wv d) (.val B) fun e=>wg (wv d) (.val i) fun f=>wg (wv d) (ib .quo f (iN 4)) fun g=>wg (wv d) (ib .mul g (iN 4)) fun h=>wg (wv d) (ib .add h (iN 4)) fun l=>wg (wv d) (ib .lss e l) fun m=>wq (dV d m (.bool false)) fun n=>wd n (z1b O y i j A B) (b A)
def qtu:=kZ (q15 O b i j k)
def zf7:=qtu O b i j k dG
def z1c:=wB 1 i fun a=>wN [uN 0,zS,zS,.aA] fun b=>wq (ib .quo j (iN 4)) fun c=>wq (ib .mul c (iN 4)) fun d=>zf7 O (zf6 O k b) j l a (.aA) d
def zBf:=z1c O i j k l
def zwr(O:Ev.Call)(a b c:AV):=wq (qq3 .i64 a) fun d=>wq (aD c) fun e=>wq (ib .rem d e) fun f=>wq (aH 4 c f) fun g=>wA 4 g fun h=>wT 4 b h <| fun H=>dM (rV (cO 4 H b)) H
def qtt:=wq (aD l) fun a=>wq (ib .eql a (iN 0)) fun b=>wd b (wc O 109 [j] fun c=>wT 4 k c <| fun H=>dM (rV (cO 4 H k)) H) (zwr O i k l)
def q11(O:Ev.Call)(a:AV->pD)(b c:AV):=wI c fun d=>a b d
def qkg(O:Ev.Call)(a:AV->pD)(b c:AV):=wI c fun d=>a b d
def zf2:=wz 0 fun b=>wn 0 0 b (.val m) fun c=>wn 1 0 b (.val n) fun d=>wn 2 3 b (aH 2 c d) fun e=>wn 3 7 b (aN 1 e) fun f=>wo 4 15 b (aR · f) fun g=>wn 5 31 b (eD (lC .eql).f g zS) fun h=>wn 6 63 b (.val h) fun q=>wr 7 127 b (.val m) (wv q) fun r=>wr 8 127 b (.val n) (wv q) fun s=>wr 9 511 b (aH 2 r s) (wv q) fun t=>wr 10 1023 b (aN 0 t) (wv q) fun u=>ws 11 2047 b (aR · u) (wv q) fun v=>wr 12 127 b (.val o) (wv q) fun x=>wr 13 4223 b (ib .quo x (iN 4)) (wv q) fun y=>wt 12415 (O (.f 54) [y]) (wv q) fun z=>wr 15 32767 b (eD (lC .eql).f v z) (wv q) fun A=>wn 16 65535 b (dV q A (.bool false)) fun B=>wn 17 131071 b (.val B) fun C=>wr 18 262143 b (.val i) (wv C) fun D=>wr 19 262143 b (.val o) (wv C) fun E=>wr 20 262143 b (.val j) (wv C) fun F=>wt 2097151 (O (.f 160) [D,E,F]) (wv C) fun G=>wn 22 4194303 b (dV C G (.bool false)) fun I=>wy <| wd I (wc O 56 [l] fun J=>wc O 56 [o] fun K=>wq (bP (bH [uN 0,zS,zS,.aA] [(0,1,(uN 3)),(1,1,J),(2,1,K)])) fun L=>wQ 1 (bH (aS [uN 0,zS,zS,.aA] 1) [(0,4,L)]) fun M=>wP 4 64 k M fun N=>qkg O a N o) (qkg O a k o)
def q12:=wA 1 k fun a=>wc O 53 [a] fun c=>wq (ib .lss B c) fun d=>wd d (zf2 O y i j A l m n B) (b A)
def qts:=kZ (q12 O b i j k l m n)
def zf3:=qts O b i j k l m n dG
def zf1(a:AV->pD)(b c d e f g h:AV)(H:Hp):R1:=zf3 O (fun e H=>q11 O a e h H) b c d f g h e (iN 0) H
def q13:=wq (aD m) fun a=>wq (ib .lss B a) fun c=>wd c (zf1 O y i j k A l m B) (b A)
def qoa:=kZ (q13 O b i j k l m)
def zf4:=qoa O b i j k l m dG
def zf0:=wA 1 k fun b=>wc O 57 [b,m] fun c=>fun H=>zf4 O (fun l H=>qdv O a l m H) i j k m c l (iN 0) H
def q14:=wA 1 k fun a=>wc O 53 [a] fun c=>wq (ib .lss B c) fun d=>wg (wv d) (.val B) fun e=>wg (wv d) (.val i) fun f=>wg (wv d) (ib .quo f (iN 4)) fun g=>wg (wv d) (ib .mul g (iN 4)) fun h=>wg (wv d) (ib .add h (iN 4)) fun l=>wg (wv d) (ib .lss e l) fun m=>wq (dV d m (.bool false)) fun n=>wd n (zf0 O y i j k A B) (b A)
def qob:=kZ (q14 O b i j k)
def zf5:=qob O b i j k dG
def z1a:=wB 1 i fun a=>wN [uN 0,zS,zS,.aA] fun b=>wq (ib .quo j (iN 4)) fun c=>wq (ib .mul c (iN 4)) fun d=>zf5 O (qtt O k l b) j l a (.aA) d
def zBg:=z1a O i j k l
def z09(O:Ev.Call)(a:AV):=wQ 4 (bH (aS [iN 0] 4) [(0,1,(iN 0)),(1,1,(iN 1)),(2,1,(iN 1)),(3,1,(iN 2))]) fun b=>wq (ib .rem a (iN 4)) fun c=>wq (aH 1 b c) fun d=>w1 d fun e=>.ok e
def zBh:=z09 O i
def z5u(O:Ev.Call):pH:=.ok (uN 0)
def z08:=wB 1 i fun a=>wF 0 a fun b=>wq (aH 1 b j) fun c=>w1 c fun d=>wq (aD d) fun e=>wq (ib .lss k e) fun f=>wd f (wF 0 a fun g=>wq (aH 1 g j) fun h=>w1 h fun l=>wq (aH 1 l k) fun m=>w1 m fun n=>.ok n) (z5u O)
def zBi:=z08 O i j k
def zvs:=wF 2 i fun a=>wF 2 j fun b=>wc O 162 [a,b] fun c=>.ok c
def zzq:=wB 3 i fun a=>wB 3 j fun b=>wq (aN 0 a) fun c=>wA 2 c fun d=>wq (aN 0 b) fun e=>wA 2 e fun f=>wq (jT true ((⟨E2.f ⟨dQ (eqFields [(p1,⟨bL⟩,0),(p1,⟨bL⟩,1)])⟩⟩:E2).f d f)) fun g=>wd g (wq (aN 0 a) fun h=>wA 2 h fun k=>wq (aN 0 b) fun l=>wA 2 l fun m=>wc O 161 [k,m] fun n=>.ok n) (zvs O a b)
def zEo:=zzq O i j
def zvr:=wF 2 i fun a=>wF 2 j fun b=>wc O 162 [a,b] fun c=>.ok c
def zzp:=wB 3 i fun a=>wB 3 j fun b=>wq (aN 0 a) fun c=>wA 2 c fun d=>wq (aN 0 b) fun e=>wA 2 e fun f=>wq (jT true ((⟨E2.f ⟨dQ (eqFields [(p1,⟨bL⟩,0),(p1,⟨bL⟩,1)])⟩⟩:E2).f d f)) fun g=>wd g (wq (aN 0 a) fun h=>wA 2 h fun k=>wq (aN 0 b) fun l=>wA 2 l fun m=>wc O 161 [k,m] fun n=>.ok n) (zvr O a b)
def zEp:=zzp O i j
def zc0:=wq ((lH .not).f k) fun a=>wd a (wA 2 i fun b=>wQ 1 (bH (aS [zS,zS] 1) [(0,2,b)]) fun c=>wP 2 32 j c fun d=>gM O d) (gM O j)
def zvf(O:Ev.Call)(a:AV->AV->pD)(b c d:AV):=wI d fun e=>a b c e
def qs9:=wq (aH 2 i l) fun a=>wA 2 a fun b=>wQ 1 (bH (aS [zS,zS] 1) [(0,2,b)]) fun c=>wP 2 32 j c fun d=>zvf O h d k l
def zc2:=wz 0 fun a=>wn 0 0 a (.val l) fun b=>wn 1 1 a ((lH .not).f b) fun c=>wn 2 3 a (.val c) fun d=>ws 3 7 a (cO 2 · j) (wv d) fun e=>wr 4 7 a (.val i) (wv d) fun f=>wr 5 7 a (.val m) (wv d) fun g=>wr 6 55 a (aH 2 f g) (wv d) fun n=>ws 7 119 a (cO 2 · n) (wv d) fun o=>wt 255 (O (.f 164) [e,o]) (wv d) fun q=>wn 9 511 a (dV d q (.bool false)) fun r=>wy <| wd r (wA 2 j fun s=>wQ 1 (bH (aS [zS,zS] 1) [(0,2,s)]) fun t=>wP 2 32 k t fun u=>qs9 O h i u (.bool true) m) (qs9 O h i k l m)
def zc3:=wq (aD i) fun b=>wq (ib .lss C b) fun c=>wd c (zc2 O z i j A B C) (a A B)
def qwi:=lq3 (zc3 O a i j)
def zvg:=qwi O a i j dG
def zc1:=zvg O (zc0 O j) i j (.aA) (.bool false) (iN 0)
def zza:=wB 2 j fun a=>wA 2 a fun b=>wc O 163 [i,b] fun c=>wd c (.ok i) (zc1 O i a)
def zFn:=zza O i j
def z1z:=wB 1 i fun a=>wA 1 a fun b=>wc O 141 [b] fun c=>wq (aU 0 c) fun d=>wq (aU 1 c) fun e=>wN [iN 0,.aA] fun f=>wT 2 f d <| wq (ib .eql e (iN 0)) fun g=>wd g (wA 2 f fun h=>wc O 142 [h] fun j=>wq (aU 0 j) fun k=>wq (aU 1 j) fun l=>gM O l) (gM O e)
def zAe:=z1z O i
def zdl(O:Ev.Call)(a:pD)(b:AV):=wI b a
def zdk:=wq (aH 6 k l) fun a=>wA 6 a fun c=>wN [zS,.aA,uN 0,zS,zS,.aA] fun d=>wT 6 d c <| fun H=>dz 11 H fun e H=>dn 0 0 e H [] [] (.val i) fun f H p w=>dn 1 0 e H p w (aN 0 j) fun g H p w=>dl 2 2 e H p w (fun H=>aR H g) fun h H p w=>dn 3 0 e H p w (aN 0 d) fun m H p w=>dl 4 8 e H p w (fun H=>aR H m) fun n H p w=>dn 5 30 e H p w (bP (bH [zS,zS] [(0,1,h),(1,1,n)])) fun o H p w=>da 6 0 e H p w (rJ 0 (e+6) (bH (aS [zS,zS] 0) [])) fun q H p w=>dn 7 0 e H p w (aN 1 d) fun r H p w=>dl 8 128 e H p w (fun H=>aR H r) fun s H p w=>de 448 H p w (iM 2 32 (dZ 448 p H) q (lY 2 (dZ 448 p H) s)) (some true) fun t H p w=>de 1023 H p w (kL ⟨(⟨dQ (eqFields [(p1,⟨bL⟩,0),(p1,⟨bL⟩,1)])⟩:E2).f,some 2⟩ (dZ 1023 p H) f o t) (some true) fun _ H p w=>xZ p H fun H=>zdl O b l H
def q0w:=wq (ib .lss A l) fun a=>wd a (zdk O x i j k A) (d)
def qta:=gN (q0w O d i j k l)
def zdn:=qta O d i j k l dG
def zdj:=wq (aH 2 j k) fun a=>wA 2 a fun c=>wN [zS,.aA] fun d=>wT 2 d c <| wF 1 d fun e=>wq (aD e) fun f=>zdn O (qi7 O b k) i d e f (iN 0)
def zdm:=wq (ib .lss A k) fun a=>wd a (zdj O x i j A) (d)
def qwn:=gN (zdm O d i j k)
def zvx:=qwn O d i j k dG
def zzx:=wB 1 i fun a=>wh (fun H=>.new (.map H.nx) (.map [] 0)) fun b=>wF 0 a fun c=>wq (aD c) fun d=>zvx O (gM O b) b c d (iN 0)
def zEf:=zzx O i
def zdi:=wq (aN 0 j) fun a=>wq (aN 0 a) fun b=>wF 0 b fun c=>wq (aN 0 j) fun d=>wF 2 d fun e=>wq (bP (bH [zS,zS] [(0,1,c),(1,1,e)])) fun f=>wh (nR ⟨(⟨dQ (eqFields [(p1,⟨bL⟩,0),(p1,⟨bL⟩,1)])⟩:E2).f,some 2⟩ (.aA) true · i f) fun g=>wq (aU 0 g) fun h=>wq (aU 1 g) fun k=>wq ((lH .not).f k) fun l=>wd l (.ok (iN 6)) (wq (aN 3 j) fun m=>wq (aN 0 m) fun n=>wF 0 n fun o=>wq (aN 3 j) fun q=>wF 2 q fun r=>wq (bP (bH [zS,zS] [(0,1,o),(1,1,r)])) fun s=>wc O 166 [h,s] fun t=>wq ((lH .not).f t) fun u=>wd u (.ok (iN 11)) (jW O))
def zzw:=wB 6 j fun a=>wA 6 a fun b=>wc O 165 [b] fun c=>wq (ib .neq c (iN 0)) fun d=>wd d (.ok (iN 6)) (zdi O i a)
def zEg:=zzw O i j
def q2p(O:Ev.Call)(a b:AV):=wA 1 b fun c=>wT 1 a c <| fun H=>dM (gH (fQ (rV (cO 1 H a)) (fQ (some (iN 0)) (some [])))) H
def zhl(O:Ev.Call)(a:pD)(b:AV):=wI b a
def zhk:=wz 0 fun a=>wn 0 0 a (aN 0 k) fun c=>wo 1 1 a (aR · c) fun d=>wn 2 0 a (.val l) fun e=>wn 3 0 a (aN 0 k) fun f=>wo 4 8 a (aR · f) fun g=>wn 5 0 a (.val l) fun h=>wo 6 0 a (cO 1 · i) fun m=>wn 7 0 a (.val l) fun n=>wu 192 (O (.f 167) [m,n]) fun o=>wn 9 448 a (.val o) fun q=>wn 10 960 a (aU 0 q) fun r=>wn 11 960 a (aU 1 q) fun s=>wn 12 960 a (aU 2 q) fun t=>wn 13 1991 a (aH 3 d e) fun u=>wn 14 10183 a (aN 0 u) fun v=>wu 26567 (j5 · v r) fun _=>wn 16 61439 a (aH 3 g h) fun x=>wn 17 126975 a (aN 1 x) fun y=>wu 258047 (j5 · y s) fun _=>wy <| wz 0 fun z=>wn 0 0 z (aN 0 k) fun A=>wo 1 1 z (aR · A) fun B=>wn 2 0 z (.val l) fun C=>wn 3 7 z (aH 3 B C) fun D=>wn 4 0 z (.val j) fun E=>wn 5 0 z (.val l) fun F=>wn 6 48 z (aH 1 E F) fun G=>wo 7 112 z (aR · G) fun I=>wu 255 (O (.f 168) [D,I]) fun J=>wy <| zhl O b l
def q2q:=wq (ib .lss A l) fun a=>wd a (zhk O x i j k A) (d)
def qug:=gN (q2q O d i j k l)
def zhm:=qug O d i j k l dG
def zhj:=wq (aD k) fun a=>wh (fun H=>qe9 [zS,zS,iN 0] 40 H.nx a a) fun b=>wq (bP (bH [.aA] [(0,1,b)])) fun c=>wN [.aA] fun d=>wT 1 d c <| wF 0 d fun e=>wq (aD e) fun f=>zhm O (q2p O j d) i k d f (iN 0)
def zhi:=wA 2 k fun a=>wc O 142 [a] fun b=>wq (aU 0 b) fun c=>wq (aU 1 b) fun d=>wq (ib .neq d (iN 0)) fun e=>wd e (wq (bP (bH [.aA] [])) fun f=>wT 1 j f <| fun H=>dM (gH (fQ (rV (cO 1 H j)) (fQ (some d) (some [])))) H) (zhj O i j c)
def z10:=wB 1 i fun a=>wN [.aA] fun b=>wA 1 a fun c=>wc O 141 [c] fun d=>wq (aU 0 d) fun e=>wq (aU 1 d) fun f=>wN [iN 0,.aA] fun g=>wT 2 g e <| wq (ib .neq f (iN 0)) fun h=>wd h (wq (bP (bH [.aA] [])) fun j=>wT 1 b j <| fun H=>dM (gH (fQ (rV (cO 1 H b)) (fQ (some f) (some [])))) H) (zhi O a b g)
def zAd:=z10 O i
def zgz:=wq (aH 3 j k) fun b=>wA 3 b fun c=>wN [zS,zS,iN 0] fun d=>wT 3 d c <| wF 2 d fun e=>wI e fun f=>wQ 2 (bH (aS [iN 0] 2) [(0,1,i),(1,1,f)]) fun g=>wc O 169 [g] fun h=>qoh O a h k
def zg0:=wq (ib .lss B j) fun a=>wd a (zgz O y A i B) (b A)
def q6m:=kZ (zg0 O b i j)
def zw1:=q6m O b i j dG
def z1u:=wB 1 i fun a=>wF 0 a fun b=>wq (aD b) fun c=>zw1 O (gM O) b c (iN 0) (iN 0)
def zAj:=z1u O i
def zcu:=wA 4 i fun a=>wc O 170 [a] fun b=>wT 4 j b <| fun H=>dM (gH (fQ (rV (cO 4 H j)) (fQ (some (iN 0)) (some [])))) H
def zy5:=wB 4 i fun a=>wN [uN 0,zS,zS,.aA] fun b=>wA 4 a fun c=>wc O 144 [c] fun d=>wq (ib .neq d (iN 0)) fun e=>wd e (wq (bP (bH [uN 0,zS,zS,.aA] [])) fun f=>wT 4 b f <| fun H=>dM (gH (fQ (rV (cO 4 H b)) (fQ (some d) (some [])))) H) (zcu O a b)
def zHg:=zy5 O i
def zg2(O:Ev.Call):pH:=.ok (.bA [(iN 0),(iN 6)])
def zg1:=wq (aH 3 k l) fun c=>wA 3 c fun d=>wN [zS,zS,iN 0] fun e=>wT 3 e d <| wF 0 e fun f=>wq (eD (lC .eql).f f i) fun g=>wg (wv g) (aN 1 e) fun h=>wG (wv g) (aR · h) fun m=>wg (wv g) (.val j) fun n=>wg (wv g) (eD (lC .eql).f m n) fun o=>wq (dV g o (.bool false)) fun q=>wd q (wF 2 e fun r=>a r (iN 0)) (wE O b l)
def zg3:=wq (ib .lss A l) fun b=>wd b (zg1 O a x i j k A) (d)
def qw0:=gN (zg3 O a d i j k l)
def zw2:=qw0 O a d i j k l dG
def z1v:=wB 1 i fun a=>wF 0 a fun b=>wq (aD b) fun c=>fun H=>zw2 O (fun d e H=>.ok (.bA [d,e]) H) (zg2 O) j k b c (iN 0) H
def zAi:=z1v O i j k
def zvc(O:Ev.Call)(a:AV):=wQ 0 (bH (aS [zS,zS] 0) []) fun b=>wP 2 32 b a fun c=>.ok c
def z5j:=wq (jT false ((⟨E2.f ⟨qH⟩⟩:E2).f i (.aA))) fun a=>wd a (.ok (.aA)) (zvc O i)
def zHh:=z5j O i
def zy4:=wA 1 k fun a=>wF 0 l fun b=>wc O 126 [a,b,i,j] fun c=>wq (aU 0 c) fun d=>wq (aU 1 c) fun e=>.ok d
def zHi:=zy4 O i j k l
def qkd:=wF 0 m fun b=>wq (ib .eql b (uN 3)) fun c=>wd c (wF 1 m fun d=>wF 2 m fun e=>we (wY O i [d,e]) fun f=>wq (aH 6 j l) fun g=>wq (aN 3 g) fun h=>wU h f <| qid O a k n) (qid O a k n)
def qs8:=wq (aH 5 l m) fun b=>wA 5 b fun c=>wN [uN 0,zS,zS,.aA,.bool false] fun d=>wT 5 d c <| wF 0 d fun e=>wF 1 d fun f=>wF 2 d fun g=>wF 3 d fun h=>wq (bP (bH [uN 0,zS,zS,.aA,.aA,iN 0] [(0,1,e),(1,1,f),(2,1,g),(4,1,h),(5,1,(.int .i64 (.negSucc 0)))])) fun n=>wq (aH 6 j m) fun o=>wT 6 o n <| wF 0 d fun q=>wq (ib .leq q (uN 3)) fun r=>wd r (wq (aH 6 j m) fun s=>wq (aN 5 s) fun t=>wU t k <| wI k fun u=>qkd O a i j u m d m) (qkd O a i j k m d m)
def zcs:=wq (ib .lss B l) fun a=>wd a (qs8 O y i j A k B) (d)
def qwf:=kZ (zcs O d i j k l)
def zct:=qwf O d i j k l dG
def zy3:=wB 4 i fun a=>wA 4 a fun b=>wc O 171 [b] fun c=>wq (aU 0 c) fun d=>wq (aU 1 c) fun e=>wq (aD d) fun f=>wh (fun H=>qe9 [uN 0,zS,zS,.aA,.aA,iN 0] 96 H.nx f f) fun g=>wq (aD d) fun h=>zct O (gM O g) j g d h (iN 0) (iN 0)
def zHj:=zy3 O i j
def zuz(O:Ev.Call)(a:AV):=wQ 0 (bH (aS [zS,zS,zS,zS,zS,zS] 0) []) fun b=>wP 6 96 b a fun c=>.ok c
def z5f:=wq (jT false ((⟨E2.f ⟨qH⟩⟩:E2).f i (.aA))) fun a=>wd a (.ok (.aA)) (zuz O i)
def zIs:=z5f O i
def zbx(O:Ev.Call)(a:pD)(b c:AV):=wq (kU 6 b (some c) none none) fun d=>we (qgz [zS,zS,zS,zS,zS,zS] · d) fun _=>wq (kU 6 b none (some c) none) fun e=>a e
def qj9(O:Ev.Call)(a:AV->pD)(b c:AV):=wI c fun d=>a b d
def zyg:=wl (aH 6 k l) fun b=>wL (cO 6 · b) fun c=>wl (ib .sub l (iN 1)) fun d=>wl (aH 6 k d) fun e=>wL (cO 6 · e) fun f=>wl (jT true ((⟨E2.f ⟨dQ (eqFields [((pA 3),⟨dQ (eqFields [((pA 2),⟨dQ (eqFields [(p1,⟨bL⟩,0),(p1,⟨bL⟩,1)])⟩,0),(p1,⟨bL⟩,2)])⟩,0),((pA 3),⟨dQ (eqFields [((pA 2),⟨dQ (eqFields [(p1,⟨bL⟩,0),(p1,⟨bL⟩,1)])⟩,0),(p1,⟨bL⟩,2)])⟩,3)])⟩⟩:E2).f c f)) fun g=>wd g (wq (aH 6 k l) fun h=>wA 6 h fun m=>wq (aH 6 i j) fun n=>wT 6 n m <| wI j fun o=>qj9 O a o l) (qj9 O a j l)
def zyh:=wq (aD j) fun a=>wq (ib .lss B a) fun c=>wd c (zyg O y i A j B) (b A)
def zbw:=kZ (zyh O b i j)
def zyi:=zbw O b i j dG
def zyf:=wl (aH 6 i j) fun a=>wL (cO 6 · a) fun d=>wl (ib .sub j (iN 1)) fun e=>wl (aH 6 i e) fun f=>wL (cO 6 · f) fun g=>wl (jT false ((⟨E2.f ⟨dQ (eqFields [((pA 3),⟨dQ (eqFields [((pA 2),⟨dQ (eqFields [(p1,⟨bL⟩,0),(p1,⟨bL⟩,1)])⟩,0),(p1,⟨bL⟩,2)])⟩,0),((pA 3),⟨dQ (eqFields [((pA 2),⟨dQ (eqFields [(p1,⟨bL⟩,0),(p1,⟨bL⟩,1)])⟩,0),(p1,⟨bL⟩,2)])⟩,3)])⟩⟩:E2).f d g)) fun h=>wd h (wq (kU 6 i (some j) none none) fun k=>zyi O (zbx O b i) i k j (iN 1)) (qh0 O c j)
def z5d:=wq (aD i) fun a=>wq (ib .lss A a) fun c=>wd c (zyf O b x i A) (d)
def zuy:=gN (z5d O b d i)
def z5e:=zuy O b d i dG
def zye:=z5e O .ok (gM O i) i (iN 1)
def z5c:=wq (aD i) fun a=>wq (ib .lss a (iN 2)) fun b=>wd b (.ok i) (zye O i)
def zIv:=z5c O i
def zdd:=wq (aH 1 i j) fun a=>w1 a fun d=>wc O 179 [d] fun e=>wq (ib .neq e (iN 0)) fun f=>wd f (b e) (kQ O c j)
def zde:=wq (ib .lss A j) fun a=>wd a (zdd O b x i A) (d)
def q5a:=gN (zde O b d i j)
def zvl:=q5a O b d i j dG
def zzf:=wq (aD i) fun a=>zvl O .ok (jW O) i a (iN 0)
def zEw:=zzf O i
def qs7(O:Ev.Call)(a b:AV):=wA 6 a fun c=>wT 6 b c <| fun H=>dM (rV (cO 6 H b)) H
def q0r(O:Ev.Call)(a:pD)(b:AV):=wI b a
def q0q:=wF 5 i fun a=>wq (aH 6 a j) fun c=>wz 0 fun d=>wn 0 0 d (.val c) fun e=>wn 1 0 d (.val c) fun f=>wn 2 0 d (.val c) fun g=>wn 3 4 d (aY g) fun h=>wn 4 12 d (aN 3 h) fun k=>wo 5 28 d (aR · k) fun l=>wn 8 0 d (.val c) fun m=>wn 9 256 d (aY m) fun n=>wn 10 768 d (aN 4 n) fun o=>wo 11 1792 d (aR · o) fun q=>wu 60 (O (.f 184) [l]) fun r=>wu 124 (O (.f 183) [r]) fun s=>wu 4092 (O (.f 186) [q]) fun t=>wu 8188 (O (.f 185) [t]) fun u=>wn 14 16381 d (aY e) fun v=>wn 15 32765 d (aN 3 v) fun x=>wu 65533 (j5 · x s) fun _=>wn 17 131071 d (aY f) fun y=>wn 18 262143 d (aN 4 y) fun z=>wu 524287 (j5 · z u) fun _=>wy <| q0r O b j
def q0s:=wq (ib .lss A j) fun a=>wd a (q0q O x i A) (d)
def qkc:=gN (q0s O d i j)
def q0t:=qkc O d i j dG
def zy2:=wB 6 i fun a=>wN [zS,zS,iN 0,iN 0,.aA,.aA] fun b=>wF 4 a fun c=>wc O 123 [c] fun d=>wc O 180 [d] fun e=>wq (aN 4 a) fun f=>wU f e <| wF 5 a fun g=>wc O 182 [g] fun h=>wc O 181 [h] fun j=>wq (aN 5 a) fun k=>wU k j <| wF 5 a fun l=>wq (aD l) fun m=>q0t O (qs7 O a b) a m (iN 0)
def zHk:=zy2 O i
def zn1:=wc O 187 [i,j] fun a=>wq (ib .geq a (iN 0)) fun b=>.ok b
def zIa:=zn1 O i j
def z5r:=wc O 112 [j] fun a=>wc O 112 [i] fun b=>wq (ib .lss a b) fun c=>wg (bV false c) (.val k) fun d=>wg (bV false c) ((lH .not).f d) fun e=>wg (bV false c) (.val e) fun f=>wg (wv f) (.val j) fun g=>wx (wv f) (O (.f 112) [g]) fun h=>wg (wv f) (.val i) fun l=>wx (wv f) (O (.f 112) [l]) fun m=>wg (wv f) (ib .eql h m) fun n=>wg (bV false c) (dV f n (.bool false)) fun o=>wq (dV c (.bool true) o) fun q=>.ok q
def zBt:=z5r O i j k
def zvp:=wF 1 i fun a=>wF 1 j fun b=>wc O 162 [a,b] fun c=>.ok c
def zzk:=wB 2 i fun a=>wB 2 j fun b=>wF 0 a fun c=>wF 0 b fun d=>wq (eD (lC .neq).f c d) fun e=>wd e (wF 0 a fun f=>wF 0 b fun g=>wc O 162 [f,g] fun h=>.ok h) (zvp O a b)
def zEu:=zzk O i j
def z5l:=wq (lG i) fun a=>wq (lG j) fun b=>wq (ib .gtr a b) fun c=>wd c (.ok (iN 1)) (jW O)
def zvm:=wq (lG i) fun a=>wq (lG j) fun b=>wq (ib .lss a b) fun c=>wd c (.ok (.int .i64 (.negSucc 0))) (z5l O i j)
def zzi(O:Ev.Call)(a:pD)(b:AV):=wI b a
def zzh:=wl (qdp i k) fun a=>wl (qdp j k) fun d=>wl (ib .gtr a d) fun e=>wd e (b (iN 1)) (zzi O c k)
def zzg:=wl (qdp i k) fun a=>wl (qdp j k) fun d=>wl (ib .lss a d) fun e=>wd e (b (.int .i64 (.negSucc 0))) (zzh O b c i j k)
def zvn:=wq (lG i) fun a=>wq (ib .lss A a) fun c=>wg (wv c) (.val A) fun e=>wg (wv c) (.val j) fun f=>wg (wv c) (lG f) fun g=>wg (wv c) (ib .lss e g) fun h=>wq (dV c h (.bool false)) fun k=>wd k (zzg O b x i j A) (d)
def zdf:=gN (zvn O b d i j)
def zvo:=zdf O b d i j dG
def zzj:=zvo O .ok (zvm O i j) i j (iN 0)
def zEv:=zzj O i j
def zvd:=wl (aH 2 i k) fun a=>wL (cO 2 · a) fun d=>wL (cO 2 · j) fun e=>wl (jT false ((⟨E2.f ⟨dQ (eqFields [(p1,⟨bL⟩,0),(p1,⟨bL⟩,1)])⟩⟩:E2).f d e)) fun f=>wd f (b (.bool true)) (kQ O c k)
def zcz:=wq (aD i) fun a=>wq (ib .lss A a) fun c=>wd c (zvd O b x i j A) (d)
def q47:=gN (zcz O b d i j)
def zve:=q47 O b d i j dG
def zy9:=wB 2 j fun a=>zve O .ok (qwy O) i a (iN 0)
def zFt:=zy9 O i j
def zy8(O:Ev.Call)(a b:AV):=wB 2 a fun c=>wB 2 b fun d=>wF 0 c fun e=>wF 0 d fun f=>wq (eD (lC .lss).f e f) fun g=>wg (bV false g) (aN 0 c) fun h=>wG (bV false g) (aR · h) fun i=>wg (bV false g) (aN 0 d) fun j=>wG (bV false g) (aR · j) fun k=>wg (bV false g) (eD (lC .eql).f i k) fun l=>wg (bV false g) (.val l) fun m=>wg (wv m) (aN 1 c) fun n=>wG (wv m) (aR · n) fun o=>wg (wv m) (aN 1 d) fun q=>wG (wv m) (aR · q) fun r=>wg (wv m) (eD (lC .lss).f o r) fun s=>wg (bV false g) (dV m s (.bool false)) fun t=>wq (dV g (.bool true) t) fun u=>.ok u
def zFu:=zy8 O i j
def qog:=wF 1 j fun a=>wc O 190 [a] fun b=>wq (aN 1 j) fun c=>wU c b <| wA 2 j fun d=>wT 2 i d <| fun H=>dM (gH (fQ (rV (cO 2 H i)) (fQ (some (iN 0)) (some [])))) H
def qkm(O:Ev.Call)(a:pD)(b:AV):=wI b a
def q2c(O:Ev.Call)(a:pD)(b:AV):=wI b a
def qib(O:Ev.Call)(a:pD)(b:AV):=wI b a
def qt4(O:Ev.Call)(a:pD)(b:AV):=wI b a
def zgl:=wq (aH 2 j k) fun a=>wA 2 a fun c=>wN [zS,zS] fun d=>wT 2 d c <| wF 1 d fun e=>wq (eD (lC .neq).f e zS) fun f=>wd f (wF 0 d fun g=>wF 1 d fun h=>we (wY O i [g,h]) fun l=>qt4 O b k) (qt4 O b k)
def q2f:=wq (ib .lss A k) fun a=>wd a (zgl O x i j A) (d)
def qt3:=gN (q2f O d i j k)
def zgn:=qt3 O d i j k dG
def zgk(O:Ev.Call)(a:pD)(b:AV):=wI b a
def q6h:=wq (aH 1 k l) fun a=>w1 a fun c=>wF 2 i fun d=>we (wY O j [c,d]) fun e=>zgk O b l
def q2d:=wq (ib .lss A l) fun a=>wd a (q6h O x i j k A) (d)
def qt2:=gN (q2d O d i j k l)
def zgm:=qt2 O d i j k l dG
def q6g:=wq (aH 5 n o) fun a=>wA 5 a fun c=>wN [uN 0,zS,zS,.aA,.bool false] fun d=>wT 5 d c <| wF 0 d fun e=>wq (ib .eql e (uN 1)) fun f=>wd f (wF 1 m fun g=>wq (aD g) fun h=>zgn O (qib O b o) (.fn 189 [] [k,j,l,m,d]) g h (iN 0)) (wq (ib .eql e (uN 2)) fun q=>wd q (wF 0 l fun r=>wF 1 d fun s=>we (wY O (.fn 189 [] [k,j,l,m,d]) [r,s]) fun t=>qib O b o) (wq (ib .eql e (uN 3)) fun u=>wd u (wA 1 i fun v=>wF 0 l fun x=>wF 1 d fun y=>wF 2 d fun z=>wc O 126 [v,x,y,z] fun A=>wq (aU 0 A) fun B=>wq (aU 1 A) fun C=>wq (aD B) fun D=>zgm O (qib O b o) d (.fn 189 [] [k,j,l,m,d]) B D (iN 0)) (qib O b o)))
def q2g:=wq (ib .lss A o) fun a=>wd a (q6g O x i j k l m n A) (d)
def qkk:=gN (q2g O d i j k l m n o)
def zgo:=qkk O d i j k l m n o dG
def q6f:=wq (aH 6 m n) fun a=>wA 6 a fun c=>wN [zS,.aA,uN 0,zS,zS,.aA] fun d=>wT 6 d c <| wq (aN 2 d) fun e=>wA 4 e fun f=>wc O 171 [f] fun g=>wq (aU 0 g) fun h=>wq (aU 1 g) fun o=>wq (aD h) fun q=>zgo O (q2c O b n) i j k l d h q (iN 0)
def q2h:=wq (ib .lss A n) fun a=>wd a (q6f O x i j k l m A) (d)
def qof:=gN (q2h O d i j k l m n)
def zgp:=qof O d i j k l m n dG
def q6e:=wq (aH 2 l m) fun a=>wA 2 a fun c=>wN [zS,.aA] fun d=>wT 2 d c <| wF 1 d fun e=>wq (aD e) fun f=>zgp O (qkm O b m) i j k d e f (iN 0)
def q2i:=wq (ib .lss A m) fun a=>wd a (q6e O x i j k l A) (d)
def qkl:=gN (q2i O d i j k l m)
def zgq:=qkl O d i j k l m dG
def qmy:=w1 k fun a=>wh (aBG · a) fun b=>wq (bP (bH [iN 0,.aA] [(0,1,b)])) fun c=>wN [iN 0,.aA] fun d=>wT 2 d c <| wF 0 i fun e=>wq (aD e) fun f=>zgq O (qog O j d) i k d e f (iN 0)
def qt5(O:Ev.Call)(a:pD)(b:AV):=wI b a
def q6d(O:Ev.Call)(a:pD)(b:AV):=wI b a
def q6c:=wq (aH 6 k l) fun a=>wA 6 a fun c=>wN [zS,.aA,uN 0,zS,zS,.aA] fun d=>wT 6 d c <| w1 i fun e=>wF 0 j fun f=>wF 0 d fun g=>wq (bP (bH [zS,zS] [(0,1,f),(1,1,g)])) fun h=>w1 i fun m=>wh (aBG · m) fun n=>we (kL ⟨(⟨dQ fun o q=>qcx p1 ⟨bL⟩ 1 o q 2 0⟩:E2).f,some 2⟩ · e h n) fun _=>q6d O b l
def qt6:=wq (ib .lss A l) fun a=>wd a (q6c O x i j k A) (d)
def qmx:=gN (qt6 O d i j k l)
def q6i:=qmx O d i j k l dG
def q6b:=wq (aH 2 j k) fun a=>wA 2 a fun c=>wN [zS,.aA] fun d=>wT 2 d c <| wF 1 d fun e=>wq (aD e) fun f=>q6i O (qt5 O b k) i d e f (iN 0)
def qt7:=wq (ib .lss A k) fun a=>wd a (q6b O x i j A) (d)
def qi8:=gN (qt7 O d i j k)
def q6j:=qi8 O d i j k dG
def q6a:=wh (fun H=>.new (.map H.nx) (.map [] 0)) fun a=>wN [.bQ] fun b=>wU b a <| wF 0 i fun c=>wq (aD c) fun d=>q6j O (qmy O i j b) b c d (iN 0)
def z1m:=wB 1 i fun a=>wN [iN 0,.aA] fun b=>wA 1 a fun c=>wc O 172 [c] fun d=>wq (ib .neq d (iN 0)) fun e=>wd e (wq (bP (bH [iN 0,.aA] [])) fun f=>wT 2 b f <| fun H=>dM (gH (fQ (rV (cO 2 H b)) (fQ (some d) (some [])))) H) (q6a O a b)
def zAt:=z1m O i
def zgg(O:Ev.Call)(a:pD)(b:AV):=wI b a
def zgf:=wq (aH 1 k l) fun a=>w1 a fun c=>wc O 169 [j] fun d=>wq (aH 1 i c) fun e=>wU e d <| zgg O b l
def q2a:=wq (ib .lss A l) fun a=>wd a (zgf O x i j k A) (d)
def qt0:=gN (q2a O d i j k l)
def zgj:=qt0 O d i j k l dG
def qt1:=wq (aD j) fun a=>zgj O (qko O b l) i k j a (iN 0)
def qod(O:Ev.Call)(a:AV->pD)(b c:AV):=wI c fun d=>a b d
def qmw:=wq (aH 3 m n) fun b=>wA 3 b fun c=>wN [iN 0,iN 0,.bool false] fun d=>wT 3 d c <| wF 1 i fun e=>wF 0 d fun f=>wq (aH 1 e f) fun g=>w1 g fun h=>wq (ib .eql h k) fun o=>wg (wv o) (aN 1 i) fun q=>wG (wv o) (aR · q) fun r=>wg (wv o) (aN 1 d) fun s=>wG (wv o) (aR · s) fun t=>wg (wv o) (aH 1 r t) fun u=>wG (wv o) (aR · u) fun v=>wg (wv o) (.val k) fun x=>wg (wv o) (ib .neq v x) fun y=>wq (dV o y (.bool false)) fun z=>wd z (fun H=>dz 12 H fun A H =>   dn 0 0 A H [] [] (.val l) fun B H p w =>   dn 1 0 A H p w (.val j) fun C H p w =>   dn 2 0 A H p w (aN 1 d) fun D H p w =>   dl 3 4 A H p w (fun H=>aR H D) fun E H p w =>   dn 4 14 A H p w (aH 1 C E) fun F H p w =>   dl 5 30 A H p w (fun H=>aR H F) fun G H p w =>   dl 6 0 A H p w (fun H=>cO 3 H d) fun I H p w =>   de 64 H p w (O (.f 193) [I] (dZ 64 p H)) (some true) fun J H p w =>   dn 8 254 A H p w (ib .add G J) fun K H p w =>   da 9 510 A H p w (rJ 1 (A+9) (bH (aS [iN 0] 1) [(0,1,K)])) fun L H p w =>   de 1023 H p w (iM 1 8 (dZ 1023 p H) B (lY 1 (dZ 1023 p H) L)) (some true) fun M H p w =>   dn 11 2047 A H p w (.val M) fun N H p w =>   xZ p H fun H =>   qod O a N n H) (qod O a l n)
def q19:=wq (ib .lss B m) fun a=>wd a ((kA qmw) O y i j k A l B) (b A)
def qki:=kZ (q19 O b i j k l m)
def zgi:=qki O b i j k l m dG
def zge:=wq (aH 1 l m) fun a=>w1 a fun c=>wF 1 i fun d=>wq (aD d) fun e=>fun H=>zgi O (fun f H=>qt1 O b k c f m H) j k m d e (.aA) (iN 0) H
def qoe:=wq (ib .lss A m) fun a=>wd a (zge O x i j k l A) (d)
def qkj:=gN (qoe O d i j k l m)
def q2b:=qkj O d i j k l m dG
def qfi:=wF 0 j fun a=>wq (aD a) fun b=>q2b O (qct O k) i j k a b (iN 0)
def qmv:=wF 0 i fun a=>wq (ib .gtr a (iN 0)) fun b=>wd b (wF 0 i fun c=>wh (fun H=>qe9 [iN 0] 8 H.nx c c) fun d=>(kA qfi) O i j d) ((kA qfi) O i j (.aA))
def qmu:=wA 2 i fun a=>wc O 192 [a] fun b=>wq (aU 0 b) fun c=>wq (aU 1 b) fun d=>wq (aD c) fun e=>wq (ib .gtr e (iN 0)) fun f=>wd f (.ok (.bA [(.aA),(iN 12)])) ((kA qmv) O i j)
def z1l:=wB 2 i fun a=>wA 2 a fun b=>wc O 191 [b] fun c=>wq (aU 0 c) fun d=>wq (aU 1 c) fun e=>wN [.aA,.aA] fun f=>wT 2 f d <| wq (ib .neq e (iN 0)) fun g=>wd g (.ok (.bA [(.aA),e])) ((kA qmu) O a f)
def zAu:=z1l O i
def zvt:=wq (aN 3 i) fun a=>wA 3 a fun b=>wc O 205 [b] fun c=>.ok c
def zzr:=wB 6 i fun a=>wq (aN 0 a) fun b=>wA 3 b fun c=>wc O 69 [c] fun d=>wq (ib .neq d (iN 0)) fun e=>wd e (.ok d) (zvt O a)
def zEn:=zzr O i
def z0c:=wB 2 j fun a=>wA 2 a fun b=>wc O 206 [i,b] fun c=>wq (ib .geq c (iN 0)) fun d=>.ok d
def zDf:=z0c O i j
def zgd(O:Ev.Call)(a b:AV):=wl (aY b) fun c=>wl (aN 4 c) fun d=>wL (aR · d) fun e=>wl (aH 1 e a) fun f=>wL (aR · f) fun g=>wl (aY b) fun h=>wl (aN 3 h) fun i=>wL (aR · i) fun j=>wl (aH 1 j a) fun k=>wL (aR · k) fun l=>wl (aY l) fun m=>wl (aN 0 m) fun n=>wL (aR · n) fun o=>.ok (.bA [g,o,(iN 0)])
def zgc:=wA 1 j fun a=>wc O 173 [a] fun b=>wq (ib .lss i (iN 0)) fun c=>wg (bV false c) (.val i) fun d=>wg (bV false c) (.val b) fun e=>wg (bV false c) (aY e) fun f=>wg (bV false c) (aN 3 f) fun g=>wG (bV false c) (aR · g) fun h=>wg (bV false c) (aD h) fun k=>wg (bV false c) (ib .geq d k) fun l=>wq (dV c (.bool true) l) fun m=>wd m (.ok (.bA [zS,zS,(iN 4)])) (zgd O i b)
def z1k:=wB 1 i fun a=>wA 1 a fun b=>wc O 172 [b] fun c=>wq (ib .neq c (iN 0)) fun d=>wd d (.ok (.bA [zS,zS,c])) (zgc O j a)
def zAv:=z1k O i j
def z1j(O:Ev.Call)(a b:AV):=wq (aY a) fun c=>wq (aN 2 c) fun d=>wU d b <| .ok (.bA [])
def zAw:=z1j O i j
def zwu:=wq (aH 1 j k) fun b=>w1 b fun c=>wq (qL pF i [c]) fun d=>qln O a d k
def zf8:=wq (ib .lss B j) fun a=>wd a (zwu O y A i B) (b A)
def q56:=kZ (zf8 O b i j)
def zwv:=q56 O b i j dG
def z1e:=wq (aD i) fun a=>zwv O (gM O) i a (iN 0) (iN 0)
def zBc:=z1e O i
def zps:=wB 4 i fun a=>wc O 195 [a] fun b=>wq (aU 0 b) fun c=>wq (aU 1 b) fun d=>wq (aU 2 b) fun e=>.ok e
def zCx:=zps O i
def zcq:=wc O 194 [k] fun a=>wq (aN 3 i) fun b=>wU b a <| wA 4 i fun c=>wT 4 j c <| fun H=>dM (rV (cO 4 H j)) H
def qnw(O:Ev.Call)(a:AV->pD)(b c:AV):=wI c fun d=>a b d
def q0o:=wq (aH 4 k l) fun b=>wA 4 b fun c=>wN [uN 0,zS,zS,.aA] fun d=>wT 4 d c <| wA 4 d fun e=>wc O 170 [e] fun f=>wT 4 d f <| wF 0 d fun g=>wF 0 i fun h=>wq (ib .eql g h) fun m=>wg (wv m) (aN 0 i) fun n=>wG (wv m) (aR · n) fun o=>wg (wv m) (ib .neq o (uN 6)) fun q=>wq (dV m q (.bool false)) fun r=>wd r (wF 3 d fun s=>wP 4 64 j s fun t=>qnw O a t l) (wA 4 d fun u=>wQ 1 (bH (aS [uN 0,zS,zS,.aA] 1) [(0,4,u)]) fun v=>wP 4 64 j v fun x=>qnw O a x l)
def qnx:=wq (ib .lss B k) fun a=>wd a (q0o O y i A j B) (b A)
def qge:=kZ (qnx O b i j k)
def q0p:=qge O b i j k dG
def zy1:=wB 4 i fun a=>wN [uN 0,zS,zS,.aA] fun b=>wF 3 a fun c=>wq (aD c) fun d=>q0p O (zcq O a b) a c d (.aA) (iN 0)
def zHr:=zy1 O i
def z5t:=wc O 175 [l,i,j,k] fun a=>wq (aD a) fun b=>wq (ib .eql b (iN 0)) fun c=>wd c (.ok (.bA [(.aA),(iN 11)])) (qct O a)
def zfs:=wA 1 l fun a=>wc O 173 [a] fun b=>wc O 174 [b,i,j] fun c=>wq (jT false ((⟨E2.f ⟨ql1⟩⟩:E2).f c (.bJ))) fun d=>wd d (.ok (.bA [(.aA),(iN 6)])) (z5t O i j k b)
def z05:=wB 1 i fun a=>wA 1 a fun b=>wc O 172 [b] fun c=>wq (ib .neq c (iN 0)) fun d=>wd d (.ok (.bA [(.aA),c])) (zfs O j k l a)
def zBm:=z05 O i j k l
def zqp:=wB 4 i fun a=>wc O 195 [a] fun b=>wq (aU 0 b) fun c=>wq (aU 1 b) fun d=>wq (aU 2 b) fun e=>.ok (.bA [c,e])
def zBk:=zqp O i
def zdb:=wq (qdp i j) fun a=>wq (ib .lss a (uN 97)) fun d=>wg (bV false d) (.val i) fun e=>wg (bV false d) (.val j) fun f=>wg (bV false d) (qdp e f) fun g=>wg (bV false d) (ib .gtr g (uN 122)) fun h=>wq (dV d (.bool true) h) fun k=>wg (wv k) (.val i) fun l=>wg (wv k) (.val j) fun m=>wg (wv k) (qdp l m) fun n=>wg (wv k) (ib .lss n (uN 48)) fun o=>wg (wv k) (.val o) fun q=>wg (bV false q) (.val i) fun r=>wg (bV false q) (.val j) fun s=>wg (bV false q) (qdp r s) fun t=>wg (bV false q) (ib .gtr t (uN 57)) fun u=>wg (wv k) (dV q (.bool true) u) fun v=>wq (dV k v (.bool false)) fun x=>wd x (b (iN 6)) (kQ O c j)
def zdc:=wq (ib .lss A j) fun a=>wd a (zdb O b x i A) (d)
def qwk:=gN (zdc O b d i j)
def zvk:=qwk O b d i j dG
def zda:=wq (lG i) fun a=>zvk O .ok (jW O) i a (iN 0)
def zzd:=wq (lG i) fun a=>wq (ib .lss a (iN 1)) fun b=>wg (bV false b) (.val i) fun c=>wg (bV false b) (lG c) fun d=>wg (bV false b) (ib .gtr d (iN 16)) fun e=>wq (dV b (.bool true) e) fun f=>wd f (.ok (iN 6)) (zda O i)
def zEy:=zzd O i
def zy0(O:Ev.Call)(a:AV):=wq (aD a) fun b=>wq (aD a) fun c=>wq (kU 2 a none (some b) (some c)) fun d=>.ok d
def zHs:=zy0 O i
def zvb(O:Ev.Call)(a:AV):=wQ 0 (bH (aS [uN 0,zS,zS,.aA,.aA,iN 0] 0) []) fun b=>wP 6 96 b a fun c=>.ok c
def z5i:=wq (jT false ((⟨E2.f ⟨qH⟩⟩:E2).f i (.aA))) fun a=>wd a (.ok (.aA)) (zvb O i)
def zHt:=z5i O i
def zyz(O:Ev.Call)(a:AV):=wq (aD a) fun b=>wq (aD a) fun c=>wq (kU 6 a none (some b) (some c)) fun d=>.ok d
def zHu:=zyz O i
def zva(O:Ev.Call)(a:AV):=wQ 0 (bH (aS [zS] 0) []) fun b=>wP 1 16 b a fun c=>.ok c
def zyy:=wq (jT false ((⟨E2.f ⟨qH⟩⟩:E2).f i (.aA))) fun a=>wd a (.ok (.aA)) (zva O i)
def zHv:=zyy O i
def qn4(O:Ev.Call)(a:AV):=wq (aD a) fun b=>wq (aD a) fun c=>wq (kU 1 a none (some b) (some c)) fun d=>.ok d
def zCq:=qn4 O i
def zu9(O:Ev.Call)(a:AV):=wQ 0 (bH (aS [iN 0] 0) []) fun b=>wP 1 8 b a fun c=>.ok c
def z5h:=wq (jT false ((⟨E2.f ⟨qH⟩⟩:E2).f i (.aA))) fun a=>wd a (.ok (.aA)) (zu9 O i)
def zHw:=z5h O i
def zBd:=qn4 O i
def qwd:=wq (aH 1 i k) fun a=>w1 a fun d=>wq (eD (lC .eql).f j d) fun e=>wd e (b k) (kQ O c k)
def qwe:=wq (ib .lss A k) fun a=>wd a (qwd O b x i j A) (d)
def qnv:=gN (qwe O b d i j k)
def q42:=qnv O b d i j k dG
def zn0:=wq (aD i) fun a=>q42 O .ok (qT O) i j a (iN 0)
def zIb:=zn0 O i j
def q1y(O:Ev.Call)(a:AV->pD)(b c:AV):=wI c fun d=>a b d
def zfx:=wI i fun b=>vN O a b j
def zfw:=wA 2 k fun a=>wc O 208 [i,a,j] fun c=>wq (ib .neq c (iN 0)) fun d=>wd d (b c) (zfx O g j l)
def q10:=wq (ib .lss B k) fun a=>wd a (zfw O b y i A j B) (c A)
def qtr:=kZ (q10 O b c i j k)
def zfz:=qtr O b c i j k dG
def zfv:=wq (aH 2 k l) fun a=>wA 2 a fun c=>wN [zS,.aA] fun d=>wT 2 d c <| wF 1 d fun e=>wq (aD e) fun f=>fun H=>zfz O b (fun j H=>q1y O g j l H) i d f j (iN 0) H
def zfy:=wq (ib .lss B k) fun a=>wd a (zfv O b y i A j B) (d)
def qwv:=kZ (zfy O b d i j k)
def zwq:=qwv O b d i j k dG
def zfu:=wF 0 i fun a=>wq (aD a) fun b=>zwq O .ok (jW O) j a b (iN 0) (iN 0)
def zft:=wA 1 i fun a=>wc O 173 [a] fun b=>wl (aY b) fun c=>wl (aN 1 c) fun d=>wL (aR · d) fun e=>wL (aBG · e) fun f=>wl (aN 0 i) fun g=>wL (aR · g) fun h=>wl (aD h) fun j=>wl (ib .lss f j) fun k=>wd k (.ok (iN 7)) (zfu O i b)
def z07:=wB 1 i fun a=>wA 1 a fun b=>wc O 207 [b] fun c=>wq (ib .neq c (iN 0)) fun d=>wd d (.ok c) (zft O a)
def zBj:=z07 O i
def z06(O:Ev.Call)(a b c d e f g:AV)(H:Hp):R1:=dz 21 H fun h H=>dn 0 0 h H [] [] (aN 1 c) fun i H p w=>dl 1 1 h H p w (fun H=>aR H i) fun j H p w=>dl 2 0 h H p w (fun H=>aR H d) fun k H p w=>dn 3 0 h H p w (aN 0 e) fun l H p w=>dl 4 8 h H p w (fun H=>aR H l) fun m H p w=>dn 5 0 h H p w (aN 0 f) fun n H p w=>dl 6 32 h H p w (fun H=>aR H n) fun o H p w=>dn 7 120 h H p w (bP (bH [zS,zS] [(0,1,m),(1,1,o)])) fun q H p w=>dl 8 252 h H p w (fun H=>nR ⟨(⟨dQ fun r s=>qcx p1 ⟨bL⟩ 1 r s 2 0⟩:E2).f,some 2⟩ (iN 0) false H k q) fun t H p w=>dl 9 0 h H p w (fun H=>aR H d) fun u H p w=>dn 10 0 h H p w (.val a) fun v H p w=>dn 11 0 h H p w (.val b) fun x H p w=>dn 12 3072 h H p w (bP (bH [zS,zS] [(0,1,v),(1,1,x)])) fun y H p w=>dl 13 7680 h H p w (fun H=>nR ⟨(⟨dQ fun r s=>qcx p1 ⟨bL⟩ 1 r s 2 0⟩:E2).f,some 2⟩ (iN 0) false H u y) fun z H p w=>dn 14 0 h H p w (aN 4 g) fun A H p w=>dl 15 16384 h H p w (fun H=>aR H A) fun B H p w=>dn 16 65532 h H p w (bP (bH [iN 0,iN 0,.bool false] [(0,1,t),(1,1,z),(2,1,B)])) fun C H p w=>da 17 131068 h H p w (rJ 1 (h+17) (bH (aS [iN 0,iN 0,.bool false] 1) [(0,3,C)])) fun D H p w=>de 262143 H p w (iM 3 24 (dZ 262143 p H) j (lY 3 (dZ 262143 p H) D)) (some true) fun E H p w=>dn 19 524287 h H p w (aN 1 c) fun F H p w=>de 1048575 H p w (j5 (dZ 1048575 p H) F E) (some true) fun _ H p w=>xZ p H fun H=>.ok (.bA []) H
def zBl:=z06 O i j k l m n o
def z5s:=wc O 218 [i,(.fn 217 [] [])] fun a=>wc O 220 [i] fun b=>wc O 219 [b] fun c=>.ok c
def zBn:=z5s O i
def zfp:=wc O 225 [i] fun a=>wc O 226 [i] fun b=>wc O 185 [b] fun c=>.ok (.bA [c,(iN 0)])
def zfo:=wq (aH 3 k l) fun b=>wA 3 b fun c=>wN [iN 0,iN 0,.bool false] fun d=>wT 3 d c <| wl (aN 2 d) fun e=>wL (aR · e) fun f=>wm (wv f) (aN 1 i) fun g=>wM (wv f) (aR · g) fun h=>wm (wv f) (aN 0 d) fun m=>wM (wv f) (aR · m) fun n=>wm (wv f) (aH 1 h n) fun o=>wM (wv f) (aR · o) fun q=>wm (wv f) (aN 1 i) fun r=>wM (wv f) (aR · r) fun s=>wm (wv f) (aN 1 d) fun t=>wM (wv f) (aR · t) fun u=>wm (wv f) (aH 1 s u) fun v=>wM (wv f) (aR · v) fun x=>wm (wv f) (ib .eql q x) fun y=>wl (dV f y (.bool false)) fun z=>wd z (wF 1 i fun A=>wF 0 d fun B=>wq (aH 1 A B) fun C=>w1 C fun D=>wQ 1 (bH (aS [iN 0] 1) [(0,1,D)]) fun E=>wP 1 8 j E fun F=>qfh O a F l) (qfh O a j l)
def q1p:=wq (ib .lss B k) fun a=>wd a (zfo O y i A j B) (b A)
def qtq:=kZ (q1p O b i j k)
def zfq:=qtq O b i j k dG
def qms:=wF 1 i fun a=>wq (aD a) fun b=>zfq O (zfp O) j a b (.aA) (iN 0)
def z03:=wB 2 i fun a=>wA 2 a fun b=>wc O 191 [b] fun c=>wq (aU 0 c) fun d=>wq (aU 1 c) fun e=>wN [.aA,.aA] fun f=>wT 2 f d <| wq (ib .neq e (iN 0)) fun g=>wd g (.ok (.bA [(.aA),e])) ((kA qms) O a f)
def zBp:=z03 O i
def z02:=wB 3 i fun a=>wF 2 a fun b=>wd b (.ok (iN 1)) (jW O)
def zBq:=z02 O i
def zvq:=wA 3 i fun a=>wc O 69 [a] fun b=>.ok b
def zzl:=wB 3 i fun a=>wF 2 a fun b=>wq (eD (lC .eql).f b zS) fun c=>wd c (wq (aN 0 a) fun d=>wA 2 d fun e=>wc O 84 [e] fun f=>.ok f) (zvq O a)
def zEt:=zzl O i
def zv5(O:Ev.Call)(a:pD)(b:AV):=wI b a
def zd4:=wL (cO 2 · j) fun a=>wl (aH 2 i k) fun d=>wL (cO 2 · d) fun e=>wl (jT false ((⟨E2.f ⟨dQ (eqFields [(p1,⟨bL⟩,0),(p1,⟨bL⟩,1)])⟩⟩:E2).f a e)) fun f=>wd f (b k) (zv5 O c k)
def zd5:=wq (ib .lss A k) fun a=>wd a (zd4 O b x i j A) (d)
def q5i:=gN (zd5 O b d i j k)
def zv6:=q5i O b d i j k dG
def zz7:=wB 2 j fun a=>wq (aD i) fun b=>zv6 O .ok (qT O) i a b (iN 0)
def zDm:=zz7 O i j
def q1m(O:Ev.Call)(a:pD)(b:AV):=wI b a
def zfl(O:Ev.Call)(a:pD)(b:AV):=wI b a
def q1l(a:pD)(b c d e:AV)(H:Hp):R1:=dz 23 H fun f H=>dn 0 0 f H [] [] (.val b) fun g H p w=>dn 1 0 f H p w (.val b) fun h H p w=>dn 2 0 f H p w (.val b) fun i H p w=>dn 3 4 f H p w (aY i) fun j H p w=>dn 4 12 f H p w (aN 3 j) fun k H p w=>dl 5 28 f H p w (fun H=>aR H k) fun l H p w=>dn 6 0 f H p w (.val d) fun m H p w=>da 7 64 f H p w (rJ 1 (f+7) (bH (aS [.bJ] 1) [(0,1,m)])) fun n H p w=>dn 9 0 f H p w (.val b) fun o H p w=>dn 10 512 f H p w (aY o) fun q H p w=>dn 11 1536 f H p w (aN 4 q) fun r H p w=>dl 12 3584 f H p w (fun H=>aR H r) fun s H p w=>dn 13 0 f H p w (aN 0 c) fun t H p w=>dl 14 8192 f H p w (fun H=>aR H t) fun u H p w=>da 15 24576 f H p w (rJ 1 (f+15) (bH (aS [zS] 1) [(0,1,u)])) fun v H p w=>de 252 H p w (iM 1 8 (dZ 252 p H) l (lY 1 (dZ 252 p H) n)) (some true) fun x H p w=>de 65532 H p w (iM 1 16 (dZ 65532 p H) s (lY 1 (dZ 65532 p H) v)) (some true) fun y H p w=>dn 17 131069 f H p w (aY g) fun z H p w=>dn 18 262141 f H p w (aN 3 z) fun A H p w=>de 524285 H p w (j5 (dZ 524285 p H) A x) (some true) fun _ H p w=>dn 20 1048575 f H p w (aY h) fun B H p w=>dn 21 2097151 f H p w (aN 4 B) fun C H p w=>de 4194303 H p w (j5 (dZ 4194303 p H) C y) (some true) fun _ H p w=>xZ p H fun H=>zfl O a e H
def q1k:=wF 1 j fun a=>wq (aH 6 a k) fun c=>wl (aY i) fun d=>wl (aN 2 d) fun e=>wL (aR · e) fun f=>wl (aN 0 j) fun g=>wL (aR · g) fun h=>wl (aY c) fun l=>wl (aN 0 l) fun m=>wL (aR · m) fun n=>wl (bP (bH [zS,zS] [(0,1,h),(1,1,n)])) fun o=>wL (nR ⟨(⟨dQ (eqFields [(p1,⟨bL⟩,0),(p1,⟨bL⟩,1)])⟩:E2).f,some 2⟩ (iN 0) true · f o) fun q=>wl (aU 0 q) fun r=>wl (aU 1 q) fun s=>wq ((lH .not).f s) fun t=>wd t (wz 0 fun u=>wn 0 0 u (.val i) fun v=>wn 1 1 u (aY v) fun x=>wn 2 3 u (aN 2 x) fun y=>wo 3 7 u (aR · y) fun z=>wn 4 0 u (aN 0 j) fun A=>wo 5 16 u (aR · A) fun B=>wn 6 0 u (.val c) fun C=>wn 7 64 u (aY C) fun D=>wn 8 192 u (aN 0 D) fun E=>wo 9 448 u (aR · E) fun F=>wn 10 1008 u (bP (bH [zS,zS] [(0,1,B),(1,1,F)])) fun G=>wn 11 0 u (.val i) fun I=>wn 12 2048 u (aY I) fun J=>wn 13 6144 u (aN 3 J) fun K=>wo 14 14336 u (aR · K) fun L=>wn 15 30720 u (aD L) fun M=>wu 65535 (kL ⟨(⟨dQ (eqFields [(p1,⟨bL⟩,0),(p1,⟨bL⟩,1)])⟩:E2).f,some 2⟩ · z G M) fun _=>wy <| q1l O b i j c k) (q1l O b i j c k)
def q1n:=wq (ib .lss A k) fun a=>wd a (q1k O x i j A) (d)
def qtp:=gN (q1n O d i j k)
def zfm:=qtp O d i j k dG
def zfk:=wq (aH 2 j k) fun a=>wA 2 a fun c=>wN [zS,.aA] fun d=>wT 2 d c <| wz 0 fun e=>wn 0 0 e (.val i) fun f=>wn 1 1 e (aY f) fun g=>wn 2 3 e (aN 1 g) fun h=>wo 3 7 e (aR · h) fun l=>wn 4 0 e (aN 0 d) fun m=>wo 5 16 e (aR · m) fun n=>wo 6 63 e (nR ⟨(⟨bL⟩:E2).f,none⟩ (iN 0) false · l n) fun o=>wn 7 127 e (ib .add o (iN 1)) fun q=>wu 255 (kL ⟨(⟨bL⟩:E2).f,none⟩ · l n q) fun _=>wy <| wF 1 d fun r=>wq (aD r) fun s=>zfm O (q1m O b k) i d s (iN 0)
def q1o:=wq (ib .lss A k) fun a=>wd a (zfk O x i j A) (d)
def qn8:=gN (q1o O d i j k)
def zfn:=qn8 O d i j k dG
def z01:=wB 1 i fun a=>wA 1 a fun b=>wh (fun H=>.new (.map H.nx) (.map [] 0)) fun c=>wh (fun H=>.new (.map H.nx) (.map [] 0)) fun d=>wq (bP (bH [.aA,.bQ,.bQ,.aA,.aA] [(0,1,b),(1,1,c),(2,1,d)])) fun e=>wB 5 e fun f=>wF 0 a fun g=>wq (aD g) fun h=>zfn O (gM O f) f g h (iN 0)
def zBr:=z01 O i
def q1i:=wz 0 fun a=>wo 0 0 a (aR · i) fun b=>wo 2 0 a (aR · j) fun c=>wu 1 (O (.f 229) [b]) fun d=>wu 3 (j5 · i d) fun _=>wu 15 (j5 · j c) fun _=>wn 5 31 a (.val (iN 0)) fun e=>wy <| fun H=>dM (gH (fQ (rV (aR H i)) (fQ (rV (aR H j)) (fQ (some e) (some []))))) H
def q1h:=w1 k fun a=>wq (ib .neq a (iN 0)) fun b=>wd b (wz 0 fun c=>wo 0 0 c (aR · k) fun d=>wu 0 (j5 · i (.aA)) fun _=>wu 2 (j5 · j (iN 0)) fun _=>wn 3 7 c (.val d) fun e=>wy <| fun H=>dM (gH (fQ (rV (aR H i)) (fQ (rV (aR H j)) (fQ (some e) (some []))))) H) (q1i O i j)
def zqc:=wN [.aA] fun a=>wN [iN 0] fun b=>wN [iN 0] fun c=>wU c (iN 0) <| wN [.jH] fun d=>wU d (.fn 227 [] [a,b,c,d]) <| w1 d fun e=>we (wY O e [i,(iN 1),(.bool false)]) fun f=>wq ((lH .not).f f) fun g=>wd g (wU a (.aA) <| wU b (iN 0) <| fun H=>dM (gH (fQ (rV (aR H a)) (fQ (rV (aR H b)) (fQ (some (iN 3)) (some []))))) H) (q1h O a b c)
def zBw:=zqc O i
def zyx(O:Ev.Call)(a:AV):=wq (aD a) fun b=>wq (aD a) fun c=>wq (kU 4 a none (some b) (some c)) fun d=>.ok d
def zHx:=zyx O i
def zfa(O:Ev.Call)(a b:AV):=wq (aY a) fun c=>wF 3 c fun d=>wq (aH 1 d b) fun e=>w1 e fun f=>.ok f
def zqb:=wq (aY i) fun a=>wF 2 a fun b=>wq (bP (bH [zS,zS] [(0,1,j),(1,1,k)])) fun c=>wh (nR ⟨(⟨dQ (eqFields [(p1,⟨bL⟩,0),(p1,⟨bL⟩,1)])⟩:E2).f,some 2⟩ (iN 0) true · b c) fun d=>wq (aU 0 d) fun e=>wq (aU 1 d) fun f=>wq ((lH .not).f f) fun g=>wd g (.ok (.bJ)) (zfa O i e)
def zBx:=zqb O i j k
def q50:=wc O 183 [i] fun a=>.ok a
def ze8:=wq (aH 2 l m) fun b=>wA 2 b fun c=>wN [zS,zS] fun d=>wT 2 d c <| wF 1 d fun e=>wq (eD (lC .eql).f e zS) fun f=>wg (wv f) (.val i) fun g=>wg (wv f) (aN 0 d) fun h=>wG (wv f) (aR · h) fun n=>wg (wv f) (.val j) fun o=>wx (wv f) (O (.f 174) [g,n,o]) fun q=>wg (wv f) (jT true ((⟨E2.f ⟨ql1⟩⟩:E2).f q (.bJ))) fun r=>wq (dV f r (.bool false)) fun s=>wd s (wF 0 d fun t=>wQ 1 (bH (aS [zS] 1) [(0,1,t)]) fun u=>wP 1 16 k u fun v=>yP O a v m) (yP O a k m)
def ze9:=wq (ib .lss B l) fun a=>wd a (ze8 O y i j A k B) (b A)
def qwt:=kZ (ze9 O b i j k l)
def zwn:=qwt O b i j k l dG
def z0x:=wc O 174 [i,j,k] fun a=>wq (jT true ((⟨E2.f ⟨ql1⟩⟩:E2).f a (.bJ))) fun b=>wd b (wq (aY a) fun c=>wF 1 c fun d=>wq (aD d) fun e=>zwn O (q50 O) i l d e (.aA) (iN 0)) (q50 O (.aA))
def zBy:=z0x O i j k l
def zff(O:Ev.Call)(a:pD)(b:AV):=wI b a
def zfe:=wq (aH 6 i j) fun a=>wA 6 a fun d=>wN [zS,.aA,uN 0,zS,zS,.aA] fun e=>wT 6 e d <| wA 6 e fun f=>wc O 232 [f] fun g=>wq (ib .neq g (iN 0)) fun h=>wd h (b g) (zff O c j)
def q1j:=wq (ib .lss A j) fun a=>wd a (zfe O b x i A) (d)
def qto:=gN (q1j O b d i j)
def zfh:=qto O b d i j dG
def zfd:=wF 1 i fun a=>wq (aD a) fun d=>zfh O b (wE O c j) a d (iN 0)
def zfc:=wq (aH 2 i j) fun a=>wA 2 a fun d=>wN [zS,.aA] fun e=>wT 2 e d <| wF 0 e fun f=>wc O 231 [f] fun g=>wq ((lH .not).f g) fun h=>wd h (b (iN 6)) (wF 1 e fun k=>wq (aD k) fun l=>wq (ib .gtr l (iN 16)) fun m=>wd m (b (iN 3)) (zfd O b c e j))
def zfg:=wq (ib .lss A j) fun a=>wd a (zfc O b x i A) (d)
def qwu:=gN (zfg O b d i j)
def zwo:=qwu O b d i j dG
def zfb:=wF 0 i fun a=>wq (aD a) fun b=>zwo O .ok (jW O) a b (iN 0)
def z0z:=wB 1 i fun a=>wF 0 a fun b=>wq (aD b) fun c=>wq (ib .gtr c (iN 16)) fun d=>wd d (.ok (iN 3)) (zfb O a)
def zBu:=z0z O i
def z0y:=wh (fun H=>nV H.nx i) fun a=>wB 2 j fun b=>wh (fun H=>nV H.nx k) fun c=>wz 9 fun d=>wo 0 0 d (aR · a) fun e=>wn 1 1 d (aY e) fun f=>wn 2 3 d (aN 3 f) fun g=>wo 3 7 d (aR · g) fun h=>wo 4 0 d (aR · c) fun l=>wn 5 31 d (aH 1 h l) fun m=>wo 6 63 d (aR · m) fun n=>wa 7 0 d (.new (.ptr (d+7) 0) (aB 0 [.bJ])) fun o=>wu 255 (j5 · o n) fun _=>wy <| w1 o fun q=>wq (aY q) fun r=>wq (aN 2 r) fun s=>wA 4 s fun t=>wc O 171 [t] fun u=>wq (aU 0 u) fun v=>wq (aU 1 u) fun x=>wN [.aA] fun y=>wU y v <| wN [.bool false] fun z=>wU z (.bool false) <| wQ 4 (bH (aS [.jH] 4) [(0,1,(.fn 234 [] [a,b,o,c])),(1,1,(.fn 235 [] [a,o])),(2,1,(.fn 237 [] [a,b,y,z])),(3,1,(.fn 239 [] [z,o,b]))]) fun A=>wc O 233 [A] fun B=>.ok B
def zBv:=z0y O i j k
def z0w:=wB 3 i fun a=>wB 3 j fun b=>wz 18 fun c=>wn 0 0 c (aN 0 a) fun d=>wo 1 1 c (aR · d) fun e=>wn 2 0 c (aN 0 b) fun f=>wo 3 4 c (aR · f) fun g=>wn 5 0 c (aN 1 a) fun h=>wo 6 32 c (aR · h) fun k=>wn 7 0 c (aN 1 b) fun l=>wo 8 128 c (aR · l) fun m=>wo 10 0 c (cO 3 · a) fun n=>wo 12 0 c (cO 3 · b) fun o=>wu 15 (O (.f 244) [e,g]) fun q=>wu 511 (O (.f 244) [k,m]) fun r=>wu 2047 (O (.f 245) [n]) fun s=>wu 8191 (O (.f 245) [o]) fun t=>wu 16383 (O (.f 244) [s,t]) fun u=>wa 15 32767 c (rJ 3 (c+15) (bH (aS [iN 0] 3) [(0,1,q),(1,1,r),(2,1,u)])) fun v=>wu 65535 (O (.f 99) [v]) fun x=>wn 17 131071 c (.val x) fun y=>wy <| .ok y
def zBz:=z0w O i j
def zx6(O:Ev.Call)(a:Nat)(b:AV->AV->Option Bool)(c:List AV)(d:AV):pH:=.ok d
def zx5(O:Ev.Call)(a:Nat)(b:AV->AV->Option Bool)(c:List AV)(d:pD)(e:AV):=wI e d
def qv5(O:Ev.Call)(a:Nat)(b:AV->AV->Option Bool)(c:List AV)(d:pD)(e f:AV):=wq (kU a e (some f) none none) fun g=>we (qgz c · g) fun _=>wq (kU a e none (some f) none) fun h=>d h
def qv4(O:Ev.Call)(a:Nat)(b:AV->AV->Option Bool)(c:List AV)(d:AV->pD)(e f:AV):=wI f fun g=>d e g
def zme(a:Nat)(b:AV->AV->Option Bool)(c:List AV)(d:AV->pD)(e f g h:AV):=wl (aH a g h) fun i=>wL (cO a · i) fun j=>wl (ib .sub h (iN 1)) fun k=>wl (aH a g k) fun l=>wL (cO a · l) fun m=>wl (jT true (b j m)) fun n=>wd n (wq (aH a g h) fun o=>wA a o fun q=>wq (aH a e f) fun r=>wT a r q <| wI f fun s=>qv4 O a b c d s h) (qv4 O a b c d f h)
def q4i(a:Nat)(b:AV->AV->Option Bool)(c:List AV)(d:pD)(e f:AV)(g:AV->pD)(h i:AV):=wq (aD f) fun j=>wq (ib .lss i j) fun k=>wd k (zme O a b c g e h f i) (d h)
def qqa(a:Nat)(b:AV->AV->Option Bool)(c:List AV)(d:pD)(e f:AV):=kZ (q4i O a b c d e f)
def zmh(a:Nat)(b:AV->AV->Option Bool)(c:List AV)(d:pD)(e f:AV):=qqa O a b c d e f dG
def zmd(a:Nat)(b:AV->AV->Option Bool)(c:List AV)(d e:pD)(f g:AV):=wl (aH a f g) fun h=>wL (cO a · h) fun i=>wl (ib .sub g (iN 1)) fun j=>wl (aH a f j) fun k=>wL (cO a · k) fun l=>wl (jT false (b i l)) fun m=>wd m (wq (kU a f (some g) none none) fun n=>zmh O a b c (qv5 O a b c d f) f n g (iN 1)) (zx5 O a b c e g)
def zmg(a:Nat)(b:AV->AV->Option Bool)(c:List AV)(d:pD)(e:pH)(f:AV)(g:pD)(h:AV):=wq (aD f) fun i=>wq (ib .lss h i) fun j=>wd j (zmd O a b c d g f h) (e)
def q9c(a:Nat)(b:AV->AV->Option Bool)(c:List AV)(d:pD)(e:pH)(f:AV):=gN (zmg O a b c d e f)
def zx7(a:Nat)(b:AV->AV->Option Bool)(c:List AV)(d:pD)(e:pH)(f:AV):=q9c O a b c d e f dG
def zmc(a:Nat)(b:AV->AV->Option Bool)(c:List AV)(d:AV):=zx7 O a b c .ok (zx6 O a b c d) d (iN 1)
def zmf(a:Nat)(b:AV->AV->Option Bool)(c:List AV)(d:AV):=wq (aD d) fun e=>wq (ib .lss e (iN 2)) fun f=>wd f (.ok d) (zmc O a b c d)
abbrev aBz:AV->AV->Option Bool:=dQ (eqFields [(p1,⟨qq1⟩,0),(p1,⟨qq1⟩,1),(p1,⟨qh5⟩,2)])
abbrev aA9:List AV:=[iN 0,iN 0,.bool false]
def zCb:=zmf O 3 aBz aA9 i
def zCc:=q9q O i
def z5q:=wF 0 k fun a=>wF 1 k fun d=>wq (qL o7 a [d]) fun e=>wq (ib .lss e (iN 0)) fun f=>wg (bV false f) (aN 0 k) fun g=>wG (bV false f) (aR · g) fun h=>wg (bV false f) (aN 1 k) fun m=>wG (bV false f) (aR · m) fun n=>wg (bV false f) (qL pF h [n]) fun o=>wg (bV false f) (aN 0 i) fun q=>wG (bV false f) (aR · q) fun r=>wg (bV false f) (ib .geq o r) fun s=>wq (dV f (.bool true) s) fun t=>wd t (b (iN 4)) (wz 0 fun u=>wn 0 0 u (.val j) fun v=>wn 1 1 u (ib .gtr v (iN 0)) fun x=>wn 2 3 u (.val x) fun y=>wr 3 7 u (aN 1 i) (wv y) fun z=>ws 4 15 u (aR · z) (wv y) fun A=>wr 5 7 u (.val j) (wv y) fun B=>wr 6 39 u (ib .sub B (iN 1)) (wv y) fun C=>wr 7 127 u (aH 3 A C) (wv y) fun D=>ws 8 255 u (cO 3 · D) (wv y) fun E=>ws 9 7 u (cO 3 · k) (wv y) fun F=>wt 1023 (O (.f 217) [E,F]) (wv y) fun G=>wr 11 2047 u (ib .geq G (iN 0)) (wv y) fun I=>wn 12 4095 u (dV y I (.bool false)) fun J=>wn 13 8191 u (.val J) fun K=>wy <| wd K (b (iN 18)) (wE O c l))
def ze6:=wq (aH 3 j k) fun a=>wA 3 a fun d=>wN [iN 0,iN 0,.bool false] fun e=>wT 3 e d <| z5q O b c i k e k
def ze7:=wq (ib .lss A k) fun a=>wd a (ze6 O b x i j A) (d)
def q5x:=gN (ze7 O b d i j k)
def zwm:=q5x O b d i j k dG
def ze5:=wF 1 i fun a=>wq (aD a) fun b=>zwm O .ok (jW O) i a b (iN 0)
def z0v:=wB 2 i fun a=>wF 0 a fun b=>wq (ib .lss b (iN 0)) fun c=>wg (bV false c) (aN 0 a) fun d=>wG (bV false c) (aR · d) fun e=>wg (bV false c) (ib .gtr e (iN 256)) fun f=>wq (dV c (.bool true) f) fun g=>wd g (.ok (iN 3)) (ze5 O a)
def zCd:=z0v O i
def ze1(O:Ev.Call)(a:AV):=wF 1026 a fun b=>.ok b
def ze2:=wq (aN 256 i) fun a=>wq (gQ 256 1 a j) fun c=>w1 c fun d=>wq (ib .eql d (iN 0)) fun e=>wd e (wc O 250 [i,j] fun f=>qrh O b j) (qrh O b j)
def ze3:=wq (ib .lss A j) fun a=>wd a (ze2 O x i A) (d)
def q5w:=gN (ze3 O d i j)
def zwl:=q5w O d i j dG
def q1f:=wF 0 i fun a=>zwl O (ze1 O j) j a (iN 0)
def ze0:=wq (aH 3 j k) fun a=>wA 3 a fun c=>wN [iN 0,iN 0,.bool false] fun d=>wT 3 d c <| fun H=>dz 14 H fun e H=>dn 0 0 e H [] [] (aN 0 d) fun f H p w=>dl 1 1 e H p w (fun H=>aR H f) fun g H p w=>dn 2 0 e H p w (aN 0 d) fun h H p w=>dl 3 4 e H p w (fun H=>aR H h) fun l H p w=>dn 4 0 e H p w (aN 0 i) fun m H p w=>dn 5 28 e H p w (gQ 256 1 m l) fun n H p w=>dl 6 60 e H p w (fun H=>aR H n) fun o H p w=>dn 7 0 e H p w (aN 1 d) fun q H p w=>dl 8 128 e H p w (fun H=>aR H q) fun r H p w=>da 9 384 e H p w (rJ 1 (e+9) (bH (aS [iN 0] 1) [(0,1,r)])) fun s H p w=>dn 11 0 e H p w (aN 0 i) fun t H p w=>de 1020 H p w (iM 1 8 (dZ 1020 p H) o (lY 1 (dZ 1020 p H) s)) (some true) fun u H p w=>dn 12 4095 e H p w (gQ 256 1 t g) fun v H p w=>de 8191 H p w (j5 (dZ 8191 p H) v u) (some true) fun _ H p w=>xZ p H fun H=>qkm O b k H
def q1g:=wq (ib .lss A k) fun a=>wd a (ze0 O x i j A) (d)
def qtm:=gN (q1g O d i j k)
def ze4:=qtm O d i j k dG
def z0u:=wB 2 i fun a=>wh (fun H=>.new (.ptr H.nx 0) (aB 0 (List.replicate 256 (.aA)++List.replicate 512 (iN 0)++List.replicate 256 (.bool false)++[.aA]++[iN 0]++[.aA]))) fun b=>wF 1 a fun c=>wq (aD c) fun d=>ze4 O (q1f O a b) b c d (iN 0)
def zCe:=z0u O i
def q5v(O:Ev.Call)(a b c:AV):pH:=.ok (.fn 249 [] [b,a,c])
def q1c(O:Ev.Call)(a:pD)(b:AV):=wI b a
def zex(O:Ev.Call)(a:pD)(b:AV):=wI b a
def zew:=wq (aH 1 k l) fun a=>w1 a fun c=>w1 i fun d=>wq (aH 1 d c) fun e=>wU e j <| zex O b l
def q1d:=wq (ib .lss A l) fun a=>wd a (zew O x i j k A) (d)
def qtl:=gN (q1d O d i j k l)
def zey:=qtl O d i j k l dG
def zev:=wq (aH 1 j k) fun a=>w1 a fun c=>wq (aD c) fun d=>zey O (q1c O b k) i k c d (iN 0)
def q1e:=wq (ib .lss A k) fun a=>wd a (zev O x i j A) (d)
def qn7:=gN (q1e O d i j k)
def zez:=qn7 O d i j k dG
def z0t:=wB 2 i fun a=>wh (fun H=>nV H.nx j) fun b=>w1 b fun c=>wc O 247 [c,(.fn 248 [] [])] fun d=>wF 0 a fun e=>wh (fun H=>qe9 [iN 0] 8 H.nx e e) fun f=>wN [.aA] fun g=>wU g f <| w1 b fun h=>wq (aD h) fun k=>zez O (q5v O a b g) g h k (iN 0)
def zCf:=z0t O i j
def zCg:=qn4 O i
def qfr(O:Ev.Call)(a:pD)(b c:AV):=wq (kU 1 b (some c) none none) fun d=>we (qgz [iN 0] · d) fun _=>wq (kU 1 b none (some c) none) fun e=>a e
def qjv:=wl (aH 1 k l) fun b=>wL (aR · b) fun c=>wl (ib .sub l (iN 1)) fun d=>wl (aH 1 k d) fun e=>wL (aR · e) fun f=>wl (ib .neq c f) fun g=>wd g (wq (aH 1 k l) fun h=>w1 h fun m=>wq (aH 1 i j) fun n=>wU n m <| wI j fun o=>qj9 O a o l) (qj9 O a j l)
def qfs:=wq (aD j) fun a=>wq (ib .lss B a) fun c=>wd c (qjv O y i A j B) (b A)
def qdw:=kZ (qfs O b i j)
def qjw:=qdw O b i j dG
def qju:=wl (aH 1 i j) fun a=>wL (aR · a) fun d=>wl (ib .sub j (iN 1)) fun e=>wl (aH 1 i e) fun f=>wL (aR · f) fun g=>wl (ib .eql d g) fun h=>wd h (wq (kU 1 i (some j) none none) fun k=>qjw O (qfr O b i) i k j (iN 1)) (qh0 O c j)
def qgr:=wq (aD i) fun a=>wq (ib .lss A a) fun c=>wd c (qju O b x i A) (d)
def qek:=gN (qgr O b d i)
def qls:=qek O b d i dG
def qjt:=qls O .ok (gM O i) i (iN 1)
def qip:=wq (aD i) fun a=>wq (ib .lss a (iN 2)) fun b=>wd b (.ok i) (qjt O i)
def kJ:=qip O i
def zze:=wB 2 i fun a=>wF 0 a fun b=>wF 1 a fun c=>wQ 2 (bH (aS [zS] 2) [(0,1,b),(1,1,c)]) fun d=>wc O 131 [d] fun e=>.ok e
def zEx:=zze O i
def qgg:=wz 0 fun a=>wo 0 0 a (aR · i) fun b=>wn 1 0 a (.val j) fun c=>wn 2 0 a (.val k) fun d=>wu 4 (O (.f 185) [d]) fun e=>wn 4 15 a (aH 5 b c) fun f=>wn 5 31 a (aN 3 f) fun g=>wu 63 (j5 · g e) fun _=>wy <| .ok (.bool true)
def qh9(O:Ev.Call)(a:AV->pD)(b c:AV):=wI c fun d=>a b d
def qtk:=w1 l fun a=>wq (aD a) fun c=>wQ 1 (bH (aS [iN 0] 1) [(0,1,c)]) fun d=>wP 1 8 n d fun e=>wz 0 fun f=>wo 0 0 f (aR · m) fun h=>wn 1 0 f (.val i) fun q=>wn 2 2 f (aY q) fun r=>wn 3 6 f (aN 3 r) fun s=>wo 4 14 f (aR · s) fun t=>wn 5 0 f (.val o) fun u=>wn 6 62 f (aH 4 t u) fun v=>wn 7 0 f (.val j) fun x=>wn 8 128 f (ib .add x (iN 1)) fun y=>wn 9 0 f (.val k) fun z=>wn 10 512 f (.val z) fun A=>wr 11 1536 f (.val i) (bV false A) fun B=>wr 12 3584 f (aY B) (bV false A) fun C=>wr 13 7680 f (aN 0 C) (bV false A) fun D=>ws 14 15872 f (aR · D) (bV false A) fun E=>wr 15 32256 f (ib .eql E (uN 6)) (bV false A) fun F=>wr 16 65024 f (.val F) (bV false A) fun G=>wr 17 130560 f (.val o) (wv G) fun I=>wr 18 261632 f (ib .eql I (iN 1)) (wv G) fun J=>wr 19 523776 f (dV G J (.bool false)) (bV false A) fun K=>wn 20 1048064 f (dV A (.bool true) K) fun L=>wu 2097151 (wY O h [v,y,L]) fun M=>wn 22 4194303 f ((lH .not).f M) fun N=>wy <| wd N (b (.bool false)) (qh9 O g e o)
def qeu:=wq (ib .lss B n) fun a=>wd a (qtk O b y i j k l m A B) (c A)
def qgf:=kZ (qeu O b c i j k l m n)
def qke:=qgf O b c i j k l m n dG
def qtj:=w1 l fun a=>wq (aD a) fun b=>fun H=>dz 18 H fun c H=>dl 0 0 c H [] [] (fun H=>aR H l) fun d H p w=>dn 1 0 c H p w (.val i) fun e H p w=>dn 2 2 c H p w (aY e) fun f H p w=>dn 3 6 c H p w (aN 0 f) fun g H p w=>dl 4 14 c H p w (fun H=>aR H g) fun h H p w=>dn 5 0 c H p w (.val i) fun n H p w=>dn 6 32 c H p w (aY n) fun o H p w=>dn 7 96 c H p w (aN 1 o) fun q H p w=>dl 8 224 c H p w (fun H=>aR H q) fun r H p w=>dn 9 0 c H p w (.val i) fun s H p w=>dn 10 512 c H p w (aY s) fun t H p w=>dn 11 1536 c H p w (aN 2 t) fun u H p w=>dl 12 3584 c H p w (fun H=>aR H u) fun v H p w=>dn 13 0 c H p w (.val k) fun x H p w=>dn 14 16382 c H p w (bP (bH [uN 0,zS,zS,.aA,.bool false] [(0,1,h),(1,1,r),(2,1,v),(4,1,x)])) fun y H p w=>da 15 32766 c H p w (rJ 1 (c+15) (bH (aS [uN 0,zS,zS,.aA,.bool false] 1) [(0,5,y)])) fun z H p w=>de 65535 H p w (iM 5 72 (dZ 65535 p H) d (lY 5 (dZ 65535 p H) z)) (some true) fun A H p w=>de 131071 H p w (j5 (dZ 131071 p H) l A) (some true) fun _ H p w=>xZ p H fun H=>vq (aY i) H fun B H=>vF 3 B H fun C H=>vq (aD C) H fun D H=>qke O .ok (qgg O l b) i j k l m D (.aA) (iN 0) H
def q1b:=w1 m fun a=>wq (qL pF a [j]) fun b=>wU m b <| w1 n fun c=>wq (ib .eql c (iN 0)) fun d=>wd d (wc O 228 [i] fun e=>wU n e <| qtj O i j k l o) (qtj O i j k l o)
def q9s:=w1 l fun a=>wq (aD a) fun b=>wq (ib .eql b (iN 32)) fun c=>wg (bV false c) (.val j) fun d=>wg (bV false c) (ib .gtr d (iN 8)) fun e=>wq (dV c (.bool true) e) fun f=>wd f (.ok (.bool false)) (q1b O i j k l m n o)
def zCo:=q9s O i j k l m n o
def z0m(O:Ev.Call)(a:AV):=wq (aD a) fun b=>wq (aD a) fun c=>wq (kU 5 a none (some b) (some c)) fun d=>.ok d
def zCp:=z0m O i
def zer:=wq (aN 2 i) fun a=>wA 4 a fun b=>wc O 144 [b] fun c=>.ok c
def zet:=wq (aH 2 i j) fun a=>wA 2 a fun d=>wN [zS,zS] fun e=>wT 2 e d <| wF 0 e fun f=>wc O 231 [f] fun g=>wq ((lH .not).f g) fun h=>wg (bV false h) (aN 1 e) fun k=>wG (bV false h) (aR · k) fun l=>wg (bV false h) (eD (lC .neq).f l zS) fun m=>wg (bV false h) (.val m) fun n=>wg (wv n) (aN 1 e) fun o=>wG (wv n) (aR · o) fun q=>wx (wv n) (O (.f 231) [q]) fun r=>wg (wv n) ((lH .not).f r) fun s=>wg (bV false h) (dV n s (.bool false)) fun t=>wq (dV h (.bool true) t) fun u=>wd u (b (iN 6)) (qdh O c j)
def zeu:=wq (ib .lss A j) fun a=>wd a (zet O b x i A) (d)
def q5u:=gN (zeu O b d i j)
def zwk:=q5u O b d i j dG
def zes:=wF 1 i fun a=>wq (aD a) fun b=>zwk O .ok (zer O i) a b (iN 0)
def z0s:=wB 6 i fun a=>wF 0 a fun b=>wc O 231 [b] fun c=>wq ((lH .not).f c) fun d=>wd d (.ok (iN 6)) (wF 1 a fun e=>wq (aD e) fun f=>wq (ib .gtr f (iN 8)) fun g=>wd g (.ok (iN 3)) (zes O a))
def zCi:=z0s O i
def z0r:=wL (aR · i) fun a=>wl (aY a) fun b=>wl (aN 2 b) fun c=>wL (aR · c) fun d=>wl (aN 0 j) fun e=>wL (aR · e) fun f=>wL (aR · k) fun g=>wl (aY g) fun h=>wl (aN 0 h) fun m=>wL (aR · m) fun n=>wl (bP (bH [zS,zS] [(0,1,f),(1,1,n)])) fun o=>wL (nR ⟨(⟨dQ (eqFields [(p1,⟨bL⟩,0),(p1,⟨bL⟩,1)])⟩:E2).f,some 2⟩ (iN 0) false · d o) fun q=>wL (aR · l) fun r=>wl (ib .neq q r) fun s=>wd s (.ok (iN 7)) (jW O)
def zCj:=z0r O i j k l
def z0q:=w1 i fun a=>w1 j fun b=>wc O 236 [a,b] fun c=>.ok c
def zCk:=z0q O i j
def z0p:=w1 i fun a=>wF 0 j fun b=>w1 k fun c=>wc O 238 [a,b,c] fun d=>wq (aU 0 d) fun e=>wq (aU 1 d) fun f=>wU l e <| .ok f
def zCl:=z0p O i j k l
def z0o:=wz 0 fun a=>wo 0 0 a (aR · i) fun b=>wn 1 1 a (.val b) fun c=>ws 2 3 a (aR · j) (wv c) fun d=>wr 3 7 a (aY d) (wv c) fun e=>wr 4 15 a (aN 1 e) (wv c) fun f=>ws 5 31 a (aR · f) (wv c) fun g=>wr 6 63 a (aD g) (wv c) fun h=>wr 7 127 a (ib .eql h (iN 0)) (wv c) fun l=>wn 8 255 a (dV c l (.bool false)) fun m=>wn 9 511 a (.val m) fun n=>ws 10 1023 a (aR · i) (bV false n) fun o=>wr 11 2047 a ((lH .not).f o) (bV false n) fun q=>wr 12 4095 a (.val q) (bV false n) fun r=>ws 13 8191 a (aR · j) (wv r) fun s=>wr 14 16383 a (aY s) (wv r) fun t=>wr 15 32767 a (aN 1 t) (wv r) fun u=>ws 16 65535 a (aR · u) (wv r) fun v=>wr 17 131071 a (aD v) (wv r) fun x=>wr 18 262143 a (ib .gtr x (iN 0)) (wv r) fun y=>wr 19 524287 a (dV r y (.bool false)) (bV false n) fun z=>wr 20 1048575 a (.val z) (bV false n) fun A=>ws 21 2097151 a (cO 2 · k) (wv A) fun B=>ws 22 2097151 a (aR · j) (wv A) fun C=>wr 23 6291455 a (aY C) (wv A) fun D=>wr 24 14680063 a (aN 0 D) (wv A) fun E=>ws 25 31457279 a (aR · E) (wv A) fun F=>wt 67108863 (O (.f 240) [B,F]) (wv A) fun G=>wr 27 134217727 a ((lH .not).f G) (wv A) fun I=>wr 28 268435455 a (dV A I (.bool false)) (bV false n) fun J=>wn 29 536870911 a (dV n (.bool true) J) fun K=>wy <| wd K (.ok (iN 11)) (jW O)
def zCm:=z0o O i j k
def qn5:=wq (aH 1 i j) fun a=>w1 a fun d=>we (wY O d []) fun e=>wq (ib .neq e (iN 0)) fun f=>wd f (b e) (kQ O c j)
def qn6:=wq (ib .lss A j) fun a=>wd a (qn5 O b x i A) (d)
def q5t:=gN (qn6 O b d i j)
def zwj:=q5t O b d i j dG
def z0n:=wq (aD i) fun a=>zwj O .ok (jW O) i a (iN 0)
def zCn:=z0n O i
def zwi:=wq (ib .gtr i j) fun a=>wd a (.ok (iN 1)) (jW O)
def zwh:=wq (ib .lss i j) fun a=>wd a (.ok (.int .i64 (.negSucc 0))) (zwi O i j)
def zwg:=wd k (.ok (iN 1)) (zwh O i j)
def z0l:=wc O 259 [i] fun a=>wc O 259 [j] fun b=>wd a (wd b (.ok (iN 0)) (qT O)) (zwg O i j b)
def zCr:=z0l O i j
def z0k:=wB 3 i fun a=>wF 2 a fun b=>wd b (.ok (iN 1)) (jW O)
def zCs:=z0k O i
def zwe:=wq (aH 1 j k) fun a=>w1 a fun d=>wq (ib .neq d i) fun e=>wd e (b d) (kQ O c k)
def zeq:=wq (ib .lss A k) fun a=>wd a (zwe O b x i j A) (d)
def q5q:=gN (zeq O b d i j k)
def zwf:=q5q O b d i j k dG
def z0j:=wq (aD i) fun a=>zwf O .ok (gM O (iN 0)) (iN 0) i a (iN 0)
def zCt:=z0j O i
def qth:=wq (aY k) fun a=>wF 0 a fun c=>wc O 270 [i,c] fun d=>wq (aD j) fun e=>wq (ib .sub e (iN 1)) fun f=>wq (kU 2 j none (some f) none) fun g=>wq (aD g) fun h=>wq (ib .gtr h (iN 0)) fun l=>wd l (wq (aD g) fun m=>wq (ib .sub m (iN 1)) fun n=>wq (aH 2 g n) fun o=>wF 0 o fun q=>wz 0 fun r=>wn 0 0 r (.val i) fun s=>wn 1 0 r (.val q) fun t=>wn 2 0 r (.val i) fun u=>wn 3 0 r (.val q) fun v=>wn 4 4 r (aY u) fun x=>wn 5 20 r (aN 512 x) fun y=>wn 6 60 r (gQ 256 1 y v) fun z=>wo 7 124 r (aR · z) fun A=>wn 8 0 r (.val i) fun B=>wn 9 0 r (.val c) fun C=>wn 10 256 r (aY B) fun D=>wn 11 1280 r (aN 512 D) fun E=>wn 12 3840 r (gQ 256 1 E C) fun F=>wo 13 7936 r (aR · F) fun G=>wn 14 16380 r (qL o7 A [G]) fun I=>wn 15 1 r (aY s) fun J=>wn 16 32769 r (aN 512 J) fun K=>wn 17 131071 r (gQ 256 1 K t) fun L=>wu 262143 (j5 · L I) fun _=>wy <| b g) (b g)
def zen(O:Ev.Call)(a:pD)(b c d e:AV):=wq (aY b) fun f=>wq (aN 768 f) fun g=>wq (gQ 256 1 g e) fun h=>w1 h fun i=>wd i (wz 0 fun j=>wn 0 0 j (.val b) fun k=>wn 1 0 j (.val d) fun l=>wn 2 2 j (aY l) fun m=>wn 3 6 j (aN 0 m) fun n=>wo 4 14 j (aR · n) fun o=>wn 5 0 j (.val b) fun q=>wn 6 0 j (.val d) fun r=>wn 7 64 j (aY r) fun s=>wn 8 192 j (aN 0 s) fun t=>wo 9 448 j (aR · t) fun u=>wn 10 32 j (aY q) fun v=>wn 11 1056 j (aN 512 v) fun x=>wn 12 4064 j (gQ 256 1 x u) fun y=>wo 13 8160 j (aR · y) fun z=>wn 14 0 j (.val b) fun A=>wn 15 0 j (.val e) fun B=>wn 16 16384 j (aY A) fun C=>wn 17 81920 j (aN 256 C) fun D=>wn 18 245760 j (gQ 256 1 D B) fun E=>wo 19 507904 j (aR · E) fun F=>wn 20 1048544 j (qL o7 z [F]) fun G=>wn 21 1 j (aY k) fun I=>wn 22 2097153 j (aN 512 I) fun J=>wn 23 8388607 j (gQ 256 1 J o) fun K=>wu 16777215 (j5 · K G) fun _=>wy <| a c) (a c)
def q5p:=wl (aY k) fun a=>wl (aN 0 a) fun d=>wL (aR · d) fun e=>wl (aY i) fun f=>wl (aN 0 f) fun g=>wl (gQ 256 1 g e) fun h=>wL (aR · h) fun l=>wl (aY k) fun m=>wl (aN 1 m) fun n=>wL (aR · n) fun o=>wl (aH 1 l o) fun q=>wL (aR · q) fun r=>wq (aY k) fun s=>wF 1 s fun t=>wI t fun u=>wq (aY k) fun v=>wq (aN 1 v) fun x=>wU x u <| wq (aY i) fun y=>wq (aN 256 y) fun z=>wq (gQ 256 1 z r) fun A=>w1 A fun B=>wq (ib .eql B (iN 0)) fun C=>wd C (wc O 269 [i,r] fun D=>wq (bP (bH [iN 0,iN 0] [(0,1,r),(1,1,(iN 0))])) fun E=>wQ 1 (bH (aS [iN 0,iN 0] 1) [(0,2,E)]) fun F=>wP 2 16 j F fun G=>b G) (zen O c i j k r)
def q1a:=wl (aY j) fun a=>wl (aN 1 a) fun d=>wL (aR · d) fun e=>wl (aY j) fun f=>wl (aN 0 f) fun g=>wL (aR · g) fun h=>wl (aY i) fun k=>wl (aN 0 k) fun l=>wl (gQ 256 1 l h) fun m=>wL (aR · m) fun n=>wl (aD n) fun o=>wl (ib .lss e o) fun q=>wd q (q5p O b x i A j) (c A)
def qtg:=gN (q1a O b c i j)
def zep:=qtg O b c i j dG
def q5o:=wq (aD j) fun a=>wq (ib .sub a (iN 1)) fun c=>wq (aH 2 j c) fun d=>fun H=>zep O b (fun j H=>qth O b i j d H) i d j H
def zeo:=wq (aD A) fun a=>wq (ib .gtr a (iN 0)) fun b=>wd b (q5o O x i A) (d)
def qrg:=gN (zeo O d i)
def zwd:=qrg O d i dG
def q5n:=zwd O (.ok (.bA [])) i j
def z5p:=wc O 269 [i,j] fun a=>wq (bP (bH [iN 0,iN 0] [(0,1,j),(1,1,(iN 0))])) fun b=>wQ 1 (bH (aS [iN 0,iN 0] 1) [(0,2,b)]) fun c=>q5n O i c
def zCu:=z5p O i j
def q07(O:Ev.Call)(a:pD)(b:AV):=wI b a
def zej:=wq (aH 1 k m) fun a=>w1 a fun b=>wq ((lH .not).f b) fun c=>wg (wv c) (.val l) fun g=>wg (wv c) (.val m) fun h=>wg (wv c) (aH 1 g h) fun n=>wG (wv c) (aR · n) fun o=>wg (wv c) ((lH .not).f o) fun q=>wq (dV c q (.bool false)) fun r=>wd r (wq (aH 1 k m) fun s=>wU s (.bool true) <| w1 j fun t=>wq (aH 1 t m) fun u=>w1 u fun v=>we (wY O i [v]) fun x=>wq ((lH .not).f x) fun y=>wd y (d) (e)) (q07 O f m)
def q09:=wq (ib .lss A m) fun a=>wd a (zej O d e x i j k l A) (e)
def qn3:=gN (q09 O d e i j k l m)
def zem:=qn3 O d e i j k l m dG
def q06:=w1 j fun a=>wq (aD a) fun b=>zem O d (wE O f m) i j k l b (iN 0)
def qtf(O:Ev.Call)(a:pD)(b:AV):=wI b a
def zei:=wq (aH 3 l m) fun a=>wA 3 a fun c=>wN [iN 0,iN 0,.bool false] fun d=>wT 3 d c <| wL (aR · i) fun e=>wl (aN 0 d) fun f=>wL (aR · f) fun g=>wl (aH 1 e g) fun h=>wL (aR · h) fun n=>wL (aR · i) fun o=>wl (aN 1 d) fun q=>wL (aR · q) fun r=>wl (aH 1 o r) fun s=>wL (aR · s) fun t=>wq (ib .neq n t) fun u=>wg (wv u) (.val j) fun v=>wg (wv u) (.val t) fun x=>wg (wv u) (aH 1 v x) fun y=>wG (wv u) (aR · y) fun z=>wg (wv u) ((lH .not).f z) fun A=>wq (dV u A (.bool false)) fun B=>wd B (wq (aH 1 k n) fun C=>wU C (.bool true) <| qtf O b m) (qtf O b m)
def q08:=wq (ib .lss A m) fun a=>wd a (zei O x i j k l A) (d)
def qn2:=gN (q08 O d i j k l m)
def zel:=qn2 O d i j k l m dG
def zeh:=w1 j fun a=>wq (aD a) fun b=>wh (fun H=>qe9 [.bool false] 1 H.nx b b) fun c=>wF 1 k fun e=>wq (aD e) fun g=>zel O (q06 O d f i j m c n) l m c e g (iN 0)
def zek:=wq (ib .lss A n) fun a=>wd a (zeh O d x i j k l m A) (e)
def qrf:=gN (zek O d e i j k l m n)
def zwc:=qrf O d e i j k l m n dG
def z0i:=w1 j fun a=>wq (aD a) fun b=>wh (fun H=>qe9 [.bool false] 1 H.nx b b) fun c=>w1 j fun d=>wq (aD d) fun e=>zwc O (.ok (.bA [])) (.ok (.bA [])) i j k l c e (iN 0)
def zCw:=z0i O i j k l
def qd3:=wd i (.ok (iN 6)) (jW O)
def qc0:=wq ((lH .not).f l) fun a=>wG (bV false a) (cO 2 · j) fun b=>wG (bV false a) (cO 2 · k) fun c=>wg (bV false a) (jT true ((⟨E2.f ⟨dQ fun d e=>qcx p1 ⟨qh5⟩ 1 d e 2 0⟩⟩:E2).f b c)) fun f=>wq (dV a (.bool true) f) fun g=>wd g (.ok (iN 5)) (wq (aY i) fun h=>wF 0 h fun m=>wq (ib .eql m (uN 3)) fun n=>wg (wv n) (.val i) fun o=>wg (wv n) (aY o) fun q=>wg (wv n) (aN 2 q) fun r=>wG (wv n) (aR · r) fun s=>wx (wv n) (O (.f 252) [s]) fun t=>wg (wv n) ((lH .not).f t) fun u=>wq (dV n u (.bool false)) fun v=>wd v (qd3 O v) (wq (aY i) fun x=>wF 0 x fun y=>wq (ib .eql y (uN 2)) fun z=>wg (bV false z) (.val i) fun A=>wg (bV false z) (aY A) fun B=>wg (bV false z) (aN 0 B) fun C=>wG (bV false z) (aR · C) fun D=>wg (bV false z) (ib .eql D (uN 3)) fun E=>wq (dV z (.bool true) E) fun F=>wg (wv F) (.val i) fun G=>wg (wv F) (aY G) fun I=>wg (wv F) (aN 1 I) fun J=>wG (wv F) (aR · J) fun K=>wx (wv F) (O (.f 252) [K]) fun L=>wg (wv F) ((lH .not).f L) fun M=>wq (dV F M (.bool false)) fun N=>qd3 O N))
def qn1:=wd n (wq (ib .geq l (iN 2)) fun a=>qc0 O i j k a) (wq (ib .eql m (uN 6)) fun b=>wd b (wq (ib .eql l (iN 2)) fun c=>qc0 O i j k c) (.ok (iN 10)))
def zpo:=wz 13 fun a=>wn 0 0 a (.val i) fun b=>wn 1 1 a (aY b) fun c=>wn 2 3 a (aN 1 c) fun d=>wo 3 7 a (aR · d) fun e=>wn 4 15 a (eD (lC .neq).f e zS) fun f=>wn 5 0 a (.val i) fun g=>wn 6 32 a (aY g) fun h=>wn 7 96 a (aN 2 h) fun j=>wo 8 224 a (aR · j) fun k=>wn 9 480 a (eD (lC .neq).f k zS) fun l=>wn 10 1023 a (bP (bH [.bool false,.bool false] [(0,1,f),(1,1,l)])) fun m=>wa 11 0 a (.new (.ptr (a+11) 0) (aB 0 [.bool false,.bool false])) fun n=>wu 4095 (xA 2 · n m) fun _=>wy <| wq (bP (bH [.bool false,.bool false] [])) fun o=>wN [.bool false,.bool false] fun q=>wT 2 q o <| wq (aY i) fun r=>wF 3 r fun s=>wq (aD s) fun t=>wq (ib .eql t (iN 0)) fun u=>wq (aY i) fun v=>wF 0 v fun x=>wq (ib .eql x (uN 1)) fun y=>wd y (qc0 O i n q u) (wq (ib .eql x (uN 2)) fun z=>wd z (wq (gQ 2 1 n (iN 0)) fun A=>w1 A fun B=>wq (bP (bH [.bool false,.bool false] [(0,1,B),(1,1,(.bool false))])) fun C=>wT 2 q C <| qc0 O i n q u) (wq (ib .eql x (uN 3)) fun D=>wd D (wA 2 n fun E=>wT 2 q E <| qc0 O i n q u) (wq (ib .eql x (uN 4)) fun F=>wd F (qn1 O i n q t x F) (wq (ib .eql x (uN 5)) fun G=>qn1 O i n q t x G))))
def zDb:=zpo O i
def qte:=wd j (b (iN 7)) ((kA qh0) O c i)
def zwa:=(cK qte).1
theorem qwr:zwa=qte:=(cK qte).2
def qmq:=wd m (b (iN 6)) (wz 0 fun a=>wn 0 0 a (.val i) fun d=>wn 1 1 a (aY d) fun e=>wn 2 3 a (aN 1 e) fun f=>wo 3 7 a (aR · f) fun g=>wn 4 0 a (.val j) fun h=>wn 5 31 a (kU 2 g none (some h) none) fun n=>wo 6 0 a (cO 2 · k) fun o=>wu 127 (O (.f 166) [n,o]) fun q=>wn 8 255 a (.val q) fun r=>wy <| zwa O b c l r)
def zef:=(cK qmq).1
theorem qrd:zef=qmq:=(cK qmq).2
def qmp:=wz 0 fun a=>wn 0 0 a (.val i) fun d=>wn 1 1 a (aY d) fun e=>wn 2 3 a (aN 1 e) fun f=>wo 3 7 a (aR · f) fun g=>wn 4 0 a (aN 0 l) fun h=>wo 5 16 a (aR · h) fun n=>wo 6 63 a (nR ⟨(⟨bL⟩:E2).f,none⟩ (iN 0) false · g n) fun o=>wn 7 127 a (ib .eql o (iN 0)) fun q=>wn 8 255 a (.val q) fun r=>wr 9 511 a (aN 1 l) (bV false r) fun s=>ws 10 1023 a (aR · s) (bV false r) fun t=>wr 11 2047 a (eD (lC .neq).f t zS) (bV false r) fun u=>wr 12 4095 a (.val u) (bV false r) fun v=>wr 13 8191 a (.val i) (wv v) fun x=>wr 14 8191 a (aN 0 l) (wv v) fun y=>ws 15 24575 a (aR · y) (wv v) fun z=>wr 16 8191 a (aN 1 l) (wv v) fun A=>ws 17 73727 a (aR · A) (wv v) fun B=>wt 262143 (O (.f 174) [x,z,B]) (wv v) fun C=>wr 19 524287 a (jT false ((⟨E2.f ⟨ql1⟩⟩:E2).f C (.bJ))) (wv v) fun D=>wr 20 1048575 a (dV v D (.bool false)) (bV false r) fun E=>wn 21 2097151 a (dV r (.bool true) E) fun F=>wn 22 4194303 a (.val F) fun G=>wy <| zef O b c j k l m G
def zee:=(cK qmp).1
theorem qrc:zee=qmp:=(cK qmp).2
def qmr:=wq (aH 2 k l) fun a=>wA 2 a fun d=>wN [zS,zS] fun e=>wT 2 e d <| zee O b c i j l e l
def zeg:=wq (ib .lss A l) fun a=>wd a ((kA qmr) O b x i j k A) (d)
def qre:=gN (zeg O b d i j k l)
def zwb:=qre O b d i j k l dG
def qmo:=zwb O .ok (kA jW O) i j k l m
def zed:=(cK qmo).1
theorem qrb:zed=qmo:=(cK qmo).2
def z0h:=wq (aY j) fun a=>wF 1 a fun b=>wq (aD b) fun c=>zed O i j b c (iN 0)
def zCy:=z0h O i j
def q05:=wg (bV false i) (aN 0 j) fun b=>wG (bV false i) (aR · b) fun c=>wg (bV false i) (ib .eql c (uN 1)) fun d=>wq (dV i (.bool true) d) fun e=>qln O a e k
def zeb:=wq (aH 5 l m) fun b=>wA 5 b fun c=>wN [uN 0,zS,zS,.aA,.bool false] fun d=>wT 5 d c <| wF 0 d fun e=>wq (ib .eql e (uN 2)) fun f=>wg (bV false f) (aN 0 d) fun h=>wG (bV false f) (aR · h) fun n=>wg (bV false f) (ib .eql n (uN 3)) fun o=>wq (dV f (.bool true) o) fun q=>wg (wv q) (.val i) fun r=>wg (wv q) (.val j) fun s=>wg (wv q) (aN 1 d) fun t=>wG (wv q) (aR · t) fun u=>wx (wv q) (O (.f 174) [r,s,u]) fun v=>wg (wv q) (jT false ((⟨E2.f ⟨ql1⟩⟩:E2).f v (.bJ))) fun x=>wq (dV q x (.bool false)) fun y=>wd y (a k (iN 6)) (wF 0 d fun z=>wq (ib .eql z (uN 3)) fun A=>wg (wv A) (.val i) fun B=>wg (wv A) (.val j) fun C=>wg (wv A) (aN 1 d) fun D=>wG (wv A) (aR · D) fun E=>wg (wv A) (aN 2 d) fun F=>wG (wv A) (aR · F) fun G=>wx (wv A) (O (.f 175) [B,C,E,G]) fun I=>wg (wv A) (aD I) fun J=>wg (wv A) (ib .eql J (iN 0)) fun K=>wq (dV A K (.bool false)) fun L=>wd L (a k (iN 11)) (q05 O g k d m))
def zec:=wq (ib .lss B l) fun c=>wd c (zeb O a y i j A k B) (b A)
def qwq:=kZ (zec O a b i j k l)
def zv9:=qwq O a b i j k l dG
def z0g:=wq (aD k) fun a=>fun H=>zv9 O (fun b c H=>.ok (.bA [b,c]) H) (qct O) i j k a (.bool false) (iN 0) H
def zCz:=z0g O i j k
def z0f:=wB 2 i fun a=>wh (fun H=>nV H.nx j) fun b=>wF 1 a fun c=>wc O 254 [c,(.fn 255 [] [b])] fun d=>.ok d
def zDa:=z0f O i j
def z0e(O:Ev.Call)(a:AV):=wq (ib .neq a a) fun b=>.ok b
def zDc:=z0e O i
def z0d(O:Ev.Call)(a b:AV):=wq (aY a) fun c=>wF 1025 c fun d=>wI d fun e=>wq (aY a) fun f=>wq (aN 1025 f) fun g=>wU g e <| wz 0 fun h=>wn 0 0 h (.val a) fun i=>wn 1 0 h (.val b) fun j=>wn 2 0 h (.val a) fun k=>wn 3 0 h (.val b) fun l=>wn 4 0 h (.val a) fun m=>wn 5 0 h (.val b) fun n=>wn 6 0 h (.val a) fun o=>wn 7 64 h (aY o) fun q=>wn 8 192 h (aN 1025 q) fun r=>wo 9 448 h (aR · r) fun s=>wn 10 0 h (.val a) fun t=>wn 11 1024 h (aY t) fun u=>wn 12 3072 h (aN 1025 u) fun v=>wo 13 7168 h (aR · v) fun x=>wn 14 1 h (aY i) fun y=>wn 15 16385 h (aN 256 y) fun z=>wn 16 65475 h (gQ 256 1 z j) fun A=>wn 18 4 h (aY k) fun B=>wn 19 262148 h (aN 512 B) fun C=>wn 22 16 h (aY m) fun D=>wn 23 4194320 h (aN 768 D) fun E=>wu 131011 (j5 · A s) fun _=>wn 20 1048527 h (gQ 256 1 C l) fun F=>wu 2097103 (j5 · F x) fun _=>wn 24 16777215 h (gQ 256 1 E n) fun G=>wu 33554431 (j5 · G (.bool true)) fun _=>wy <| wq (aY a) fun I=>wF 1024 I fun J=>wQ 1 (bH (aS [iN 0] 1) [(0,1,b)]) fun K=>wP 1 8 J K fun L=>wq (aY a) fun M=>wq (aN 1024 M) fun N=>wU N L <| .ok (.bA [])
def zDd:=z0d O i j
def q03(O:Ev.Call)(a b c:AV):=wq (aY a) fun d=>wF 1024 d fun e=>wq (kU 1 e none (some b) none) fun f=>wq (aY a) fun g=>wq (aN 1024 g) fun h=>wU h f <| wq (aY a) fun i=>wF 1026 i fun j=>wQ 1 (bH (aS [.aA] 1) [(0,1,c)]) fun k=>wP 1 24 j k fun l=>wq (aY a) fun m=>wq (aN 1026 m) fun n=>wU n l <| .ok (.bA [])
def zd9(O:Ev.Call)(a:pD)(b:AV):=wI b a
def zd8:=wq (aH 1 j k) fun a=>w1 a fun c=>wq (aY i) fun d=>wq (aN 768 d) fun e=>wq (gQ 256 1 e c) fun f=>wU f (.bool false) <| zd9 O b k
def q04:=wq (ib .lss A k) fun a=>wd a (zd8 O x i j A) (d)
def qtd:=gN (q04 O d i j k)
def zea:=qtd O d i j k dG
def zd7:=wq (aY i) fun a=>wF 1024 a fun b=>wc O 294 [b,j] fun c=>wq (aY i) fun d=>wF 1024 d fun e=>wq (kU 1 e (some c) none none) fun f=>wc O 296 [f] fun g=>wc O 295 [g] fun h=>wq (aD h) fun k=>zea O (q03 O i c h) i h k (iN 0)
def zpl:=wl (aY i) fun a=>wl (aN 512 a) fun b=>wl (gQ 256 1 b j) fun c=>wL (aR · c) fun d=>wl (aY i) fun e=>wl (aN 256 e) fun f=>wl (gQ 256 1 f j) fun g=>wL (aR · g) fun h=>wl (ib .lss d h) fun k=>wd k (.ok (.bA [])) (zd7 O i j)
def zDe:=zpl O i j
def z0b:=wB 6 i fun a=>wq (aN 2 a) fun b=>wA 4 b fun c=>wc O 171 [c] fun d=>wq (aU 0 d) fun e=>wq (aU 1 d) fun f=>wc O 256 [e,(.fn 257 [] [j])] fun g=>.ok g
def zDg:=z0b O i j
def z0a:=wc O 281 [i,j] fun a=>wq (ib .geq a (iN 0)) fun b=>.ok b
def zDh:=z0a O i j
def zv7:=wq (aH 1 i k) fun a=>w1 a fun d=>wq (ib .eql j d) fun e=>wd e (b k) (kQ O c k)
def zd6:=wq (ib .lss A k) fun a=>wd a (zv7 O b x i j A) (d)
def q5j:=gN (zd6 O b d i j k)
def zv8:=q5j O b d i j k dG
def zz9:=wq (aD i) fun a=>zv8 O .ok (qT O) i j a (iN 0)
def zDj:=zz9 O i j
def zz8(O:Ev.Call)(a:AV):=wh (fun H=>nV H.nx a) fun b=>.ok (.fn 309 [] [b])
def zDk:=zz8 O i
def z5o:=wc O 308 [i] fun a=>wc O 225 [a] fun b=>.ok a
def zDl:=z5o O i
def zz6(O:Ev.Call)(a b:AV):=wB 5 a fun c=>wF 0 c fun d=>wq (ib .eql d (uN 3)) fun e=>wg (wv e) (aN 1 c) fun f=>wG (wv e) (aR · f) fun g=>wG (wv e) (aR · b) fun h=>wg (wv e) (eD (lC .eql).f g h) fun i=>wq (dV e i (.bool false)) fun j=>.ok j
def zDn:=zz6 O i j
def zz5:=wc O 282 [i,j] fun a=>wq (ib .geq a (iN 0)) fun b=>.ok b
def zDo:=zz5 O i j
def zv3:=wq (aH 6 i k) fun a=>wA 6 a fun d=>we (wY O j [d]) fun e=>wd e (b k) (kQ O c k)
def zd3:=wq (ib .lss A k) fun a=>wd a (zv3 O b x i j A) (d)
def q5h:=gN (zd3 O b d i j k)
def zv4:=q5h O b d i j k dG
def zz4:=wq (aD i) fun a=>zv4 O .ok (qT O) i j a (iN 0)
def zDp:=zz4 O i j
def zd1:=wq (aH 1 j k) fun a=>w1 a fun b=>we (wY O i [b]) fun c=>wq ((lH .not).f c) fun e=>wd e (d) (kQ O f k)
def zd2:=wq (ib .lss A k) fun a=>wd a (zd1 O d x i j A) (e)
def q5g:=gN (zd2 O d e i j k)
def zv2:=q5g O d e i j k dG
def zz3:=w1 j fun a=>wq (aD a) fun b=>zv2 O (.ok (.bA [])) (.ok (.bA [])) i a b (iN 0)
def zDq:=zz3 O i j
def z5n:=wc O 313 [(.aA),i] fun a=>.ok a
def zDr:=z5n O i
def zv0:=wq (aH 5 i k) fun a=>wA 5 a fun d=>we (wY O j [d]) fun e=>wd e (b k) (kQ O c k)
def zd0:=wq (ib .lss A k) fun a=>wd a (zv0 O b x i j A) (d)
def qwp:=gN (zd0 O b d i j k)
def zv1:=qwp O b d i j k dG
def zz2:=wq (aD i) fun a=>zv1 O .ok (qT O) i j a (iN 0)
def zDs:=zz2 O i j
end
end Go.Di
end
