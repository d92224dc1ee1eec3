/-
 For StrataTurns: functions in direct style, their contracts, and the plain mathematics, part 2 of 10. No conditions beyond those that each theorem states.
-/
import Derived.Test.YtighkibjecdbnaaGreatConA
set_option linter.unusedSimpArgs false
set_option linter.unusedVariables false
noncomputable section
namespace Go.Di
open Go.Ev
def cst{α:Type}(a:α):α:=Classical.choose (⟨a,rfl⟩:∃ f,f=a)
theorem dW{α:Type}(a:α):cst a=a:=uq (⟨a,rfl⟩:∃ f,f=a)
variable (O:Ev.Call)
section
variable (a:AV->pB)(b c:pB)(d e:pD)(f:pB)(g:AV->pB)(h:AV->AV->pB)(i j k l m n o q r s t u v:AV)(x:pB)(y:AV->pB)(z:AV->AV->pB)(A B C D E F:AV)
def qiw:=wq (ib .eql j (iN 0)) fun a=>wg (wv a) (.val l) fun b=>wg (wv a) (ib .eql b (iN 8)) fun c=>wG (wv a) (dQ 1 · i) fun d=>wx (wv a) (O (.f 8) [d]) fun e=>wg (wv a) (ib .eql e (iN 0)) fun f=>wg (wv a) (pX false ((⟨E2.f ⟨qem⟩⟩:E2).f c f)) fun g=>wq (dK a g (.bool false)) fun h=>wg (wv h) (.val l) fun m=>wg (wv h) (ib .eql m (iN 0)) fun n=>wg (wv h) (.val k) fun o=>wg (wv h) (aF o) fun q=>wg (wv h) (ib .gtr q (iN 0)) fun r=>wg (wv h) (pX false ((⟨E2.f ⟨qem⟩⟩:E2).f n r)) fun s=>wq (dK h s (.bool false)) fun t=>wx (wv t) (O (.f 5) []) fun u=>wq (dK t u (.bool false)) fun v=>.ok v
def q3x:=cst qiw
theorem qj7:q3x=qiw:=dW _
def qmk:=wA 2 j fun a=>wc O 20 [a] fun b=>wq (bH 0 b) fun c=>wq (bH 1 b) fun d=>q3x O i k c d
def q3w:=cst qmk
theorem qrt:q3w=qmk:=dW _
def qiv:=wA 1 i fun a=>wc O 19 [a] fun b=>wq (ib .neq b (iN 0)) fun c=>wd c (wq (ib .neq k (iN 0)) fun d=>wx (wv d) (O (.f 5) []) fun e=>wq (dK d e (.bool false)) fun f=>.ok f) (q3w O i j k)
def q3v:=cst qiv
theorem qj6:q3v=qiv:=dW _
def qmj:=wA 1 i fun a=>wc O 18 [a] fun b=>wq (bH 0 b) fun c=>wq (bH 1 b) fun d=>wN [iN 0,.aA] fun e=>wT 2 e c <| q3v O i e d
def pF:=cst qmj
theorem qrs:pF=qmj:=dW _
def qiu(O:Ev.Call)(a:pB)(b:AV):=wI b a
def qun:=cst qiu
theorem qj5:qun=qiu:=dW _
def qmi:=wd j (b (.bool false)) (qun O c i)
def q3u:=cst qmi
theorem qrr:q3u=qmi:=dW _
def qmh:=wz 0 fun a=>wo 0 0 a (dQ 1 · i) fun d=>wo 2 0 a (dQ 1 · i) fun e=>wu 1 (O (.f 17) [d]) fun f=>wu 7 (O (.f 8) [e]) fun g=>wn 4 15 a (ib .neq f g) fun h=>wy <| q3u O b c j h
def qhu:=cst qmh
theorem qrq:qhu=qmh:=dW _
def qmg:=wz 26 fun a=>wn 0 0 a (.val m) fun d=>wn 1 0 a (.val m) fun e=>wn 2 2 a (aW e) fun f=>wn 3 6 a (aQ 2 f) fun g=>wo 4 14 a (dQ 4 · g) fun h=>wn 5 0 a (aQ 1 l) fun n=>wo 6 32 a (aO · n) fun o=>wn 7 0 a (.val i) fun q=>wn 8 0 a (.val k) fun r=>wn 9 384 a (aG 2 q r) fun s=>wn 10 896 a (aQ 1 s) fun t=>wo 11 1920 a (aO · t) fun u=>wa 12 3968 a (qqv .i64 u) fun v=>wn 13 0 a (aQ 1 l) fun x=>wo 14 8192 a (aO · x) fun y=>wn 15 24576 a (aF y) fun z=>wn 16 65408 a (ib .rem v z) fun A=>wn 17 131040 a (aG 6 o A) fun B=>wn 18 262112 a (aQ 0 B) fun C=>wo 19 524256 a (aO · C) fun D=>wn 20 1048544 a (dO (dF [.int .u8 (.ofNat 0),.str 0 0,.str 0 0,.aA] [(0,1,(.int .u8 (.ofNat 2))),(1,1,D)])) fun E=>wa 21 2097150 a (tK 2 (a+21) (dF (bB [.int .u8 (.ofNat 0),.str 0 0,.str 0 0,.aA] 2) [(0,4,h),(4,4,E)])) fun F=>wn 22 4194302 a (dO (dF [.int .u8 (.ofNat 0),.str 0 0,.str 0 0,.aA] [(0,1,(.int .u8 (.ofNat 6))),(3,1,F)])) fun G=>wn 23 8388607 a (aW d) fun I=>wn 24 16777215 a (aQ 2 I) fun J=>wu 33554431 (zJ 4 · J G) fun _=>wy <| qhu O b c j k
def qum:=cst qmg
theorem qrp:qum=qmg:=dW _
def qmf:=wz 14 fun a=>wn 0 0 a (aQ 1 l) fun d=>wo 1 1 a (aO · d) fun e=>wn 2 0 a (.val i) fun f=>wn 3 0 a (.val k) fun g=>wn 4 12 a (aG 2 f g) fun h=>wn 5 28 a (aQ 0 h) fun m=>wo 6 60 a (aO · m) fun n=>wa 7 124 a (qqv .i64 n) fun o=>wn 8 0 a (aQ 1 l) fun q=>wo 9 256 a (aO · q) fun r=>wn 10 768 a (aF r) fun s=>wn 11 2044 a (ib .rem o s) fun t=>wn 12 4095 a (aG 6 e t) fun u=>wn 13 8191 a (.val u) fun v=>wy <| qum O b c i j k l v
def qul:=cst qmf
theorem qro:qul=qmf:=dW _
def qit:=wd m (qun O b k) (qul O c b i j k l)
def q3s:=cst qit
theorem qj4:q3s=qit:=dW _
def qme:=wF 1 l fun a=>wq (aF a) fun d=>wq (ib .eql d (iN 0)) fun e=>q3s O b c i j k l e
def q3q:=cst qme
theorem qrn:q3q=qme:=dW _
def qiz:=wz 18 fun a=>wn 0 0 a (aQ 0 j) fun d=>wo 1 1 a (aO · d) fun e=>wn 2 0 a (.val i) fun f=>wn 3 0 a (.val k) fun g=>wn 4 12 a (aG 2 f g) fun h=>wn 5 28 a (aQ 0 h) fun l=>wo 6 60 a (aO · l) fun m=>wa 7 124 a (qqv .i64 m) fun n=>wn 8 252 a (ib .quo n (iN 4)) fun o=>wn 9 508 a (ib .add (iN 1) o) fun q=>wn 10 0 a (aQ 0 j) fun r=>wo 11 1024 a (aO · r) fun s=>wn 12 3072 a (aF s) fun t=>wn 13 8188 a (ib .rem q t) fun u=>wn 14 16383 a (aG 2 e u) fun v=>wo 15 32767 a (dQ 2 · v) fun x=>wa 16 0 a (.new (.ptr (a+16) 0) (aB 0 [.str 0 0,.aA])) fun y=>wu 131071 (zJ 2 · y x) fun _=>wy <| q3q O b c i j k y
def qml:=cst qiz
theorem qnp:qml=qiz:=dW _
def qf2:=wd l (qml O b c i j k) (d)
def qur:=cst qf2
theorem qhv:qur=qf2:=dW _
def q3y:=wq (aF i) fun a=>wq (ib .lss A a) fun c=>qur O x b d i j A c
def qbv:=gD (q3y O b d i j)
def q30:=qbv O b d i j dD
def qiy:=q30 O .ok (pF O j) i j (iN 0)
def quq:=cst qiy
theorem qno:quq=qiy:=dW _
def qix:=wA 1 j fun a=>wc O 6 [a] fun b=>wN [.aA] fun c=>wT 1 c b <| quq O i c
def qup:=cst qix
theorem qnn:qup=qix:=dW _
def zyy:=wB 1 i fun a=>wq (aF j) fun b=>wq (ib .gtr b (iN 6)) fun c=>wd c (wc O 5 [] fun d=>.ok d) (qup O j a)
def zFz:=zyy O i j
def q5u(O:Ev.Call)(a b:AV):=wA 1 b fun c=>wT 1 a c <| fun H=>fM (rV (dQ 1 H a)) H
def qsf:=cst q5u
theorem qyw:qsf=q5u:=dW _
def qwi(O:Ev.Call)(a:pB)(b:AV):=wI b a
def qom:=cst qwi
theorem qsm:qom=qwi:=dW _
def qmr(O:Ev.Call)(a:pB)(b:AV):=wI b a
def q5w:=cst qmr
theorem qkn:q5w=qmr:=dW _
def qwh:=wq ((kX .not).f k) fun a=>wd a (wq (aG 6 i j) fun c=>wq (aQ 1 c) fun d=>wU d (.aA) <| q5w O b j) (q5w O b j)
def q5v:=cst qwh
theorem qsl:q5v=qwh:=dW _
def qmq(O:Ev.Call)(a:AV->pB)(b c:AV):=wI c fun d=>a b d
def zjk:=cst qmq
theorem qkm:zjk=qmq:=dW _
def qwg:=wz 0 fun b=>wn 0 0 b (.val k) fun c=>wn 1 1 b (.val c) fun d=>wr 2 3 b (.val i) (bF false d) fun e=>wr 3 3 b (.val l) (bF false d) fun f=>wr 4 15 b (aG 6 e f) (bF false d) fun g=>wr 5 31 b (aQ 2 g) (bF false d) fun h=>ws 6 63 b (dQ 4 · h) (bF false d) fun m=>wr 7 3 b (.val i) (bF false d) fun n=>wr 8 3 b (.val j) (bF false d) fun o=>wr 9 387 b (aG 6 n o) (bF false d) fun q=>wr 10 899 b (aQ 0 q) (bF false d) fun r=>ws 11 1923 b (aO · r) (bF false d) fun s=>wt 4095 (O (.f 30) [m,(.int .u8 (.ofNat 3)),s]) (bF false d) fun t=>wn 13 8191 b (dK d (.bool true) t) fun u=>wn 14 16383 b (.val u) fun v=>wy <| zjk O a v l
def zjj:=cst qwg
theorem qsk:zjj=qwg:=dW _
def qwa:=wd m (zjj O a i j k l) (b k)
def zjf:=cst qwa
theorem qsd:zjf=qwa:=dW _
def q5y:=wq (aF i) fun a=>wq (ib .lss B a) fun c=>zjf O y b i j A B c
def qoj:=nY (q5y O b i j)
def zjo:=qoj O b i j dD
def qv9:=zjo O (q5v O b i j) i j k (iN 0)
def zje:=cst qv9
theorem qsc:zje=qv9:=dW _
def qwf:=wq (aG 6 i j) fun a=>wq (aQ 2 a) fun c=>wA 4 c fun d=>wc O 30 [d,(.int .u8 (.ofNat 1)),(.str 0 0)] fun e=>zje O b i j e
def zji:=cst qwf
theorem qsj:zji=qwf:=dW _
def qv8:=wd k (zji O b i j) (d)
def zjd:=cst qv8
theorem qsb:zjd=qv8:=dW _
def q50:=wq (aF i) fun a=>wq (ib .lss A a) fun b=>zjd O x d i A b
def qok:=gD (q50 O d i)
def zjq:=qok O d i dD
def qv7:=zjq O (qom O b i) j (iN 0)
def zjc:=cst qv7
theorem qsa:zjc=qv7:=dW _
def qwe:=wF 0 i fun a=>wq (aG 2 a j) fun c=>wF 1 c fun d=>zjc O b j d
def zjh:=cst qwe
theorem qsi:zjh=qwe:=dW _
def qv6:=wd k (zjh O b i j) (d)
def zjb:=cst qv6
theorem qr9:zjb=qv6:=dW _
def q51:=wF 0 i fun a=>wq (aF a) fun b=>wq (ib .lss A b) fun c=>zjb O x d i A c
def qkk:=gD (q51 O d i)
def zjr:=qkk O d i dD
def qwd:=zjr O (qsf O i j) j (iN 1)
def qol:=cst qwd
theorem qsh:qol=qwd:=dW _
def qwc(O:Ev.Call)(a:pB)(b:AV):=wI b a
def zjg:=cst qwc
theorem qsg:zjg=qwc:=dW _
def qv5(a:pB)(b c d e:AV)(H:Hp):R1:=dz 17 H fun f H=>dn 0 0 f H [] [] (.val e) fun g H p w=>dn 1 0 f H p w (.val e) fun h H p w=>dn 2 2 f H p w (aW h) fun i H p w=>dn 3 6 f H p w (aQ 1 i) fun j H p w=>dl 4 14 f H p w (fun H=>aO H j) fun k H p w=>dn 5 0 f H p w (.val c) fun l H p w=>dl 7 0 f H p w (fun H=>dQ 1 H b) fun m H p w=>dn 8 0 f H p w (.val c) fun n H p w=>dl 10 0 f H p w (fun H=>dQ 4 H d) fun o H p w=>de 32 H p w (O (.f 28) [l] (eU 32 p H)) (some true) fun q H p w=>de 480 H p w (O (.f 29) [m,n] (eU 480 p H)) (some true) fun r H p w=>dn 11 2016 f H p w (dO (dF [.str 0 0,.aA,.int .u8 (.ofNat 0),.str 0 0,.str 0 0,.aA] [(0,1,q),(1,1,r),(2,4,o)])) fun s H p w=>da 12 4064 f H p w (tK 1 (f+12) (dF (bB [.str 0 0,.aA,.int .u8 (.ofNat 0),.str 0 0,.str 0 0,.aA] 1) [(0,6,s)])) fun t H p w=>de 8190 H p w (lI 6 104 (eU 8190 p H) k (qA 6 (eU 8190 p H) t)) (some true) fun u H p w=>dn 14 16383 f H p w (aW g) fun v H p w=>dn 15 32767 f H p w (aQ 1 v) fun x H p w=>de 65535 H p w (jX (eU 65535 p H) x u) (some true) fun _ H p w=>dz2 p H fun H=>zjg O a c H
def zja:=cst qv5
theorem qr8:zja=qv5:=dW _
def qv4:=wF 0 j fun a=>wq (ib .quo k (iN 4)) fun c=>wq (ib .add (iN 1) c) fun d=>wq (aG 2 a d) fun e=>zja O b i k l e
def zi9:=cst qv4
theorem qr7:zi9=qv4:=dW _
def qwb:=wA 1 i fun a=>wc O 27 [a,k,(iN 2),(iN 1),(.bool false)] fun c=>wq (bH 0 c) fun d=>wq (bH 1 c) fun e=>wN [.int .u8 (.ofNat 0),.str 0 0,.str 0 0,.aA] fun f=>wT 4 f d <| zi9 O b i j k f
def qkl:=cst qwb
theorem qse:qkl=qwb:=dW _
def qi1:=wq (ib .rem k (iN 4)) fun a=>wq (ib .eql a (iN 0)) fun c=>wd c (fun H=>dz 10 H fun d H =>   dn 0 0 d H [] [] (aQ 0 j) fun e H p w =>   dl 1 1 d H p w (fun H=>aO H e) fun f H p w =>   dn 2 0 d H p w (.val k) fun g H p w =>   dn 3 4 d H p w (ib .quo g (iN 4)) fun h H p w =>   de 12 H p w (O (.f 26) [h] (eU 12 p H)) (some true) fun l H p w =>   dn 5 28 d H p w (dO (dF [.str 0 0,.aA] [(0,1,l)])) fun m H p w =>   da 6 60 d H p w (tK 1 (d+6) (dF (bB [.str 0 0,.aA] 1) [(0,2,m)])) fun n H p w =>   de 127 H p w (lI 2 40 (eU 127 p H) f (qA 2 (eU 127 p H) n)) (some true) fun o H p w =>   dn 8 255 d H p w (aQ 0 j) fun q H p w =>   de 511 H p w (jX (eU 511 p H) q o) (some true) fun _ H p w =>   dz2 p H fun H =>   qkl O b i j k H) (qkl O b i j k)
def qwj:=cst qi1
theorem qh1:qwj=qi1:=dW _
def qoh:=wd l (qwj O b i j k) (d)
def q83:=cst qoh
theorem qoi:q83=qoh:=dW _
def q5x:=wA 1 i fun a=>wc O 25 [a] fun b=>wq (ib .lss A b) fun c=>q83 O x d i j A c
def qkj:=gD (q5x O d i j)
def zjn:=qkj O d i j dD
def qof:=zjn O (qol O j k) i k (iN 0)
def q82:=cst qof
theorem qog:q82=qof:=dW _
def z0x:=wB 1 i fun a=>wN [.aA] fun b=>wq (dO (dF [.str 0 0,.aA] [(0,1,(.str 4 1919251317))])) fun c=>wQ 1 (dF (bB [.str 0 0,.aA] 1) [(0,2,c)]) fun d=>wq (dO (dF [.aA] [(0,1,d)])) fun e=>wN [.aA] fun f=>wT 1 f e <| q82 O a b f
def zAc:=z0x O i
def zez(O:Ev.Call):pD:=.ok (iN 0)
def q3p:=wA 1 i fun a=>wc O 10 [a] fun b=>wc O 9 [b] fun c=>wq (bH 0 c) fun d=>wq (bH 1 c) fun e=>wq ((kX .not).f e) fun f=>wd f (.ok (iN 12)) (zez O)
def zyx:=wB 1 i fun a=>wA 1 a fun b=>wc O 19 [b] fun c=>wq (ib .neq c (iN 0)) fun d=>wd d (.ok c) (q3p O a)
def zGa:=zyx O i
def qyv(O:Ev.Call)(a:AV):pD:=.ok a
def z0w:=wB 1 i fun a=>wA 1 a fun b=>wc O 18 [b] fun c=>wq (bH 0 c) fun d=>wq (bH 1 c) fun e=>wN [iN 0,.aA] fun f=>wT 2 f d <| wq (ib .eql e (iN 0)) fun g=>wd g (wA 2 f fun h=>wc O 23 [h] fun j=>wq (bH 0 j) fun k=>wq (bH 1 j) fun l=>qyv O l) (qyv O e)
def zAe:=z0w O i
def qn9:=wF 1 j fun a=>wc O 44 [a] fun b=>wq (aQ 1 j) fun c=>wU c b <| wA 2 j fun d=>wT 2 i d <| fun H=>fM (kW (kP (rV (dQ 2 H i)) (kP (some (iN 0)) (some [])))) H
def qvr(O:Ev.Call)(a:pB)(b:AV):=wI b a
def q5g(O:Ev.Call)(a:pB)(b:AV):=wI b a
def qhy(O:Ev.Call)(a:pB)(b:AV):=wI b a
def qvq(O:Ev.Call)(a:pB)(b:AV):=wI b a
def zh8:=wq (aG 2 j k) fun a=>wA 2 a fun c=>wN [.str 0 0,.str 0 0] fun d=>wT 2 d c <| wF 1 d fun e=>wq (gX (nT .neq).f e (.str 0 0)) fun f=>wd f (wF 0 d fun g=>wF 1 d fun h=>we (vP O i [g,h]) fun l=>qvq O b k) (qvq O b k)
def q5i:=wq (ib .lss A k) fun a=>wd a (zh8 O x i j A) (d)
def qvp:=gD (q5i O d i j k)
def zia:=qvp O d i j k dD
def zh7(O:Ev.Call)(a:pB)(b:AV):=wI b a
def q8s:=wq (aG 1 k l) fun a=>w1 a fun c=>wF 2 i fun d=>we (vP O j [c,d]) fun e=>zh7 O b l
def q5h:=wq (ib .lss A l) fun a=>wd a (q8s O x i j k A) (d)
def qvo:=gD (q5h O d i j k l)
def zh9:=qvo O d i j k l dD
def q8q:=wq (aG 5 n o) fun a=>wA 5 a fun c=>wN [.int .u8 (.ofNat 0),.str 0 0,.str 0 0,.aA,.bool false] fun d=>wT 5 d c <| wF 0 d fun e=>wq (ib .eql e (.int .u8 (.ofNat 1))) fun f=>wd f (wF 1 m fun g=>wq (aF g) fun h=>zia O (qhy O b o) (.fn 42 [] [k,j,l,m,d]) g h (iN 0)) (wq (ib .eql e (.int .u8 (.ofNat 2))) fun q=>wd q (wF 0 l fun r=>wF 1 d fun s=>we (vP O (.fn 42 [] [k,j,l,m,d]) [r,s]) fun t=>qhy O b o) (wq (ib .eql e (.int .u8 (.ofNat 3))) fun u=>wd u (wA 1 i fun v=>wF 0 l fun x=>wF 1 d fun y=>wF 2 d fun z=>wc O 43 [v,x,y,z] fun A=>wq (bH 0 A) fun B=>wq (bH 1 A) fun C=>wq (aF B) fun D=>zh9 O (qhy O b o) d (.fn 42 [] [k,j,l,m,d]) B D (iN 0)) (qhy O b o)))
def q5j:=wq (ib .lss A o) fun a=>wd a (q8q O x i j k l m n A) (d)
def qkg:=gD (q5j O d i j k l m n o)
def zib:=qkg O d i j k l m n o dD
def q8p:=wq (aG 6 m n) fun a=>wA 6 a fun c=>wN [.str 0 0,.aA,.int .u8 (.ofNat 0),.str 0 0,.str 0 0,.aA] fun d=>wT 6 d c <| wq (aQ 2 d) fun e=>wA 4 e fun f=>wc O 41 [f] fun g=>wq (bH 0 g) fun h=>wq (bH 1 g) fun o=>wq (aF h) fun q=>zib O (q5g O b n) i j k l d h q (iN 0)
def q5k:=wq (ib .lss A n) fun a=>wd a (q8p O x i j k l m A) (d)
def qn8:=gD (q5k O d i j k l m n)
def zic:=qn8 O d i j k l m n dD
def q8o:=wq (aG 2 l m) fun a=>wA 2 a fun c=>wN [.str 0 0,.aA] fun d=>wT 2 d c <| wF 1 d fun e=>wq (aF e) fun f=>zic O (qvr O b m) i j k d e f (iN 0)
def q5l:=wq (ib .lss A m) fun a=>wd a (q8o O x i j k l A) (d)
def qkh:=gD (q5l O d i j k l m)
def zid:=qkh O d i j k l m dD
def qmo:=w1 k fun a=>wh (aAy · a) fun b=>wq (dO (dF [iN 0,.aA] [(0,1,b)])) fun c=>wN [iN 0,.aA] fun d=>wT 2 d c <| wF 0 i fun e=>wq (aF e) fun f=>zid O (qn9 O j d) i k d e f (iN 0)
def qvs(O:Ev.Call)(a:pB)(b:AV):=wI b a
def q8n(O:Ev.Call)(a:pB)(b:AV):=wI b a
def q8m:=wq (aG 6 k l) fun a=>wA 6 a fun c=>wN [.str 0 0,.aA,.int .u8 (.ofNat 0),.str 0 0,.str 0 0,.aA] fun d=>wT 6 d c <| w1 i fun e=>wF 0 j fun f=>wF 0 d fun g=>wq (dO (dF [.str 0 0,.str 0 0] [(0,1,f),(1,1,g)])) fun h=>w1 i fun m=>wh (aAy · m) fun n=>we (qW ⟨(⟨l8 fun o q=>zX p1 ⟨iE⟩ 1 o q 2 0⟩:E2).f,some 2⟩ · e h n) fun _=>q8n O b l
def qvt:=wq (ib .lss A l) fun a=>wd a (q8m O x i j k A) (d)
def qmn:=gD (qvt O d i j k l)
def q8t:=qmn O d i j k l dD
def q8l:=wq (aG 2 j k) fun a=>wA 2 a fun c=>wN [.str 0 0,.aA] fun d=>wT 2 d c <| wF 1 d fun e=>wq (aF e) fun f=>q8t O (qvs O b k) i d e f (iN 0)
def qvu:=wq (ib .lss A k) fun a=>wd a (q8l O x i j A) (d)
def qi0:=gD (qvu O d i j k)
def q8u:=qi0 O d i j k dD
def q8k:=wh (fun H=>.new (.map H.nx) (.map [] 0)) fun a=>wN [.dR] fun b=>wU b a <| wF 0 i fun c=>wq (aF c) fun d=>q8u O (qmo O i j b) b c d (iN 0)
def zru:=wB 1 i fun a=>wN [iN 0,.aA] fun b=>wA 1 a fun c=>wc O 40 [c] fun d=>wq (ib .neq d (iN 0)) fun e=>wd e (wq (dO (dF [iN 0,.aA] [])) fun f=>wT 2 b f <| fun H=>fM (kW (kP (rV (dQ 2 H b)) (kP (some d) (some [])))) H) (q8k O a b)
def zAt:=zru O i
def qhh(O:Ev.Call):pD:=.ok (iN 0)
def qnm(O:Ev.Call)(a:pB)(b:AV):=wI b a
def zeu(O:Ev.Call)(a:pB)(b:AV):=wI b a
def q3m:=wz 0 fun a=>wo 0 0 a (dQ 1 · i) fun d=>wn 1 0 a (aQ 0 i) fun e=>wo 2 2 a (aO · e) fun f=>wn 3 0 a (.val j) fun g=>wn 4 14 a (aG 2 f g) fun h=>wo 5 30 a (dQ 2 · h) fun l=>wn 6 0 a (.val k) fun m=>wu 127 (O (.f 47) [d,l,m]) fun n=>wn 8 255 a (.val n) fun o=>wy <| wq (ib .neq o (iN 0)) fun q=>wd q (b o) (zeu O c k)
def zev:=wF 0 i fun a=>wq (aG 2 a j) fun c=>wF 1 c fun e=>wq (aF e) fun f=>wq (ib .lss A f) fun g=>wd g (q3m O b x i j A) (d)
def qrm:=gD (zev O b d i j)
def zex:=qrm O b d i j dD
def q3l:=zex O b (qnm O c j) i j (iN 0)
def zew:=wF 0 i fun a=>wq (aF a) fun c=>wq (ib .lss A c) fun e=>wd e (q3l O b x i A) (d)
def qhg:=gD (zew O b d i)
def zey:=qhg O b d i dD
def qht:=zey O .ok (qhh O) i (iN 0)
def q3k(O:Ev.Call)(a:pB)(b:AV):=wI b a
def q3j:=wz 0 fun a=>wo 0 0 a (dQ 1 · i) fun d=>wn 1 0 a (aQ 0 i) fun e=>wo 2 2 a (aO · e) fun f=>wn 3 0 a (.val j) fun g=>wn 4 14 a (aG 2 f g) fun h=>wn 5 30 a (aQ 0 h) fun k=>wo 6 62 a (aO · k) fun l=>wn 8 0 a (.val j) fun m=>wu 127 (O (.f 46) [d,l]) fun n=>wn 9 511 a (ib .lss n m) fun o=>wy <| wd o (b (iN 7)) (q3k O c j)
def q3n:=wF 0 i fun a=>wq (aF a) fun c=>wq (ib .lss A c) fun e=>wd e (q3j O b x i A) (d)
def qj3:=gD (q3n O b d i)
def q3o:=qj3 O b d i dD
def q3i:=q3o O .ok (qht O i) i (iN 0)
def zyw:=wB 1 i fun a=>wA 1 a fun b=>wc O 45 [b] fun c=>wq (ib .neq c (iN 0)) fun d=>wd d (.ok c) (q3i O a)
def zGb:=zyw O i
def q3h:=wF 1 i fun a=>wq (aG 3 a j) fun b=>wA 3 b fun c=>wN [iN 0,iN 0,.bool false] fun d=>wT 3 d c <| wA 2 i fun e=>wF 1 d fun f=>wF 0 d fun g=>wc O 51 [e,f,g] fun h=>wq (bH 0 h) fun k=>wq (bH 1 h) fun l=>fun H=>dz 12 H fun m H=>dn 0 0 m H [] [] (aQ 0 d) fun n H p w=>dl 1 1 m H p w (fun H=>aO H n) fun o H p w=>da 2 3 m H p w (tK 1 (m+2) (dF (bB [iN 0] 1) [(0,1,o)])) fun q H p w=>dn 3 0 m H p w (.val k) fun r H p w=>dn 4 0 m H p w (.val k) fun s H p w=>dn 5 16 m H p w (aF s) fun t H p w=>dn 6 48 m H p w (ib .sub t (iN 1)) fun u H p w=>dn 7 120 m H p w (kL 1 r none (some u) none) fun v H p w=>de 255 H p w (lI 1 8 (eU 255 p H) q (qA 1 (eU 255 p H) v)) (some true) fun x H p w=>de 511 H p w (O (.f 39) [x] (eU 511 p H)) (some true) fun y H p w=>dn 10 1023 m H p w (.val y) fun z H p w=>dn 11 2047 m H p w (.val (iN 0)) fun A H p w=>dz2 p H fun H=>.ok (.aX [z,A]) H
def q3g:=wF 1 i fun a=>wc O 49 [a,(.fn 50 [] [j])] fun b=>wq (ib .lss b (iN 0)) fun c=>wd c (.ok (.aX [(.aA),(iN 8)])) (q3h O i b)
def zyv:=wB 2 i fun a=>wA 2 a fun b=>wc O 48 [b] fun c=>wq (bH 0 c) fun d=>wq (bH 1 c) fun e=>wN [.aA,.aA] fun f=>wT 2 f d <| wq (ib .neq e (iN 0)) fun g=>wd g (.ok (.aX [(.aA),e])) (q3g O a f)
def zGc:=zyv O i
def z0r(O:Ev.Call)(a:AV):=wB 1 a fun b=>wF 0 b fun c=>wq (aF c) fun d=>wq (pK nN d [(iN 12)]) fun e=>.ok e
def zAn:=z0r O i
def z0q(O:Ev.Call)(a:AV):=wQ 3 (dF (bB [.str 0 0] 3) [(0,1,(.str 1 97)),(1,1,(.str 1 98)),(2,1,(.str 1 99))]) fun b=>wq (ib .rem a (iN 3)) fun c=>wq (aG 1 b c) fun d=>w1 d fun e=>.ok e
def zAo:=z0q O i
def qhz:=wA 1 m fun a=>wI k fun b=>wc O 27 [a,i,j,b,l] fun c=>wq (bH 0 c) fun d=>wq (bH 1 c) fun e=>wN [.int .u8 (.ofNat 0),.str 0 0,.str 0 0,.aA] fun f=>wT 4 f d <| wA 1 m fun g=>wI k fun h=>wg (bF false l) (.val o) fun q=>wg (bF false l) (ib .eql q (.int .u8 (.ofNat 6))) fun r=>wq (dK l (.bool true) r) fun s=>wc O 27 [g,i,e,h,s] fun t=>wq (bH 0 t) fun u=>wq (bH 1 t) fun v=>wN [.int .u8 (.ofNat 0),.str 0 0,.str 0 0,.aA] fun x=>wT 4 x u <| wA 4 f fun y=>wA 4 x fun z=>wQ 2 (dF (bB [.int .u8 (.ofNat 0),.str 0 0,.str 0 0,.aA] 2) [(0,4,y),(4,4,z)]) fun A=>wq (dO (dF [.int .u8 (.ofNat 0),.str 0 0,.str 0 0,.aA] [(0,1,o),(3,1,A)])) fun B=>wT 4 n B <| fun H=>fM (kW (kP (rV (dQ 4 H n)) (kP (some v) (some [])))) H
def qfc:=wd s (wA 1 m fun a=>wq (ib .quo o (.int .u8 (.ofNat 8))) fun b=>wc O 57 [a,i,b,l] fun c=>wT 4 n c <| fun H=>fM (kW (kP (rV (dQ 4 H n)) (kP (some j) (some [])))) H) (wq (ib .eql r (.int .u8 (.ofNat 4))) fun d=>wd d (wA 1 m fun e=>wq (ib .quo o (.int .u8 (.ofNat 8))) fun f=>wc O 58 [e,i,f,l] fun g=>wT 4 n g <| fun H=>fM (kW (kP (rV (dQ 4 H n)) (kP (some j) (some [])))) H) (wq (ib .eql r (.int .u8 (.ofNat 6))) fun h=>wd h (qhz O i j k l m n (.int .u8 (.ofNat 5))) (wq (ib .eql r (.int .u8 (.ofNat 7))) fun t=>wd t (wc O 59 [i] fun u=>wq (ib .gtr u (iN 0)) fun v=>wd v (qhz O i j k l m n (.int .u8 (.ofNat 6))) (qhz O i j k l m n q)) (qhz O i j k l m n q))))
def qd6:=wd s (wc O 56 [l] fun a=>wT 4 n a <| fun H=>fM (kW (kP (rV (dQ 4 H n)) (kP (some j) (some [])))) H) (wq (ib .eql r (.int .u8 (.ofNat 2))) fun b=>wd b (qfc O i j k l m n o q r b) (wq (ib .eql r (.int .u8 (.ofNat 3))) fun c=>qfc O i j k l m n o q r c))
def zim:=wF 0 m fun a=>wq (aG 1 a i) fun b=>w1 b fun c=>wq (aG 1 c j) fun d=>w1 d fun e=>wI j fun f=>wq (ib .rem e (.int .u8 (.ofNat 8))) fun g=>wq (ib .eql g (.int .u8 (.ofNat 0))) fun h=>wd h (qd6 O i f k l m n e (.int .u8 (.ofNat 4)) g h) (wq (ib .eql g (.int .u8 (.ofNat 1))) fun o=>qd6 O i f k l m n e (.int .u8 (.ofNat 4)) g o)
def zrz:=wB 1 i fun a=>wN [.int .u8 (.ofNat 0),.str 0 0,.str 0 0,.aA] fun b=>wF 0 a fun c=>wq (aG 1 c j) fun d=>w1 d fun e=>wq (aF e) fun f=>wq (ib .geq k f) fun g=>wg (bF false g) (.val k) fun h=>wg (bF false g) (ib .geq h (iN 12)) fun n=>wq (dK g (.bool true) n) fun o=>wg (bF false o) (.val l) fun q=>wg (bF false o) (ib .gtr q (iN 6)) fun r=>wq (dK o (.bool true) r) fun s=>wd s (wc O 56 [m] fun t=>wT 4 b t <| fun H=>fM (kW (kP (rV (dQ 4 H b)) (kP (some k) (some [])))) H) (zim O j k l m a b)
def zAp:=zrz O i j k l m
def z0p(O:Ev.Call)(a:AV):=wQ 4 (dF (bB [.str 0 0] 4) [(0,1,(.str 2 12402)),(1,1,(.str 2 12658)),(2,1,(.str 2 12914)),(3,1,(.str 2 13170))]) fun b=>wq (ib .rem a (iN 4)) fun c=>wq (aG 1 b c) fun d=>w1 d fun e=>.ok e
def zAq:=z0p O i
def zw1(O:Ev.Call)(a:AV):pD:=.ok a
def q5m:=wA 1 j fun a=>wc O 60 [a,i,(iN 1)] fun b=>wq (ib .quo b (.int .u8 (.ofNat 2))) fun c=>wq (qqv .i64 c) fun d=>wq (aF l) fun e=>wq (ib .rem d e) fun f=>wq (aG 2 l f) fun g=>wA 2 g fun h=>wQ 1 (dF (bB [.str 0 0,.str 0 0] 1) [(0,2,h)]) fun m=>wP 2 32 k m fun n=>zw1 O n
def qvz(O:Ev.Call)(a:AV->pB)(b c:AV):=wI c fun d=>a b d
def z0n:=wc O 59 [k] fun b=>wc O 59 [i] fun c=>wq (ib .leq b c) fun d=>wd d (wq (ib .quo k (iN 4)) fun e=>wc O 26 [e] fun f=>wc O 28 [k] fun g=>wq (dO (dF [.str 0 0,.str 0 0] [(0,1,f),(1,1,g)])) fun h=>wQ 1 (dF (bB [.str 0 0,.str 0 0] 1) [(0,2,h)]) fun l=>wP 2 32 j l fun m=>qvz O a m k) (qvz O a j k)
def q5o:=wA 1 j fun a=>wc O 25 [a] fun c=>wq (ib .lss B c) fun d=>wd d (z0n O y i A B) (b A)
def qvw:=nY (q5o O b i j)
def zil:=qvw O b i j dD
def qvy:=wA 1 j fun a=>wc O 60 [a,i,(iN 1)] fun b=>wq (ib .rem b (.int .u8 (.ofNat 2))) fun c=>wq (ib .eql c (.int .u8 (.ofNat 1))) fun d=>wd d (zil O (q5m O i j k) i j (.aA) (iN 0)) (zw1 O k)
def qvx(O:Ev.Call)(a:AV->pB)(b c:AV):=wI c fun d=>a b d
def zij:=wA 1 j fun b=>wc O 60 [b,i,(iN 0)] fun c=>wq (qzh (qi8 .shr).f c l) fun d=>wq (ib .rem d (.int .u8 (.ofNat 2))) fun e=>wq (ib .eql e (.int .u8 (.ofNat 1))) fun f=>wd f (wc O 26 [l] fun g=>wq (dO (dF [.str 0 0,.str 0 0] [(0,1,g)])) fun h=>wQ 1 (dF (bB [.str 0 0,.str 0 0] 1) [(0,2,h)]) fun m=>wP 2 32 k m fun n=>qvx O a n l) (qvx O a k l)
def q5n:=wq (ib .mul (iN 4) B) fun a=>wA 1 j fun c=>wc O 25 [c] fun d=>wq (ib .lss a d) fun e=>wg (wv e) (.val B) fun f=>wg (wv e) (ib .lss f (iN 3)) fun g=>wq (dK e g (.bool false)) fun h=>wd h (zij O y i j A B) (b A)
def qvv:=nY (q5n O b i j)
def zik:=qvv O b i j dD
def z0o:=wB 1 i fun a=>wq (dO (dF [.str 0 0,.str 0 0] [(0,1,(.str 4 1919251317))])) fun b=>wQ 1 (dF (bB [.str 0 0,.str 0 0] 1) [(0,2,b)]) fun c=>zik O (qvy O j a) j a c (iN 0)
def zAr:=z0o O i j
def zif(O:Ev.Call):pD:=.ok (.bool false)
def zie(O:Ev.Call)(a:pB)(b:AV):=wI b a
def zih:=wq (aG 5 k l) fun a=>wF 0 a fun d=>wq (ib .eql d i) fun e=>wg (wv e) (.val k) fun f=>wg (wv e) (.val l) fun g=>wg (wv e) (aG 5 f g) fun h=>wg (wv e) (aQ 1 h) fun m=>wG (wv e) (aO · m) fun n=>wg (wv e) (.val j) fun o=>wg (wv e) (gX (nT .eql).f n o) fun q=>wq (dK e q (.bool false)) fun r=>wd r (b (.bool true)) (zie O c l)
def zii:=wq (aF k) fun a=>wq (ib .lss A a) fun c=>wd c (zih O b x i j k A) (d)
def q8v:=gD (zii O b d i j k)
def zw0:=q8v O b d i j k dD
def z0m:=wB 4 i fun a=>wA 4 a fun b=>wc O 35 [(.aA),b,(.bool false)] fun c=>zw0 O .ok (zif O) j k c (iN 0)
def zAs:=z0m O i j k
def qv2(O:Ev.Call)(a b:AV):=wA 2 b fun c=>wT 2 a c <| fun H=>fM (rV (dQ 2 H a)) H
def q5p(O:Ev.Call)(a:pB)(b:AV):=wI b a
def qh0(O:Ev.Call)(a:pB)(b:AV):=wI b a
def qv1(O:Ev.Call)(a:pB)(b:AV):=wI b a
def zi5:=wF 1 l fun a=>wq (aG 2 a o) fun c=>wF 1 c fun d=>wq (gX (nT .neq).f d (.str 0 0)) fun e=>wd e (wz 0 fun f=>wo 0 0 f (dQ 2 · j) fun g=>wn 1 0 f (.val k) fun h=>wo 2 0 f (dQ 1 · i) fun q=>wn 3 0 f (aQ 1 l) fun r=>wo 4 8 f (aO · r) fun s=>wn 5 0 f (.val o) fun t=>wn 6 56 f (aG 2 s t) fun u=>wn 7 120 f (aQ 0 u) fun v=>wo 8 248 f (aO · v) fun x=>wn 9 0 f (aQ 1 l) fun y=>wo 10 512 f (aO · y) fun z=>wn 11 0 f (.val o) fun A=>wn 12 3584 f (aG 2 z A) fun B=>wn 13 7680 f (aQ 1 B) fun C=>wo 14 15872 f (aO · C) fun D=>wn 16 0 f (.val m) fun E=>wn 17 0 f (.val n) fun F=>wn 18 196608 f (aG 5 E F) fun G=>wn 19 458752 f (aQ 4 G) fun I=>wo 20 983040 f (aO · I) fun J=>wu 32764 (O (.f 16) [q,x,D]) fun K=>wu 2097151 (O (.f 36) [g,h,K,J]) fun L=>wy <| qv1 O b o) (qv1 O b o)
def q5q:=wF 1 l fun a=>wq (aF a) fun b=>wq (ib .lss A b) fun c=>wd c (zi5 O x i j k l m n A) (d)
def qv0:=gD (q5q O d i j k l m n)
def zi6:=qv0 O d i j k l m n dD
def q80(O:Ev.Call)(a:pB)(b:AV):=wI b a
def q8z:=wz 0 fun a=>wo 0 0 a (dQ 2 · j) fun c=>wn 1 0 a (.val k) fun d=>wo 2 0 a (dQ 1 · i) fun e=>wn 3 0 a (.val n) fun f=>wn 4 0 a (.val o) fun g=>wn 5 24 a (aG 1 f g) fun h=>wo 6 56 a (aO · h) fun q=>wn 7 0 a (.val l) fun r=>wn 8 0 a (.val m) fun s=>wn 9 384 a (aG 5 r s) fun t=>wn 10 896 a (aQ 2 t) fun u=>wo 11 1920 a (aO · u) fun v=>wn 13 0 a (.val l) fun x=>wn 14 0 a (.val m) fun y=>wn 15 24576 a (aG 5 x y) fun z=>wn 16 57344 a (aQ 4 z) fun A=>wo 17 122880 a (aO · A) fun B=>wu 4092 (O (.f 16) [e,q,v]) fun C=>wu 262143 (O (.f 36) [c,d,C,B]) fun D=>wy <| q80 O b o
def qv3:=wq (aF n) fun a=>wq (ib .lss A a) fun b=>wd b (q8z O x i j k l m n A) (d)
def qmp:=gD (qv3 O d i j k l m n)
def q81:=qmp O d i j k l m n dD
def q8y:=wq (aG 5 n o) fun a=>wF 0 a fun c=>wq (ib .eql c (.int .u8 (.ofNat 1))) fun d=>wd d (zi6 O (qh0 O b o) i k l m n o (iN 0)) (wq (ib .eql c (.int .u8 (.ofNat 2))) fun e=>wd e (wz 0 fun f=>wo 0 0 f (dQ 2 · k) fun g=>wn 1 0 f (.val l) fun h=>wo 2 0 f (dQ 1 · i) fun q=>wn 3 0 f (.val j) fun r=>wn 4 0 f (.val l) fun s=>wn 5 24 f (aG 2 r s) fun t=>wn 6 56 f (aQ 0 t) fun u=>wo 7 120 f (aO · u) fun v=>wn 8 0 f (.val n) fun x=>wn 9 0 f (.val o) fun y=>wn 10 768 f (aG 5 x y) fun z=>wn 11 1792 f (aQ 1 z) fun A=>wo 12 3840 f (aO · A) fun B=>wn 14 0 f (.val n) fun C=>wn 15 0 f (.val o) fun D=>wn 16 49152 f (aG 5 C D) fun E=>wn 17 114688 f (aQ 4 E) fun F=>wo 18 245760 f (aO · F) fun G=>wu 8188 (O (.f 16) [q,v,B]) fun I=>wu 524287 (O (.f 36) [g,h,I,G]) fun J=>wy <| qh0 O b o) (wq (ib .eql c (.int .u8 (.ofNat 3))) fun K=>wd K (wz 0 fun L=>wo 0 0 L (dQ 1 · i) fun M=>wn 1 0 L (.val j) fun N=>wn 2 0 L (.val l) fun P=>wn 3 6 L (aG 2 N P) fun Q=>wn 4 14 L (aQ 0 Q) fun R=>wo 5 30 L (aO · R) fun S=>wn 6 0 L (.val n) fun T=>wn 7 0 L (.val o) fun U=>wn 8 192 L (aG 5 T U) fun V=>wn 9 448 L (aQ 1 V) fun W=>wo 10 960 L (aO · W) fun X=>wn 11 0 L (.val n) fun Y=>wn 12 0 L (.val o) fun Z=>wn 13 6144 L (aG 5 Y Z) fun a117=>wn 14 14336 L (aQ 2 a117) fun yC=>wo 15 30720 L (aO · yC) fun a119=>wu 65535 (O (.f 37) [M,S,X,a119]) fun aBz=>wn 17 131071 L (.val aBz) fun yA=>wy <| q81 O (qh0 O b o) i k l n o yA (iN 0)) (qh0 O b o)))
def q5s:=wq (aF n) fun a=>wq (ib .lss A a) fun b=>wd b (q8y O x i j k l m n A) (d)
def qki:=gD (q5s O d i j k l m n)
def zi7:=qki O d i j k l m n dD
def q8x:=wz 18 fun a=>wo 0 0 a (dQ 1 · i) fun c=>wn 1 0 a (.val j) fun d=>wn 2 0 a (.val l) fun e=>wn 3 6 a (aG 2 d e) fun f=>wn 4 14 a (aQ 0 f) fun g=>wo 5 30 a (aO · g) fun h=>wn 6 0 a (.val j) fun m=>wn 7 0 a (.val l) fun n=>wn 8 192 a (aG 2 m n) fun o=>wn 9 448 a (aQ 1 o) fun q=>wo 10 960 a (aO · q) fun r=>wa 15 0 a (.new (.ptr (a+15) 0) (aB 0 [.str 0 0,.aA,.int .u8 (.ofNat 0),.str 0 0,.str 0 0,.aA])) fun s=>wu 2047 (O (.f 34) [c,h,r]) fun t=>wn 12 4095 a (.val t) fun u=>wn 13 8191 a (bH 0 u) fun v=>wn 14 8191 a (bH 1 u) fun x=>wu 49151 (zJ 6 · s v) fun _=>wn 17 131071 a (.val x) fun y=>wy <| wq (aQ 2 s) fun z=>wA 4 z fun A=>wc O 35 [(.aA),A,(.bool false)] fun B=>zi7 O (q5p O b l) i j k l s B (iN 0)
def q5t:=wq (aF j) fun a=>wq (ib .lss A a) fun b=>wd b (q8x O x i j k A) (d)
def qoe:=gD (q5t O d i j k)
def zi8:=qoe O d i j k dD
def z0v:=wB 1 i fun a=>wN [iN 0,.aA] fun b=>wA 1 a fun c=>wc O 11 [c] fun d=>wq (aF d) fun e=>wc O 33 [e] fun f=>wN [iN 0,.aA] fun g=>wT 2 g f <| zi8 O (qv2 O b g) a d g (iN 0)
def zAf:=z0v O i
def qyt(O:Ev.Call)(a:AV):pD:=.ok (.aX [a,(.bool true)])
def ziy(O:Ev.Call)(a:AV->pB)(b c:AV):=wI c fun d=>a b d
def zi2(O:Ev.Call)(a:AV->pB)(b c:AV):=wI c fun d=>a b d
def qod:=wl (aG 1 j l) fun b=>wL (aO · b) fun c=>wl (aQ 0 i) fun d=>wL (aO · d) fun e=>wl (ib .gtr c e) fun f=>wd f (a (.aA) (.bool false)) (zi2 O g k m)
def qoc:=wq (aG 1 j l) fun b=>w1 b fun c=>wq (ib .lss c n) fun d=>wd d (wq (aG 1 j l) fun e=>wU e n <| qod O a g i j (.bool true) l m) (qod O a g i j k l m)
def qob:=wF 1 i fun b=>wF 0 i fun c=>wq (ib .mul l c) fun d=>wq (ib .add d m) fun e=>wq (aG 1 b e) fun f=>w1 f fun h=>wq (ib .gtr h (iN 1)) fun o=>wd o (wq (aG 1 j m) fun q=>w1 q fun r=>wI r fun s=>qoc O a g i j k l m s) (qoc O a g i j k l m n)
def zi1:=wF 1 i fun b=>wF 0 i fun c=>wq (ib .mul l c) fun d=>wq (ib .add d m) fun e=>wq (aG 1 b e) fun f=>w1 f fun h=>wq (ib .eql h (iN 1)) fun n=>wd n (wq (aG 1 j m) fun o=>w1 o fun q=>qob O a g i j k l m q) (qob O a g i j k l m (.int .i64 (.negSucc 0)))
def zi3:=wF 0 i fun c=>wq (ib .lss B c) fun d=>wd d (zi1 O a y i j A k B) (b A)
def qr6:=nY (zi3 O a b i j k)
def zw6:=qr6 O a b i j k dD
def zi0(a b:AV->pB)(c d e f:AV)(H:Hp):R1:=zw6 O (fun g h H=>a g h H) (fun e H=>ziy O b e f H) c d f e (iN 0) H
def zi4:=wF 0 i fun c=>wq (ib .lss B c) fun d=>wd d (zi0 O a y i j A B) (b A)
def qys:=nY (zi4 O a b i j)
def zw7:=qys O a b i j dD
def ziz:=zw7 O a b i j (.bool false) (iN 0)
def qyu:=wd A (ziz O a x i j) (d)
def qoa:=gD (qyu O a d i j)
def zw8:=qoa O a d i j dD
def z0u:=wB 2 i fun a=>wF 0 a fun b=>wh (fun H=>qgb [iN 0] 8 H.nx b b) fun c=>fun H=>zw8 O (fun d e H=>.ok (.aX [d,e]) H) (qyt O c) a c (.bool true) H
def zAg:=z0u O i
def q8j(O:Ev.Call)(a:AV):pD:=.ok (.aX [a,(iN 0)])
def q5b(O:Ev.Call)(a:pB)(b:AV):=wI b a
def zh3(O:Ev.Call)(a:pB)(b:AV):=wI b a
def zh2:=wq (aG 1 k l) fun a=>w1 a fun c=>wc O 38 [j] fun d=>wq (aG 1 i c) fun e=>wU e d <| zh3 O b l
def q5d:=wq (ib .lss A l) fun a=>wd a (zh2 O x i j k A) (d)
def qvj:=gD (q5d O d i j k l)
def zh6:=qvj O d i j k l dD
def qvn:=wq (aF j) fun a=>zh6 O (q5b O b l) i k j a (iN 0)
def qn6(O:Ev.Call)(a:AV->pB)(b c:AV):=wI c fun d=>a b d
def qvm:=wq (aG 3 m n) fun b=>wA 3 b fun c=>wN [iN 0,iN 0,.bool false] fun d=>wT 3 d c <| wF 1 i fun e=>wF 0 d fun f=>wq (aG 1 e f) fun g=>w1 g fun h=>wq (ib .eql h k) fun o=>wg (wv o) (aQ 1 i) fun q=>wG (wv o) (aO · q) fun r=>wg (wv o) (aQ 1 d) fun s=>wG (wv o) (aO · s) fun t=>wg (wv o) (aG 1 r t) fun u=>wG (wv o) (aO · u) fun v=>wg (wv o) (.val k) fun x=>wg (wv o) (ib .neq v x) fun y=>wq (dK o y (.bool false)) fun z=>wd z (fun H=>dz 12 H fun A H =>   dn 0 0 A H [] [] (.val l) fun B H p w =>   dn 1 0 A H p w (.val j) fun C H p w =>   dn 2 0 A H p w (aQ 1 d) fun D H p w =>   dl 3 4 A H p w (fun H=>aO H D) fun E H p w =>   dn 4 14 A H p w (aG 1 C E) fun F H p w =>   dl 5 30 A H p w (fun H=>aO H F) fun G H p w =>   dl 6 0 A H p w (fun H=>dQ 3 H d) fun I H p w =>   de 64 H p w (O (.f 54) [I] (eU 64 p H)) (some true) fun J H p w =>   dn 8 254 A H p w (ib .add G J) fun K H p w =>   da 9 510 A H p w (tK 1 (A+9) (dF (bB [iN 0] 1) [(0,1,K)])) fun L H p w =>   de 1023 H p w (lI 1 8 (eU 1023 p H) B (qA 1 (eU 1023 p H) L)) (some true) fun M H p w =>   dn 11 2047 A H p w (.val M) fun N H p w =>   dz2 p H fun H =>   qn6 O a N n H) (qn6 O a l n)
def zh1:=cst qvm
theorem qr5:zh1=qvm:=dW _
def q5c:=wq (ib .lss B m) fun a=>wd a (zh1 O y i j k A l B) (b A)
def qkd:=nY (q5c O b i j k l m)
def zh5:=qkd O b i j k l m dD
def zh0:=wq (aG 1 l m) fun a=>w1 a fun c=>wF 1 i fun d=>wq (aF d) fun e=>fun H=>zh5 O (fun f H=>qvn O b k c f m H) j k m d e (.aA) (iN 0) H
def qn7:=wq (ib .lss A m) fun a=>wd a (zh0 O x i j k l A) (d)
def qke:=gD (qn7 O d i j k l m)
def q5f:=qke O d i j k l m dD
def qmm:=wF 0 j fun a=>wq (aF a) fun b=>q5f O (q8j O k) i j k a b (iN 0)
def q5a:=cst qmm
theorem qkf:q5a=qmm:=dW _
def qvl:=wF 0 i fun a=>wq (ib .gtr a (iN 0)) fun b=>wd b (wF 0 i fun c=>wh (fun H=>qgb [iN 0] 8 H.nx c c) fun d=>q5a O i j d) (q5a O i j (.aA))
def zhz:=cst qvl
theorem qr4:zhz=qvl:=dW _
def qvk:=wA 2 i fun a=>wc O 53 [a] fun b=>wq (bH 0 b) fun c=>wq (bH 1 b) fun d=>wq (aF c) fun e=>wq (ib .gtr e (iN 0)) fun f=>wd f (.ok (.aX [(.aA),(iN 12)])) (zhz O i j)
def zhy:=cst qvk
theorem qr3:zhy=qvk:=dW _
def z0l:=wB 2 i fun a=>wA 2 a fun b=>wc O 48 [b] fun c=>wq (bH 0 c) fun d=>wq (bH 1 c) fun e=>wN [.aA,.aA] fun f=>wT 2 f d <| wq (ib .neq e (iN 0)) fun g=>wd g (.ok (.aX [(.aA),e])) (zhy O a f)
def zAu:=z0l O i
def q8g(O:Ev.Call):pD:=.ok (iN 0)
def q4y(O:Ev.Call)(a:AV->pB)(b c:AV):=wI c fun d=>a b d
def zhh(O:Ev.Call)(a:AV->pB)(b c:AV):=wI c fun d=>a b d
def zhg:=wI i fun b=>zhh O a b j
def zhf:=wA 2 k fun a=>wc O 63 [i,a,j] fun c=>wq (ib .neq c (iN 0)) fun d=>wd d (b c) (zhg O g j l)
def q40:=wq (ib .lss B k) fun a=>wd a (zhf O b y i A j B) (c A)
def qu9:=nY (q40 O b c i j k)
def zhj:=qu9 O b c i j k dD
def zhe:=wq (aG 2 k l) fun a=>wA 2 a fun c=>wN [.str 0 0,.aA] fun d=>wT 2 d c <| wF 1 d fun e=>wq (aF e) fun f=>fun H=>zhj O b (fun j H=>q4y O g j l H) i d f j (iN 0) H
def zhi:=wq (ib .lss B k) fun a=>wd a (zhe O b y i A j B) (d)
def qyn:=nY (zhi O b d i j k)
def zwo:=qyn O b d i j k dD
def zhd:=wF 0 i fun a=>wq (aF a) fun b=>zwo O .ok (q8g O) j a b (iN 0) (iN 0)
def zhc:=wA 1 i fun a=>wc O 61 [a] fun b=>wl (aW b) fun c=>wl (aQ 1 c) fun d=>wL (aO · d) fun e=>wL (aAy · e) fun f=>wl (aQ 0 i) fun g=>wL (aO · g) fun h=>wl (aF h) fun j=>wl (ib .lss f j) fun k=>wd k (.ok (iN 7)) (zhd O i b)
def zrd:=wB 1 i fun a=>wA 1 a fun b=>wc O 62 [b] fun c=>wq (ib .neq c (iN 0)) fun d=>wd d (.ok c) (zhc O a)
def zBj:=zrd O i
def zz9:=wB 4 i fun a=>wc O 64 [a] fun b=>wq (bH 0 b) fun c=>wq (bH 1 b) fun d=>wq (bH 2 b) fun e=>.ok (.aX [c,e])
def zBk:=zz9 O i
def zz8(O:Ev.Call)(a b c d e f g:AV)(H:Hp):R1:=dz 21 H fun h H=>dn 0 0 h H [] [] (aQ 1 c) fun i H p w=>dl 1 1 h H p w (fun H=>aO H i) fun j H p w=>dl 2 0 h H p w (fun H=>aO H d) fun k H p w=>dn 3 0 h H p w (aQ 0 e) fun l H p w=>dl 4 8 h H p w (fun H=>aO H l) fun m H p w=>dn 5 0 h H p w (aQ 0 f) fun n H p w=>dl 6 32 h H p w (fun H=>aO H n) fun o H p w=>dn 7 120 h H p w (dO (dF [.str 0 0,.str 0 0] [(0,1,m),(1,1,o)])) fun q H p w=>dl 8 252 h H p w (fun H=>sK ⟨(⟨l8 fun r s=>zX p1 ⟨iE⟩ 1 r s 2 0⟩:E2).f,some 2⟩ (iN 0) false H k q) fun t H p w=>dl 9 0 h H p w (fun H=>aO H d) fun u H p w=>dn 10 0 h H p w (.val a) fun v H p w=>dn 11 0 h H p w (.val b) fun x H p w=>dn 12 3072 h H p w (dO (dF [.str 0 0,.str 0 0] [(0,1,v),(1,1,x)])) fun y H p w=>dl 13 7680 h H p w (fun H=>sK ⟨(⟨l8 fun r s=>zX p1 ⟨iE⟩ 1 r s 2 0⟩:E2).f,some 2⟩ (iN 0) false H u y) fun z H p w=>dn 14 0 h H p w (aQ 4 g) fun A H p w=>dl 15 16384 h H p w (fun H=>aO H A) fun B H p w=>dn 16 65532 h H p w (dO (dF [iN 0,iN 0,.bool false] [(0,1,t),(1,1,z),(2,1,B)])) fun C H p w=>da 17 131068 h H p w (tK 1 (h+17) (dF (bB [iN 0,iN 0,.bool false] 1) [(0,3,C)])) fun D H p w=>de 262143 H p w (lI 3 24 (eU 262143 p H) j (qA 3 (eU 262143 p H) D)) (some true) fun E H p w=>dn 19 524287 h H p w (aQ 1 c) fun F H p w=>de 1048575 H p w (jX (eU 1048575 p H) F E) (some true) fun _ H p w=>dz2 p H fun H=>.ok (.aX []) H
def zBl:=zz8 O i j k l m n o
def z4z(O:Ev.Call)(a:AV):pD:=.ok (.aX [a,(iN 0)])
def z4y:=wc O 66 [l,i,j,k] fun a=>wq (aF a) fun b=>wq (ib .eql b (iN 0)) fun c=>wd c (.ok (.aX [(.aA),(iN 11)])) (z4z O a)
def zhb:=wA 1 l fun a=>wc O 61 [a] fun b=>wc O 65 [b,i,j] fun c=>wq (pX false ((⟨E2.f ⟨qp4⟩⟩:E2).f c (.cK))) fun d=>wd d (.ok (.aX [(.aA),(iN 6)])) (z4y O i j k b)
def zz7:=wB 1 i fun a=>wA 1 a fun b=>wc O 40 [b] fun c=>wq (ib .neq c (iN 0)) fun d=>wd d (.ok (.aX [(.aA),c])) (zhb O j k l a)
def zBm:=zz7 O i j k l
def z4x:=wc O 68 [i,(.fn 67 [] [])] fun a=>wc O 70 [i] fun b=>wc O 69 [b] fun c=>.ok c
def zBn:=z4x O i
def uG(O:Ev.Call):pD:=.ok (iN 0)
def qei(O:Ev.Call)(a:pB)(b:AV):=wI b a
def q3b(O:Ev.Call)(a:pB)(b:AV):=wI b a
def qhs:=wq (aQ 2 j) fun a=>wA 4 a fun d=>wc O 72 [d] fun e=>wq (ib .neq e (iN 0)) fun f=>wd f (b e) (q3b O c i)
def quk(O:Ev.Call)(a:pB)(b:AV):=wI b a
def q3a:=wF 1 i fun a=>wq (aG 2 a j) fun d=>wF 0 d fun e=>wc O 71 [e] fun f=>wq ((kX .not).f f) fun g=>wg (bF false g) (aQ 1 i) fun h=>wG (bF false g) (aO · h) fun k=>wg (bF false g) (.val j) fun l=>wg (bF false g) (aG 2 k l) fun m=>wg (bF false g) (aQ 1 m) fun n=>wG (bF false g) (aO · n) fun o=>wg (bF false g) (gX (nT .neq).f o (.str 0 0)) fun q=>wg (bF false g) (.val q) fun r=>wg (wv r) (aQ 1 i) fun s=>wG (wv r) (aO · s) fun t=>wg (wv r) (.val j) fun u=>wg (wv r) (aG 2 t u) fun v=>wg (wv r) (aQ 1 v) fun x=>wG (wv r) (aO · x) fun y=>wx (wv r) (O (.f 71) [y]) fun z=>wg (wv r) ((kX .not).f z) fun A=>wg (bF false g) (dK r A (.bool false)) fun B=>wq (dK g (.bool true) B) fun C=>wd C (b (iN 6)) (quk O c j)
def q3c:=wF 1 i fun a=>wq (aF a) fun c=>wq (ib .lss A c) fun e=>wd e (q3a O b x i A) (d)
def qj2:=gD (q3c O b d i)
def q3e:=qj2 O b d i dD
def q29:=q3e O b (qhs O b c i j) j (iN 0)
def q28:=wF 1 j fun a=>wq (aF a) fun d=>wq (ib .gtr d (iN 8)) fun e=>wd e (b (iN 3)) (q29 O b c i j)
def q27:=wF 1 i fun a=>wq (aG 6 a j) fun d=>wA 6 d fun e=>wN [.str 0 0,.aA,.int .u8 (.ofNat 0),.str 0 0,.str 0 0,.aA] fun f=>wT 6 f e <| wF 0 f fun g=>wc O 71 [g] fun h=>wq ((kX .not).f h) fun k=>wd k (b (iN 6)) (q28 O b c j f)
def q3d:=wF 1 i fun a=>wq (aF a) fun c=>wq (ib .lss A c) fun e=>wd e (q27 O b x i A) (d)
def qc9:=gD (q3d O b d i)
def q3f:=qc9 O b d i dD
def q26:=q3f O b (qei O c i) j (iN 0)
def q25:=wF 1 j fun a=>wq (aF a) fun d=>wq (ib .gtr d (iN 16)) fun e=>wd e (b (iN 3)) (q26 O b c i j)
def q23:=wF 0 i fun a=>wq (aG 2 a j) fun d=>wA 2 d fun e=>wN [.str 0 0,.aA] fun f=>wT 2 f e <| wF 0 f fun g=>wc O 71 [g] fun h=>wq ((kX .not).f h) fun k=>wd k (b (iN 6)) (q25 O b c j f)
def zes:=wF 0 i fun a=>wq (aF a) fun c=>wq (ib .lss A c) fun e=>wd e (q23 O b x i A) (d)
def uH:=gD (zes O b d i)
def zet:=uH O b d i dD
def q21:=zet O .ok (uG O) i (iN 0)
def zyu:=wB 1 i fun a=>wF 0 a fun b=>wq (aF b) fun c=>wq (ib .gtr c (iN 16)) fun d=>wd d (.ok (iN 3)) (q21 O a)
def zGd:=zyu O i
def zgz(O:Ev.Call):pD:=.ok (.int .i64 (.negSucc 0))
def zwm(O:Ev.Call)(a:pB)(b:AV):=wI b a
def zgy:=wF 0 j fun a=>wq (aG 2 a k) fun d=>wF 0 d fun e=>wq (gX (nT .eql).f e i) fun f=>wd f (b k) (zwm O c k)
def zg0:=wF 0 j fun a=>wq (aF a) fun c=>wq (ib .lss A c) fun e=>wd e (zgy O b x i j A) (d)
def q8f:=gD (zg0 O b d i j)
def zwn:=q8f O b d i j dD
def zz2:=wB 1 i fun a=>zwn O .ok (zgz O) j a (iN 0)
def zBs:=zz2 O i j
def qj1(O:Ev.Call):pD:=.ok (iN 0)
def zer:=cst qj1
theorem qii:zer=qj1:=dW _
def qt7:=wd i (.ok (iN 11)) (zer O)
def zeq:=cst qt7
theorem qyd:zeq=qt7:=dW _
def qmd:=wg (wv k) (aQ 1 j) fun a=>wG (wv k) (aO · a) fun b=>wg (wv k) (aF b) fun c=>wg (wv k) (ib .eql c (iN 0)) fun d=>wq (dK k d (.bool false)) fun e=>wg (bF false e) (.val k) fun f=>wg (bF false e) ((kX .not).f f) fun g=>wg (bF false e) (.val g) fun h=>wg (wv h) (aQ 1 j) fun l=>wG (wv h) (aO · l) fun m=>wg (wv h) (aF m) fun n=>wg (wv h) (ib .gtr n (iN 0)) fun o=>wg (bF false e) (dK h o (.bool false)) fun q=>wg (bF false e) (.val q) fun r=>wG (wv r) (dQ 2 · i) fun s=>wg (wv r) (aQ 0 j) fun t=>wG (wv r) (aO · t) fun u=>wx (wv r) (O (.f 73) [s,u]) fun v=>wg (wv r) ((kX .not).f v) fun x=>wg (bF false e) (dK r x (.bool false)) fun y=>wq (dK e (.bool true) y) fun z=>zeq O z
def pQ:=cst qmd
theorem qrl:pQ=qmd:=dW _
def qmc(O:Ev.Call)(a:AV->pB)(b c:AV):=wI c fun d=>a b d
def q2s:=cst qmc
theorem qrk:q2s=qmc:=dW _
def qmb:=wg (bF false i) (aQ 0 k) fun b=>wG (bF false i) (aO · b) fun c=>wg (bF false i) (ib .eql c (.int .u8 (.ofNat 1))) fun d=>wq (dK i (.bool true) d) fun e=>q2s O a e j
def qt8:=cst qmb
theorem qrj:qt8=qmb:=dW _
def qma:=wd l (b (iN 11)) (qt8 O g i j k)
def q2q:=cst qma
theorem qri:q2q=qma:=dW _
def ql9:=wF 0 m fun a=>wq (ib .eql a (.int .u8 (.ofNat 3))) fun c=>wG (wv c) (dQ 1 · i) fun d=>wg (wv c) (aQ 0 j) fun e=>wG (wv c) (aO · e) fun f=>wg (wv c) (aQ 1 m) fun h=>wG (wv c) (aO · h) fun n=>wg (wv c) (aQ 2 m) fun o=>wG (wv c) (aO · o) fun q=>wx (wv c) (O (.f 37) [d,f,n,q]) fun r=>wg (wv c) (aF r) fun s=>wg (wv c) (ib .eql s (iN 0)) fun t=>wq (dK c t (.bool false)) fun u=>q2q O b g k l m u
def qj0:=cst ql9
theorem qrh:qj0=ql9:=dW _
def ql8:=wq ((kX .not).f n) fun a=>wd a (b (iN 6)) (qj0 O b g i j k l m)
def q2p:=cst ql8
theorem qrg:q2p=ql8:=dW _
def ql7:=wd n (wA 1 i fun a=>wF 0 j fun c=>wF 1 m fun d=>wc O 34 [a,c,d] fun e=>wq (bH 0 e) fun f=>wq (bH 1 e) fun h=>wN [.str 0 0,.aA,.int .u8 (.ofNat 0),.str 0 0,.str 0 0,.aA] fun o=>wT 6 o f <| q2p O b g i j k l m h) (qj0 O b g i j k l m)
def q2o:=cst ql7
theorem qrf:q2o=ql7:=dW _
def ql6:=wF 0 m fun a=>wq (ib .eql a (.int .u8 (.ofNat 2))) fun c=>wg (bF false c) (aQ 0 m) fun d=>wG (bF false c) (aO · d) fun e=>wg (bF false c) (ib .eql e (.int .u8 (.ofNat 3))) fun f=>wq (dK c (.bool true) f) fun h=>q2o O b g i j k l m h
def q2n:=cst ql6
theorem qre:q2n=ql6:=dW _
def ql5:=wq (aG 5 k m) fun a=>wA 5 a fun c=>wN [.int .u8 (.ofNat 0),.str 0 0,.str 0 0,.aA,.bool false] fun d=>wT 5 d c <| q2n O b g i j l m d
def q2m:=cst ql5
theorem qrd:q2m=ql5:=dW _
def ql4:=wd F (q2m O b g A B C D E) (x D)
def q2l:=cst ql4
theorem qrc:q2l=ql4:=dW _
def q2w:=wq (aF k) fun a=>wq (ib .lss B a) fun d=>q2l O b y c i j k A B d
def rC:=nY (q2w O b c i j k)
def q20:=rC O b c i j k dD
def ql3:=q20 O .ok (pQ O j k) i j l (.bool false) (iN 0)
def q2k:=cst ql3
theorem qrb:q2k=ql3:=dW _
def ql2:=wq (aQ 2 k) fun a=>wA 4 a fun b=>wc O 35 [(.aA),b,(.bool false)] fun c=>q2k O i j k c
def nL:=cst ql2
theorem qra:nL=ql2:=dW _
def ql1(O:Ev.Call)(a:pB)(b:AV):=wI b a
def qd5:=cst ql1
theorem qq9:qd5=ql1:=dW _
def ql0(O:Ev.Call)(a:pB)(b:AV):=wI b a
def q2j:=cst ql0
theorem qq8:q2j=ql0:=dW _
def qlz:=wd j (b (iN 7)) (q2j O c i)
def q2i:=cst qlz
theorem qq7:q2i=qlz:=dW _
def qly:=wl (aQ 1 i) fun a=>wL (aO · a) fun d=>wl (aG 2 d k) fun e=>wL (dQ 2 · e) fun f=>wL (dQ 2 · j) fun g=>wl (pX false ((⟨E2.f ⟨l8 (eqFields [(p1,⟨iE⟩,0),(p1,⟨iE⟩,1)])⟩⟩:E2).f f g)) fun h=>q2i O b c k h
def q2h:=cst qly
theorem qq6:q2h=qly:=dW _
def q2u:=wq (ib .lss A j) fun a=>wd a (q2h O b x i k A) (d)
def qes:=gD (q2u O b d i j k)
def q2x:=qes O b d i j k dD
def qlx:=q2x O b (qd5 O c j) i j k (iN 0)
def qt6:=cst qlx
theorem qq5:qt6=qlx:=dW _
def qis:=wd l (b (iN 6)) (qt6 O b c i j k)
def quh:=cst qis
theorem qnl:quh=qis:=dW _
def qir:=wA 1 i fun a=>wF 0 l fun d=>wc O 46 [a,d] fun e=>wq (ib .lss e (iN 0)) fun f=>wg (bF false f) (aQ 1 l) fun g=>wG (bF false f) (aO · g) fun h=>wg (bF false f) (gX (nT .neq).f h (.str 0 0)) fun n=>wg (bF false f) (.val n) fun o=>wg (wv o) (.val m) fun q=>wg (wv o) ((kX .not).f q) fun r=>wg (bF false f) (dK o r (.bool false)) fun s=>wq (dK f (.bool true) s) fun t=>quh O b c j k l t
def qug:=cst qir
theorem qnk:qug=qir:=dW _
def qiq:=wA 1 i fun a=>wF 0 l fun d=>wF 1 l fun e=>wc O 34 [a,d,e] fun f=>wq (bH 0 f) fun g=>wq (bH 1 f) fun h=>wN [.str 0 0,.aA,.int .u8 (.ofNat 0),.str 0 0,.str 0 0,.aA] fun m=>wT 6 m g <| qug O b c i j k l h
def quf:=cst qiq
theorem qnj:quf=qiq:=dW _
def qip:=wF 1 j fun a=>wq (aG 2 a k) fun d=>wA 2 d fun e=>wN [.str 0 0,.str 0 0] fun f=>wT 2 f e <| quf O b c i j k f
def que:=cst qip
theorem qni:que=qip:=dW _
def qio:=wd l (que O b c i j k) (d)
def qud:=cst qio
theorem qnh:qud=qio:=dW _
def q2v:=wF 1 j fun a=>wq (aF a) fun c=>wq (ib .lss A c) fun e=>qud O b x d i j A e
def nU:=gD (q2v O b d i j)
def q2y:=nU O b d i j dD
def qin:=q2y O .ok (nL O i j k) i k (iN 0)
def qcw:=cst qin
theorem qng:qcw=qin:=dW _
def qim(O:Ev.Call)(a:pB)(b:AV):=wI b a
def quc:=cst qim
theorem qnf:quc=qim:=dW _
def qil:=wd j (b (iN 7)) (quc O c i)
def qub:=cst qil
theorem qne:qub=qil:=dW _
def qik:=wl (aQ 1 i) fun a=>wL (aO · a) fun d=>wl (aG 6 d k) fun e=>wl (aQ 0 e) fun f=>wL (aO · f) fun g=>wl (aQ 0 j) fun h=>wL (aO · h) fun l=>wl (gX (nT .eql).f g l) fun m=>qub O b c k m
def qua:=cst qik
theorem qnd:qua=qik:=dW _
def qui:=wq (ib .lss A i) fun a=>wd a (qua O b x j k A) (d)
def qdg:=gD (qui O b d i j k)
def quj:=qdg O b d i j k dD
def qij:=quj O .ok (qcw O j k l) i k l (iN 0)
def qt9:=cst qij
theorem qnc:qt9=qij:=dW _
def zyt:=wB 1 i fun a=>wB 2 j fun b=>wF 1 b fun c=>wq (aG 6 c k) fun d=>wA 6 d fun e=>wN [.str 0 0,.aA,.int .u8 (.ofNat 0),.str 0 0,.str 0 0,.aA] fun f=>wT 6 f e <| qt9 O k a b f
def zGe:=zyt O i j k
def zys(O:Ev.Call)(a b:AV):=wB 3 a fun c=>wl (aQ 2 c) fun d=>wL (aO · d) fun e=>wm (wv e) (aQ 1 b) fun f=>wM (wv e) (aO · f) fun g=>wm (wv e) (aQ 0 c) fun h=>wM (wv e) (aO · h) fun i=>wm (wv e) (aG 1 g i) fun j=>wM (wv e) (aO · j) fun k=>wm (wv e) (aQ 1 b) fun l=>wM (wv e) (aO · l) fun m=>wm (wv e) (aQ 1 c) fun n=>wM (wv e) (aO · n) fun o=>wm (wv e) (aG 1 m o) fun q=>wM (wv e) (aO · q) fun r=>wm (wv e) (ib .eql k r) fun s=>wl (dK e s (.bool false)) fun t=>.ok t
def zGf:=zys O i j
def qnb(O:Ev.Call):pD:=.ok (.int .i64 (.negSucc 0))
def zen(O:Ev.Call)(a:pB)(b:AV):=wI b a
def zem:=wq (aG 3 i k) fun a=>wA 3 a fun d=>we (vP O j [d]) fun e=>wd e (b k) (zen O c k)
def zeo:=wq (ib .lss A k) fun a=>wd a (zem O b x i j A) (d)
def qq4:=gD (zeo O b d i j k)
def zep:=qq4 O b d i j k dD
def zyr:=wq (aF i) fun a=>zep O .ok (qnb O) i j a (iN 0)
def zGg:=zyr O i j
def qq3:=wc O 81 [i] fun a=>wc O 39 [i] fun b=>.ok (.aX [b,(iN 0)])
def q2g(O:Ev.Call)(a:AV->pB)(b c d:AV):=wq (gP 256 1 b d) fun e=>w1 e fun f=>wQ 1 (dF (bB [iN 0] 1) [(0,1,f)]) fun g=>wP 1 8 c g fun h=>a h f
def zek:=wq (ib .neq B i) fun a=>wd a (q2g O y j A B) (b A)
def qyc:=nY (zek O b i j)
def zel:=qyc O b i j dD
def q2f:=wQ 1 (dF (bB [iN 0] 1) [(0,1,j)]) fun a=>zel O (qq3 O) i k a j
def qt5:=wA 2 k fun a=>wc O 80 [a,i] fun b=>wh (fun H=>.new (.ptr H.nx 0) (aB 0 (List.replicate 256 (iN 0)))) fun c=>wT 256 c b <| wq (gP 256 1 c j) fun d=>w1 d fun e=>wq (ib .lss e (iN 0)) fun f=>wd f (.ok (.aX [(.aA),(iN 8)])) (q2f O i j c)
def zyq:=wB 2 i fun a=>wz 9 fun b=>wo 0 0 b (dQ 2 · a) fun c=>wn 1 0 b (.val j) fun d=>wo 3 0 b (dQ 2 · a) fun e=>wn 4 0 b (.val k) fun f=>wu 3 (O (.f 79) [c,d]) fun g=>wu 31 (O (.f 79) [e,f]) fun h=>wa 6 63 b (tK 2 (b+6) (dF (bB [iN 0] 2) [(0,1,g),(1,1,h)])) fun l=>wu 127 (O (.f 78) [l]) fun m=>wn 8 255 b (.val m) fun n=>wy <| wq (ib .neq n (iN 0)) fun o=>wd o (.ok (.aX [(.aA),n])) (qt5 O j k a)
def zGh:=zyq O i j k
def zrk(O:Ev.Call)(a:AV):=wq (aF a) fun b=>wq (aF a) fun c=>wq (kL 1 a none (some b) (some c)) fun d=>.ok d
def zBd:=zrk O i
def zwr(O:Ev.Call)(a:AV):=wq (dO (dF [.int .u8 (.ofNat 0),.str 0 0,.str 0 0,.aA] [(0,1,(.int .u8 (.ofNat 1)))])) fun b=>wT 4 a b <| fun H=>fM (rV (dQ 4 H a)) H
def z0f:=wN [.int .u8 (.ofNat 0),.str 0 0,.str 0 0,.aA] fun a=>wd i (wq (dO (dF [.int .u8 (.ofNat 0),.str 0 0,.str 0 0,.aA] [(0,1,(.int .u8 (.ofNat 2))),(1,1,(.str 2 12402))])) fun b=>wT 4 a b <| fun H=>fM (rV (dQ 4 H a)) H) (zwr O a)
def zBe:=z0f O i
def zhq(O:Ev.Call)(a b c:AV):=wq (qqv .i64 a) fun d=>wq (aF c) fun e=>wq (ib .rem d e) fun f=>wq (aG 1 c f) fun g=>w1 g fun h=>wq (dO (dF [.int .u8 (.ofNat 0),.str 0 0,.str 0 0,.aA] [(0,1,(.int .u8 (.ofNat 2))),(1,1,h)])) fun i=>wT 4 b i <| fun H=>fM (rV (dQ 4 H b)) H
def qvd(O:Ev.Call)(a:AV->pB)(b c:AV):=wI c fun d=>a b d
def z0d:=wc O 89 [i,l,j] fun b=>wd b (wc O 28 [l] fun c=>wQ 1 (dF (bB [.str 0 0] 1) [(0,1,c)]) fun d=>wP 1 16 k d fun e=>qvd O a e l) (qvd O a k l)
def q46:=wA 1 k fun a=>wc O 25 [a] fun c=>wq (ib .lss B c) fun d=>wg (wv d) (.val B) fun e=>wg (wv d) (.val i) fun f=>wg (wv d) (ib .quo f (iN 4)) fun g=>wg (wv d) (ib .mul g (iN 4)) fun h=>wg (wv d) (ib .add h (iN 4)) fun l=>wg (wv d) (ib .lss e l) fun m=>wq (dK d m (.bool false)) fun n=>wd n (z0d O y i j A B) (b A)
def qvc:=nY (q46 O b i j k)
def zhr:=qvc O b i j k dD
def z0e:=wB 1 i fun a=>wN [.int .u8 (.ofNat 0),.str 0 0,.str 0 0,.aA] fun b=>wq (ib .quo j (iN 4)) fun c=>wq (ib .mul c (iN 4)) fun d=>zhr O (zhq O k b) j l a (.aA) d
def zBf:=z0e O i j k l
def zwp(O:Ev.Call)(a b c:AV):=wq (qqv .i64 a) fun d=>wq (aF c) fun e=>wq (ib .rem d e) fun f=>wq (aG 4 c f) fun g=>wA 4 g fun h=>wT 4 b h <| fun H=>fM (rV (dQ 4 H b)) H
def qvb:=wq (aF l) fun a=>wq (ib .eql a (iN 0)) fun b=>wd b (wc O 56 [j] fun c=>wT 4 k c <| fun H=>fM (rV (dQ 4 H k)) H) (zwp O i k l)
def q42(O:Ev.Call)(a:AV->pB)(b c:AV):=wI c fun d=>a b d
def q41(O:Ev.Call)(a:AV->pB)(b c:AV):=wI c fun d=>a b d
def qka(O:Ev.Call)(a:AV->pB)(b c:AV):=wI c fun d=>a b d
def zhm:=wz 0 fun b=>wn 0 0 b (.val m) fun c=>wn 1 0 b (.val n) fun d=>wn 2 3 b (aG 2 c d) fun e=>wn 3 7 b (aQ 1 e) fun f=>wo 4 15 b (aO · f) fun g=>wn 5 31 b (gX (nT .eql).f g (.str 0 0)) fun h=>wn 6 63 b (.val h) fun q=>wr 7 127 b (.val m) (wv q) fun r=>wr 8 127 b (.val n) (wv q) fun s=>wr 9 511 b (aG 2 r s) (wv q) fun t=>wr 10 1023 b (aQ 0 t) (wv q) fun u=>ws 11 2047 b (aO · u) (wv q) fun v=>wr 12 127 b (.val o) (wv q) fun x=>wr 13 4223 b (ib .quo x (iN 4)) (wv q) fun y=>wt 12415 (O (.f 26) [y]) (wv q) fun z=>wr 15 32767 b (gX (nT .eql).f v z) (wv q) fun A=>wn 16 65535 b (dK q A (.bool false)) fun B=>wn 17 131071 b (.val B) fun C=>wr 18 262143 b (.val i) (wv C) fun D=>wr 19 262143 b (.val o) (wv C) fun E=>wr 20 262143 b (.val j) (wv C) fun F=>wt 2097151 (O (.f 89) [D,E,F]) (wv C) fun G=>wn 22 4194303 b (dK C G (.bool false)) fun I=>wy <| wd I (wc O 28 [l] fun J=>wc O 28 [o] fun K=>wq (dO (dF [.int .u8 (.ofNat 0),.str 0 0,.str 0 0,.aA] [(0,1,(.int .u8 (.ofNat 3))),(1,1,J),(2,1,K)])) fun L=>wQ 1 (dF (bB [.int .u8 (.ofNat 0),.str 0 0,.str 0 0,.aA] 1) [(0,4,L)]) fun M=>wP 4 64 k M fun N=>qka O a N o) (qka O a k o)
def q43:=wA 1 k fun a=>wc O 25 [a] fun c=>wq (ib .lss B c) fun d=>wd d (zhm O y i j A l m n B) (b A)
def qva:=nY (q43 O b i j k l m n)
def zhn:=qva O b i j k l m n dD
def zhl(a:AV->pB)(b c d e f g h:AV)(H:Hp):R1:=zhn O (fun e H=>q41 O a e h H) b c d f g h e (iN 0) H
def q44:=wq (aF m) fun a=>wq (ib .lss B a) fun c=>wd c (zhl O y i j k A l m B) (b A)
def qn3:=nY (q44 O b i j k l m)
def zho:=qn3 O b i j k l m dD
def zhk:=wA 1 k fun b=>wc O 29 [b,m] fun c=>fun H=>zho O (fun l H=>q42 O a l m H) i j k m c l (iN 0) H
def q45:=wA 1 k fun a=>wc O 25 [a] fun c=>wq (ib .lss B c) fun d=>wg (wv d) (.val B) fun e=>wg (wv d) (.val i) fun f=>wg (wv d) (ib .quo f (iN 4)) fun g=>wg (wv d) (ib .mul g (iN 4)) fun h=>wg (wv d) (ib .add h (iN 4)) fun l=>wg (wv d) (ib .lss e l) fun m=>wq (dK d m (.bool false)) fun n=>wd n (zhk O y i j k A B) (b A)
def qn4:=nY (q45 O b i j k)
def zhp:=qn4 O b i j k dD
def z0c:=wB 1 i fun a=>wN [.int .u8 (.ofNat 0),.str 0 0,.str 0 0,.aA] fun b=>wq (ib .quo j (iN 4)) fun c=>wq (ib .mul c (iN 4)) fun d=>zhp O (qvb O k l b) j l a (.aA) d
def zBg:=z0c O i j k l
def z0b(O:Ev.Call)(a:AV):=wQ 4 (dF (bB [iN 0] 4) [(0,1,(iN 0)),(1,1,(iN 1)),(2,1,(iN 1)),(3,1,(iN 2))]) fun b=>wq (ib .rem a (iN 4)) fun c=>wq (aG 1 b c) fun d=>w1 d fun e=>.ok e
def zBh:=z0b O i
def z5a(O:Ev.Call):pD:=.ok (.int .u8 (.ofNat 0))
def z0a:=wB 1 i fun a=>wF 0 a fun b=>wq (aG 1 b j) fun c=>w1 c fun d=>wq (aF d) fun e=>wq (ib .lss k e) fun f=>wd f (wF 0 a fun g=>wq (aG 1 g j) fun h=>w1 h fun l=>wq (aG 1 l k) fun m=>w1 m fun n=>.ok n) (z5a O)
def zBi:=z0a O i j k
def qvi(O:Ev.Call)(a b c:AV):=wq (aG 5 a b) fun d=>wq (aQ 3 d) fun e=>wU e c <| .ok a
def qvh(O:Ev.Call)(a:AV->AV->pB)(b c d:AV):=wI d fun e=>a b c e
def q47:=wq (aF i) fun a=>wQ 1 (dF (bB [iN 0] 1) [(0,1,a)]) fun b=>wP 1 8 l b fun c=>wz 0 fun d=>wn 0 0 d (.val i) fun e=>wn 1 0 d (aQ 3 k) fun f=>wo 2 2 d (aO · f) fun g=>wn 3 0 d (.val m) fun n=>wn 4 14 d (aG 4 g n) fun o=>wo 5 30 d (dQ 4 · o) fun q=>wn 6 0 d (.val j) fun r=>wn 7 64 d (.val r) fun s=>wr 8 192 d (aQ 0 k) (bF false s) fun t=>ws 9 448 d (aO · t) (bF false s) fun u=>wr 10 960 d (ib .eql u (.int .u8 (.ofNat 6))) (bF false s) fun v=>wr 11 1984 d (.val v) (bF false s) fun x=>wr 12 4032 d (.val m) (wv x) fun y=>wr 13 8128 d (ib .eql y (iN 1)) (wv x) fun z=>wr 14 16320 d (dK x z (.bool false)) (bF false s) fun A=>wn 15 32704 d (dK s (.bool true) A) fun B=>wu 65535 (O (.f 35) [e,q,B]) fun C=>wn 17 131071 d (.val C) fun D=>wy <| qvh O h D c m
def qkc:=wF 3 j fun b=>wq (aF b) fun c=>wq (ib .lss C c) fun d=>wd d (q47 O z A i j B C) (a A B)
def qvg:=lq3 (qkc O a i j)
def q48:=qvg O a i j dD
def zrp:=wB 4 j fun a=>wq (aF i) fun b=>wF 0 a fun c=>wF 1 a fun d=>wF 2 a fun e=>wq (dO (dF [.int .u8 (.ofNat 0),.str 0 0,.str 0 0,.aA,.bool false] [(0,1,c),(1,1,d),(2,1,e),(4,1,k)])) fun f=>wQ 1 (dF (bB [.int .u8 (.ofNat 0),.str 0 0,.str 0 0,.aA,.bool false] 1) [(0,5,f)]) fun g=>wP 5 72 i g fun h=>fun H=>q48 O (fun i l H=>qvi O i b l H) k a h (.aA) (iN 0) H
def zAz:=zrp O i j k
def ziv(O:Ev.Call)(a:AV):pD:=.ok a
def zis(O:Ev.Call)(a:AV->pB)(b c:AV):=wI c fun d=>a b d
def zw3(O:Ev.Call)(a:AV->pB)(b c:AV):=wI c fun d=>a b d
def ziu(a:AV->pB)(b c d e:AV)(H:Hp):R1:=dz 21 H fun f H=>dn 0 0 f H [] [] (.val c) fun g H p w=>dn 1 0 f H p w (aQ 0 b) fun h H p w=>dl 2 2 f H p w (fun H=>aO H h) fun i H p w=>dn 3 0 f H p w (.val d) fun j H p w=>dn 4 14 f H p w (aG 2 i j) fun k H p w=>dn 5 30 f H p w (aQ 0 k) fun l H p w=>dl 6 62 f H p w (fun H=>aO H l) fun m H p w=>dn 7 0 f H p w (aQ 0 b) fun n H p w=>dl 8 128 f H p w (fun H=>aO H n) fun o H p w=>dn 9 0 f H p w (.val d) fun q H p w=>dn 10 896 f H p w (aG 2 o q) fun r H p w=>dn 11 1920 f H p w (aQ 1 r) fun s H p w=>dl 12 3968 f H p w (fun H=>aO H s) fun t H p w=>dn 13 0 f H p w (.val e) fun u H p w=>dn 14 16256 f H p w (aG 6 t u) fun v H p w=>dn 15 32640 f H p w (aQ 0 v) fun x H p w=>dl 16 65408 f H p w (fun H=>aO H x) fun y H p w=>dn 17 131070 f H p w (dO (dF [.str 0 0,.str 0 0] [(0,1,m),(1,1,y)])) fun z H p w=>da 18 262142 f H p w (tK 1 (f+18) (dF (bB [.str 0 0,.str 0 0] 1) [(0,2,z)])) fun A H p w=>de 524287 H p w (lI 2 32 (eU 524287 p H) g (qA 2 (eU 524287 p H) A)) (some true) fun B H p w=>dn 20 1048575 f H p w (.val B) fun C H p w=>dz2 p H fun H=>zw3 O a C e H
def ziw:=wF 0 i fun a=>wq (aG 2 a j) fun c=>wF 1 c fun d=>wq (aF d) fun e=>wq (ib .lss B e) fun f=>wd f (ziu O y i A j B) (b A)
def q8w:=nY (ziw O b i j)
def zw4:=q8w O b i j dD
def zit(a:AV->pB)(b c d:AV)(H:Hp):R1:=zw4 O (fun c H=>zis O a c d H) b d c (iN 0) H
def zix:=wF 0 i fun a=>wq (aF a) fun c=>wq (ib .lss B c) fun d=>wd d (zit O y i A B) (b A)
def qyr:=nY (zix O b i)
def zw5:=qyr O b i dD
def z0t:=wB 1 i fun a=>zw5 O (ziv O) a (.aA) (iN 0)
def zAh:=z0t O i
def z0k(O:Ev.Call)(a:AV):=wN [iN 0,.aA] fun b=>wq (ib .mul a a) fun c=>wh (fun H=>qgb [iN 0] 8 H.nx c c) fun d=>wq (dO (dF [iN 0,.aA] [(0,1,a),(1,1,d)])) fun e=>wT 2 b e <| fun H=>fM (rV (dQ 2 H b)) H
def zAx:=z0k O i
def q8i(O:Ev.Call)(a:AV):=wq (dO (dF [.str 0 0,.aA,.int .u8 (.ofNat 0),.str 0 0,.str 0 0,.aA] [])) fun b=>wT 6 a b <| fun H=>fM (kW (kP (rV (dQ 6 H a)) (kP (some (.bool false)) (some [])))) H
def zww(O:Ev.Call)(a:pB)(b:AV):=wI b a
def zhx:=wF 0 j fun a=>wq (aG 2 a l) fun d=>wF 1 d fun e=>wq (aG 6 e m) fun f=>wF 0 f fun g=>wq (gX (nT .eql).f g i) fun h=>wd h (wF 0 j fun n=>wq (aG 2 n l) fun o=>wF 1 o fun q=>wq (aG 6 q m) fun r=>wA 6 r fun s=>wT 6 k s <| b (.bool true)) (zww O c m)
def qyp:=wq (ib .geq l (iN 0)) fun a=>wg (wv a) (.val A) fun c=>wg (wv a) (aQ 0 j) fun e=>wG (wv a) (aO · e) fun f=>wg (wv a) (.val l) fun g=>wg (wv a) (aG 2 f g) fun h=>wg (wv a) (aQ 1 h) fun m=>wG (wv a) (aO · m) fun n=>wg (wv a) (aF n) fun o=>wg (wv a) (ib .lss c o) fun q=>wq (dK a q (.bool false)) fun r=>wd r (zhx O b x i j k l A) (d)
def qyo:=gD (qyp O b d i j k l)
def zwx:=qyo O b d i j k l dD
def z0j:=wB 1 i fun a=>wN [.str 0 0,.aA,.int .u8 (.ofNat 0),.str 0 0,.str 0 0,.aA] fun b=>wA 1 a fun c=>wc O 46 [c,j] fun d=>fun H=>zwx O (fun e H=>fM (kW (kP (rV (dQ 6 H b)) (kP (some e) (some [])))) H) (q8i O b) k a b d (iN 0) H
def zAy:=z0j O i j k
def zio(O:Ev.Call):pD:=.ok (.int .i64 (.negSucc 0))
def zin(O:Ev.Call)(a:pB)(b:AV):=wI b a
def ziq:=wq (aG 2 k l) fun a=>wF 0 a fun d=>wq (gX (nT .eql).f d i) fun e=>wg (wv e) (.val k) fun f=>wg (wv e) (.val l) fun g=>wg (wv e) (aG 2 f g) fun h=>wg (wv e) (aQ 1 h) fun m=>wG (wv e) (aO · m) fun n=>wg (wv e) (.val j) fun o=>wg (wv e) (gX (nT .eql).f n o) fun q=>wq (dK e q (.bool false)) fun r=>wd r (b l) (zin O c l)
def zir:=wq (aF k) fun a=>wq (ib .lss A a) fun c=>wd c (ziq O b x i j k A) (d)
def qyq:=gD (zir O b d i j k)
def zw2:=qyq O b d i j k dD
def z0s:=wB 1 i fun a=>wA 1 a fun b=>wc O 11 [b] fun c=>zw2 O .ok (zio O) j k c (iN 0)
def zAm:=z0s O i j k
def qvf(O:Ev.Call)(a b c d:AV):=wF 1 c fun e=>wF 0 c fun f=>wq (ib .mul a f) fun g=>wq (ib .add g b) fun h=>wq (aG 1 e h) fun i=>w1 i fun j=>wq (ib .quo j d) fun k=>wq (ib .rem k (iN 2)) fun l=>wq (ib .eql l (iN 0)) fun m=>wd m (wF 1 c fun n=>wF 0 c fun o=>wq (ib .mul a o) fun q=>wq (ib .add q b) fun r=>wq (aG 1 n r) fun s=>w1 s fun t=>wq (ib .add t d) fun u=>wq (aG 1 n r) fun v=>wU v u <| .ok (.aX [])) (.ok (.aX []))
def z0i:=wB 2 i fun a=>wd l (qvf O j k a (iN 2)) (qvf O j k a (iN 1))
def zBa:=z0i O i j k l
def zht(O:Ev.Call)(a:AV):pD:=.ok a
def qkb(O:Ev.Call)(a:AV->pB)(b c:AV):=wI c fun d=>a b d
def qve:=wz 15 fun b=>wo 0 0 b (dQ 1 · j) fun c=>wn 1 0 b (aQ 1 l) fun d=>wo 2 2 b (aO · d) fun e=>wn 3 0 b (.val m) fun f=>wn 4 14 b (aG 2 e f) fun g=>wn 5 30 b (aQ 0 g) fun h=>wo 6 62 b (aO · h) fun n=>wn 7 0 b (.val i) fun o=>wa 12 0 b (.new (.ptr (b+12) 0) (aB 0 [.str 0 0,.aA,.int .u8 (.ofNat 0),.str 0 0,.str 0 0,.aA])) fun q=>wu 255 (O (.f 34) [c,n,o]) fun r=>wn 9 511 b (.val r) fun s=>wn 10 1023 b (bH 0 s) fun t=>wn 11 1023 b (bH 1 s) fun u=>wu 6143 (zJ 6 · q t) fun _=>wn 14 16383 b (.val u) fun v=>wy <| wF 1 l fun x=>wq (aG 2 x m) fun y=>wF 1 y fun z=>wq (gX (nT .eql).f z (.str 0 0)) fun A=>wg (wv A) (.val v) fun B=>wq (dK A B (.bool false)) fun C=>wd C (wF 1 l fun D=>wq (aG 2 D m) fun E=>wF 0 E fun F=>wQ 1 (dF (bB [.str 0 0] 1) [(0,1,F)]) fun G=>wP 1 16 k G fun I=>qkb O a I m) (qkb O a k m)
def zhu:=cst qve
theorem qr2:zhu=qve:=dW _
def zhv:=wF 1 k fun a=>wq (aF a) fun c=>wq (ib .lss B c) fun d=>wd d (zhu O y i j A k B) (b A)
def qn5:=nY (zhv O b i j k)
def zhw:=qn5 O b i j k dD
def z0h:=wB 1 i fun a=>wA 1 a fun b=>wc O 34 [b,j,k] fun c=>wq (bH 0 c) fun d=>wq (bH 1 c) fun e=>wN [.str 0 0,.aA,.int .u8 (.ofNat 0),.str 0 0,.str 0 0,.aA] fun f=>wT 6 f d <| zhw O (zht O) l a f (.aA) (iN 0)
def zBb:=z0h O i j k l
def zg8:=wc O 82 [i] fun a=>wc O 83 [i] fun b=>wc O 39 [b] fun c=>.ok (.aX [c,(iN 0)])
def qn1(O:Ev.Call)(a:AV->pB)(b c:AV):=wI c fun d=>a b d
def zg7:=wq (aG 3 k l) fun b=>wA 3 b fun c=>wN [iN 0,iN 0,.bool false] fun d=>wT 3 d c <| wl (aQ 2 d) fun e=>wL (aO · e) fun f=>wm (wv f) (aQ 1 i) fun g=>wM (wv f) (aO · g) fun h=>wm (wv f) (aQ 0 d) fun m=>wM (wv f) (aO · m) fun n=>wm (wv f) (aG 1 h n) fun o=>wM (wv f) (aO · o) fun q=>wm (wv f) (aQ 1 i) fun r=>wM (wv f) (aO · r) fun s=>wm (wv f) (aQ 1 d) fun t=>wM (wv f) (aO · t) fun u=>wm (wv f) (aG 1 s u) fun v=>wM (wv f) (aO · v) fun x=>wm (wv f) (ib .eql q x) fun y=>wl (dK f y (.bool false)) fun z=>wd z (wF 1 i fun A=>wF 0 d fun B=>wq (aG 1 A B) fun C=>w1 C fun D=>wQ 1 (dF (bB [iN 0] 1) [(0,1,D)]) fun E=>wP 1 8 j E fun F=>qn1 O a F l) (qn1 O a j l)
def q4q:=wq (ib .lss B k) fun a=>wd a (zg7 O y i A j B) (b A)
def qu7:=nY (q4q O b i j k)
def zg9:=qu7 O b i j k dD
def qu8:=wF 1 i fun a=>wq (aF a) fun b=>zg9 O (zg8 O) j a b (.aA) (iN 0)
def zg6:=cst qu8
theorem qr1:zg6=qu8:=dW _
def zz5:=wB 2 i fun a=>wA 2 a fun b=>wc O 48 [b] fun c=>wq (bH 0 c) fun d=>wq (bH 1 c) fun e=>wN [.aA,.aA] fun f=>wT 2 f d <| wq (ib .neq e (iN 0)) fun g=>wd g (.ok (.aX [(.aA),e])) (zg6 O a f)
def zBp:=zz5 O i
def z4w(O:Ev.Call):pD:=.ok (iN 0)
def zz4:=wB 3 i fun a=>wF 2 a fun b=>wd b (.ok (iN 1)) (z4w O)
def zBq:=zz4 O i
def zwu(O:Ev.Call)(a:AV):pD:=.ok a
def zwt(O:Ev.Call)(a:AV->pB)(b c:AV):=wI c fun d=>a b d
def zws:=wq (aG 1 j k) fun b=>w1 b fun c=>wq (pK oO i [c]) fun d=>zwt O a d k
def zhs:=wq (ib .lss B j) fun a=>wd a (zws O y A i B) (b A)
def q8h:=nY (zhs O b i j)
def zwv:=q8h O b i j dD
def z0g:=wq (aF i) fun a=>zwv O (zwu O) i a (iN 0) (iN 0)
def zBc:=z0g O i
def zgv(O:Ev.Call):pD:=.ok (iN 0)
def zgp(O:Ev.Call)(a:pB)(b:AV):=wI b a
def zgu(O:Ev.Call)(a:pB)(b:AV):=wI b a
def zgt:=wq (aG 6 i j) fun a=>wA 6 a fun d=>wN [.str 0 0,.aA,.int .u8 (.ofNat 0),.str 0 0,.str 0 0,.aA] fun e=>wT 6 e d <| wA 6 e fun f=>wc O 91 [f] fun g=>wq (ib .neq g (iN 0)) fun h=>wd h (b g) (zgu O c j)
def q4k:=wq (ib .lss A j) fun a=>wd a (zgt O b x i A) (d)
def qu5:=gD (q4k O b d i j)
def zgx:=qu5 O b d i j dD
def zgs:=wF 1 i fun a=>wq (aF a) fun d=>zgx O b (zgp O c j) a d (iN 0)
def zgr:=wq (aG 2 i j) fun a=>wA 2 a fun d=>wN [.str 0 0,.aA] fun e=>wT 2 e d <| wF 0 e fun f=>wc O 90 [f] fun g=>wq ((kX .not).f g) fun h=>wd h (b (iN 6)) (wF 1 e fun k=>wq (aF k) fun l=>wq (ib .gtr l (iN 16)) fun m=>wd m (b (iN 3)) (zgs O b c e j))
def zgw:=wq (ib .lss A j) fun a=>wd a (zgr O b x i A) (d)
def qym:=gD (zgw O b d i j)
def zwl:=qym O b d i j dD
def zgq:=wF 0 i fun a=>wq (aF a) fun b=>zwl O .ok (zgv O) a b (iN 0)
def zz1:=wB 1 i fun a=>wF 0 a fun b=>wq (aF b) fun c=>wq (ib .gtr c (iN 16)) fun d=>wd d (.ok (iN 3)) (zgq O a)
def zBu:=zz1 O i
def zg2(O:Ev.Call)(a:AV):pD:=.ok a
def q4n(O:Ev.Call)(a:pB)(b:AV):=wI b a
def zg3(O:Ev.Call)(a:pB)(b:AV):=wI b a
def q4m(a:pB)(b c d e:AV)(H:Hp):R1:=dz 23 H fun f H=>dn 0 0 f H [] [] (.val b) fun g H p w=>dn 1 0 f H p w (.val b) fun h H p w=>dn 2 0 f H p w (.val b) fun i H p w=>dn 3 4 f H p w (aW i) fun j H p w=>dn 4 12 f H p w (aQ 3 j) fun k H p w=>dl 5 28 f H p w (fun H=>aO H k) fun l H p w=>dn 6 0 f H p w (.val d) fun m H p w=>da 7 64 f H p w (tK 1 (f+7) (dF (bB [.cK] 1) [(0,1,m)])) fun n H p w=>dn 9 0 f H p w (.val b) fun o H p w=>dn 10 512 f H p w (aW o) fun q H p w=>dn 11 1536 f H p w (aQ 4 q) fun r H p w=>dl 12 3584 f H p w (fun H=>aO H r) fun s H p w=>dn 13 0 f H p w (aQ 0 c) fun t H p w=>dl 14 8192 f H p w (fun H=>aO H t) fun u H p w=>da 15 24576 f H p w (tK 1 (f+15) (dF (bB [.str 0 0] 1) [(0,1,u)])) fun v H p w=>de 252 H p w (lI 1 8 (eU 252 p H) l (qA 1 (eU 252 p H) n)) (some true) fun x H p w=>de 65532 H p w (lI 1 16 (eU 65532 p H) s (qA 1 (eU 65532 p H) v)) (some true) fun y H p w=>dn 17 131069 f H p w (aW g) fun z H p w=>dn 18 262141 f H p w (aQ 3 z) fun A H p w=>de 524285 H p w (jX (eU 524285 p H) A x) (some true) fun _ H p w=>dn 20 1048575 f H p w (aW h) fun B H p w=>dn 21 2097151 f H p w (aQ 4 B) fun C H p w=>de 4194303 H p w (jX (eU 4194303 p H) C y) (some true) fun _ H p w=>dz2 p H fun H=>zg3 O a e H
def q4l:=wF 1 j fun a=>wq (aG 6 a k) fun c=>wl (aW i) fun d=>wl (aQ 2 d) fun e=>wL (aO · e) fun f=>wl (aQ 0 j) fun g=>wL (aO · g) fun h=>wl (aW c) fun l=>wl (aQ 0 l) fun m=>wL (aO · m) fun n=>wl (dO (dF [.str 0 0,.str 0 0] [(0,1,h),(1,1,n)])) fun o=>wL (sK ⟨(⟨l8 (eqFields [(p1,⟨iE⟩,0),(p1,⟨iE⟩,1)])⟩:E2).f,some 2⟩ (iN 0) true · f o) fun q=>wl (bH 0 q) fun r=>wl (bH 1 q) fun s=>wq ((kX .not).f s) fun t=>wd t (wz 0 fun u=>wn 0 0 u (.val i) fun v=>wn 1 1 u (aW v) fun x=>wn 2 3 u (aQ 2 x) fun y=>wo 3 7 u (aO · y) fun z=>wn 4 0 u (aQ 0 j) fun A=>wo 5 16 u (aO · A) fun B=>wn 6 0 u (.val c) fun C=>wn 7 64 u (aW C) fun D=>wn 8 192 u (aQ 0 D) fun E=>wo 9 448 u (aO · E) fun F=>wn 10 1008 u (dO (dF [.str 0 0,.str 0 0] [(0,1,B),(1,1,F)])) fun G=>wn 11 0 u (.val i) fun I=>wn 12 2048 u (aW I) fun J=>wn 13 6144 u (aQ 3 J) fun K=>wo 14 14336 u (aO · K) fun L=>wn 15 30720 u (aF L) fun M=>wu 65535 (qW ⟨(⟨l8 (eqFields [(p1,⟨iE⟩,0),(p1,⟨iE⟩,1)])⟩:E2).f,some 2⟩ · z G M) fun _=>wy <| q4m O b i j c k) (q4m O b i j c k)
def q4o:=wq (ib .lss A k) fun a=>wd a (q4l O x i j A) (d)
def qu6:=gD (q4o O d i j k)
def zg4:=qu6 O d i j k dD
def zg1:=wq (aG 2 j k) fun a=>wA 2 a fun c=>wN [.str 0 0,.aA] fun d=>wT 2 d c <| wz 0 fun e=>wn 0 0 e (.val i) fun f=>wn 1 1 e (aW f) fun g=>wn 2 3 e (aQ 1 g) fun h=>wo 3 7 e (aO · h) fun l=>wn 4 0 e (aQ 0 d) fun m=>wo 5 16 e (aO · m) fun n=>wo 6 63 e (sK ⟨(⟨iE⟩:E2).f,none⟩ (iN 0) false · l n) fun o=>wn 7 127 e (ib .add o (iN 1)) fun q=>wu 255 (qW ⟨(⟨iE⟩:E2).f,none⟩ · l n q) fun _=>wy <| wF 1 d fun r=>wq (aF r) fun s=>zg4 O (q4n O b k) i d s (iN 0)
def q4p:=wq (ib .lss A k) fun a=>wd a (zg1 O x i j A) (d)
def qn0:=gD (q4p O d i j k)
def zg5:=qn0 O d i j k dD
def zz3:=wB 1 i fun a=>wA 1 a fun b=>wh (fun H=>.new (.map H.nx) (.map [] 0)) fun c=>wh (fun H=>.new (.map H.nx) (.map [] 0)) fun d=>wq (dO (dF [.aA,.dR,.dR,.aA,.aA] [(0,1,b),(1,1,c),(2,1,d)])) fun e=>wB 5 e fun f=>wF 0 a fun g=>wq (aF g) fun h=>zg5 O (zg2 O f) f g h (iN 0)
def zBr:=zz3 O i
def zz0:=wh (fun H=>l9 H.nx i) fun a=>wB 2 j fun b=>wh (fun H=>l9 H.nx k) fun c=>wz 9 fun d=>wo 0 0 d (aO · a) fun e=>wn 1 1 d (aW e) fun f=>wn 2 3 d (aQ 3 f) fun g=>wo 3 7 d (aO · g) fun h=>wo 4 0 d (aO · c) fun l=>wn 5 31 d (aG 1 h l) fun m=>wo 6 63 d (aO · m) fun n=>wa 7 0 d (.new (.ptr (d+7) 0) (aB 0 [.cK])) fun o=>wu 255 (jX · o n) fun _=>wy <| w1 o fun q=>wq (aW q) fun r=>wq (aQ 2 r) fun s=>wA 4 s fun t=>wc O 41 [t] fun u=>wq (bH 0 u) fun v=>wq (bH 1 u) fun x=>wN [.aA] fun y=>wU y v <| wN [.bool false] fun z=>wU z (.bool false) <| wQ 4 (dF (bB [.iR] 4) [(0,1,(.fn 93 [] [a,b,o,c])),(1,1,(.fn 94 [] [a,o])),(2,1,(.fn 96 [] [a,b,y,z])),(3,1,(.fn 98 [] [z,o,b]))]) fun A=>wc O 92 [A] fun B=>.ok B
def zBv:=zz0 O i j k
def zgo:=wz 0 fun a=>wo 0 0 a (aO · i) fun b=>wo 2 0 a (aO · j) fun c=>wu 1 (O (.f 102) [b]) fun d=>wu 3 (jX · i d) fun _=>wu 15 (jX · j c) fun _=>wn 5 31 a (.val (iN 0)) fun e=>wy <| fun H=>fM (kW (kP (rV (aO H i)) (kP (rV (aO H j)) (kP (some e) (some []))))) H
def zgn:=w1 k fun a=>wq (ib .neq a (iN 0)) fun b=>wd b (wz 0 fun c=>wo 0 0 c (aO · k) fun d=>wu 0 (jX · i (.aA)) fun _=>wu 2 (jX · j (iN 0)) fun _=>wn 3 7 c (.val d) fun e=>wy <| fun H=>fM (kW (kP (rV (aO H i)) (kP (rV (aO H j)) (kP (some e) (some []))))) H) (zgo O i j)
def zqy:=wN [.aA] fun a=>wN [iN 0] fun b=>wN [iN 0] fun c=>wU c (iN 0) <| wN [.iR] fun d=>wU d (.fn 100 [] [a,b,c,d]) <| w1 d fun e=>we (vP O e [i,(iN 1),(.bool false)]) fun f=>wq ((kX .not).f f) fun g=>wd g (wU a (.aA) <| wU b (iN 0) <| fun H=>fM (kW (kP (rV (aO H a)) (kP (rV (aO H b)) (kP (some (iN 3)) (some []))))) H) (zgn O a b c)
def zBw:=zqy O i
def zgm(O:Ev.Call)(a b:AV):=wq (aW a) fun c=>wF 3 c fun d=>wq (aG 1 d b) fun e=>w1 e fun f=>.ok f
def zqw:=wq (aW i) fun a=>wF 2 a fun b=>wq (dO (dF [.str 0 0,.str 0 0] [(0,1,j),(1,1,k)])) fun c=>wh (sK ⟨(⟨l8 (eqFields [(p1,⟨iE⟩,0),(p1,⟨iE⟩,1)])⟩:E2).f,some 2⟩ (iN 0) true · b c) fun d=>wq (bH 0 d) fun e=>wq (bH 1 d) fun f=>wq ((kX .not).f f) fun g=>wd g (.ok (.cK)) (zgm O i e)
def zBx:=zqw O i j k
def q8e:=wc O 103 [i] fun a=>.ok a
def qnz(O:Ev.Call)(a:AV->pB)(b c:AV):=wI c fun d=>a b d
def zgk:=wq (aG 2 l m) fun b=>wA 2 b fun c=>wN [.str 0 0,.str 0 0] fun d=>wT 2 d c <| wF 1 d fun e=>wq (gX (nT .eql).f e (.str 0 0)) fun f=>wg (wv f) (.val i) fun g=>wg (wv f) (aQ 0 d) fun h=>wG (wv f) (aO · h) fun n=>wg (wv f) (.val j) fun o=>wx (wv f) (O (.f 65) [g,n,o]) fun q=>wg (wv f) (pX true ((⟨E2.f ⟨qp4⟩⟩:E2).f q (.cK))) fun r=>wq (dK f r (.bool false)) fun s=>wd s (wF 0 d fun t=>wQ 1 (dF (bB [.str 0 0] 1) [(0,1,t)]) fun u=>wP 1 16 k u fun v=>qnz O a v m) (qnz O a k m)
def zgl:=wq (ib .lss B l) fun a=>wd a (zgk O y i j A k B) (b A)
def qyl:=nY (zgl O b i j k l)
def zwk:=qyl O b i j k l dD
def zzz:=wc O 65 [i,j,k] fun a=>wq (pX true ((⟨E2.f ⟨qp4⟩⟩:E2).f a (.cK))) fun b=>wd b (wq (aW a) fun c=>wF 1 c fun d=>wq (aF d) fun e=>zwk O (q8e O) i l d e (.aA) (iN 0)) (q8e O (.aA))
def zBy:=zzz O i j k l
def zzy:=wB 3 i fun a=>wB 3 j fun b=>wz 18 fun c=>wn 0 0 c (aQ 0 a) fun d=>wo 1 1 c (aO · d) fun e=>wn 2 0 c (aQ 0 b) fun f=>wo 3 4 c (aO · f) fun g=>wn 5 0 c (aQ 1 a) fun h=>wo 6 32 c (aO · h) fun k=>wn 7 0 c (aQ 1 b) fun l=>wo 8 128 c (aO · l) fun m=>wo 10 0 c (dQ 3 · a) fun n=>wo 12 0 c (dQ 3 · b) fun o=>wu 15 (O (.f 105) [e,g]) fun q=>wu 511 (O (.f 105) [k,m]) fun r=>wu 2047 (O (.f 106) [n]) fun s=>wu 8191 (O (.f 106) [o]) fun t=>wu 16383 (O (.f 105) [s,t]) fun u=>wa 15 32767 c (tK 3 (c+15) (dF (bB [iN 0] 3) [(0,1,q),(1,1,r),(2,1,u)])) fun v=>wu 65535 (O (.f 104) [v]) fun x=>wn 17 131071 c (.val x) fun y=>wy <| .ok y
def zBz:=zzy O i j
def zx8(O:Ev.Call)(a:Nat)(b:AV->AV->Option Bool)(c:List AV)(d:AV):pD:=.ok d
def zx7(O:Ev.Call)(a:Nat)(b:AV->AV->Option Bool)(c:List AV)(d:pB)(e:AV):=wI e d
def qx1(O:Ev.Call)(a:Nat)(b:AV->AV->Option Bool)(c:List AV)(d:pB)(e f:AV):=wq (kL a e (some f) none none) fun g=>we (qif c · g) fun _=>wq (kL a e none (some f) none) fun h=>d h
def qx0(O:Ev.Call)(a:Nat)(b:AV->AV->Option Bool)(c:List AV)(d:AV->pB)(e f:AV):=wI f fun g=>d e g
def znt(a:Nat)(b:AV->AV->Option Bool)(c:List AV)(d:AV->pB)(e f g h:AV):=wl (aG a g h) fun i=>wL (dQ a · i) fun j=>wl (ib .sub h (iN 1)) fun k=>wl (aG a g k) fun l=>wL (dQ a · l) fun m=>wl (pX true (b j m)) fun n=>wd n (wq (aG a g h) fun o=>wA a o fun q=>wq (aG a e f) fun r=>wT a r q <| wI f fun s=>qx0 O a b c d s h) (qx0 O a b c d f h)
def q7c(a:Nat)(b:AV->AV->Option Bool)(c:List AV)(d:pB)(e f:AV)(g:AV->pB)(h i:AV):=wq (aF f) fun j=>wq (ib .lss i j) fun k=>wd k (znt O a b c g e h f i) (d h)
def qp8(a:Nat)(b:AV->AV->Option Bool)(c:List AV)(d:pB)(e f:AV):=nY (q7c O a b c d e f)
def znv(a:Nat)(b:AV->AV->Option Bool)(c:List AV)(d:pB)(e f:AV):=qp8 O a b c d e f dD
def zns(a:Nat)(b:AV->AV->Option Bool)(c:List AV)(d e:pB)(f g:AV):=wl (aG a f g) fun h=>wL (dQ a · h) fun i=>wl (ib .sub g (iN 1)) fun j=>wl (aG a f j) fun k=>wL (dQ a · k) fun l=>wl (pX false (b i l)) fun m=>wd m (wq (kL a f (some g) none none) fun n=>znv O a b c (qx1 O a b c d f) f n g (iN 1)) (zx7 O a b c e g)
def znu(a:Nat)(b:AV->AV->Option Bool)(c:List AV)(d:pB)(e:pD)(f:AV)(g:pB)(h:AV):=wq (aF f) fun i=>wq (ib .lss h i) fun j=>wd j (zns O a b c d g f h) (e)
def zbg(a:Nat)(b:AV->AV->Option Bool)(c:List AV)(d:pB)(e:pD)(f:AV):=gD (znu O a b c d e f)
def zx9(a:Nat)(b:AV->AV->Option Bool)(c:List AV)(d:pB)(e:pD)(f:AV):=zbg O a b c d e f dD
def znr(a:Nat)(b:AV->AV->Option Bool)(c:List AV)(d:AV):=zx9 O a b c .ok (zx8 O a b c d) d (iN 1)
def zuq(a:Nat)(b:AV->AV->Option Bool)(c:List AV)(d:AV):=wq (aF d) fun e=>wq (ib .lss e (iN 2)) fun f=>wd f (.ok d) (znr O a b c d)
abbrev aAt:AV->AV->Option Bool:=l8 (eqFields [(p1,⟨qqu⟩,0),(p1,⟨qqu⟩,1),(p1,⟨qem⟩,2)])
abbrev zY:List AV:=[iN 0,iN 0,.bool false]
def zCb:=zuq O 3 aAt zY i
def zzx(O:Ev.Call)(a:AV):=wq (aF a) fun b=>wq (aF a) fun c=>wq (kL 3 a none (some b) (some c)) fun d=>.ok d
def zCc:=zzx O i
def zej:=wA 4 i fun a=>wc O 111 [a] fun b=>.ok b
def zyp:=wB 4 i fun a=>wA 4 a fun b=>wc O 110 [b,(iN 8)] fun c=>wq (bH 0 c) fun d=>wq (bH 1 c) fun e=>wq (ib .gtr d (iN 32)) fun f=>wg (bF false f) (.val e) fun g=>wg (bF false f) (ib .gtr g (iN 8)) fun h=>wq (dK f (.bool true) h) fun j=>wd j (.ok (iN 3)) (zej O a)
def zGj:=zyp O i
def qf1(O:Ev.Call):pD:=.ok (.bool false)
def qna(O:Ev.Call)(a:pB)(b:AV):=wI b a
def qt4(O:Ev.Call)(a:pB)(b:AV):=wI b a
def q2b:=wq (aG 5 j k) fun a=>wF 0 a fun d=>wq (ib .eql d (.int .u8 (.ofNat 3))) fun e=>wg (wv e) (.val j) fun f=>wg (wv e) (.val k) fun g=>wg (wv e) (aG 5 f g) fun h=>wg (wv e) (aQ 1 h) fun l=>wG (wv e) (aO · l) fun m=>wg (wv e) (.val i) fun n=>wg (wv e) (gX (nT .eql).f m n) fun o=>wq (dK e o (.bool false)) fun q=>wd q (b (.bool true)) (qt4 O c k)
def q2c:=wq (aF j) fun a=>wq (ib .lss A a) fun c=>wd c (q2b O b x i j A) (d)
def qhr:=gD (q2c O b d i j)
def q2d:=qhr O b d i j dD
def q2a:=wF 1 j fun a=>wq (aG 6 a k) fun d=>wq (aQ 2 d) fun e=>wA 4 e fun f=>wc O 35 [(.aA),f,(.bool false)] fun g=>q2d O b (qna O c k) i g (iN 0)
def zeh:=wF 1 j fun a=>wq (aF a) fun c=>wq (ib .lss A c) fun e=>wd e (q2a O b x i j A) (d)
def qhf:=gD (zeh O b d i j)
def zei:=qhf O b d i j dD
def zyo:=wB 2 i fun a=>zei O .ok (qf1 O) j a (iN 0)
def zGk:=zyo O i j
def zwi(O:Ev.Call):pD:=.ok (iN 0)
def zgg(O:Ev.Call)(a:pB)(b:AV):=wI b a
def z4u:=wF 0 k fun a=>wF 1 k fun d=>wq (pK nN a [d]) fun e=>wq (ib .lss e (iN 0)) fun f=>wg (bF false f) (aQ 0 k) fun g=>wG (bF false f) (aO · g) fun h=>wg (bF false f) (aQ 1 k) fun m=>wG (bF false f) (aO · m) fun n=>wg (bF false f) (pK oO h [n]) fun o=>wg (bF false f) (aQ 0 i) fun q=>wG (bF false f) (aO · q) fun r=>wg (bF false f) (ib .geq o r) fun s=>wq (dK f (.bool true) s) fun t=>wd t (b (iN 4)) (wz 0 fun u=>wn 0 0 u (.val j) fun v=>wn 1 1 u (ib .gtr v (iN 0)) fun x=>wn 2 3 u (.val x) fun y=>wr 3 7 u (aQ 1 i) (wv y) fun z=>ws 4 15 u (aO · z) (wv y) fun A=>wr 5 7 u (.val j) (wv y) fun B=>wr 6 39 u (ib .sub B (iN 1)) (wv y) fun C=>wr 7 127 u (aG 3 A C) (wv y) fun D=>ws 8 255 u (dQ 3 · D) (wv y) fun E=>ws 9 7 u (dQ 3 · k) (wv y) fun F=>wt 1023 (O (.f 67) [E,F]) (wv y) fun G=>wr 11 2047 u (ib .geq G (iN 0)) (wv y) fun I=>wn 12 4095 u (dK y I (.bool false)) fun J=>wn 13 8191 u (.val J) fun K=>wy <| wd K (b (iN 18)) (zgg O c l))
def zgi:=wq (aG 3 j k) fun a=>wA 3 a fun d=>wN [iN 0,iN 0,.bool false] fun e=>wT 3 e d <| z4u O b c i k e k
def zgj:=wq (ib .lss A k) fun a=>wd a (zgi O b x i j A) (d)
def q8d:=gD (zgj O b d i j k)
def zwj:=q8d O b d i j k dD
def zgh:=wF 1 i fun a=>wq (aF a) fun b=>zwj O .ok (zwi O) i a b (iN 0)
def zzw:=wB 2 i fun a=>wF 0 a fun b=>wq (ib .lss b (iN 0)) fun c=>wg (bF false c) (aQ 0 a) fun d=>wG (bF false c) (aO · d) fun e=>wg (bF false c) (ib .gtr e (iN 256)) fun f=>wq (dK c (.bool true) f) fun g=>wd g (.ok (iN 3)) (zgh O a)
def zCd:=zzw O i
def zgb(O:Ev.Call)(a:AV):=wF 1026 a fun b=>.ok b
def qu4(O:Ev.Call)(a:pB)(b:AV):=wI b a
def zgd:=wq (aQ 256 i) fun a=>wq (gP 256 1 a j) fun c=>w1 c fun d=>wq (ib .eql d (iN 0)) fun e=>wd e (wc O 115 [i,j] fun f=>qu4 O b j) (qu4 O b j)
def zge:=wq (ib .lss A j) fun a=>wd a (zgd O x i A) (d)
def q8c:=gD (zge O d i j)
def zwh:=q8c O d i j dD
def q4i:=wF 0 i fun a=>zwh O (zgb O j) j a (iN 0)
def zgc(O:Ev.Call)(a:pB)(b:AV):=wI b a
def zga:=wq (aG 3 j k) fun a=>wA 3 a fun c=>wN [iN 0,iN 0,.bool false] fun d=>wT 3 d c <| fun H=>dz 14 H fun e H=>dn 0 0 e H [] [] (aQ 0 d) fun f H p w=>dl 1 1 e H p w (fun H=>aO H f) fun g H p w=>dn 2 0 e H p w (aQ 0 d) fun h H p w=>dl 3 4 e H p w (fun H=>aO H h) fun l H p w=>dn 4 0 e H p w (aQ 0 i) fun m H p w=>dn 5 28 e H p w (gP 256 1 m l) fun n H p w=>dl 6 60 e H p w (fun H=>aO H n) fun o H p w=>dn 7 0 e H p w (aQ 1 d) fun q H p w=>dl 8 128 e H p w (fun H=>aO H q) fun r H p w=>da 9 384 e H p w (tK 1 (e+9) (dF (bB [iN 0] 1) [(0,1,r)])) fun s H p w=>dn 11 0 e H p w (aQ 0 i) fun t H p w=>de 1020 H p w (lI 1 8 (eU 1020 p H) o (qA 1 (eU 1020 p H) s)) (some true) fun u H p w=>dn 12 4095 e H p w (gP 256 1 t g) fun v H p w=>de 8191 H p w (jX (eU 8191 p H) v u) (some true) fun _ H p w=>dz2 p H fun H=>zgc O b k H
def q4j:=wq (ib .lss A k) fun a=>wd a (zga O x i j A) (d)
def qu3:=gD (q4j O d i j k)
def zgf:=qu3 O d i j k dD
def zzv:=wB 2 i fun a=>wh (fun H=>.new (.ptr H.nx 0) (aB 0 (List.replicate 256 (.aA)++List.replicate 512 (iN 0)++List.replicate 256 (.bool false)++[.aA]++[iN 0]++[.aA]))) fun b=>wF 1 a fun c=>wq (aF c) fun d=>zgf O (q4i O a b) b c d (iN 0)
def zCe:=zzv O i
def q8b(O:Ev.Call)(a b c:AV):pD:=.ok (.fn 114 [] [b,a,c])
def q4f(O:Ev.Call)(a:pB)(b:AV):=wI b a
def zf7(O:Ev.Call)(a:pB)(b:AV):=wI b a
def zf6:=wq (aG 1 k l) fun a=>w1 a fun c=>w1 i fun d=>wq (aG 1 d c) fun e=>wU e j <| zf7 O b l
def q4g:=wq (ib .lss A l) fun a=>wd a (zf6 O x i j k A) (d)
def qu2:=gD (q4g O d i j k l)
def zf8:=qu2 O d i j k l dD
def zf5:=wq (aG 1 j k) fun a=>w1 a fun c=>wq (aF c) fun d=>zf8 O (q4f O b k) i k c d (iN 0)
def q4h:=wq (ib .lss A k) fun a=>wd a (zf5 O x i j A) (d)
def qny:=gD (q4h O d i j k)
def zf9:=qny O d i j k dD
def zzu:=wB 2 i fun a=>wh (fun H=>l9 H.nx j) fun b=>w1 b fun c=>wc O 112 [c,(.fn 113 [] [])] fun d=>wF 0 a fun e=>wh (fun H=>qgb [iN 0] 8 H.nx e e) fun f=>wN [.aA] fun g=>wU g f <| w1 b fun h=>wq (aF h) fun k=>zf9 O (q8b O a b g) g h k (iN 0)
def zCf:=zzu O i j
def zzt(O:Ev.Call)(a:AV):=wq (aF a) fun b=>wq (aF a) fun c=>wq (kL 1 a none (some b) (some c)) fun d=>.ok d
def zCg:=zzt O i
def zeg(O:Ev.Call):pD:=.ok (iN 0)
def zef:=wq (ib .lss i (iN 0)) fun a=>wg (bF false a) (.val i) fun b=>wg (bF false a) (aQ 0 j) fun c=>wG (bF false a) (aO · c) fun d=>wg (bF false a) (ib .geq b d) fun e=>wq (dK a (.bool true) e) fun f=>wd f (.ok (iN 4)) (zeg O)
def zyn:=wB 2 i fun a=>wA 2 a fun b=>wc O 74 [b] fun c=>wq (ib .neq c (iN 0)) fun d=>wd d (.ok c) (zef O j a)
def zGl:=zyn O i j
def qli(O:Ev.Call)(a:AV):pD:=.ok a
def zec(O:Ev.Call)(a:pB)(b:AV):=wI b a
def zeb:=wq (aG 1 j k) fun a=>w1 a fun d=>wq (ib .neq d i) fun e=>wd e (b d) (zec O c k)
def zed:=wq (ib .lss A k) fun a=>wd a (zeb O b x i j A) (d)
def qq2:=gD (zed O b d i j k)
def zee:=qq2 O b d i j k dD
def zym:=wq (aF i) fun a=>zee O .ok (qli O (iN 0)) (iN 0) i a (iN 0)
def zGm:=zym O i
def qf0(O:Ev.Call)(a b:AV):=wA 256 b fun c=>wT 256 a c <| fun H=>fM (rV (dQ 256 H a)) H
def qhq(O:Ev.Call)(a:pB)(b:AV):=wq (kL 1 b (some (iN 1)) none none) fun c=>a c
def qjz(O:Ev.Call)(a:AV->pB)(b c:AV):=wI c fun d=>a b d
def q13:=wq (aG 3 k l) fun b=>wA 3 b fun c=>wN [iN 0,iN 0,.bool false] fun d=>wT 3 d c <| wl (aQ 0 d) fun e=>wL (aO · e) fun f=>wl (aG 1 j (iN 0)) fun g=>wL (aO · g) fun h=>wl (ib .eql f h) fun m=>wm (wv m) (aQ 1 d) fun n=>wM (wv m) (aO · n) fun o=>wm (wv m) (gP 256 1 i o) fun q=>wM (wv m) (aO · q) fun r=>wm (wv m) (ib .lss r (iN 0)) fun s=>wl (dK m s (.bool false)) fun t=>wd t (wF 1 d fun u=>wF 0 d fun v=>wq (gP 256 1 i u) fun x=>wU x v <| wF 1 d fun y=>wQ 1 (dF (bB [iN 0] 1) [(0,1,y)]) fun z=>wP 1 8 j z fun A=>qjz O a A l) (qjz O a j l)
def q17:=wq (ib .lss B k) fun a=>wd a (q13 O y i A j B) (b A)
def qjy:=nY (q17 O b i j k)
def q19:=qjy O b i j k dD
def q12:=wF 1 i fun a=>wq (aF a) fun c=>q19 O (qhq O b) j a c k (iN 0)
def zd9:=wq (aF A) fun a=>wq (ib .gtr a (iN 0)) fun b=>wd b (q12 O x i j A) (d)
def qhe:=gD (zd9 O d i j)
def zea:=qhe O d i j dD
def qhp:=wq (gP 256 1 l i) fun a=>wU a i <| wQ 1 (dF (bB [iN 0] 1) [(0,1,i)]) fun b=>zea O (qf0 O k l) j l b
def q11(O:Ev.Call)(a:pB)(b:AV):=wI b a
def q10:=wq (gP 256 1 i j) fun a=>wU a (.int .i64 (.negSucc 0)) <| q11 O b j
def q14:=wq (ib .lss A (iN 256)) fun a=>wd a (q10 O x i A) (d)
def qjx:=gD (q14 O d i)
def q18:=qjx O d i dD
def zyl:=wB 2 i fun a=>wh (fun H=>.new (.ptr H.nx 0) (aB 0 (List.replicate 256 (iN 0)))) fun b=>wh (fun H=>.new (.ptr H.nx 0) (aB 0 (List.replicate 256 (iN 0)))) fun c=>q18 O (qhp O j a b c) c (iN 0)
def zGn:=zyl O i j
def zd6(O:Ev.Call)(a:AV->pB)(b c:AV):=wI b fun d=>wq (ib .sub c (iN 1)) fun e=>a d e
def q1y:=wz 0 fun b=>wn 0 0 b (.val i) fun c=>wn 1 0 b (.val j) fun d=>wn 2 0 b (.val i) fun e=>wn 3 0 b (.val k) fun f=>wn 4 0 b (.val i) fun g=>wn 5 0 b (.val k) fun h=>wn 6 48 b (aG 1 g h) fun l=>wo 7 112 b (aO · l) fun m=>wn 8 0 b (.val i) fun n=>wn 9 0 b (.val j) fun o=>wn 10 768 b (aG 1 n o) fun q=>wo 11 1792 b (aO · q) fun r=>wn 12 4083 b (aG 1 c d) fun s=>wu 8179 (jX · s m) fun _=>wn 14 16383 b (aG 1 e f) fun t=>wu 32767 (jX · t r) fun _=>wy <| zd6 O a j k
def zd7:=wq (ib .lss A B) fun a=>wd a (q1y O y i A B) (d)
def qq1:=nY (zd7 O d i)
def zd8:=qq1 O d i dD
def zyk:=wq (aF i) fun a=>wq (ib .sub a (iN 1)) fun b=>zd8 O (.ok (.aX [])) i (iN 0) b
def zGo:=zyk O i
def z4v:=wc O 59 [j] fun a=>wc O 59 [i] fun b=>wq (ib .lss a b) fun c=>wg (bF false c) (.val k) fun d=>wg (bF false c) ((kX .not).f d) fun e=>wg (bF false c) (.val e) fun f=>wg (wv f) (.val j) fun g=>wx (wv f) (O (.f 59) [g]) fun h=>wg (wv f) (.val i) fun l=>wx (wv f) (O (.f 59) [l]) fun m=>wg (wv f) (ib .eql h m) fun n=>wg (bF false c) (dK f n (.bool false)) fun o=>wq (dK c (.bool true) o) fun q=>.ok q
def zBt:=z4v O i j k
def qf7(O:Ev.Call)(a:AV):pD:=.ok a
def qlm(O:Ev.Call)(a:pB)(b:AV):=wI b a
def qfi(O:Ev.Call)(a:pB)(b c:AV):=wq (kL 1 b (some c) none none) fun d=>we (qif [iN 0] · d) fun _=>wq (kL 1 b none (some c) none) fun e=>a e
def qdy(O:Ev.Call)(a:AV->pB)(b c:AV):=wI c fun d=>a b d
def qjh:=wl (aG 1 k l) fun b=>wL (aO · b) fun c=>wl (ib .sub l (iN 1)) fun d=>wl (aG 1 k d) fun e=>wL (aO · e) fun f=>wl (ib .neq c f) fun g=>wd g (wq (aG 1 k l) fun h=>w1 h fun m=>wq (aG 1 i j) fun n=>wU n m <| wI j fun o=>qdy O a o l) (qdy O a j l)
def qfj:=wq (aF j) fun a=>wq (ib .lss B a) fun c=>wd c (qjh O y i A j B) (b A)
def qdx:=nY (qfj O b i j)
def qji:=qdx O b i j dD
def qjg:=wl (aG 1 i j) fun a=>wL (aO · a) fun d=>wl (ib .sub j (iN 1)) fun e=>wl (aG 1 i e) fun f=>wL (aO · f) fun g=>wl (ib .eql d g) fun h=>wd h (wq (kL 1 i (some j) none none) fun k=>qji O (qfi O b i) i k j (iN 1)) (qlm O c j)
def qf8:=wq (aF i) fun a=>wq (ib .lss A a) fun c=>wd c (qjg O b x i A) (d)
def qej:=gD (qf8 O b d i)
def qln:=qej O b d i dD
def qjf:=qln O .ok (qf7 O i) i (iN 1)
def qic:=wq (aF i) fun a=>wq (ib .lss a (iN 2)) fun b=>wd b (.ok i) (qjf O i)
def jU:=qic O i
def zf1:=wq (aQ 2 i) fun a=>wA 4 a fun b=>wc O 123 [b] fun c=>.ok c
def q4e(O:Ev.Call)(a:pB)(b:AV):=wI b a
def zf3:=wq (aG 2 i j) fun a=>wA 2 a fun d=>wN [.str 0 0,.str 0 0] fun e=>wT 2 e d <| wF 0 e fun f=>wc O 90 [f] fun g=>wq ((kX .not).f g) fun h=>wg (bF false h) (aQ 1 e) fun k=>wG (bF false h) (aO · k) fun l=>wg (bF false h) (gX (nT .neq).f l (.str 0 0)) fun m=>wg (bF false h) (.val m) fun n=>wg (wv n) (aQ 1 e) fun o=>wG (wv n) (aO · o) fun q=>wx (wv n) (O (.f 90) [q]) fun r=>wg (wv n) ((kX .not).f r) fun s=>wg (bF false h) (dK n s (.bool false)) fun t=>wq (dK h (.bool true) t) fun u=>wd u (b (iN 6)) (q4e O c j)
def zf4:=wq (ib .lss A j) fun a=>wd a (zf3 O b x i A) (d)
def q8a:=gD (zf4 O b d i j)
def zwg:=q8a O b d i j dD
def zf2:=wF 1 i fun a=>wq (aF a) fun b=>zwg O .ok (zf1 O i) a b (iN 0)
def zzs:=wB 6 i fun a=>wF 0 a fun b=>wc O 90 [b] fun c=>wq ((kX .not).f c) fun d=>wd d (.ok (iN 6)) (wF 1 a fun e=>wq (aF e) fun f=>wq (ib .gtr f (iN 8)) fun g=>wd g (.ok (iN 3)) (zf2 O a))
def zCi:=zzs O i
def z4t(O:Ev.Call):pD:=.ok (iN 0)
def zzr:=wL (aO · i) fun a=>wl (aW a) fun b=>wl (aQ 2 b) fun c=>wL (aO · c) fun d=>wl (aQ 0 j) fun e=>wL (aO · e) fun f=>wL (aO · k) fun g=>wl (aW g) fun h=>wl (aQ 0 h) fun m=>wL (aO · m) fun n=>wl (dO (dF [.str 0 0,.str 0 0] [(0,1,f),(1,1,n)])) fun o=>wL (sK ⟨(⟨l8 (eqFields [(p1,⟨iE⟩,0),(p1,⟨iE⟩,1)])⟩:E2).f,some 2⟩ (iN 0) false · d o) fun q=>wL (aO · l) fun r=>wl (ib .neq q r) fun s=>wd s (.ok (iN 7)) (z4t O)
def zCj:=zzr O i j k l
def zzq:=w1 i fun a=>w1 j fun b=>wc O 95 [a,b] fun c=>.ok c
def zCk:=zzq O i j
def zzp:=w1 i fun a=>wF 0 j fun b=>w1 k fun c=>wc O 97 [a,b,c] fun d=>wq (bH 0 d) fun e=>wq (bH 1 d) fun f=>wU l e <| .ok f
def zCl:=zzp O i j k l
def z4s(O:Ev.Call):pD:=.ok (iN 0)
def zzo:=wz 0 fun a=>wo 0 0 a (aO · i) fun b=>wn 1 1 a (.val b) fun c=>ws 2 3 a (aO · j) (wv c) fun d=>wr 3 7 a (aW d) (wv c) fun e=>wr 4 15 a (aQ 1 e) (wv c) fun f=>ws 5 31 a (aO · f) (wv c) fun g=>wr 6 63 a (aF g) (wv c) fun h=>wr 7 127 a (ib .eql h (iN 0)) (wv c) fun l=>wn 8 255 a (dK c l (.bool false)) fun m=>wn 9 511 a (.val m) fun n=>ws 10 1023 a (aO · i) (bF false n) fun o=>wr 11 2047 a ((kX .not).f o) (bF false n) fun q=>wr 12 4095 a (.val q) (bF false n) fun r=>ws 13 8191 a (aO · j) (wv r) fun s=>wr 14 16383 a (aW s) (wv r) fun t=>wr 15 32767 a (aQ 1 t) (wv r) fun u=>ws 16 65535 a (aO · u) (wv r) fun v=>wr 17 131071 a (aF v) (wv r) fun x=>wr 18 262143 a (ib .gtr x (iN 0)) (wv r) fun y=>wr 19 524287 a (dK r y (.bool false)) (bF false n) fun z=>wr 20 1048575 a (.val z) (bF false n) fun A=>ws 21 2097151 a (dQ 2 · k) (wv A) fun B=>ws 22 2097151 a (aO · j) (wv A) fun C=>wr 23 6291455 a (aW C) (wv A) fun D=>wr 24 14680063 a (aQ 0 D) (wv A) fun E=>ws 25 31457279 a (aO · E) (wv A) fun F=>wt 67108863 (O (.f 99) [B,F]) (wv A) fun G=>wr 27 134217727 a ((kX .not).f G) (wv A) fun I=>wr 28 268435455 a (dK A I (.bool false)) (bF false n) fun J=>wn 29 536870911 a (dK n (.bool true) J) fun K=>wy <| wd K (.ok (iN 11)) (z4s O)
def zCm:=zzo O i j k
def zwe(O:Ev.Call):pD:=.ok (iN 0)
def qyk(O:Ev.Call)(a:pB)(b:AV):=wI b a
def qnw:=wq (aG 1 i j) fun a=>w1 a fun d=>we (vP O d []) fun e=>wq (ib .neq e (iN 0)) fun f=>wd f (b e) (qyk O c j)
def qnx:=wq (ib .lss A j) fun a=>wd a (qnw O b x i A) (d)
def q79:=gD (qnx O b d i j)
def zwf:=q79 O b d i j dD
def zzn:=wq (aF i) fun a=>zwf O .ok (zwe O) i a (iN 0)
def zCn:=zzn O i
def qnu:=wz 0 fun a=>wo 0 0 a (aO · i) fun b=>wn 1 0 a (.val j) fun c=>wn 2 0 a (.val k) fun d=>wu 4 (O (.f 39) [d]) fun e=>wn 4 15 a (aG 5 b c) fun f=>wn 5 31 a (aQ 3 f) fun g=>wu 63 (jX · g e) fun _=>wy <| .ok (.bool true)
def qu1(O:Ev.Call)(a:AV->pB)(b c:AV):=wI c fun d=>a b d
def qnt:=w1 l fun a=>wq (aF a) fun c=>wQ 1 (dF (bB [iN 0] 1) [(0,1,c)]) fun d=>wP 1 8 n d fun e=>wz 0 fun f=>wo 0 0 f (aO · m) fun h=>wn 1 0 f (.val i) fun q=>wn 2 2 f (aW q) fun r=>wn 3 6 f (aQ 3 r) fun s=>wo 4 14 f (aO · s) fun t=>wn 5 0 f (.val o) fun u=>wn 6 62 f (aG 4 t u) fun v=>wn 7 0 f (.val j) fun x=>wn 8 128 f (ib .add x (iN 1)) fun y=>wn 9 0 f (.val k) fun z=>wn 10 512 f (.val z) fun A=>wr 11 1536 f (.val i) (bF false A) fun B=>wr 12 3584 f (aW B) (bF false A) fun C=>wr 13 7680 f (aQ 0 C) (bF false A) fun D=>ws 14 15872 f (aO · D) (bF false A) fun E=>wr 15 32256 f (ib .eql E (.int .u8 (.ofNat 6))) (bF false A) fun F=>wr 16 65024 f (.val F) (bF false A) fun G=>wr 17 130560 f (.val o) (wv G) fun I=>wr 18 261632 f (ib .eql I (iN 1)) (wv G) fun J=>wr 19 523776 f (dK G J (.bool false)) (bF false A) fun K=>wn 20 1048064 f (dK A (.bool true) K) fun L=>wu 2097151 (vP O h [v,y,L]) fun M=>wn 22 4194303 f ((kX .not).f M) fun N=>wy <| wd N (b (.bool false)) (qu1 O g e o)
def qhw:=wq (ib .lss B n) fun a=>wd a (qnt O b y i j k l m A B) (c A)
def qu0:=nY (qhw O b c i j k l m n)
def qnv:=qu0 O b c i j k l m n dD
def q4d:=w1 l fun a=>wq (aF a) fun b=>fun H=>dz 18 H fun c H=>dl 0 0 c H [] [] (fun H=>aO H l) fun d H p w=>dn 1 0 c H p w (.val i) fun e H p w=>dn 2 2 c H p w (aW e) fun f H p w=>dn 3 6 c H p w (aQ 0 f) fun g H p w=>dl 4 14 c H p w (fun H=>aO H g) fun h H p w=>dn 5 0 c H p w (.val i) fun n H p w=>dn 6 32 c H p w (aW n) fun o H p w=>dn 7 96 c H p w (aQ 1 o) fun q H p w=>dl 8 224 c H p w (fun H=>aO H q) fun r H p w=>dn 9 0 c H p w (.val i) fun s H p w=>dn 10 512 c H p w (aW s) fun t H p w=>dn 11 1536 c H p w (aQ 2 t) fun u H p w=>dl 12 3584 c H p w (fun H=>aO H u) fun v H p w=>dn 13 0 c H p w (.val k) fun x H p w=>dn 14 16382 c H p w (dO (dF [.int .u8 (.ofNat 0),.str 0 0,.str 0 0,.aA,.bool false] [(0,1,h),(1,1,r),(2,1,v),(4,1,x)])) fun y H p w=>da 15 32766 c H p w (tK 1 (c+15) (dF (bB [.int .u8 (.ofNat 0),.str 0 0,.str 0 0,.aA,.bool false] 1) [(0,5,y)])) fun z H p w=>de 65535 H p w (lI 5 72 (eU 65535 p H) d (qA 5 (eU 65535 p H) z)) (some true) fun A H p w=>de 131071 H p w (jX (eU 131071 p H) l A) (some true) fun _ H p w=>dz2 p H fun H=>vq (aW i) H fun B H=>vF 3 B H fun C H=>vq (aF C) H fun D H=>qnv O .ok (qnu O l b) i j k l m D (.aA) (iN 0) H
def zf0:=w1 m fun a=>wq (pK oO a [j]) fun b=>wU m b <| w1 n fun c=>wq (ib .eql c (iN 0)) fun d=>wd d (wc O 101 [i] fun e=>wU n e <| q4d O i j k l o) (q4d O i j k l o)
def zbw:=w1 l fun a=>wq (aF a) fun b=>wq (ib .eql b (iN 32)) fun c=>wg (bF false c) (.val j) fun d=>wg (bF false c) (ib .gtr d (iN 8)) fun e=>wq (dK c (.bool true) e) fun f=>wd f (.ok (.bool false)) (zf0 O i j k l m n o)
def zCo:=zbw O i j k l m n o
def zzm(O:Ev.Call)(a:AV):=wq (aF a) fun b=>wq (aF a) fun c=>wq (kL 5 a none (some b) (some c)) fun d=>.ok d
def zCp:=zzm O i
def zzl(O:Ev.Call)(a:AV):=wq (aF a) fun b=>wq (aF a) fun c=>wq (kL 1 a none (some b) (some c)) fun d=>.ok d
def zCq:=zzl O i
def zwd(O:Ev.Call):pD:=.ok (iN 0)
def zwc:=wq (ib .gtr i j) fun a=>wd a (.ok (iN 1)) (zwd O)
def zwb:=wq (ib .lss i j) fun a=>wd a (.ok (.int .i64 (.negSucc 0))) (zwc O i j)
def zwa:=wd k (.ok (iN 1)) (zwb O i j)
def z4r(O:Ev.Call):pD:=.ok (.int .i64 (.negSucc 0))
def zzk:=wc O 130 [i] fun a=>wc O 130 [j] fun b=>wd a (wd b (.ok (iN 0)) (z4r O)) (zwa O i j b)
def zCr:=zzk O i j
def zv9(O:Ev.Call):pD:=.ok (iN 0)
def zzj:=wB 3 i fun a=>wF 2 a fun b=>wd b (.ok (iN 1)) (zv9 O)
def zCs:=zzj O i
def zfy(O:Ev.Call)(a:AV):pD:=.ok a
def zv7(O:Ev.Call)(a:pB)(b:AV):=wI b a
def zv6:=wq (aG 1 j k) fun a=>w1 a fun d=>wq (ib .neq d i) fun e=>wd e (b d) (zv7 O c k)
def zfz:=wq (ib .lss A k) fun a=>wd a (zv6 O b x i j A) (d)
def q78:=gD (zfz O b d i j k)
def zv8:=q78 O b d i j k dD
def zzi:=wq (aF i) fun a=>zv8 O .ok (zfy O (iN 0)) (iN 0) i a (iN 0)
def zCt:=zzi O i
def qlh(O:Ev.Call)(a b:AV):=wI b fun c=>.ok (.aX [a,c])
def zd5(O:Ev.Call)(a:AV->AV->pB)(b c d:AV):=wI d fun e=>a b c e
def q1x:=wF 3 j fun a=>wq (aG 4 a m) fun b=>wA 4 b fun c=>wq (ib .sub i (iN 1)) fun d=>wc O 110 [c,d] fun e=>wq (bH 0 e) fun f=>wq (bH 1 e) fun g=>wq (ib .add k f) fun n=>wq (pK oO l [g]) fun o=>zd5 O h n o m
def qyb:=wF 3 j fun b=>wq (aF b) fun c=>wq (ib .lss C c) fun d=>wg (wv d) (.val A) fun e=>wg (wv d) (ib .leq e (iN 32)) fun f=>wq (dK d f (.bool false)) fun g=>wd g (q1x O z i j A B C) (a A B)
def q7w:=lq3 (qyb O a i j)
def q7x:=q7w O a i j dD
def qt3:=q7x O (qlh O) i j (iN 1) (iN 0) (iN 0)
def zo7:=wB 4 i fun a=>wq (ib .eql j (iN 0)) fun b=>wd b (.ok (.aX [(iN 1000),(iN 1000)])) (qt3 O j a)
def zGp:=zo7 O i j
def qq0(O:Ev.Call)(a:AV):pD:=.ok a
def zd4(O:Ev.Call)(a:AV->pB)(b c:AV):=wI c fun d=>a b d
def q1w:=wF 3 i fun b=>wq (aG 4 b j) fun c=>wA 4 c fun d=>wc O 111 [d] fun e=>zd4 O a e j
def qya:=wF 3 i fun a=>wq (aF a) fun c=>wq (ib .lss B c) fun d=>wg (wv d) (.val A) fun e=>wg (wv d) (ib .eql e (iN 0)) fun f=>wq (dK d f (.bool false)) fun g=>wd g (q1w O y i B) (b A)
def q7u:=nY (qya O b i)
def q7v:=q7u O b i dD
def zo5:=wB 4 i fun a=>wA 4 a fun b=>wc O 141 [b] fun c=>q7v O (qq0 O) a c (iN 0)
def zGq:=zo5 O i
def quz:=wq (aW k) fun a=>wF 0 a fun c=>wc O 144 [i,c] fun d=>wq (aF j) fun e=>wq (ib .sub e (iN 1)) fun f=>wq (kL 2 j none (some f) none) fun g=>wq (aF g) fun h=>wq (ib .gtr h (iN 0)) fun l=>wd l (wq (aF g) fun m=>wq (ib .sub m (iN 1)) fun n=>wq (aG 2 g n) fun o=>wF 0 o fun q=>wz 0 fun r=>wn 0 0 r (.val i) fun s=>wn 1 0 r (.val q) fun t=>wn 2 0 r (.val i) fun u=>wn 3 0 r (.val q) fun v=>wn 4 4 r (aW u) fun x=>wn 5 20 r (aQ 512 x) fun y=>wn 6 60 r (gP 256 1 y v) fun z=>wo 7 124 r (aO · z) fun A=>wn 8 0 r (.val i) fun B=>wn 9 0 r (.val c) fun C=>wn 10 256 r (aW B) fun D=>wn 11 1280 r (aQ 512 D) fun E=>wn 12 3840 r (gP 256 1 E C) fun F=>wo 13 7936 r (aO · F) fun G=>wn 14 16380 r (pK nN A [G]) fun I=>wn 15 1 r (aW s) fun J=>wn 16 32769 r (aQ 512 J) fun K=>wn 17 131071 r (gP 256 1 K t) fun L=>wu 262143 (jX · L I) fun _=>wy <| b g) (b g)
def zfv(O:Ev.Call)(a:pB)(b c d e:AV):=wq (aW b) fun f=>wq (aQ 768 f) fun g=>wq (gP 256 1 g e) fun h=>w1 h fun i=>wd i (wz 0 fun j=>wn 0 0 j (.val b) fun k=>wn 1 0 j (.val d) fun l=>wn 2 2 j (aW l) fun m=>wn 3 6 j (aQ 0 m) fun n=>wo 4 14 j (aO · n) fun o=>wn 5 0 j (.val b) fun q=>wn 6 0 j (.val d) fun r=>wn 7 64 j (aW r) fun s=>wn 8 192 j (aQ 0 s) fun t=>wo 9 448 j (aO · t) fun u=>wn 10 32 j (aW q) fun v=>wn 11 1056 j (aQ 512 v) fun x=>wn 12 4064 j (gP 256 1 x u) fun y=>wo 13 8160 j (aO · y) fun z=>wn 14 0 j (.val b) fun A=>wn 15 0 j (.val e) fun B=>wn 16 16384 j (aW A) fun C=>wn 17 81920 j (aQ 256 C) fun D=>wn 18 245760 j (gP 256 1 D B) fun E=>wo 19 507904 j (aO · E) fun F=>wn 20 1048544 j (pK nN z [F]) fun G=>wn 21 1 j (aW k) fun I=>wn 22 2097153 j (aQ 512 I) fun J=>wn 23 8388607 j (gP 256 1 J o) fun K=>wu 16777215 (jX · K G) fun _=>wy <| a c) (a c)
def q77:=wl (aW k) fun a=>wl (aQ 0 a) fun d=>wL (aO · d) fun e=>wl (aW i) fun f=>wl (aQ 0 f) fun g=>wl (gP 256 1 g e) fun h=>wL (aO · h) fun l=>wl (aW k) fun m=>wl (aQ 1 m) fun n=>wL (aO · n) fun o=>wl (aG 1 l o) fun q=>wL (aO · q) fun r=>wq (aW k) fun s=>wF 1 s fun t=>wI t fun u=>wq (aW k) fun v=>wq (aQ 1 v) fun x=>wU x u <| wq (aW i) fun y=>wq (aQ 256 y) fun z=>wq (gP 256 1 z r) fun A=>w1 A fun B=>wq (ib .eql B (iN 0)) fun C=>wd C (wc O 143 [i,r] fun D=>wq (dO (dF [iN 0,iN 0] [(0,1,r),(1,1,(iN 0))])) fun E=>wQ 1 (dF (bB [iN 0,iN 0] 1) [(0,2,E)]) fun F=>wP 2 16 j F fun G=>b G) (zfv O c i j k r)
def q4c:=wl (aW j) fun a=>wl (aQ 1 a) fun d=>wL (aO · d) fun e=>wl (aW j) fun f=>wl (aQ 0 f) fun g=>wL (aO · g) fun h=>wl (aW i) fun k=>wl (aQ 0 k) fun l=>wl (gP 256 1 l h) fun m=>wL (aO · m) fun n=>wl (aF n) fun o=>wl (ib .lss e o) fun q=>wd q (q77 O b x i A j) (c A)
def quy:=gD (q4c O b c i j)
def zfx:=quy O b c i j dD
def q76:=wq (aF j) fun a=>wq (ib .sub a (iN 1)) fun c=>wq (aG 2 j c) fun d=>fun H=>zfx O b (fun j H=>quz O b i j d H) i d j H
def zfw:=wq (aF A) fun a=>wq (ib .gtr a (iN 0)) fun b=>wd b (q76 O x i A) (d)
def qr0:=gD (zfw O d i)
def zv5:=qr0 O d i dD
def q75:=zv5 O (.ok (.aX [])) i j
def z4q:=wc O 143 [i,j] fun a=>wq (dO (dF [iN 0,iN 0] [(0,1,j),(1,1,(iN 0))])) fun b=>wQ 1 (dF (bB [iN 0,iN 0] 1) [(0,2,b)]) fun c=>q75 O i c
def zCu:=z4q O i j
def z4p(O:Ev.Call)(a b:AV):=wl (aG 1 a (iN 0)) fun c=>wL (aO · c) fun d=>wl (aG 1 b (iN 0)) fun e=>wL (aO · e) fun f=>wl (ib .sub d f) fun g=>.ok g
def zCv:=z4p O i j
def q74(O:Ev.Call)(a:pB)(b:AV):=wI b a
def q39(O:Ev.Call)(a:pB)(b:AV):=wI b a
def zfr:=wq (aG 1 k m) fun a=>w1 a fun b=>wq ((kX .not).f b) fun c=>wg (wv c) (.val l) fun g=>wg (wv c) (.val m) fun h=>wg (wv c) (aG 1 g h) fun n=>wG (wv c) (aO · n) fun o=>wg (wv c) ((kX .not).f o) fun q=>wq (dK c q (.bool false)) fun r=>wd r (wq (aG 1 k m) fun s=>wU s (.bool true) <| w1 j fun t=>wq (aG 1 t m) fun u=>w1 u fun v=>we (vP O i [v]) fun x=>wq ((kX .not).f x) fun y=>wd y (d) (e)) (q39 O f m)
def q4b:=wq (ib .lss A m) fun a=>wd a (zfr O d e x i j k l A) (e)
def qns:=gD (q4b O d e i j k l m)
def zfu:=qns O d e i j k l m dD
def q38:=w1 j fun a=>wq (aF a) fun b=>zfu O d (q74 O f m) i j k l b (iN 0)
def qux(O:Ev.Call)(a:pB)(b:AV):=wI b a
def zfq:=wq (aG 3 l m) fun a=>wA 3 a fun c=>wN [iN 0,iN 0,.bool false] fun d=>wT 3 d c <| wL (aO · i) fun e=>wl (aQ 0 d) fun f=>wL (aO · f) fun g=>wl (aG 1 e g) fun h=>wL (aO · h) fun n=>wL (aO · i) fun o=>wl (aQ 1 d) fun q=>wL (aO · q) fun r=>wl (aG 1 o r) fun s=>wL (aO · s) fun t=>wq (ib .neq n t) fun u=>wg (wv u) (.val j) fun v=>wg (wv u) (.val t) fun x=>wg (wv u) (aG 1 v x) fun y=>wG (wv u) (aO · y) fun z=>wg (wv u) ((kX .not).f z) fun A=>wq (dK u A (.bool false)) fun B=>wd B (wq (aG 1 k n) fun C=>wU C (.bool true) <| qux O b m) (qux O b m)
def q4a:=wq (ib .lss A m) fun a=>wd a (zfq O x i j k l A) (d)
def qnr:=gD (q4a O d i j k l m)
def zft:=qnr O d i j k l m dD
def zfp:=w1 j fun a=>wq (aF a) fun b=>wh (fun H=>qgb [.bool false] 1 H.nx b b) fun c=>wF 1 k fun e=>wq (aF e) fun g=>zft O (q38 O d f i j m c n) l m c e g (iN 0)
def zfs:=wq (ib .lss A n) fun a=>wd a (zfp O d x i j k l m A) (e)
def qrz:=gD (zfs O d e i j k l m n)
def zv4:=qrz O d e i j k l m n dD
def zzh:=w1 j fun a=>wq (aF a) fun b=>wh (fun H=>qgb [.bool false] 1 H.nx b b) fun c=>w1 j fun d=>wq (aF d) fun e=>zv4 O (.ok (.aX [])) (.ok (.aX [])) i j k l c e (iN 0)
def zCw:=zzh O i j k l
def zzg:=wB 4 i fun a=>wc O 64 [a] fun b=>wq (bH 0 b) fun c=>wq (bH 1 b) fun d=>wq (bH 2 b) fun e=>.ok e
def zCx:=zzg O i
def zfn(O:Ev.Call):pD:=.ok (iN 0)
def q73:=cst zfn
theorem qyi:q73=zfn:=dW _
def q37(O:Ev.Call)(a:pB)(b:AV):=wI b a
def zfl:=cst q37
theorem qyh:zfl=q37:=dW _
def q36:=wd j (b (iN 7)) (zfl O c i)
def zv2:=cst q36
theorem qyg:zv2=q36:=dW _
def quv:=wd m (b (iN 6)) (wz 0 fun a=>wn 0 0 a (.val i) fun d=>wn 1 1 a (aW d) fun e=>wn 2 3 a (aQ 1 e) fun f=>wo 3 7 a (aO · f) fun g=>wn 4 0 a (.val j) fun h=>wn 5 31 a (kL 2 g none (some h) none) fun n=>wo 6 0 a (dQ 2 · k) fun o=>wu 127 (O (.f 124) [n,o]) fun q=>wn 8 255 a (.val q) fun r=>wy <| zv2 O b c l r)
def zfk:=cst quv
theorem qrw:zfk=quv:=dW _
def quu:=wz 0 fun a=>wn 0 0 a (.val i) fun d=>wn 1 1 a (aW d) fun e=>wn 2 3 a (aQ 1 e) fun f=>wo 3 7 a (aO · f) fun g=>wn 4 0 a (aQ 0 l) fun h=>wo 5 16 a (aO · h) fun n=>wo 6 63 a (sK ⟨(⟨iE⟩:E2).f,none⟩ (iN 0) false · g n) fun o=>wn 7 127 a (ib .eql o (iN 0)) fun q=>wn 8 255 a (.val q) fun r=>wr 9 511 a (aQ 1 l) (bF false r) fun s=>ws 10 1023 a (aO · s) (bF false r) fun t=>wr 11 2047 a (gX (nT .neq).f t (.str 0 0)) (bF false r) fun u=>wr 12 4095 a (.val u) (bF false r) fun v=>wr 13 8191 a (.val i) (wv v) fun x=>wr 14 8191 a (aQ 0 l) (wv v) fun y=>ws 15 24575 a (aO · y) (wv v) fun z=>wr 16 8191 a (aQ 1 l) (wv v) fun A=>ws 17 73727 a (aO · A) (wv v) fun B=>wt 262143 (O (.f 65) [x,z,B]) (wv v) fun C=>wr 19 524287 a (pX false ((⟨E2.f ⟨qp4⟩⟩:E2).f C (.cK))) (wv v) fun D=>wr 20 1048575 a (dK v D (.bool false)) (bF false r) fun E=>wn 21 2097151 a (dK r (.bool true) E) fun F=>wn 22 4194303 a (.val F) fun G=>wy <| zfk O b c j k l m G
def zfj:=cst quu
theorem qrv:zfj=quu:=dW _
def quw:=wq (aG 2 k l) fun a=>wA 2 a fun d=>wN [.str 0 0,.str 0 0] fun e=>wT 2 e d <| zfj O b c i j l e l
def zfm:=cst quw
theorem qry:zfm=quw:=dW _
def zfo:=wq (ib .lss A l) fun a=>wd a (zfm O b x i j k A) (d)
def qrx:=gD (zfo O b d i j k l)
def zv3:=qrx O b d i j k l dD
def qut:=zv3 O .ok (q73 O) i j k l m
def zfi:=cst qut
theorem qru:zfi=qut:=dW _
def zzf:=wq (aW j) fun a=>wF 1 a fun b=>wq (aF b) fun c=>zfi O i j b c (iN 0)
def zCy:=zzf O i j
def zv0(O:Ev.Call)(a:AV):pD:=.ok (.aX [a,(iN 0)])
def zff(O:Ev.Call)(a:AV->pB)(b c:AV):=wI c fun d=>a b d
def q35:=wg (bF false i) (aQ 0 j) fun b=>wG (bF false i) (aO · b) fun c=>wg (bF false i) (ib .eql c (.int .u8 (.ofNat 1))) fun d=>wq (dK i (.bool true) d) fun e=>zff O a e k
def zfg:=wq (aG 5 l m) fun b=>wA 5 b fun c=>wN [.int .u8 (.ofNat 0),.str 0 0,.str 0 0,.aA,.bool false] fun d=>wT 5 d c <| wF 0 d fun e=>wq (ib .eql e (.int .u8 (.ofNat 2))) fun f=>wg (bF false f) (aQ 0 d) fun h=>wG (bF false f) (aO · h) fun n=>wg (bF false f) (ib .eql n (.int .u8 (.ofNat 3))) fun o=>wq (dK f (.bool true) o) fun q=>wg (wv q) (.val i) fun r=>wg (wv q) (.val j) fun s=>wg (wv q) (aQ 1 d) fun t=>wG (wv q) (aO · t) fun u=>wx (wv q) (O (.f 65) [r,s,u]) fun v=>wg (wv q) (pX false ((⟨E2.f ⟨qp4⟩⟩:E2).f v (.cK))) fun x=>wq (dK q x (.bool false)) fun y=>wd y (a k (iN 6)) (wF 0 d fun z=>wq (ib .eql z (.int .u8 (.ofNat 3))) fun A=>wg (wv A) (.val i) fun B=>wg (wv A) (.val j) fun C=>wg (wv A) (aQ 1 d) fun D=>wG (wv A) (aO · D) fun E=>wg (wv A) (aQ 2 d) fun F=>wG (wv A) (aO · F) fun G=>wx (wv A) (O (.f 66) [B,C,E,G]) fun I=>wg (wv A) (aF I) fun J=>wg (wv A) (ib .eql J (iN 0)) fun K=>wq (dK A K (.bool false)) fun L=>wd L (a k (iN 11)) (q35 O g k d m))
def zfh:=wq (ib .lss B l) fun c=>wd c (zfg O a y i j A k B) (b A)
def qyf:=nY (zfh O a b i j k l)
def zv1:=qyf O a b i j k l dD
def zze:=wq (aF k) fun a=>fun H=>zv1 O (fun b c H=>.ok (.aX [b,c]) H) (zv0 O) i j k a (.bool false) (iN 0) H
def zCz:=zze O i j k
def zzd:=wB 2 i fun a=>wh (fun H=>l9 H.nx j) fun b=>wF 1 a fun c=>wc O 125 [c,(.fn 126 [] [b])] fun d=>.ok d
def zDa:=zzd O i j
def qnq(O:Ev.Call):pD:=.ok (iN 0)
def qj8:=wd i (.ok (iN 6)) (qnq O)
def qfb:=wq ((kX .not).f l) fun a=>wG (bF false a) (dQ 2 · j) fun b=>wG (bF false a) (dQ 2 · k) fun c=>wg (bF false a) (pX true ((⟨E2.f ⟨l8 fun d e=>zX p1 ⟨qem⟩ 1 d e 2 0⟩⟩:E2).f b c)) fun f=>wq (dK a (.bool true) f) fun g=>wd g (.ok (iN 5)) (wq (aW i) fun h=>wF 0 h fun m=>wq (ib .eql m (.int .u8 (.ofNat 3))) fun n=>wg (wv n) (.val i) fun o=>wg (wv n) (aW o) fun q=>wg (wv n) (aQ 2 q) fun r=>wG (wv n) (aO · r) fun s=>wx (wv n) (O (.f 129) [s]) fun t=>wg (wv n) ((kX .not).f t) fun u=>wq (dK n u (.bool false)) fun v=>wd v (qj8 O v) (wq (aW i) fun x=>wF 0 x fun y=>wq (ib .eql y (.int .u8 (.ofNat 2))) fun z=>wg (bF false z) (.val i) fun A=>wg (bF false z) (aW A) fun B=>wg (bF false z) (aQ 0 B) fun C=>wG (bF false z) (aO · C) fun D=>wg (bF false z) (ib .eql D (.int .u8 (.ofNat 3))) fun E=>wq (dK z (.bool true) E) fun F=>wg (wv F) (.val i) fun G=>wg (wv F) (aW G) fun I=>wg (wv F) (aQ 1 I) fun J=>wG (wv F) (aO · J) fun K=>wx (wv F) (O (.f 129) [K]) fun L=>wg (wv F) ((kX .not).f L) fun M=>wq (dK F M (.bool false)) fun N=>qj8 O N))
def q34:=wd n (wq (ib .geq l (iN 2)) fun a=>qfb O i j k a) (wq (ib .eql m (.int .u8 (.ofNat 6))) fun b=>wd b (wq (ib .eql l (iN 2)) fun c=>qfb O i j k c) (.ok (iN 10)))
def zzc:=wz 13 fun a=>wn 0 0 a (.val i) fun b=>wn 1 1 a (aW b) fun c=>wn 2 3 a (aQ 1 c) fun d=>wo 3 7 a (aO · d) fun e=>wn 4 15 a (gX (nT .neq).f e (.str 0 0)) fun f=>wn 5 0 a (.val i) fun g=>wn 6 32 a (aW g) fun h=>wn 7 96 a (aQ 2 h) fun j=>wo 8 224 a (aO · j) fun k=>wn 9 480 a (gX (nT .neq).f k (.str 0 0)) fun l=>wn 10 1023 a (dO (dF [.bool false,.bool false] [(0,1,f),(1,1,l)])) fun m=>wa 11 0 a (.new (.ptr (a+11) 0) (aB 0 [.bool false,.bool false])) fun n=>wu 4095 (zJ 2 · n m) fun _=>wy <| wq (dO (dF [.bool false,.bool false] [])) fun o=>wN [.bool false,.bool false] fun q=>wT 2 q o <| wq (aW i) fun r=>wF 3 r fun s=>wq (aF s) fun t=>wq (ib .eql t (iN 0)) fun u=>wq (aW i) fun v=>wF 0 v fun x=>wq (ib .eql x (.int .u8 (.ofNat 1))) fun y=>wd y (qfb O i n q u) (wq (ib .eql x (.int .u8 (.ofNat 2))) fun z=>wd z (wq (gP 2 1 n (iN 0)) fun A=>w1 A fun B=>wq (dO (dF [.bool false,.bool false] [(0,1,B),(1,1,(.bool false))])) fun C=>wT 2 q C <| qfb O i n q u) (wq (ib .eql x (.int .u8 (.ofNat 3))) fun D=>wd D (wA 2 n fun E=>wT 2 q E <| qfb O i n q u) (wq (ib .eql x (.int .u8 (.ofNat 4))) fun F=>wd F (q34 O i n q t x F) (wq (ib .eql x (.int .u8 (.ofNat 5))) fun G=>q34 O i n q t x G))))
def zDb:=zzc O i
def zzb(O:Ev.Call)(a:AV):=wq (ib .neq a a) fun b=>.ok b
def zDc:=zzb O i
def zd3(O:Ev.Call):pD:=.ok (iN 0)
def qjw:=wg (wv j) (aQ 1 i) fun a=>wG (wv j) (aO · a) fun b=>wx (wv j) (O (.f 109) [b]) fun c=>wg (wv j) (ib .neq c (iN 1)) fun d=>wq (dK j d (.bool false)) fun e=>wg (bF false e) (.val k) fun f=>wg (bF false e) (.val f) fun g=>wg (wv g) (aQ 2 i) fun h=>wG (wv g) (aO · h) fun l=>wx (wv g) (O (.f 109) [l]) fun m=>wg (wv g) (ib .neq m (iN 1)) fun n=>wg (bF false e) (dK g n (.bool false)) fun o=>wq (dK e (.bool true) o) fun q=>wd q (.ok (iN 6)) (zd3 O)
def qjv:=wF 0 i fun a=>wq (ib .eql a (.int .u8 (.ofNat 2))) fun b=>wg (bF false b) (aQ 0 i) fun c=>wG (bF false b) (aO · c) fun d=>wg (bF false b) (ib .eql d (.int .u8 (.ofNat 3))) fun e=>wq (dK b (.bool true) e) fun f=>wF 0 i fun g=>wq (ib .eql g (.int .u8 (.ofNat 3))) fun h=>wq ((kX .not).f f) fun j=>wg (wv j) (aQ 1 i) fun k=>wG (wv j) (aO · k) fun l=>wg (wv j) (gX (nT .neq).f l (.str 0 0)) fun m=>wq (dK j m (.bool false)) fun n=>wg (bF false n) (.val h) fun o=>wg (bF false n) ((kX .not).f o) fun q=>wg (bF false n) (.val q) fun r=>wg (wv r) (aQ 2 i) fun s=>wG (wv r) (aO · s) fun t=>wg (wv r) (gX (nT .neq).f t (.str 0 0)) fun u=>wg (bF false n) (dK r u (.bool false)) fun v=>wq (dK n (.bool true) v) fun x=>wg (bF false x) (aQ 0 i) fun y=>wG (bF false x) (aO · y) fun z=>wg (bF false x) (ib .lss z (.int .u8 (.ofNat 4))) fun A=>wg (bF false x) (.val A) fun B=>wg (wv B) (aQ 3 i) fun C=>wG (wv B) (aO · C) fun D=>wg (wv B) (aF D) fun E=>wg (wv B) (ib .gtr E (iN 0)) fun F=>wg (bF false x) (dK B F (.bool false)) fun G=>wq (dK x (.bool true) G) fun I=>wg (bF false I) (aQ 0 i) fun J=>wG (bF false I) (aO · J) fun K=>wg (bF false I) (ib .gtr K (.int .u8 (.ofNat 3))) fun L=>wg (bF false I) (.val L) fun M=>wg (wv M) (aQ 3 i) fun N=>wG (wv M) (aO · N) fun P=>wg (wv M) (aF P) fun Q=>wg (wv M) (ib .lss Q (iN 2)) fun R=>wg (bF false I) (dK M R (.bool false)) fun S=>wq (dK I (.bool true) S) fun T=>wg (bF false T) (aQ 0 i) fun U=>wG (bF false T) (aO · U) fun V=>wg (bF false T) (ib .eql V (.int .u8 (.ofNat 6))) fun W=>wg (bF false T) (.val W) fun X=>wg (wv X) (aQ 3 i) fun Y=>wG (wv X) (aO · Y) fun Z=>wg (wv X) (aF Z) fun a65=>wg (wv X) (ib .gtr a65 (iN 2)) fun a66=>wg (bF false T) (dK X a66 (.bool false)) fun a67=>wq (dK T (.bool true) a67) fun a68=>wd a68 (.ok (iN 5)) (qjw O i f h)
def zyj:=wB 4 i fun a=>wF 0 a fun b=>wq (ib .lss b (.int .u8 (.ofNat 1))) fun c=>wg (bF false c) (aQ 0 a) fun d=>wG (bF false c) (aO · d) fun e=>wg (bF false c) (ib .gtr e (.int .u8 (.ofNat 6))) fun f=>wq (dK c (.bool true) f) fun g=>wd g (.ok (iN 10)) (qjv O a)
def zGr:=zyj O i
def zza(O:Ev.Call)(a b:AV):=wq (aW a) fun c=>wF 1025 c fun d=>wI d fun e=>wq (aW a) fun f=>wq (aQ 1025 f) fun g=>wU g e <| wz 0 fun h=>wn 0 0 h (.val a) fun i=>wn 1 0 h (.val b) fun j=>wn 2 0 h (.val a) fun k=>wn 3 0 h (.val b) fun l=>wn 4 0 h (.val a) fun m=>wn 5 0 h (.val b) fun n=>wn 6 0 h (.val a) fun o=>wn 7 64 h (aW o) fun q=>wn 8 192 h (aQ 1025 q) fun r=>wo 9 448 h (aO · r) fun s=>wn 10 0 h (.val a) fun t=>wn 11 1024 h (aW t) fun u=>wn 12 3072 h (aQ 1025 u) fun v=>wo 13 7168 h (aO · v) fun x=>wn 14 1 h (aW i) fun y=>wn 15 16385 h (aQ 256 y) fun z=>wn 16 65475 h (gP 256 1 z j) fun A=>wn 18 4 h (aW k) fun B=>wn 19 262148 h (aQ 512 B) fun C=>wn 22 16 h (aW m) fun D=>wn 23 4194320 h (aQ 768 D) fun E=>wu 131011 (jX · A s) fun _=>wn 20 1048527 h (gP 256 1 C l) fun F=>wu 2097103 (jX · F x) fun _=>wn 24 16777215 h (gP 256 1 E n) fun G=>wu 33554431 (jX · G (.bool true)) fun _=>wy <| wq (aW a) fun I=>wF 1024 I fun J=>wQ 1 (dF (bB [iN 0] 1) [(0,1,b)]) fun K=>wP 1 8 J K fun L=>wq (aW a) fun M=>wq (aQ 1024 M) fun N=>wU N L <| .ok (.aX [])
def zDd:=zza O i j
def q31(O:Ev.Call)(a b c:AV):=wq (aW a) fun d=>wF 1024 d fun e=>wq (kL 1 e none (some b) none) fun f=>wq (aW a) fun g=>wq (aQ 1024 g) fun h=>wU h f <| wq (aW a) fun i=>wF 1026 i fun j=>wQ 1 (dF (bB [.aA] 1) [(0,1,c)]) fun k=>wP 1 24 j k fun l=>wq (aW a) fun m=>wq (aQ 1026 m) fun n=>wU n l <| .ok (.aX [])
def zfd(O:Ev.Call)(a:pB)(b:AV):=wI b a
def zfc:=wq (aG 1 j k) fun a=>w1 a fun c=>wq (aW i) fun d=>wq (aQ 768 d) fun e=>wq (gP 256 1 e c) fun f=>wU f (.bool false) <| zfd O b k
def q33:=wq (ib .lss A k) fun a=>wd a (zfc O x i j A) (d)
def qus:=gD (q33 O d i j k)
def zfe:=qus O d i j k dD
def zfb:=wq (aW i) fun a=>wF 1024 a fun b=>wc O 171 [b,j] fun c=>wq (aW i) fun d=>wF 1024 d fun e=>wq (kL 1 e (some c) none none) fun f=>wc O 173 [f] fun g=>wc O 172 [g] fun h=>wq (aF h) fun k=>zfe O (q31 O i c h) i h k (iN 0)
def zp0:=wl (aW i) fun a=>wl (aQ 512 a) fun b=>wl (gP 256 1 b j) fun c=>wL (aO · c) fun d=>wl (aW i) fun e=>wl (aQ 256 e) fun f=>wl (gP 256 1 f j) fun g=>wL (aO · g) fun h=>wl (ib .lss d h) fun k=>wd k (.ok (.aX [])) (zfb O i j)
def zDe:=zp0 O i j
def zy9:=wB 2 j fun a=>wA 2 a fun b=>wc O 155 [i,b] fun c=>wq (ib .geq c (iN 0)) fun d=>.ok d
def zDf:=zy9 O i j
def zy8:=wB 6 i fun a=>wq (aQ 2 a) fun b=>wA 4 b fun c=>wc O 41 [c] fun d=>wq (bH 0 d) fun e=>wq (bH 1 d) fun f=>wc O 127 [e,(.fn 128 [] [j])] fun g=>.ok g
def zDg:=zy8 O i j
def zy7:=wc O 156 [i,j] fun a=>wq (ib .geq a (iN 0)) fun b=>.ok b
def zDh:=zy7 O i j
def zvy(O:Ev.Call):pD:=.ok (.int .i64 (.negSucc 0))
def zvx(O:Ev.Call)(a:pB)(b:AV):=wI b a
def zvw:=wq (aG 1 i k) fun a=>w1 a fun d=>wq (ib .eql j d) fun e=>wd e (b k) (zvx O c k)
def zfa:=wq (ib .lss A k) fun a=>wd a (zvw O b x i j A) (d)
def q72:=gD (zfa O b d i j k)
def zvz:=q72 O b d i j k dD
def zy6:=wq (aF i) fun a=>zvz O .ok (zvy O) i j a (iN 0)
def zDj:=zy6 O i j
def zy5(O:Ev.Call)(a:AV):=wh (fun H=>l9 H.nx a) fun b=>.ok (.fn 186 [] [b])
def zDk:=zy5 O i
def z4o:=wc O 185 [i] fun a=>wc O 82 [a] fun b=>.ok a
def zDl:=z4o O i
def ze8(O:Ev.Call):pD:=.ok (.int .i64 (.negSucc 0))
def zvu(O:Ev.Call)(a:pB)(b:AV):=wI b a
def ze7:=wL (dQ 2 · j) fun a=>wl (aG 2 i k) fun d=>wL (dQ 2 · d) fun e=>wl (pX false ((⟨E2.f ⟨l8 (eqFields [(p1,⟨iE⟩,0),(p1,⟨iE⟩,1)])⟩⟩:E2).f a e)) fun f=>wd f (b k) (zvu O c k)
def ze9:=wq (ib .lss A k) fun a=>wd a (ze7 O b x i j A) (d)
def q71:=gD (ze9 O b d i j k)
def zvv:=q71 O b d i j k dD
def zy4:=wB 2 j fun a=>wq (aF i) fun b=>zvv O .ok (ze8 O) i a b (iN 0)
def zDm:=zy4 O i j
def zy3(O:Ev.Call)(a b:AV):=wB 5 a fun c=>wF 0 c fun d=>wq (ib .eql d (.int .u8 (.ofNat 3))) fun e=>wg (wv e) (aQ 1 c) fun f=>wG (wv e) (aO · f) fun g=>wG (wv e) (aO · b) fun h=>wg (wv e) (gX (nT .eql).f g h) fun i=>wq (dK e i (.bool false)) fun j=>.ok j
def zDn:=zy3 O i j
def zy2:=wc O 157 [i,j] fun a=>wq (ib .geq a (iN 0)) fun b=>.ok b
def zDo:=zy2 O i j
def ze5(O:Ev.Call):pD:=.ok (.int .i64 (.negSucc 0))
def zvs(O:Ev.Call)(a:pB)(b:AV):=wI b a
def zvr:=wq (aG 6 i k) fun a=>wA 6 a fun d=>we (vP O j [d]) fun e=>wd e (b k) (zvs O c k)
def ze6:=wq (ib .lss A k) fun a=>wd a (zvr O b x i j A) (d)
def q70:=gD (ze6 O b d i j k)
def zvt:=q70 O b d i j k dD
def zy1:=wq (aF i) fun a=>zvt O .ok (ze5 O) i j a (iN 0)
def zDp:=zy1 O i j
def zvp(O:Ev.Call)(a:pB)(b:AV):=wI b a
def ze3:=wq (aG 1 j k) fun a=>w1 a fun b=>we (vP O i [b]) fun c=>wq ((kX .not).f c) fun e=>wd e (d) (zvp O f k)
def ze4:=wq (ib .lss A k) fun a=>wd a (ze3 O d x i j A) (e)
def q7z:=gD (ze4 O d e i j k)
def zvq:=q7z O d e i j k dD
def zy0:=w1 j fun a=>wq (aF a) fun b=>zvq O (.ok (.aX [])) (.ok (.aX [])) i a b (iN 0)
def zDq:=zy0 O i j
def z4n:=wc O 190 [(.aA),i] fun a=>.ok a
def zDr:=z4n O i
def ze1(O:Ev.Call):pD:=.ok (.int .i64 (.negSucc 0))
def ze0(O:Ev.Call)(a:pB)(b:AV):=wI b a
def zvn:=wq (aG 5 i k) fun a=>wA 5 a fun d=>we (vP O j [d]) fun e=>wd e (b k) (ze0 O c k)
def ze2:=wq (ib .lss A k) fun a=>wd a (zvn O b x i j A) (d)
def qye:=gD (ze2 O b d i j k)
def zvo:=qye O b d i j k dD
def zyz:=wq (aF i) fun a=>zvo O .ok (ze1 O) i j a (iN 0)
def zDs:=zyz O i j
end
end Go.Di
end
