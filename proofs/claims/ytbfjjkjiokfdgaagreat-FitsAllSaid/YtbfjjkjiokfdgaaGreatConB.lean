/-
 For countersign/countersignlaw20.FitsAll: functions in direct style, their contracts, and the plain mathematics, part 2 of 10. No conditions beyond those that each theorem states.
-/
import Derived.Test.YtbfjjkjiokfdgaaGreatConA
set_option linter.unusedSimpArgs false
set_option linter.unusedVariables false
noncomputable section
namespace Go.Di
open Go.Ev
def cst{α:Type}(a:α):α:=Classical.choose (⟨a,rfl⟩:∃ f,f=a)
theorem eY{α:Type}(a:α):cst a=a:=ul (⟨a,rfl⟩:∃ f,f=a)
variable (O:Ev.Call)
section
variable (a:AV->pD)(b c:pD)(d e:pH)(f:pD)(g:AV->pD)(h:AV->AV->pD)(i j k l m n o q r s t u v:AV)(x:pD)(y:AV->pD)(z:AV->AV->pD)(A B C D E F:AV)
def ql6:=wq (ib .eql k (iN 0)) fun a=>wg (wv a) (.val j) fun b=>wg (wv a) (.val i) fun c=>wg (wv a) (aD c) fun d=>wg (wv a) (ib .eql b d) fun e=>wq (eD a e (.bool false)) fun f=>wx (wv f) (O (.f 6) []) fun g=>wq (eD f g (.bool false)) fun h=>.ok h
def q0v:=cst ql6
theorem qqu:q0v=ql6:=eY _
def ql4:=wA 1 j fun a=>wc O 16 [a,i] fun b=>wq (bT 0 b) fun c=>wq (bT 1 b) fun d=>q0v O i c d
def qfd:=cst ql4
theorem qqt:qfd=ql4:=eY _
def ql3:=wF 0 j fun a=>wA 2 k fun b=>wq (aH 2 a (iN 1)) fun c=>wT 2 c b <| qfd O i j
def u6:=cst ql3
theorem qqs:u6=ql3:=eY _
def ql2(O:Ev.Call)(a:pD)(b:AV):=wI b a
def q0u:=cst ql2
theorem qqr:q0u=ql2:=eY _
def ql1:=wF 1 i fun a=>wA 6 k fun c=>wS 1 (bK (aV [.str 0 0,.aA,.int .u8 (.ofNat 0),.str 0 0,.str 0 0,.aA] 1) [(0,6,c)]) fun d=>wP 6 104 a d fun e=>wq (aP 1 i) fun f=>wU f e <| q0u O b j
def qmu:=cst ql1
theorem qqq:qmu=ql1:=eY _
def qiq:=wd l (wS 0 (bK (aV [.str 0 0,.str 0 0] 0) []) fun a=>wF 1 k fun c=>wP 2 32 a c fun d=>wq (bR (bK [.str 0 0,.str 0 0] [(0,1,(.str 4 1701998445))])) fun e=>wS 1 (bK (aV [.str 0 0,.str 0 0] 1) [(0,2,e)]) fun f=>wP 2 32 d f fun g=>wq (aP 1 k) fun h=>wU h g <| qmu O b i j k) (qmu O b i j k)
def q0t:=cst qiq
theorem qj4:q0t=qiq:=eY _
def ql0:=wF 1 k fun a=>wq (aD a) fun c=>wq (ib .gtr c (iN 0)) fun d=>q0t O b i j k d
def qtj:=cst ql0
theorem qqp:qtj=ql0:=eY _
def qlz:=wF 0 i fun a=>wq (aH 2 a (iN 1)) fun c=>wF 1 c fun d=>wq (aH 6 d k) fun e=>wA 6 e fun f=>wN [.str 0 0,.aA,.int .u8 (.ofNat 0),.str 0 0,.str 0 0,.aA] fun g=>wT 6 g f <| qtj O b j k g
def q0s:=cst qlz
theorem qqo:q0s=qlz:=eY _
def qip:=wd l (q0s O b i j k) (d)
def q0r:=cst qip
theorem qj3:q0r=qip:=eY _
def q0x:=wF 0 i fun a=>wq (aH 2 a (iN 1)) fun b=>wF 1 b fun c=>wq (aD c) fun e=>wq (ib .lss A e) fun f=>q0r O x d i j A f
def xR:=iC (q0x O d i j)
def q00:=xR O d i j dM
def qly:=q00 O (u6 O i j k) j k (iN 0)
def q0q:=cst qly
theorem qqn:q0q=qly:=eY _
def qio:=wd k (wF 0 j fun a=>wq (aH 2 a (iN 1)) fun b=>wF 0 b fun c=>wq (bR (bK [.str 0 0,.aA] [(0,1,c)])) fun d=>wN [.str 0 0,.aA] fun e=>wT 2 e d <| q0q O i j e) (qfd O i j)
def qmt:=cst qio
theorem qj2:qmt=qio:=eY _
def qlx:=wq (ib .rem i (.int .u8 (.ofNat 2))) fun a=>wq (ib .eql a (.int .u8 (.ofNat 1))) fun b=>wg (wv b) (aP 0 k) fun c=>wG (wv b) (aT · c) fun d=>wg (wv b) (aD d) fun e=>wg (wv b) (ib .gtr e (iN 2)) fun f=>wq (eD b f (.bool false)) fun g=>qmt O j k g
def qti:=cst qlx
theorem qqm:qti=qlx:=eY _
def qlw:=wA 1 j fun a=>wN [.aA] fun b=>wT 1 b a <| wS 0 (bK (aV [.str 0 0,.aA] 0) []) fun c=>wF 0 j fun d=>wP 2 40 c d fun e=>wq (bR (bK [.str 0 0,.aA] [(0,1,(.str 4 1701998445))])) fun f=>wS 1 (bK (aV [.str 0 0,.aA] 1) [(0,2,f)]) fun g=>wP 2 40 e g fun h=>wq (aP 0 b) fun l=>wU l h <| qti O i k b
def jM:=cst qlw
theorem qql:jM=qlw:=eY _
def qlv(O:Ev.Call)(a:pD)(b:AV):=wI b a
def q0p:=cst qlv
theorem qqk:q0p=qlv:=eY _
def qlu:=wd j (b (.bool false)) (q0p O c i)
def q0o:=cst qlu
theorem qqj:q0o=qlu:=eY _
def qi4:=wz 0 fun a=>wn 0 0 a (.val l) fun d=>wn 1 0 a (.val m) fun e=>wn 2 3 a (ib .neq d e) fun f=>wn 3 7 a (.val f) fun g=>ws 4 15 a (dD 1 · i) (bI false g) fun h=>wr 5 15 a (.val j) (bI false g) fun n=>wr 6 15 a (.val k) (bI false g) fun o=>wr 7 111 a (aH 6 n o) (bI false g) fun q=>ws 8 239 a (dD 6 · q) (bI false g) fun r=>wt 511 (O (.f 19) [h,r]) (bI false g) fun s=>wr 10 1023 a (ib .neq s (iN 0)) (bI false g) fun t=>wn 11 2047 a (eD g (.bool true) t) fun u=>wy <| q0o O b c k u
def qg0:=cst qi4
theorem qm6:qg0=qi4:=eY _
def qey:=wd n (wq (ib .sub m (iN 1)) fun a=>qg0 O b c i j k l a) (qg0 O b c i j k l m)
def qtx:=cst qey
theorem qfe:qtx=qey:=eY _
def qi3:=wl (aH 6 j k) fun a=>wl (aP 3 a) fun d=>wl (aP 2 d) fun e=>wL (aT · e) fun f=>wl (fO (mJ .neq).f f (.str 0 0)) fun g=>wm (wv g) (.val j) fun h=>wm (wv g) (.val k) fun n=>wm (wv g) (aH 6 h n) fun o=>wm (wv g) (aP 0 o) fun q=>wM (wv g) (dD 3 · q) fun r=>wm (wv g) (.val j) fun s=>wm (wv g) (.val k) fun t=>wm (wv g) (aH 6 s t) fun u=>wm (wv g) (aP 3 u) fun v=>wm (wv g) (aP 0 v) fun x=>wM (wv g) (dD 2 · x) fun y=>wm (wv g) (.val j) fun z=>wm (wv g) (.val k) fun A=>wm (wv g) (aH 6 z A) fun B=>wm (wv g) (aP 3 B) fun C=>wm (wv g) (aP 2 C) fun D=>wM (wv g) (aT · D) fun E=>wm (wv g) (bR (bK [.str 0 0,.str 0 0,.str 0 0] [(0,2,y),(2,1,E)])) fun F=>wm (wv g) (mF false ((⟨E2.f ⟨dQ (eqFields [((pA 2),⟨dQ (eqFields [(p1,⟨bH⟩,0),(p1,⟨bH⟩,1)])⟩,0),(p1,⟨bH⟩,2)])⟩⟩:E2).f r F)) fun G=>wl (eD g G (.bool false)) fun I=>qtx O b c i j k l m I
def tH:=cst qi3
theorem qm5:tH=qi3:=eY _
def qdy(O:Ev.Call)(a:AV->pD)(b c:AV):=wI c fun d=>a b d
def ql5:=cst qdy
theorem qdz:ql5=qdy:=eY _
def qdw:=wd k (wI i fun b=>ql5 O a b j) (ql5 O a i j)
def qtw:=cst qdw
theorem qdx:qtw=qdw:=eY _
def qi1:=wl (aH 6 i k) fun b=>wl (aP 3 b) fun c=>wl (aP 2 c) fun d=>wL (aT · d) fun e=>wl (fO (mJ .neq).f e (.str 0 0)) fun f=>wm (wv f) (.val j) fun g=>wm (wv f) (.val m) fun h=>wm (wv f) (aH 3 g h) fun n=>wM (wv f) (dD 3 · n) fun o=>wm (wv f) (.val i) fun q=>wm (wv f) (.val k) fun r=>wm (wv f) (aH 6 q r) fun s=>wm (wv f) (aP 3 s) fun t=>wm (wv f) (aP 0 t) fun u=>wM (wv f) (dD 2 · u) fun v=>wm (wv f) (.val i) fun x=>wm (wv f) (.val k) fun y=>wm (wv f) (aH 6 x y) fun z=>wm (wv f) (aP 3 z) fun A=>wm (wv f) (aP 2 A) fun B=>wM (wv f) (aT · B) fun C=>wm (wv f) (bR (bK [.str 0 0,.str 0 0,.str 0 0] [(0,2,v),(2,1,C)])) fun D=>wm (wv f) (mF false ((⟨E2.f ⟨dQ (eqFields [((pA 2),⟨dQ (eqFields [(p1,⟨bH⟩,0),(p1,⟨bH⟩,1)])⟩,0),(p1,⟨bH⟩,2)])⟩⟩:E2).f o D)) fun E=>wl (eD f E (.bool false)) fun F=>wm (wv F) (.val j) fun G=>wm (wv F) (.val m) fun I=>wm (wv F) (aH 3 G I) fun J=>wM (wv F) (dD 3 · J) fun K=>wm (wv F) (.val i) fun L=>wm (wv F) (.val k) fun M=>wm (wv F) (aH 6 L M) fun N=>wm (wv F) (aP 0 N) fun P=>wM (wv F) (dD 3 · P) fun Q=>wm (wv F) (mF true ((⟨E2.f ⟨dQ (eqFields [((pA 2),⟨dQ (eqFields [(p1,⟨bH⟩,0),(p1,⟨bH⟩,1)])⟩,0),(p1,⟨bH⟩,2)])⟩⟩:E2).f K Q)) fun R=>wl (eD F R (.bool false)) fun S=>qtw O a l m S
def qi2:=cst qi1
theorem qm4:qi2=qi1:=eY _
def qga:=wd n (wI l fun b=>qi2 O a i j k b m) (qi2 O a i j k l m)
def qtv:=cst qga
theorem qh2:qtv=qga:=eY _
def qi0:=wl (aH 3 j m) fun b=>wL (dD 3 · b) fun c=>wl (aH 6 i k) fun d=>wl (aP 0 d) fun e=>wL (dD 3 · e) fun f=>wl (mF false ((⟨E2.f ⟨dQ (eqFields [((pA 2),⟨dQ (eqFields [(p1,⟨bH⟩,0),(p1,⟨bH⟩,1)])⟩,0),(p1,⟨bH⟩,2)])⟩⟩:E2).f c f)) fun g=>qtv O a i j k l m g
def qtu:=cst qi0
theorem qm3:qtu=qi0:=eY _
def qf9:=wd n (qtu O a i j k l m) (b l)
def qtt:=cst qf9
theorem qh1:qtt=qf9:=eY _
def qty:=wq (aD j) fun a=>wq (ib .lss B a) fun c=>qtt O y b i j k A B c
def yC:=oU (qty O b i j k)
def qtz:=yC O b i j k dM
def qiy(a b:pD)(c d e f g h:AV)(H:Hp):R1:=qtz O (fun g H=>tH O a b c d f g h H) d e f g (iN 0) H
def qiz:=cst qiy
theorem qm2:qiz=qiy:=eY _
def qf8:=wd o (wI n fun a=>qiz O b c i j k l m a) (qiz O b c i j k l m n)
def qts:=cst qf8
theorem qh0:qts=qf8:=eY _
def qix:=wq (aH 6 j l) fun a=>wq (aP 3 a) fun d=>wF 2 d fun e=>wq (fO (mJ .neq).f e (.str 0 0)) fun f=>qts O b c i j k l (iN 0) (iN 1) f
def qtr:=cst qix
theorem qm1:qtr=qix:=eY _
def qf7:=wd m (qtr O b c i j k l) (d)
def qtq:=cst qf7
theorem qhz:qtq=qf7:=eY _
def q0w:=wq (aD j) fun a=>wq (ib .lss A a) fun c=>qtq O b x d i j k A c
def kK:=iC (q0w O b d i j k)
def q0y:=kK O b d i j k dM
def qiw:=q0y O .ok (jM O i j k) j k l (iN 0)
def qtp:=cst qiw
theorem qm0:qtp=qiw:=eY _
def qiv:=wd m (.ok (.bool false)) (qtp O i j k l)
def qto:=cst qiv
theorem qmz:qto=qiv:=eY _
def qiu:=wq (ib .add m q) fun a=>wq (ib .add a s) fun b=>wq (ib .neq b (iN 0)) fun c=>wg (bI false c) (.val l) fun d=>wg (bI false c) (.val k) fun e=>wg (bI false c) (aD e) fun f=>wg (bI false c) (ib .neq d f) fun g=>wq (eD c (.bool true) g) fun h=>wg (bI false h) (.val n) fun t=>wg (bI false h) (.val k) fun u=>wx (bI false h) (O (.f 18) [t,u]) fun v=>wg (bI false h) ((l8 .not).f v) fun x=>wq (eD h (.bool true) x) fun y=>wg (bI false y) (.val o) fun z=>wg (bI false y) (aD z) fun A=>wg (bI false y) (ib .neq A (iN 0)) fun B=>wq (eD y (.bool true) B) fun C=>wg (bI false C) (.val r) fun D=>wG (bI false C) (dD 1 · j) fun E=>wg (bI false C) (.val k) fun F=>wx (bI false C) (O (.f 15) [E,F]) fun G=>wx (bI false C) (O (.f 14) [D,G]) fun I=>wg (bI false C) ((l8 .not).f I) fun J=>wq (eD C (.bool true) J) fun K=>qto O i j k r K
def qtn:=cst qiu
theorem qmy:qtn=qiu:=eY _
def qit:=wA 1 j fun a=>wc O 8 [a,k] fun b=>wq (bT 0 b) fun c=>wq (bT 1 b) fun d=>qtn O i j k l m n o q c d
def qtm:=cst qit
theorem qmx:qtm=qit:=eY _
def qis:=wA 1 j fun a=>wc O 17 [a,k] fun b=>wq (bT 0 b) fun c=>wq (bT 1 b) fun d=>wq (bT 2 b) fun e=>qtm O i j k l m c d e
def qtl:=cst qis
theorem qmw:qtl=qis:=eY _
def qir:=wA 1 j fun a=>wc O 16 [a,k] fun b=>wq (bT 0 b) fun c=>wq (bT 1 b) fun d=>qtl O i j k c d
def qtk:=cst qir
theorem qmv:qtk=qir:=eY _
def zxg:=wB 2 i fun a=>wA 2 a fun b=>wc O 7 [b] fun c=>wq (bT 0 c) fun d=>wq (bT 1 c) fun e=>wN [.aA] fun f=>wT 1 f d <| qtk O j f e
def zFy:=zxg O i j
def qh3:=wz 0 fun a=>wo 0 0 a (dD 1 · j) fun b=>wn 1 0 a (.val k) fun c=>wu 2 (O (.f 26) [c]) fun d=>wu 7 (xV 1 · i b) fun _=>wn 4 15 a (.val d) fun e=>wy <| fun H=>fJ (jK (qbv (rV (dD 1 H i)) (qbv (some e) (some [])))) H
def qnk(O:Ev.Call)(a:AV->pD)(b c:AV):=wI c fun d=>a b d
def q17:=wz 13 fun b=>wo 0 0 b (dD 1 · j) fun c=>wn 1 0 b (aP 1 i) fun d=>wo 2 2 b (aT · d) fun e=>wn 3 0 b (.val l) fun f=>wn 4 14 b (aH 4 e f) fun g=>wo 5 30 b (dD 4 · g) fun h=>wa 10 0 b (.new (.ptr (b+10) 0) (aB 0 [.str 0 0,.str 0 0,.str 0 0,.str 0 0,.str 0 0,.str 0 0])) fun m=>wu 63 (O (.f 25) [c,h]) fun n=>wn 7 127 b (.val n) fun o=>wn 8 255 b (bT 0 o) fun q=>wn 9 255 b (bT 1 o) fun r=>wu 1535 (xV 6 · m q) fun _=>wn 12 4095 b (.val r) fun s=>wy <| wd s (wA 6 m fun t=>wS 1 (bK (aV [.str 0 0,.str 0 0,.str 0 0,.str 0 0,.str 0 0,.str 0 0] 1) [(0,6,t)]) fun u=>wP 6 96 k u fun v=>qnk O a v l) (qnk O a k l)
def q18:=wF 1 i fun a=>wq (aD a) fun c=>wq (ib .lss B c) fun d=>wg (wv d) (.val B) fun e=>wg (wv d) (ib .lss e (iN 20)) fun f=>wq (eD d f (.bool false)) fun g=>wd g (q17 O y i j A B) (b A)
def qj7:=oU (q18 O b i j)
def q19:=qj7 O b i j dM
def zyg:=wB 2 i fun a=>wN [.aA] fun b=>wq (aP 0 a) fun c=>wA 1 c fun d=>wc O 24 [d] fun e=>wN [.aA] fun f=>wT 1 f e <| q19 O (qh3 O b f) a f (.aA) (iN 0)
def zDw:=zyg O i
def qnj(O:Ev.Call)(a:AV):=wq (aD a) fun b=>.ok (.aX [b,(iN 0)])
def zd8(O:Ev.Call)(a:pD)(b:AV):=wI b a
def q15:=wq (aH 6 j k) fun c=>wA 6 c fun d=>wN [.str 0 0,.str 0 0,.str 0 0,.str 0 0,.str 0 0,.str 0 0] fun e=>wT 6 e d <| wA 6 e fun f=>wc O 37 [i,f] fun g=>wq (ib .neq g (iN 0)) fun h=>wd h (a k g) (zd8 O b k)
def zd9:=wq (ib .lss A k) fun b=>wd b (q15 O a x i j A) (d)
def qrd:=iC (zd9 O a d i j k)
def zea:=qrd O a d i j k dM
def q14:=wA 1 j fun a=>wc O 36 [a] fun b=>wq (aD i) fun c=>fun H=>zea O (fun d e H=>.ok (.aX [d,e]) H) (qnj O i) b i c (iN 0) H
def zye:=wB 1 i fun a=>wA 1 a fun b=>wc O 27 [b] fun c=>wq (ib .neq c (iN 0)) fun d=>wd d (.ok (.aX [(iN 0),c])) (q14 O j a)
def zDz:=zye O i j
def qnh:=wc O 38 [i] fun a=>wc O 38 [j] fun b=>.ok (.aX [a,b,(iN 0)])
def qni(O:Ev.Call)(a:AV->AV->pD)(b c d:AV):=wI d fun e=>a b c e
def q13:=wq (aH 6 l m) fun a=>wA 6 a fun b=>wN [.str 0 0,.str 0 0,.str 0 0,.str 0 0,.str 0 0,.str 0 0] fun c=>wT 6 c b <| wA 6 c fun d=>wc O 37 [k,d] fun e=>wq (ib .eql e (iN 0)) fun f=>wd f (wA 6 c fun g=>wS 1 (bK (aV [.str 0 0,.str 0 0,.str 0 0,.str 0 0,.str 0 0,.str 0 0] 1) [(0,6,g)]) fun n=>wP 6 96 i n fun o=>qni O h o j m) (wA 6 c fun q=>wS 1 (bK (aV [.str 0 0,.str 0 0,.str 0 0,.str 0 0,.str 0 0,.str 0 0] 1) [(0,6,q)]) fun r=>wP 6 96 j r fun s=>qni O h i s m)
def zd6:=wq (ib .lss C k) fun b=>wd b (q13 O z A B i j C) (a A B)
def qrc:=lq3 (zd6 O a i j k)
def zd7:=qrc O a i j k dM
def q12:=wA 1 j fun a=>wc O 36 [a] fun b=>wq (aD i) fun c=>zd7 O (qnh O) b i c k l (iN 0)
def zyd:=wB 1 i fun a=>wA 1 a fun b=>wc O 27 [b] fun c=>wq (ib .neq c (iN 0)) fun d=>wd d (.ok (.aX [(.aA),(.aA),c])) (q12 O j a (.aA) (.aA))
def zEa:=zyd O i j
def qf4:=wc O 30 [i] fun a=>.ok (.aX [a,(iN 0)])
def qi5(O:Ev.Call)(a:AV->pD)(b c:AV):=wI c fun d=>a b d
def q1c(O:Ev.Call)(a:AV->pD)(b c:AV):=wI c fun d=>a b d
def q1b:=wq (aH 6 k l) fun b=>wA 6 b fun c=>wN [.str 0 0,.aA,.int .u8 (.ofNat 0),.str 0 0,.str 0 0,.aA] fun d=>wT 6 d c <| wA 2 j fun e=>wF 0 d fun f=>wq (bR (bK [.str 0 0,.str 0 0,.str 0 0] [(0,2,e),(2,1,f)])) fun g=>wS 1 (bK (aV [.str 0 0,.str 0 0,.str 0 0] 1) [(0,3,g)]) fun h=>wP 3 48 i h fun m=>q1c O a m l
def q1d:=wq (ib .lss B k) fun a=>wd a (q1b O y A i j B) (b A)
def qj5:=oU (q1d O b i j k)
def q1e:=qj5 O b i j k dM
def q1a:=wF 0 i fun b=>wq (aH 2 b l) fun c=>wF 1 c fun d=>wq (aD d) fun e=>fun H=>q1e O (fun j H=>qi5 O a j m H) k d e j (iN 0) H
def q09:=wq (aH 2 k l) fun b=>wA 2 b fun c=>wN [.str 0 0,.str 0 0] fun d=>wT 2 d c <| wF 0 i fun e=>wc O 28 [e,(.fn 29 [] [d])] fun f=>wq (ib .lss f (iN 0)) fun g=>wd g (qi5 O a j l) (q1a O a i j d f l)
def zdd:=wq (ib .lss B k) fun a=>wd a (q09 O y i A j B) (b A)
def qf3:=oU (zdd O b i j k)
def zde:=qf3 O b i j k dM
def zdc:=wc O 10 [i] fun a=>wq (aD a) fun b=>zde O (qf4 O) j a b (.aA) (iN 0)
def zxt:=wB 1 i fun a=>wA 1 a fun b=>wc O 27 [b] fun c=>wq (ib .neq c (iN 0)) fun d=>wd d (.ok (.aX [(.aA),c])) (zdc O j a)
def zFa:=zxt O i j
def qrb(O:Ev.Call):pH:=.ok (.bool true)
def zd3(O:Ev.Call)(a:pD)(b:AV):=wI b a
def zd2:=wl (aH 6 i k) fun a=>wL (dD 6 · a) fun d=>wl (aH 6 j k) fun e=>wL (dD 6 · e) fun f=>wl (mF true ((⟨E2.f ⟨dQ (eqFields [((pA 3),⟨dQ (eqFields [((pA 2),⟨dQ (eqFields [(p1,⟨bH⟩,0),(p1,⟨bH⟩,1)])⟩,0),(p1,⟨bH⟩,2)])⟩,0),((pA 3),⟨dQ (eqFields [((pA 2),⟨dQ (eqFields [(p1,⟨bH⟩,0),(p1,⟨bH⟩,1)])⟩,0),(p1,⟨bH⟩,2)])⟩,3)])⟩⟩:E2).f d f)) fun g=>wd g (b (.bool false)) (zd3 O c k)
def zd4:=wq (aD j) fun a=>wq (ib .lss A a) fun c=>wd c (zd2 O b x i j A) (d)
def qra:=iC (zd4 O b d i j)
def zd5:=qra O b d i j dM
def q11:=zd5 O .ok (qrb O) i j (iN 0)
def zyc:=wq (aD i) fun a=>wq (aD j) fun b=>wq (ib .neq a b) fun c=>wg (bI false c) (.val i) fun d=>wg (bI false c) (gW d) fun e=>wg (bI false c) (.val i) fun f=>wg (bI false c) (aD f) fun g=>wg (bI false c) (ib .neq e g) fun h=>wq (eD c (.bool true) h) fun k=>wd k (.ok (.bool false)) (q11 O i j)
def zEb:=zyc O i j
def qhr(O:Ev.Call)(a:AV):pH:=.ok a
def qm8(O:Ev.Call)(a:AV->pD)(b c:AV):=wI c fun d=>a b d
def qm9(O:Ev.Call)(a:AV->pD)(b c:AV):=wI c fun d=>a b d
def q07:=wl (aH 2 k m) fun b=>wl (aP 0 b) fun c=>wL (aT · c) fun d=>wl (aH 2 j l) fun e=>wl (aP 0 e) fun f=>wL (aT · f) fun g=>wl (fO (mJ .eql).f d g) fun h=>wd h (fun H=>dz 14 H fun n H =>   dn 0 0 n H [] [] (.val i) fun o H p w =>   dn 1 0 n H p w (.val j) fun q H p w =>   dn 2 0 n H p w (.val l) fun r H p w =>   dn 3 6 n H p w (aH 2 q r) fun s H p w =>   dl 4 14 n H p w (fun H=>dD 2 H s) fun t H p w =>   dn 5 0 n H p w (.val k) fun u H p w =>   dn 6 0 n H p w (.val m) fun v H p w =>   dn 7 96 n H p w (aH 2 u v) fun x H p w =>   dn 8 224 n H p w (aP 1 x) fun y H p w =>   dl 9 480 n H p w (fun H=>aT H y) fun z H p w =>   dn 10 1022 n H p w (bR (bK [.str 0 0,.str 0 0,.str 0 0] [(0,2,t),(2,1,z)])) fun A H p w =>   da 11 2046 n H p w (sZ 1 (n+11) (bK (aV [.str 0 0,.str 0 0,.str 0 0] 1) [(0,3,A)])) fun B H p w =>   de 4095 H p w (j5 3 48 (eP 4095 p H) o (oQ 3 (eP 4095 p H) B)) (some true) fun C H p w =>   dn 13 8191 n H p w (.val C) fun D H p w =>   zQ p H fun H =>   qm9 O a D m H) (qm9 O a i m)
def zc5:=wq (aD j) fun a=>wq (ib .lss B a) fun c=>wd c (q07 O y A i j k B) (b A)
def qq2:=oU (zc5 O b i j k)
def zc7:=qq2 O b i j k dM
def q06(a:AV->pD)(b c d e:AV)(H:Hp):R1:=zc7 O (fun b H=>qm8 O a b e H) c d e b (iN 0) H
def zc6:=wq (aD i) fun a=>wq (ib .lss B a) fun c=>wd c (q06 O y A i j B) (b A)
def qhq:=oU (zc6 O b i j)
def zc8:=qhq O b i j dM
def zxq:=wB 1 i fun a=>wc O 11 [j] fun b=>wA 1 a fun c=>wc O 35 [c] fun d=>zc8 O (qhr O) b d (.aA) (iN 0)
def zFg:=zxq O i j
def qq1(O:Ev.Call):pH:=.ok (.bool true)
def zc2(O:Ev.Call)(a:pD)(b:AV):=wI b a
def zc1:=wl (aH 3 i k) fun a=>wL (dD 3 · a) fun d=>wl (aH 3 j k) fun e=>wL (dD 3 · e) fun f=>wl (mF true ((⟨E2.f ⟨dQ (eqFields [((pA 2),⟨dQ (eqFields [(p1,⟨bH⟩,0),(p1,⟨bH⟩,1)])⟩,0),(p1,⟨bH⟩,2)])⟩⟩:E2).f d f)) fun g=>wd g (b (.bool false)) (zc2 O c k)
def zc3:=wq (aD j) fun a=>wq (ib .lss A a) fun c=>wd c (zc1 O b x i j A) (d)
def qq0:=iC (zc3 O b d i j)
def zc4:=qq0 O b d i j dM
def q05:=zc4 O .ok (qq1 O) i j (iN 0)
def zxp:=wq (aD i) fun a=>wq (aD j) fun b=>wq (ib .neq a b) fun c=>wg (bI false c) (.val i) fun d=>wg (bI false c) (gW d) fun e=>wg (bI false c) (.val i) fun f=>wg (bI false c) (aD f) fun g=>wg (bI false c) (ib .neq e g) fun h=>wq (eD c (.bool true) h) fun k=>wd k (.ok (.bool false)) (q05 O i j)
def zFh:=zxp O i j
def zeb:=wz 0 fun a=>wo 0 0 a (dD 1 · i) fun b=>wo 2 0 a (dD 6 · j) fun c=>wu 1 (O (.f 36) [b]) fun d=>wu 7 (O (.f 37) [d,c]) fun e=>wn 4 15 a (.val e) fun f=>wy <| .ok f
def zyf:=wB 1 i fun a=>wB 6 j fun b=>wA 1 a fun c=>wc O 27 [c] fun d=>wq (ib .neq d (iN 0)) fun e=>wd e (.ok d) (zeb O a b)
def zDy:=zyf O i j
def q34(O:Ev.Call)(a b:AV):=wA 1 b fun c=>wT 1 a c <| fun H=>fJ (rV (dD 1 H a)) H
def qrx:=cst q34
theorem qxu:qrx=q34:=eY _
def qvn(O:Ev.Call)(a:pD)(b:AV):=wI b a
def qn9:=cst qvn
theorem qr4:qn9=qvn:=eY _
def qmd(O:Ev.Call)(a:pD)(b:AV):=wI b a
def q36:=cst qmd
theorem qkm:q36=qmd:=eY _
def qvm:=wq ((l8 .not).f k) fun a=>wd a (wq (aH 6 i j) fun c=>wq (aP 1 c) fun d=>wU d (.aA) <| q36 O b j) (q36 O b j)
def q35:=cst qvm
theorem qr3:q35=qvm:=eY _
def qmc(O:Ev.Call)(a:AV->pD)(b c:AV):=wI c fun d=>a b d
def zib:=cst qmc
theorem qkl:zib=qmc:=eY _
def qvl:=wz 0 fun b=>wn 0 0 b (.val k) fun c=>wn 1 1 b (.val c) fun d=>wr 2 3 b (.val i) (bI false d) fun e=>wr 3 3 b (.val l) (bI false d) fun f=>wr 4 15 b (aH 6 e f) (bI false d) fun g=>wr 5 31 b (aP 2 g) (bI false d) fun h=>ws 6 63 b (dD 4 · h) (bI false d) fun m=>wr 7 3 b (.val i) (bI false d) fun n=>wr 8 3 b (.val j) (bI false d) fun o=>wr 9 387 b (aH 6 n o) (bI false d) fun q=>wr 10 899 b (aP 0 q) (bI false d) fun r=>ws 11 1923 b (aT · r) (bI false d) fun s=>wt 4095 (O (.f 52) [m,(.int .u8 (.ofNat 3)),s]) (bI false d) fun t=>wn 13 8191 b (eD d (.bool true) t) fun u=>wn 14 16383 b (.val u) fun v=>wy <| zib O a v l
def zia:=cst qvl
theorem qr2:zia=qvl:=eY _
def qvf:=wd m (zia O a i j k l) (b k)
def zh6:=cst qvf
theorem qrv:zh6=qvf:=eY _
def q38:=wq (aD i) fun a=>wq (ib .lss B a) fun c=>zh6 O y b i j A B c
def qn6:=oU (q38 O b i j)
def zif:=qn6 O b i j dM
def qve:=zif O (q35 O b i j) i j k (iN 0)
def zh5:=cst qve
theorem qru:zh5=qve:=eY _
def qvk:=wq (aH 6 i j) fun a=>wq (aP 2 a) fun c=>wA 4 c fun d=>wc O 52 [d,(.int .u8 (.ofNat 1)),(.str 0 0)] fun e=>zh5 O b i j e
def zh9:=cst qvk
theorem qr1:zh9=qvk:=eY _
def qvd:=wd k (zh9 O b i j) (d)
def zh4:=cst qvd
theorem qrt:zh4=qvd:=eY _
def q39:=wq (aD i) fun a=>wq (ib .lss A a) fun b=>zh4 O x d i A b
def qn7:=iC (q39 O d i)
def zih:=qn7 O d i dM
def qvc:=zih O (qn9 O b i) j (iN 0)
def zh3:=cst qvc
theorem qrs:zh3=qvc:=eY _
def qvj:=wF 0 i fun a=>wq (aH 2 a j) fun c=>wF 1 c fun d=>zh3 O b j d
def zh8:=cst qvj
theorem qr0:zh8=qvj:=eY _
def qvb:=wd k (zh8 O b i j) (d)
def zh2:=cst qvb
theorem qrr:zh2=qvb:=eY _
def q4a:=wF 0 i fun a=>wq (aD a) fun b=>wq (ib .lss A b) fun c=>zh2 O x d i A c
def qkj:=iC (q4a O d i)
def zii:=qkj O d i dM
def qvi:=zii O (qrx O i j) j (iN 1)
def qn8:=cst qvi
theorem qrz:qn8=qvi:=eY _
def qvh(O:Ev.Call)(a:pD)(b:AV):=wI b a
def zh7:=cst qvh
theorem qry:zh7=qvh:=eY _
def qva(a:pD)(b c d e:AV)(H:Hp):R1:=dz 17 H fun f H=>dn 0 0 f H [] [] (.val e) fun g H p w=>dn 1 0 f H p w (.val e) fun h H p w=>dn 2 2 f H p w (aY h) fun i H p w=>dn 3 6 f H p w (aP 1 i) fun j H p w=>dl 4 14 f H p w (fun H=>aT H j) fun k H p w=>dn 5 0 f H p w (.val c) fun l H p w=>dl 7 0 f H p w (fun H=>dD 1 H b) fun m H p w=>dn 8 0 f H p w (.val c) fun n H p w=>dl 10 0 f H p w (fun H=>dD 4 H d) fun o H p w=>de 32 H p w (O (.f 50) [l] (eP 32 p H)) (some true) fun q H p w=>de 480 H p w (O (.f 51) [m,n] (eP 480 p H)) (some true) fun r H p w=>dn 11 2016 f H p w (bR (bK [.str 0 0,.aA,.int .u8 (.ofNat 0),.str 0 0,.str 0 0,.aA] [(0,1,q),(1,1,r),(2,4,o)])) fun s H p w=>da 12 4064 f H p w (sZ 1 (f+12) (bK (aV [.str 0 0,.aA,.int .u8 (.ofNat 0),.str 0 0,.str 0 0,.aA] 1) [(0,6,s)])) fun t H p w=>de 8190 H p w (j5 6 104 (eP 8190 p H) k (oQ 6 (eP 8190 p H) t)) (some true) fun u H p w=>dn 14 16383 f H p w (aY g) fun v H p w=>dn 15 32767 f H p w (aP 1 v) fun x H p w=>de 65535 H p w (kL (eP 65535 p H) x u) (some true) fun _ H p w=>zQ p H fun H=>zh7 O a c H
def zh1:=cst qva
theorem qrq:zh1=qva:=eY _
def qu9:=wF 0 j fun a=>wq (ib .quo k (iN 4)) fun c=>wq (ib .add (iN 1) c) fun d=>wq (aH 2 a d) fun e=>zh1 O b i k l e
def zh0:=cst qu9
theorem qrp:zh0=qu9:=eY _
def qvg:=wA 1 i fun a=>wc O 49 [a,k,(iN 2),(iN 1),(.bool false)] fun c=>wq (bT 0 c) fun d=>wq (bT 1 c) fun e=>wN [.int .u8 (.ofNat 0),.str 0 0,.str 0 0,.aA] fun f=>wT 4 f d <| zh0 O b i j k f
def qkk:=cst qvg
theorem qrw:qkk=qvg:=eY _
def qi7:=wq (ib .rem k (iN 4)) fun a=>wq (ib .eql a (iN 0)) fun c=>wd c (fun H=>dz 10 H fun d H =>   dn 0 0 d H [] [] (aP 0 j) fun e H p w =>   dl 1 1 d H p w (fun H=>aT H e) fun f H p w =>   dn 2 0 d H p w (.val k) fun g H p w =>   dn 3 4 d H p w (ib .quo g (iN 4)) fun h H p w =>   de 12 H p w (O (.f 48) [h] (eP 12 p H)) (some true) fun l H p w =>   dn 5 28 d H p w (bR (bK [.str 0 0,.aA] [(0,1,l)])) fun m H p w =>   da 6 60 d H p w (sZ 1 (d+6) (bK (aV [.str 0 0,.aA] 1) [(0,2,m)])) fun n H p w =>   de 127 H p w (j5 2 40 (eP 127 p H) f (oQ 2 (eP 127 p H) n)) (some true) fun o H p w =>   dn 8 255 d H p w (aP 0 j) fun q H p w =>   de 511 H p w (kL (eP 511 p H) q o) (some true) fun _ H p w =>   zQ p H fun H =>   qkk O b i j k H) (qkk O b i j k)
def qvo:=cst qi7
theorem qh7:qvo=qi7:=eY _
def qn4:=wd l (qvo O b i j k) (d)
def q7f:=cst qn4
theorem qn5:q7f=qn4:=eY _
def q37:=wA 1 i fun a=>wc O 47 [a] fun b=>wq (ib .lss A b) fun c=>q7f O x d i j A c
def qki:=iC (q37 O d i j)
def zie:=qki O d i j dM
def qn2:=zie O (qn8 O j k) i k (iN 0)
def q7e:=cst qn2
theorem qn3:q7e=qn2:=eY _
def z0c:=wB 1 i fun a=>wN [.aA] fun b=>wq (bR (bK [.str 0 0,.aA] [(0,1,(.str 4 1919251317))])) fun c=>wS 1 (bK (aV [.str 0 0,.aA] 1) [(0,2,c)]) fun d=>wq (bR (bK [.aA] [(0,1,d)])) fun e=>wN [.aA] fun f=>wT 1 f e <| q7e O a b f
def zAc:=z0c O i
def ql8:=wz 13 fun a=>wn 0 0 a (aP 1 l) fun b=>wo 1 1 a (aT · b) fun c=>wn 2 0 a (fQ 4 1 i (iN 2)) fun d=>wo 3 4 a (aT · d) fun e=>wa 4 12 a (qw7 .i64 e) fun f=>wn 5 0 a (aP 1 l) fun g=>wo 6 32 a (aT · g) fun h=>wn 7 96 a (aD h) fun m=>wn 8 252 a (ib .rem f m) fun n=>wn 9 511 a (aH 2 c n) fun o=>wo 10 1023 a (dD 2 · o) fun q=>wa 11 0 a (.new (.ptr (a+11) 0) (aB 0 [.str 0 0,.str 0 0])) fun r=>wu 4095 (xV 2 · r q) fun _=>wy <| wz 0 fun s=>wn 0 0 s (aP 0 k) fun t=>wo 1 1 s (aT · t) fun u=>wn 2 0 s (fQ 4 1 i (iN 1)) fun v=>wo 3 4 s (aT · v) fun x=>wn 6 0 s (aP 1 k) fun y=>wo 7 64 s (aT · y) fun z=>wn 9 0 s (aP 0 r) fun A=>wo 10 512 s (aT · A) fun B=>wn 11 0 s (fQ 4 1 i (iN 3)) fun C=>wo 12 2048 s (aT · C) fun D=>wn 15 0 s (aP 1 r) fun E=>wo 16 32768 s (aT · E) fun F=>wu 12 (O (.f 53) [x]) fun G=>wn 5 31 s (bR (bK [.str 0 0,.str 0 0] [(0,1,u),(1,1,G)])) fun I=>wn 8 255 s (bR (bK [.str 0 0,.str 0 0,.str 0 0] [(0,2,I),(2,1,z)])) fun J=>wu 6172 (O (.f 53) [D]) fun K=>wn 14 15900 s (bR (bK [.str 0 0,.str 0 0] [(0,1,B),(1,1,K)])) fun L=>wn 17 130588 s (bR (bK [.str 0 0,.str 0 0,.str 0 0] [(0,2,L),(2,1,F)])) fun M=>wn 18 262143 s (bR (bK [.str 0 0,.str 0 0,.str 0 0,.str 0 0,.str 0 0,.str 0 0] [(0,3,J),(3,3,M)])) fun N=>wu 524287 (xV 6 · j N) fun _=>wn 20 1048575 s (.val (.bool true)) fun P=>wy <| fun H=>fJ (jK (qbv (rV (dD 6 H j)) (qbv (some P) (some [])))) H
def qt0:=cst ql8
theorem qq9:qt0=ql8:=eY _
def ql7:=wq (fQ 4 1 j (iN 0)) fun a=>w1 a fun b=>wq (qw7 .i64 b) fun c=>wq (aD l) fun d=>wq (ib .rem c d) fun e=>wq (aH 2 l e) fun f=>wA 2 f fun g=>wN [.str 0 0,.str 0 0] fun h=>wT 2 h g <| wA 1 i fun m=>wF 0 h fun n=>wF 1 h fun o=>wc O 39 [m,n,o] fun q=>wq (bT 0 q) fun r=>wq (bT 1 q) fun s=>wN [.str 0 0,.aA,.int .u8 (.ofNat 0),.str 0 0,.str 0 0,.aA] fun t=>wT 6 t r <| wF 1 t fun u=>wq (aD u) fun v=>wq (ib .eql v (iN 0)) fun x=>wd x (wq (bR (bK [.str 0 0,.str 0 0,.str 0 0,.str 0 0,.str 0 0,.str 0 0] [])) fun y=>wT 6 k y <| fun H=>fJ (jK (qbv (rV (dD 6 H k)) (qbv (some (.bool false)) (some [])))) H) (qt0 O j k h t)
def q10:=cst ql7
theorem qq8:q10=ql7:=eY _
def zyb:=wB 1 i fun a=>wB 4 j fun b=>wN [.str 0 0,.str 0 0,.str 0 0,.str 0 0,.str 0 0,.str 0 0] fun c=>wA 1 a fun d=>wc O 35 [d] fun e=>wq (aD e) fun f=>wq (ib .eql f (iN 0)) fun g=>wd g (wq (bR (bK [.str 0 0,.str 0 0,.str 0 0,.str 0 0,.str 0 0,.str 0 0] [])) fun h=>wT 6 c h <| fun H=>fJ (jK (qbv (rV (dD 6 H c)) (qbv (some (.bool false)) (some [])))) H) (q10 O a b c e)
def zEc:=zyb O i j
def qef(O:Ev.Call)(a:AV):pH:=.ok a
def qq7(O:Ev.Call)(a:AV->pD)(b c:AV):=wI c fun d=>a b d
def qxg:=qq7 O a j i
def qgd:=wq ((l8 .not).f l) fun b=>wd b (wq (aH 6 i j) fun c=>wA 6 c fun d=>wS 1 (bK (aV [.str 0 0,.str 0 0,.str 0 0,.str 0 0,.str 0 0,.str 0 0] 1) [(0,6,d)]) fun e=>wP 6 96 k e fun f=>qxg O a j f) (qxg O a j k)
def q1w(O:Ev.Call)(a:AV->AV->pD)(b c d:AV):=wI d fun e=>a b c e
def qng:=wq (aH 6 i l) fun a=>wA 6 a fun b=>wS 1 (bK (aV [.str 0 0,.str 0 0,.str 0 0,.str 0 0,.str 0 0,.str 0 0] 1) [(0,6,b)]) fun c=>wP 6 96 j c fun d=>q1w O h d k l
def q1v:=wz 0 fun a=>wn 0 0 a (.val m) fun b=>wn 1 1 a ((l8 .not).f b) fun c=>wn 2 3 a (.val c) fun d=>wr 3 7 a (.val i) (wv d) fun e=>wr 4 7 a (.val k) (wv d) fun f=>wr 5 31 a (aH 6 e f) (wv d) fun g=>ws 6 63 a (dD 6 · g) (wv d) fun o=>wr 7 7 a (.val j) (wv d) fun q=>wr 8 7 a (.val n) (wv d) fun r=>wr 9 391 a (aH 6 q r) (wv d) fun s=>ws 10 903 a (dD 6 · s) (wv d) fun t=>wt 2047 (O (.f 55) [o,t]) (wv d) fun u=>wr 12 4095 a (ib .lss u (iN 0)) (wv d) fun v=>wn 13 8191 a (eD d v (.bool false)) fun x=>wy <| wd x (wq (aH 6 i k) fun y=>wA 6 y fun z=>wS 1 (bK (aV [.str 0 0,.str 0 0,.str 0 0,.str 0 0,.str 0 0,.str 0 0] 1) [(0,6,z)]) fun A=>wP 6 96 l A fun B=>qng O h j B (.bool true) n) (qng O h j l m n)
def q1x:=wq (aD j) fun b=>wq (ib .lss C b) fun c=>wd c (q1v O z i j k A B C) (a A B)
def qgc:=lq3 (q1x O a i j k)
def q1y:=qgc O a i j k dM
def q1u:=q1y O (qgd O a i k) i j k (.aA) (.bool false) (iN 0)
def q1s:=wq (aH 6 i k) fun b=>wA 6 b fun c=>wc O 54 [j,c] fun d=>wq (ib .eql d (iN 1)) fun e=>wd e (qq7 O a j k) (q1u O a i j k)
def zd0:=wq (aD i) fun a=>wq (ib .lss B a) fun c=>wd c (q1s O y i A B) (b A)
def qee:=oU (zd0 O b i)
def zd1:=qee O b i dM
def zya:=zd1 O (qef O) i (.aA) (iN 0)
def zEd:=zya O i
def zwg(O:Ev.Call)(a:AV):pH:=.ok a
def z0b:=wB 1 i fun a=>wA 1 a fun b=>wc O 56 [b] fun c=>wq (bT 0 c) fun d=>wq (bT 1 c) fun e=>wN [iN 0,.aA] fun f=>wT 2 f d <| wq (ib .eql e (iN 0)) fun g=>wd g (wA 2 f fun h=>wc O 57 [h] fun j=>wq (bT 0 j) fun k=>wq (bT 1 j) fun l=>zwg O l) (zwg O e)
def zAe:=z0b O i
def qgb(O:Ev.Call)(a:AV):pH:=.ok a
def qnf(O:Ev.Call)(a:pD)(b:AV):=wI b a
def q1o(O:Ev.Call)(a:pD)(b:AV):=wI b a
def q1n:=wq (aH 6 k l) fun a=>wA 6 a fun c=>wN [.str 0 0,.aA,.int .u8 (.ofNat 0),.str 0 0,.str 0 0,.aA] fun d=>wT 6 d c <| fun H=>dz 11 H fun e H=>dn 0 0 e H [] [] (.val i) fun f H p w=>dn 1 0 e H p w (aP 0 j) fun g H p w=>dl 2 2 e H p w (fun H=>aT H g) fun h H p w=>dn 3 0 e H p w (aP 0 d) fun m H p w=>dl 4 8 e H p w (fun H=>aT H m) fun n H p w=>dn 5 30 e H p w (bR (bK [.str 0 0,.str 0 0] [(0,1,h),(1,1,n)])) fun o H p w=>da 6 0 e H p w (sZ 0 (e+6) (bK (aV [.str 0 0,.str 0 0] 0) [])) fun q H p w=>dn 7 0 e H p w (aP 1 d) fun r H p w=>dl 8 128 e H p w (fun H=>aT H r) fun s H p w=>de 448 H p w (j5 2 32 (eP 448 p H) q (oQ 2 (eP 448 p H) s)) (some true) fun t H p w=>de 1023 H p w (nI ⟨(⟨dQ (eqFields [(p1,⟨bH⟩,0),(p1,⟨bH⟩,1)])⟩:E2).f,some 2⟩ (eP 1023 p H) f o t) (some true) fun _ H p w=>zQ p H fun H=>q1o O b l H
def q1p:=wq (ib .lss A l) fun a=>wd a (q1n O x i j k A) (d)
def qj6:=iC (q1p O d i j k l)
def q1q:=qj6 O d i j k l dM
def q1m:=wq (aH 2 j k) fun a=>wA 2 a fun c=>wN [.str 0 0,.aA] fun d=>wT 2 d c <| wF 1 d fun e=>wq (aD e) fun f=>q1q O (qnf O b k) i d e f (iN 0)
def zdy:=wq (ib .lss A k) fun a=>wd a (q1m O x i j A) (d)
def qhs:=iC (zdy O d i j k)
def zdz:=qhs O d i j k dM
def zx9:=wB 1 i fun a=>wh (fun H=>.new (.map H.nx) (.map [] 0)) fun b=>wF 0 a fun c=>wq (aD c) fun d=>zdz O (qgb O b) b c d (iN 0)
def zEf:=zx9 O i
def zdx(O:Ev.Call):pH:=.ok (iN 0)
def q1l:=wq (aP 0 j) fun a=>wq (aP 0 a) fun b=>wF 0 b fun c=>wq (aP 0 j) fun d=>wF 2 d fun e=>wq (bR (bK [.str 0 0,.str 0 0] [(0,1,c),(1,1,e)])) fun f=>wh (qL ⟨(⟨dQ (eqFields [(p1,⟨bH⟩,0),(p1,⟨bH⟩,1)])⟩:E2).f,some 2⟩ (.aA) true · i f) fun g=>wq (bT 0 g) fun h=>wq (bT 1 g) fun k=>wq ((l8 .not).f k) fun l=>wd l (.ok (iN 6)) (wq (aP 3 j) fun m=>wq (aP 0 m) fun n=>wF 0 n fun o=>wq (aP 3 j) fun q=>wF 2 q fun r=>wq (bR (bK [.str 0 0,.str 0 0] [(0,1,o),(1,1,r)])) fun s=>wc O 65 [h,s] fun t=>wq ((l8 .not).f t) fun u=>wd u (.ok (iN 11)) (zdx O))
def zx8:=wB 6 j fun a=>wA 6 a fun b=>wc O 64 [b] fun c=>wq (ib .neq c (iN 0)) fun d=>wd d (.ok (iN 6)) (q1l O i a)
def zEg:=zx8 O i j
def zx7(O:Ev.Call)(a:AV):=wq (aD a) fun b=>wq (aD a) fun c=>wq (kM 6 a none (some b) (some c)) fun d=>.ok d
def zEh:=zx7 O i
def zxs:=wh (fun H=>jT H.nx i) fun a=>wc O 31 [(.fn 32 [] [a])] fun b=>.ok b
def zFb:=zxs O i
def zxo(O:Ev.Call)(a b:AV):=wB 2 a fun c=>wF 0 c fun d=>wF 0 b fun e=>wq (fO (mJ .eql).f d e) fun f=>.ok f
def zFi:=zxo O i j
def qqz(O:Ev.Call):pH:=.ok (.int .i64 (.negSucc 0))
def zcy(O:Ev.Call)(a:pD)(b:AV):=wI b a
def zcx:=wq (aH 2 i k) fun a=>wA 2 a fun d=>we (uG O j [d]) fun e=>wd e (b k) (zcy O c k)
def zcz:=wq (ib .lss A k) fun a=>wd a (zcx O b x i j A) (d)
def qqy:=iC (zcz O b d i j k)
def zc0:=qqy O b d i j k dM
def zxn:=wq (aD i) fun a=>zc0 O .ok (qqz O) i j a (iN 0)
def zFj:=zxn O i j
def zxm(O:Ev.Call)(a:AV):=wq (aD a) fun b=>wq (aD a) fun c=>wq (kM 3 a none (some b) (some c)) fun d=>.ok d
def zFk:=zxm O i
def qq4(O:Ev.Call)(a:AV):pH:=.ok a
def zc9(O:Ev.Call)(a:AV->pD)(b c:AV):=wI c fun d=>a b d
def q08:=wz 0 fun b=>wn 0 0 b (.val j) fun c=>wn 1 0 b (.val i) fun d=>wn 2 0 b (.val k) fun e=>wn 3 6 b (aH 6 d e) fun f=>wn 4 14 b (aP 0 f) fun g=>wn 5 30 b (aP 0 g) fun h=>wo 6 62 b (dD 2 · h) fun l=>wn 8 0 b (.val i) fun m=>wn 9 0 b (.val k) fun n=>wn 10 768 b (aH 6 m n) fun o=>wn 11 1792 b (aP 3 o) fun q=>wn 12 3840 b (aP 0 q) fun r=>wo 13 7936 b (dD 2 · r) fun s=>wu 127 (O (.f 33) [c,l]) fun t=>wu 16383 (O (.f 33) [t,s]) fun u=>wn 15 32767 b (.val u) fun v=>wy <| zc9 O a v k
def zda:=wq (aD i) fun a=>wq (ib .lss B a) fun c=>wd c (q08 O y i A B) (b A)
def qq3:=oU (zda O b i)
def zdb:=qq3 O b i dM
def zxr:=zdb O (qq4 O) i (.aA) (iN 0)
def zFc:=zxr O i
def zhx(O:Ev.Call)(a:AV):pH:=.ok a
def zhu(O:Ev.Call)(a:AV->pD)(b c:AV):=wI c fun d=>a b d
def zwd(O:Ev.Call)(a:AV->pD)(b c:AV):=wI c fun d=>a b d
def zhw(a:AV->pD)(b c d e:AV)(H:Hp):R1:=dz 21 H fun f H=>dn 0 0 f H [] [] (.val c) fun g H p w=>dn 1 0 f H p w (aP 0 b) fun h H p w=>dl 2 2 f H p w (fun H=>aT H h) fun i H p w=>dn 3 0 f H p w (.val d) fun j H p w=>dn 4 14 f H p w (aH 2 i j) fun k H p w=>dn 5 30 f H p w (aP 0 k) fun l H p w=>dl 6 62 f H p w (fun H=>aT H l) fun m H p w=>dn 7 0 f H p w (aP 0 b) fun n H p w=>dl 8 128 f H p w (fun H=>aT H n) fun o H p w=>dn 9 0 f H p w (.val d) fun q H p w=>dn 10 896 f H p w (aH 2 o q) fun r H p w=>dn 11 1920 f H p w (aP 1 r) fun s H p w=>dl 12 3968 f H p w (fun H=>aT H s) fun t H p w=>dn 13 0 f H p w (.val e) fun u H p w=>dn 14 16256 f H p w (aH 6 t u) fun v H p w=>dn 15 32640 f H p w (aP 0 v) fun x H p w=>dl 16 65408 f H p w (fun H=>aT H x) fun y H p w=>dn 17 131070 f H p w (bR (bK [.str 0 0,.str 0 0] [(0,1,m),(1,1,y)])) fun z H p w=>da 18 262142 f H p w (sZ 1 (f+18) (bK (aV [.str 0 0,.str 0 0] 1) [(0,2,z)])) fun A H p w=>de 524287 H p w (j5 2 32 (eP 524287 p H) g (oQ 2 (eP 524287 p H) A)) (some true) fun B H p w=>dn 20 1048575 f H p w (.val B) fun C H p w=>zQ p H fun H=>zwd O a C e H
def zhy:=wF 0 i fun a=>wq (aH 2 a j) fun c=>wF 1 c fun d=>wq (aD d) fun e=>wq (ib .lss B e) fun f=>wd f (zhw O y i A j B) (b A)
def q7d:=oU (zhy O b i j)
def zwe:=q7d O b i j dM
def zhv(a:AV->pD)(b c d:AV)(H:Hp):R1:=zwe O (fun c H=>zhu O a c d H) b d c (iN 0) H
def zhz:=wF 0 i fun a=>wq (aD a) fun c=>wq (ib .lss B c) fun d=>wd d (zhv O y i A B) (b A)
def qxt:=oU (zhz O b i)
def zwf:=qxt O b i dM
def z0a:=wB 1 i fun a=>zwf O (zhx O) a (.aA) (iN 0)
def zAh:=z0a O i
def zz9(O:Ev.Call)(a:AV):=wB 1 a fun b=>wF 0 b fun c=>wq (aD c) fun d=>wq (qE oI d [(iN 12)]) fun e=>.ok e
def zAn:=zz9 O i
def zz8(O:Ev.Call)(a:AV):=wS 3 (bK (aV [.str 0 0] 3) [(0,1,(.str 1 97)),(1,1,(.str 1 98)),(2,1,(.str 1 99))]) fun b=>wq (ib .rem a (iN 3)) fun c=>wq (aH 1 b c) fun d=>w1 d fun e=>.ok e
def zAo:=zz8 O i
def qh6:=wA 1 m fun a=>wI k fun b=>wc O 49 [a,i,j,b,l] fun c=>wq (bT 0 c) fun d=>wq (bT 1 c) fun e=>wN [.int .u8 (.ofNat 0),.str 0 0,.str 0 0,.aA] fun f=>wT 4 f d <| wA 1 m fun g=>wI k fun h=>wg (bI false l) (.val o) fun q=>wg (bI false l) (ib .eql q (.int .u8 (.ofNat 6))) fun r=>wq (eD l (.bool true) r) fun s=>wc O 49 [g,i,e,h,s] fun t=>wq (bT 0 t) fun u=>wq (bT 1 t) fun v=>wN [.int .u8 (.ofNat 0),.str 0 0,.str 0 0,.aA] fun x=>wT 4 x u <| wA 4 f fun y=>wA 4 x fun z=>wS 2 (bK (aV [.int .u8 (.ofNat 0),.str 0 0,.str 0 0,.aA] 2) [(0,4,y),(4,4,z)]) fun A=>wq (bR (bK [.int .u8 (.ofNat 0),.str 0 0,.str 0 0,.aA] [(0,1,o),(3,1,A)])) fun B=>wT 4 n B <| fun H=>fJ (jK (qbv (rV (dD 4 H n)) (qbv (some v) (some [])))) H
def qfg:=wd s (wA 1 m fun a=>wq (ib .quo o (.int .u8 (.ofNat 8))) fun b=>wc O 77 [a,i,b,l] fun c=>wT 4 n c <| fun H=>fJ (jK (qbv (rV (dD 4 H n)) (qbv (some j) (some [])))) H) (wq (ib .eql r (.int .u8 (.ofNat 4))) fun d=>wd d (wA 1 m fun e=>wq (ib .quo o (.int .u8 (.ofNat 8))) fun f=>wc O 78 [e,i,f,l] fun g=>wT 4 n g <| fun H=>fJ (jK (qbv (rV (dD 4 H n)) (qbv (some j) (some [])))) H) (wq (ib .eql r (.int .u8 (.ofNat 6))) fun h=>wd h (qh6 O i j k l m n (.int .u8 (.ofNat 5))) (wq (ib .eql r (.int .u8 (.ofNat 7))) fun t=>wd t (wc O 79 [i] fun u=>wq (ib .gtr u (iN 0)) fun v=>wd v (qh6 O i j k l m n (.int .u8 (.ofNat 6))) (qh6 O i j k l m n q)) (qh6 O i j k l m n q))))
def qd0:=wd s (wc O 76 [l] fun a=>wT 4 n a <| fun H=>fJ (jK (qbv (rV (dD 4 H n)) (qbv (some j) (some [])))) H) (wq (ib .eql r (.int .u8 (.ofNat 2))) fun b=>wd b (qfg O i j k l m n o q r b) (wq (ib .eql r (.int .u8 (.ofNat 3))) fun c=>qfg O i j k l m n o q r c))
def zht:=wF 0 m fun a=>wq (aH 1 a i) fun b=>w1 b fun c=>wq (aH 1 c j) fun d=>w1 d fun e=>wI j fun f=>wq (ib .rem e (.int .u8 (.ofNat 8))) fun g=>wq (ib .eql g (.int .u8 (.ofNat 0))) fun h=>wd h (qd0 O i f k l m n e (.int .u8 (.ofNat 4)) g h) (wq (ib .eql g (.int .u8 (.ofNat 1))) fun o=>qd0 O i f k l m n e (.int .u8 (.ofNat 4)) g o)
def zq6:=wB 1 i fun a=>wN [.int .u8 (.ofNat 0),.str 0 0,.str 0 0,.aA] fun b=>wF 0 a fun c=>wq (aH 1 c j) fun d=>w1 d fun e=>wq (aD e) fun f=>wq (ib .geq k f) fun g=>wg (bI false g) (.val k) fun h=>wg (bI false g) (ib .geq h (iN 12)) fun n=>wq (eD g (.bool true) n) fun o=>wg (bI false o) (.val l) fun q=>wg (bI false o) (ib .gtr q (iN 6)) fun r=>wq (eD o (.bool true) r) fun s=>wd s (wc O 76 [m] fun t=>wT 4 b t <| fun H=>fJ (jK (qbv (rV (dD 4 H b)) (qbv (some k) (some [])))) H) (zht O j k l m a b)
def zAp:=zq6 O i j k l m
def zz7(O:Ev.Call)(a:AV):=wS 4 (bK (aV [.str 0 0] 4) [(0,1,(.str 2 12402)),(1,1,(.str 2 12658)),(2,1,(.str 2 12914)),(3,1,(.str 2 13170))]) fun b=>wq (ib .rem a (iN 4)) fun c=>wq (aH 1 b c) fun d=>w1 d fun e=>.ok e
def zAq:=zz7 O i
def zwc(O:Ev.Call)(a:AV):pH:=.ok a
def q30:=wA 1 j fun a=>wc O 80 [a,i,(iN 1)] fun b=>wq (ib .quo b (.int .u8 (.ofNat 2))) fun c=>wq (qw7 .i64 c) fun d=>wq (aD l) fun e=>wq (ib .rem d e) fun f=>wq (aH 2 l f) fun g=>wA 2 g fun h=>wS 1 (bK (aV [.str 0 0,.str 0 0] 1) [(0,2,h)]) fun m=>wP 2 32 k m fun n=>zwc O n
def qu8(O:Ev.Call)(a:AV->pD)(b c:AV):=wI c fun d=>a b d
def zz5:=wc O 79 [k] fun b=>wc O 79 [i] fun c=>wq (ib .leq b c) fun d=>wd d (wq (ib .quo k (iN 4)) fun e=>wc O 48 [e] fun f=>wc O 50 [k] fun g=>wq (bR (bK [.str 0 0,.str 0 0] [(0,1,f),(1,1,g)])) fun h=>wS 1 (bK (aV [.str 0 0,.str 0 0] 1) [(0,2,h)]) fun l=>wP 2 32 j l fun m=>qu8 O a m k) (qu8 O a j k)
def q33:=wA 1 j fun a=>wc O 47 [a] fun c=>wq (ib .lss B c) fun d=>wd d (zz5 O y i A B) (b A)
def qu5:=oU (q33 O b i j)
def zhs:=qu5 O b i j dM
def qu7:=wA 1 j fun a=>wc O 80 [a,i,(iN 1)] fun b=>wq (ib .rem b (.int .u8 (.ofNat 2))) fun c=>wq (ib .eql c (.int .u8 (.ofNat 1))) fun d=>wd d (zhs O (q30 O i j k) i j (.aA) (iN 0)) (zwc O k)
def qu6(O:Ev.Call)(a:AV->pD)(b c:AV):=wI c fun d=>a b d
def zhq:=wA 1 j fun b=>wc O 80 [b,i,(iN 0)] fun c=>wq (qyi (qje .shr).f c l) fun d=>wq (ib .rem d (.int .u8 (.ofNat 2))) fun e=>wq (ib .eql e (.int .u8 (.ofNat 1))) fun f=>wd f (wc O 48 [l] fun g=>wq (bR (bK [.str 0 0,.str 0 0] [(0,1,g)])) fun h=>wS 1 (bK (aV [.str 0 0,.str 0 0] 1) [(0,2,h)]) fun m=>wP 2 32 k m fun n=>qu6 O a n l) (qu6 O a k l)
def q31:=wq (ib .mul (iN 4) B) fun a=>wA 1 j fun c=>wc O 47 [c] fun d=>wq (ib .lss a d) fun e=>wg (wv e) (.val B) fun f=>wg (wv e) (ib .lss f (iN 3)) fun g=>wq (eD e g (.bool false)) fun h=>wd h (zhq O y i j A B) (b A)
def qu4:=oU (q31 O b i j)
def zhr:=qu4 O b i j dM
def zz6:=wB 1 i fun a=>wq (bR (bK [.str 0 0,.str 0 0] [(0,1,(.str 4 1919251317))])) fun b=>wS 1 (bK (aV [.str 0 0,.str 0 0] 1) [(0,2,b)]) fun c=>zhr O (qu7 O j a) j a c (iN 0)
def zAr:=zz6 O i j
def zhn(O:Ev.Call):pH:=.ok (.bool false)
def zhm(O:Ev.Call)(a:pD)(b:AV):=wI b a
def zho:=wq (aH 5 k l) fun a=>wF 0 a fun d=>wq (ib .eql d i) fun e=>wg (wv e) (.val k) fun f=>wg (wv e) (.val l) fun g=>wg (wv e) (aH 5 f g) fun h=>wg (wv e) (aP 1 h) fun m=>wG (wv e) (aT · m) fun n=>wg (wv e) (.val j) fun o=>wg (wv e) (fO (mJ .eql).f n o) fun q=>wq (eD e q (.bool false)) fun r=>wd r (b (.bool true)) (zhm O c l)
def zhp:=wq (aD k) fun a=>wq (ib .lss A a) fun c=>wd c (zho O b x i j k A) (d)
def q7c:=iC (zhp O b d i j k)
def zwb:=q7c O b d i j k dM
def zz4:=wB 4 i fun a=>wA 4 a fun b=>wc O 81 [(.aA),b,(.bool false)] fun c=>zwb O .ok (zhn O) j k c (iN 0)
def zAs:=zz4 O i j k
def q60(O:Ev.Call)(a:AV):=wq (bR (bK [.str 0 0,.aA,.int .u8 (.ofNat 0),.str 0 0,.str 0 0,.aA] [])) fun b=>wT 6 a b <| fun H=>fJ (jK (qbv (rV (dD 6 H a)) (qbv (some (.bool false)) (some [])))) H
def zv7(O:Ev.Call)(a:pD)(b:AV):=wI b a
def zg5:=wF 0 j fun a=>wq (aH 2 a l) fun d=>wF 1 d fun e=>wq (aH 6 e m) fun f=>wF 0 f fun g=>wq (fO (mJ .eql).f g i) fun h=>wd h (wF 0 j fun n=>wq (aH 2 n l) fun o=>wF 1 o fun q=>wq (aH 6 q m) fun r=>wA 6 r fun s=>wT 6 k s <| b (.bool true)) (zv7 O c m)
def qxs:=wq (ib .geq l (iN 0)) fun a=>wg (wv a) (.val A) fun c=>wg (wv a) (aP 0 j) fun e=>wG (wv a) (aT · e) fun f=>wg (wv a) (.val l) fun g=>wg (wv a) (aH 2 f g) fun h=>wg (wv a) (aP 1 h) fun m=>wG (wv a) (aT · m) fun n=>wg (wv a) (aD n) fun o=>wg (wv a) (ib .lss c o) fun q=>wq (eD a q (.bool false)) fun r=>wd r (zg5 O b x i j k l A) (d)
def qxr:=iC (qxs O b d i j k l)
def zv8:=qxr O b d i j k l dM
def zz1:=wB 1 i fun a=>wN [.str 0 0,.aA,.int .u8 (.ofNat 0),.str 0 0,.str 0 0,.aA] fun b=>wA 1 a fun c=>wc O 66 [c,j] fun d=>fun H=>zv8 O (fun e H=>fJ (jK (qbv (rV (dD 6 H b)) (qbv (some e) (some [])))) H) (q60 O b) k a b d (iN 0) H
def zAy:=zz1 O i j k
def zx6(O:Ev.Call)(a:AV):=wS 5 (bK (aV [.str 0 0] 5) [(0,1,(.str 1 49)),(1,1,(.str 1 50)),(2,1,(.str 1 51)),(3,1,(.str 1 52)),(4,1,(.str 4 1953460082))]) fun b=>wq (ib .rem a (.int .u8 (.ofNat 5))) fun c=>wq (aH 1 b c) fun d=>w1 d fun e=>.ok e
def zEi:=zx6 O i
def qne(O:Ev.Call):pH:=.ok (iN 0)
def zdu(O:Ev.Call)(a:pD)(b:AV):=wI b a
def zdt:=wl (aH 6 i k) fun a=>wL (dD 6 · a) fun d=>wL (dD 6 · j) fun e=>wl (mF false ((⟨E2.f ⟨dQ (eqFields [((pA 3),⟨dQ (eqFields [((pA 2),⟨dQ (eqFields [(p1,⟨bH⟩,0),(p1,⟨bH⟩,1)])⟩,0),(p1,⟨bH⟩,2)])⟩,0),((pA 3),⟨dQ (eqFields [((pA 2),⟨dQ (eqFields [(p1,⟨bH⟩,0),(p1,⟨bH⟩,1)])⟩,0),(p1,⟨bH⟩,2)])⟩,3)])⟩⟩:E2).f d e)) fun f=>wd f (b (iN 1)) (zdu O c k)
def zdv:=wq (aD i) fun a=>wq (ib .lss A a) fun c=>wd c (zdt O b x i j A) (d)
def qq6:=iC (zdv O b d i j)
def zdw:=qq6 O b d i j dM
def zx5:=wB 6 j fun a=>zdw O .ok (qne O) i a (iN 0)
def zEj:=zx5 O i j
def zds:=wq (aP 3 i) fun a=>wA 3 a fun b=>wq (aP 3 j) fun c=>wA 3 c fun d=>wc O 83 [b,d] fun e=>.ok e
def zx4:=wB 6 i fun a=>wB 6 j fun b=>wq (aP 0 a) fun c=>wA 3 c fun d=>wq (aP 0 b) fun e=>wA 3 e fun f=>wq (mF true ((⟨E2.f ⟨dQ (eqFields [((pA 2),⟨dQ (eqFields [(p1,⟨bH⟩,0),(p1,⟨bH⟩,1)])⟩,0),(p1,⟨bH⟩,2)])⟩⟩:E2).f d f)) fun g=>wd g (wq (aP 0 a) fun h=>wA 3 h fun k=>wq (aP 0 b) fun l=>wA 3 l fun m=>wc O 82 [k,m] fun n=>.ok n) (zds O a b)
def zEk:=zx4 O i j
def qn1:=wF 1 j fun a=>wc O 88 [a] fun b=>wq (aP 1 j) fun c=>wU c b <| wA 2 j fun d=>wT 2 i d <| fun H=>fJ (jK (qbv (rV (dD 2 H i)) (qbv (some (iN 0)) (some [])))) H
def qu0(O:Ev.Call)(a:pD)(b:AV):=wI b a
def q3s(O:Ev.Call)(a:pD)(b:AV):=wI b a
def qh5(O:Ev.Call)(a:pD)(b:AV):=wI b a
def quz(O:Ev.Call)(a:pD)(b:AV):=wI b a
def zhg:=wq (aH 2 j k) fun a=>wA 2 a fun c=>wN [.str 0 0,.str 0 0] fun d=>wT 2 d c <| wF 1 d fun e=>wq (fO (mJ .neq).f e (.str 0 0)) fun f=>wd f (wF 0 d fun g=>wF 1 d fun h=>we (uG O i [g,h]) fun l=>quz O b k) (quz O b k)
def q3v:=wq (ib .lss A k) fun a=>wd a (zhg O x i j A) (d)
def quy:=iC (q3v O d i j k)
def zhi:=quy O d i j k dM
def zhf(O:Ev.Call)(a:pD)(b:AV):=wI b a
def q69:=wq (aH 1 k l) fun a=>w1 a fun c=>wF 2 i fun d=>we (uG O j [c,d]) fun e=>zhf O b l
def q3u:=wq (ib .lss A l) fun a=>wd a (q69 O x i j k A) (d)
def qux:=iC (q3u O d i j k l)
def zhh:=qux O d i j k l dM
def q68:=wq (aH 5 n o) fun a=>wA 5 a fun c=>wN [.int .u8 (.ofNat 0),.str 0 0,.str 0 0,.aA,.bool false] fun d=>wT 5 d c <| wF 0 d fun e=>wq (ib .eql e (.int .u8 (.ofNat 1))) fun f=>wd f (wF 1 m fun g=>wq (aD g) fun h=>zhi O (qh5 O b o) (.fn 86 [] [k,j,l,m,d]) g h (iN 0)) (wq (ib .eql e (.int .u8 (.ofNat 2))) fun q=>wd q (wF 0 l fun r=>wF 1 d fun s=>we (uG O (.fn 86 [] [k,j,l,m,d]) [r,s]) fun t=>qh5 O b o) (wq (ib .eql e (.int .u8 (.ofNat 3))) fun u=>wd u (wA 1 i fun v=>wF 0 l fun x=>wF 1 d fun y=>wF 2 d fun z=>wc O 87 [v,x,y,z] fun A=>wq (bT 0 A) fun B=>wq (bT 1 A) fun C=>wq (aD B) fun D=>zhh O (qh5 O b o) d (.fn 86 [] [k,j,l,m,d]) B D (iN 0)) (qh5 O b o)))
def q3w:=wq (ib .lss A o) fun a=>wd a (q68 O x i j k l m n A) (d)
def qkg:=iC (q3w O d i j k l m n o)
def zhj:=qkg O d i j k l m n o dM
def q67:=wq (aH 6 m n) fun a=>wA 6 a fun c=>wN [.str 0 0,.aA,.int .u8 (.ofNat 0),.str 0 0,.str 0 0,.aA] fun d=>wT 6 d c <| wq (aP 2 d) fun e=>wA 4 e fun f=>wc O 85 [f] fun g=>wq (bT 0 g) fun h=>wq (bT 1 g) fun o=>wq (aD h) fun q=>zhj O (q3s O b n) i j k l d h q (iN 0)
def q3x:=wq (ib .lss A n) fun a=>wd a (q67 O x i j k l m A) (d)
def qn0:=iC (q3x O d i j k l m n)
def zhk:=qn0 O d i j k l m n dM
def q66:=wq (aH 2 l m) fun a=>wA 2 a fun c=>wN [.str 0 0,.aA] fun d=>wT 2 d c <| wF 1 d fun e=>wq (aD e) fun f=>zhk O (qu0 O b m) i j k d e f (iN 0)
def q3y:=wq (ib .lss A m) fun a=>wd a (q66 O x i j k l A) (d)
def qkh:=iC (q3y O d i j k l m)
def zhl:=qkh O d i j k l m dM
def qmb:=w1 k fun a=>wh (aAe · a) fun b=>wq (bR (bK [iN 0,.aA] [(0,1,b)])) fun c=>wN [iN 0,.aA] fun d=>wT 2 d c <| wF 0 i fun e=>wq (aD e) fun f=>zhl O (qn1 O j d) i k d e f (iN 0)
def qu1(O:Ev.Call)(a:pD)(b:AV):=wI b a
def q65(O:Ev.Call)(a:pD)(b:AV):=wI b a
def q64:=wq (aH 6 k l) fun a=>wA 6 a fun c=>wN [.str 0 0,.aA,.int .u8 (.ofNat 0),.str 0 0,.str 0 0,.aA] fun d=>wT 6 d c <| w1 i fun e=>wF 0 j fun f=>wF 0 d fun g=>wq (bR (bK [.str 0 0,.str 0 0] [(0,1,f),(1,1,g)])) fun h=>w1 i fun m=>wh (aAe · m) fun n=>we (nI ⟨(⟨dQ fun o q=>zJ p1 ⟨bH⟩ 1 o q 2 0⟩:E2).f,some 2⟩ · e h n) fun _=>q65 O b l
def qu2:=wq (ib .lss A l) fun a=>wd a (q64 O x i j k A) (d)
def qma:=iC (qu2 O d i j k l)
def q7a:=qma O d i j k l dM
def q63:=wq (aH 2 j k) fun a=>wA 2 a fun c=>wN [.str 0 0,.aA] fun d=>wT 2 d c <| wF 1 d fun e=>wq (aD e) fun f=>q7a O (qu1 O b k) i d e f (iN 0)
def qu3:=wq (ib .lss A k) fun a=>wd a (q63 O x i j A) (d)
def qi6:=iC (qu3 O d i j k)
def q7b:=qi6 O d i j k dM
def q62:=wh (fun H=>.new (.map H.nx) (.map [] 0)) fun a=>wN [.dV] fun b=>wU b a <| wF 0 i fun c=>wq (aD c) fun d=>q7b O (qmb O i j b) b c d (iN 0)
def zz3:=wB 1 i fun a=>wN [iN 0,.aA] fun b=>wA 1 a fun c=>wc O 84 [c] fun d=>wq (ib .neq d (iN 0)) fun e=>wd e (wq (bR (bK [iN 0,.aA] [])) fun f=>wT 2 b f <| fun H=>fJ (jK (qbv (rV (dD 2 H b)) (qbv (some d) (some [])))) H) (q62 O a b)
def zAt:=zz3 O i
def q61(O:Ev.Call)(a:AV):pH:=.ok (.aX [a,(iN 0)])
def q3n(O:Ev.Call)(a:pD)(b:AV):=wI b a
def zhb(O:Ev.Call)(a:pD)(b:AV):=wI b a
def zha:=wq (aH 1 k l) fun a=>w1 a fun c=>wc O 92 [j] fun d=>wq (aH 1 i c) fun e=>wU e d <| zhb O b l
def q3p:=wq (ib .lss A l) fun a=>wd a (zha O x i j k A) (d)
def qus:=iC (q3p O d i j k l)
def zhe:=qus O d i j k l dM
def quw:=wq (aD j) fun a=>zhe O (q3n O b l) i k j a (iN 0)
def qny(O:Ev.Call)(a:AV->pD)(b c:AV):=wI c fun d=>a b d
def quv:=wq (aH 3 m n) fun b=>wA 3 b fun c=>wN [iN 0,iN 0,.bool false] fun d=>wT 3 d c <| wF 1 i fun e=>wF 0 d fun f=>wq (aH 1 e f) fun g=>w1 g fun h=>wq (ib .eql h k) fun o=>wg (wv o) (aP 1 i) fun q=>wG (wv o) (aT · q) fun r=>wg (wv o) (aP 1 d) fun s=>wG (wv o) (aT · s) fun t=>wg (wv o) (aH 1 r t) fun u=>wG (wv o) (aT · u) fun v=>wg (wv o) (.val k) fun x=>wg (wv o) (ib .neq v x) fun y=>wq (eD o y (.bool false)) fun z=>wd z (fun H=>dz 12 H fun A H =>   dn 0 0 A H [] [] (.val l) fun B H p w =>   dn 1 0 A H p w (.val j) fun C H p w =>   dn 2 0 A H p w (aP 1 d) fun D H p w =>   dl 3 4 A H p w (fun H=>aT H D) fun E H p w =>   dn 4 14 A H p w (aH 1 C E) fun F H p w =>   dl 5 30 A H p w (fun H=>aT H F) fun G H p w =>   dl 6 0 A H p w (fun H=>dD 3 H d) fun I H p w =>   de 64 H p w (O (.f 91) [I] (eP 64 p H)) (some true) fun J H p w =>   dn 8 254 A H p w (ib .add G J) fun K H p w =>   da 9 510 A H p w (sZ 1 (A+9) (bK (aV [iN 0] 1) [(0,1,K)])) fun L H p w =>   de 1023 H p w (j5 1 8 (eP 1023 p H) B (oQ 1 (eP 1023 p H) L)) (some true) fun M H p w =>   dn 11 2047 A H p w (.val M) fun N H p w =>   zQ p H fun H =>   qny O a N n H) (qny O a l n)
def zg9:=cst quv
theorem qro:zg9=quv:=eY _
def q3o:=wq (ib .lss B m) fun a=>wd a (zg9 O y i j k A l B) (b A)
def qkd:=oU (q3o O b i j k l m)
def zhd:=qkd O b i j k l m dM
def zg8:=wq (aH 1 l m) fun a=>w1 a fun c=>wF 1 i fun d=>wq (aD d) fun e=>fun H=>zhd O (fun f H=>quw O b k c f m H) j k m d e (.aA) (iN 0) H
def qnz:=wq (ib .lss A m) fun a=>wd a (zg8 O x i j k l A) (d)
def qke:=iC (qnz O d i j k l m)
def q3q:=qke O d i j k l m dM
def ql9:=wF 0 j fun a=>wq (aD a) fun b=>q3q O (q61 O k) i j k a b (iN 0)
def q3m:=cst ql9
theorem qkf:q3m=ql9:=eY _
def quu:=wF 0 i fun a=>wq (ib .gtr a (iN 0)) fun b=>wd b (wF 0 i fun c=>wh (fun H=>qjs [iN 0] 8 H.nx c c) fun d=>q3m O i j d) (q3m O i j (.aA))
def zg7:=cst quu
theorem qrn:zg7=quu:=eY _
def qut:=wA 2 i fun a=>wc O 90 [a] fun b=>wq (bT 0 b) fun c=>wq (bT 1 b) fun d=>wq (aD c) fun e=>wq (ib .gtr e (iN 0)) fun f=>wd f (.ok (.aX [(.aA),(iN 12)])) (zg7 O i j)
def zg6:=cst qut
theorem qrm:zg6=qut:=eY _
def zz2:=wB 2 i fun a=>wA 2 a fun b=>wc O 89 [b] fun c=>wq (bT 0 c) fun d=>wq (bT 1 c) fun e=>wN [.aA,.aA] fun f=>wT 2 f d <| wq (ib .neq e (iN 0)) fun g=>wd g (.ok (.aX [(.aA),e])) (zg6 O a f)
def zAu:=zz2 O i
def zdr:=wq (aP 3 i) fun a=>wA 3 a fun b=>wc O 98 [b] fun c=>.ok c
def zx3:=wB 6 i fun a=>wq (aP 0 a) fun b=>wA 3 b fun c=>wc O 97 [c] fun d=>wq (ib .neq d (iN 0)) fun e=>wd e (.ok d) (zdr O a)
def zEn:=zx3 O i
def zyr:=wB 2 j fun a=>wA 2 a fun b=>wc O 99 [i,b] fun c=>wq (ib .geq c (iN 0)) fun d=>.ok d
def zDf:=zyr O i j
def zcu(O:Ev.Call)(a:pD)(b:AV):=wI b a
def q04:=wq (aH 6 j k) fun a=>wA 6 a fun b=>wN [.str 0 0,.str 0 0,.str 0 0,.str 0 0,.str 0 0,.str 0 0] fun c=>wT 6 c b <| wq (aP 0 c) fun e=>wq (aP 0 e) fun g=>wA 2 g fun h=>we (uG O i [h]) fun l=>wq ((l8 .not).f l) fun m=>wg (bI false m) (.val i) fun n=>wg (bI false m) (aP 3 c) fun o=>wg (bI false m) (aP 0 o) fun q=>wG (bI false m) (dD 2 · q) fun r=>wx (bI false m) (uG O n [r]) fun s=>wg (bI false m) ((l8 .not).f s) fun t=>wq (eD m (.bool true) t) fun u=>wd u (d) (zcu O f k)
def zcv:=wq (ib .lss A k) fun a=>wd a (q04 O d x i j A) (e)
def qqx:=iC (zcv O d e i j k)
def zcw:=qqx O d e i j k dM
def zxl:=w1 j fun a=>wq (aD a) fun b=>zcw O (.ok (.aX [])) (.ok (.aX [])) i a b (iN 0)
def zFl:=zxl O i j
def z4b:=wc O 61 [i,(.fn 58 [] [])] fun a=>wc O 60 [a] fun b=>wc O 59 [b] fun c=>.ok c
def zFm:=z4b O i
def zcr(O:Ev.Call)(a:AV):pH:=.ok a
def qld:=wq ((l8 .not).f k) fun a=>wd a (wA 2 i fun b=>wS 1 (bK (aV [.str 0 0,.str 0 0] 1) [(0,2,b)]) fun c=>wP 2 32 j c fun d=>zcr O d) (zcr O j)
def zcq(O:Ev.Call)(a:AV->AV->pD)(b c d:AV):=wI d fun e=>a b c e
def qm7:=wq (aH 2 i l) fun a=>wA 2 a fun b=>wS 1 (bK (aV [.str 0 0,.str 0 0] 1) [(0,2,b)]) fun c=>wP 2 32 j c fun d=>zcq O h d k l
def q03:=wz 0 fun a=>wn 0 0 a (.val l) fun b=>wn 1 1 a ((l8 .not).f b) fun c=>wn 2 3 a (.val c) fun d=>ws 3 7 a (dD 2 · j) (wv d) fun e=>wr 4 7 a (.val i) (wv d) fun f=>wr 5 7 a (.val m) (wv d) fun g=>wr 6 55 a (aH 2 f g) (wv d) fun n=>ws 7 119 a (dD 2 · n) (wv d) fun o=>wt 255 (O (.f 63) [e,o]) (wv d) fun q=>wn 9 511 a (eD d q (.bool false)) fun r=>wy <| wd r (wA 2 j fun s=>wS 1 (bK (aV [.str 0 0,.str 0 0] 1) [(0,2,s)]) fun t=>wP 2 32 k t fun u=>qm7 O h i u (.bool true) m) (qm7 O h i k l m)
def zcs:=wq (aD i) fun b=>wq (ib .lss C b) fun c=>wd c (q03 O z i j A B C) (a A B)
def qlc:=lq3 (zcs O a i j)
def zct:=qlc O a i j dM
def q02:=zct O (qld O j) i j (.aA) (.bool false) (iN 0)
def zxk:=wB 2 j fun a=>wA 2 a fun b=>wc O 62 [i,b] fun c=>wd c (.ok i) (q02 O i a)
def zFn:=zxk O i j
def zv2(O:Ev.Call)(a:AV):=wq (bR (bK [.int .u8 (.ofNat 0),.str 0 0,.str 0 0,.aA] [(0,1,(.int .u8 (.ofNat 1)))])) fun b=>wT 4 a b <| fun H=>fJ (rV (dD 4 H a)) H
def zzz:=wN [.int .u8 (.ofNat 0),.str 0 0,.str 0 0,.aA] fun a=>wd i (wq (bR (bK [.int .u8 (.ofNat 0),.str 0 0,.str 0 0,.aA] [(0,1,(.int .u8 (.ofNat 2))),(1,1,(.str 2 12402))])) fun b=>wT 4 a b <| fun H=>fJ (rV (dD 4 H a)) H) (zv2 O a)
def zBe:=zzz O i
def zg2(O:Ev.Call)(a b c:AV):=wq (qw7 .i64 a) fun d=>wq (aD c) fun e=>wq (ib .rem d e) fun f=>wq (aH 1 c f) fun g=>w1 g fun h=>wq (bR (bK [.int .u8 (.ofNat 0),.str 0 0,.str 0 0,.aA] [(0,1,(.int .u8 (.ofNat 2))),(1,1,h)])) fun i=>wT 4 b i <| fun H=>fJ (rV (dD 4 H b)) H
def qun(O:Ev.Call)(a:AV->pD)(b c:AV):=wI c fun d=>a b d
def zzx:=wc O 104 [i,l,j] fun b=>wd b (wc O 50 [l] fun c=>wS 1 (bK (aV [.str 0 0] 1) [(0,1,c)]) fun d=>wP 1 16 k d fun e=>qun O a e l) (qun O a k l)
def q3j:=wA 1 k fun a=>wc O 47 [a] fun c=>wq (ib .lss B c) fun d=>wg (wv d) (.val B) fun e=>wg (wv d) (.val i) fun f=>wg (wv d) (ib .quo f (iN 4)) fun g=>wg (wv d) (ib .mul g (iN 4)) fun h=>wg (wv d) (ib .add h (iN 4)) fun l=>wg (wv d) (ib .lss e l) fun m=>wq (eD d m (.bool false)) fun n=>wd n (zzx O y i j A B) (b A)
def qum:=oU (q3j O b i j k)
def zg3:=qum O b i j k dM
def zzy:=wB 1 i fun a=>wN [.int .u8 (.ofNat 0),.str 0 0,.str 0 0,.aA] fun b=>wq (ib .quo j (iN 4)) fun c=>wq (ib .mul c (iN 4)) fun d=>zg3 O (zg2 O k b) j l a (.aA) d
def zBf:=zzy O i j k l
def zv0(O:Ev.Call)(a b c:AV):=wq (qw7 .i64 a) fun d=>wq (aD c) fun e=>wq (ib .rem d e) fun f=>wq (aH 4 c f) fun g=>wA 4 g fun h=>wT 4 b h <| fun H=>fJ (rV (dD 4 H b)) H
def qul:=wq (aD l) fun a=>wq (ib .eql a (iN 0)) fun b=>wd b (wc O 76 [j] fun c=>wT 4 k c <| fun H=>fJ (rV (dD 4 H k)) H) (zv0 O i k l)
def q3f(O:Ev.Call)(a:AV->pD)(b c:AV):=wI c fun d=>a b d
def q3e(O:Ev.Call)(a:AV->pD)(b c:AV):=wI c fun d=>a b d
def qkb(O:Ev.Call)(a:AV->pD)(b c:AV):=wI c fun d=>a b d
def zgy:=wz 0 fun b=>wn 0 0 b (.val m) fun c=>wn 1 0 b (.val n) fun d=>wn 2 3 b (aH 2 c d) fun e=>wn 3 7 b (aP 1 e) fun f=>wo 4 15 b (aT · f) fun g=>wn 5 31 b (fO (mJ .eql).f g (.str 0 0)) fun h=>wn 6 63 b (.val h) fun q=>wr 7 127 b (.val m) (wv q) fun r=>wr 8 127 b (.val n) (wv q) fun s=>wr 9 511 b (aH 2 r s) (wv q) fun t=>wr 10 1023 b (aP 0 t) (wv q) fun u=>ws 11 2047 b (aT · u) (wv q) fun v=>wr 12 127 b (.val o) (wv q) fun x=>wr 13 4223 b (ib .quo x (iN 4)) (wv q) fun y=>wt 12415 (O (.f 48) [y]) (wv q) fun z=>wr 15 32767 b (fO (mJ .eql).f v z) (wv q) fun A=>wn 16 65535 b (eD q A (.bool false)) fun B=>wn 17 131071 b (.val B) fun C=>wr 18 262143 b (.val i) (wv C) fun D=>wr 19 262143 b (.val o) (wv C) fun E=>wr 20 262143 b (.val j) (wv C) fun F=>wt 2097151 (O (.f 104) [D,E,F]) (wv C) fun G=>wn 22 4194303 b (eD C G (.bool false)) fun I=>wy <| wd I (wc O 50 [l] fun J=>wc O 50 [o] fun K=>wq (bR (bK [.int .u8 (.ofNat 0),.str 0 0,.str 0 0,.aA] [(0,1,(.int .u8 (.ofNat 3))),(1,1,J),(2,1,K)])) fun L=>wS 1 (bK (aV [.int .u8 (.ofNat 0),.str 0 0,.str 0 0,.aA] 1) [(0,4,L)]) fun M=>wP 4 64 k M fun N=>qkb O a N o) (qkb O a k o)
def q3g:=wA 1 k fun a=>wc O 47 [a] fun c=>wq (ib .lss B c) fun d=>wd d (zgy O y i j A l m n B) (b A)
def quk:=oU (q3g O b i j k l m n)
def zgz:=quk O b i j k l m n dM
def zgx(a:AV->pD)(b c d e f g h:AV)(H:Hp):R1:=zgz O (fun e H=>q3e O a e h H) b c d f g h e (iN 0) H
def q3h:=wq (aD m) fun a=>wq (ib .lss B a) fun c=>wd c (zgx O y i j k A l m B) (b A)
def qnw:=oU (q3h O b i j k l m)
def zg0:=qnw O b i j k l m dM
def zgw:=wA 1 k fun b=>wc O 51 [b,m] fun c=>fun H=>zg0 O (fun l H=>q3f O a l m H) i j k m c l (iN 0) H
def q3i:=wA 1 k fun a=>wc O 47 [a] fun c=>wq (ib .lss B c) fun d=>wg (wv d) (.val B) fun e=>wg (wv d) (.val i) fun f=>wg (wv d) (ib .quo f (iN 4)) fun g=>wg (wv d) (ib .mul g (iN 4)) fun h=>wg (wv d) (ib .add h (iN 4)) fun l=>wg (wv d) (ib .lss e l) fun m=>wq (eD d m (.bool false)) fun n=>wd n (zgw O y i j k A B) (b A)
def qnx:=oU (q3i O b i j k)
def zg1:=qnx O b i j k dM
def zzw:=wB 1 i fun a=>wN [.int .u8 (.ofNat 0),.str 0 0,.str 0 0,.aA] fun b=>wq (ib .quo j (iN 4)) fun c=>wq (ib .mul c (iN 4)) fun d=>zg1 O (qul O k l b) j l a (.aA) d
def zBg:=zzw O i j k l
def zzv(O:Ev.Call)(a:AV):=wS 4 (bK (aV [iN 0] 4) [(0,1,(iN 0)),(1,1,(iN 1)),(2,1,(iN 1)),(3,1,(iN 2))]) fun b=>wq (ib .rem a (iN 4)) fun c=>wq (aH 1 b c) fun d=>w1 d fun e=>.ok e
def zBh:=zzv O i
def z4p(O:Ev.Call):pH:=.ok (.int .u8 (.ofNat 0))
def zzu:=wB 1 i fun a=>wF 0 a fun b=>wq (aH 1 b j) fun c=>w1 c fun d=>wq (aD d) fun e=>wq (ib .lss k e) fun f=>wd f (wF 0 a fun g=>wq (aH 1 g j) fun h=>w1 h fun l=>wq (aH 1 l k) fun m=>w1 m fun n=>.ok n) (z4p O)
def zBi:=zzu O i j k
def qur(O:Ev.Call)(a b c:AV):=wq (aH 5 a b) fun d=>wq (aP 3 d) fun e=>wU e c <| .ok a
def quq(O:Ev.Call)(a:AV->AV->pD)(b c d:AV):=wI d fun e=>a b c e
def q3k:=wq (aD i) fun a=>wS 1 (bK (aV [iN 0] 1) [(0,1,a)]) fun b=>wP 1 8 l b fun c=>wz 0 fun d=>wn 0 0 d (.val i) fun e=>wn 1 0 d (aP 3 k) fun f=>wo 2 2 d (aT · f) fun g=>wn 3 0 d (.val m) fun n=>wn 4 14 d (aH 4 g n) fun o=>wo 5 30 d (dD 4 · o) fun q=>wn 6 0 d (.val j) fun r=>wn 7 64 d (.val r) fun s=>wr 8 192 d (aP 0 k) (bI false s) fun t=>ws 9 448 d (aT · t) (bI false s) fun u=>wr 10 960 d (ib .eql u (.int .u8 (.ofNat 6))) (bI false s) fun v=>wr 11 1984 d (.val v) (bI false s) fun x=>wr 12 4032 d (.val m) (wv x) fun y=>wr 13 8128 d (ib .eql y (iN 1)) (wv x) fun z=>wr 14 16320 d (eD x z (.bool false)) (bI false s) fun A=>wn 15 32704 d (eD s (.bool true) A) fun B=>wu 65535 (O (.f 81) [e,q,B]) fun C=>wn 17 131071 d (.val C) fun D=>wy <| quq O h D c m
def qkc:=wF 3 j fun b=>wq (aD b) fun c=>wq (ib .lss C c) fun d=>wd d (q3k O z A i j B C) (a A B)
def qup:=lq3 (qkc O a i j)
def q3l:=qup O a i j dM
def zqy:=wB 4 j fun a=>wq (aD i) fun b=>wF 0 a fun c=>wF 1 a fun d=>wF 2 a fun e=>wq (bR (bK [.int .u8 (.ofNat 0),.str 0 0,.str 0 0,.aA,.bool false] [(0,1,c),(1,1,d),(2,1,e),(4,1,k)])) fun f=>wS 1 (bK (aV [.int .u8 (.ofNat 0),.str 0 0,.str 0 0,.aA,.bool false] 1) [(0,5,f)]) fun g=>wP 5 72 i g fun h=>fun H=>q3l O (fun i l H=>qur O i b l H) k a h (.aA) (iN 0) H
def zAz:=zqy O i j k
def zgb(O:Ev.Call):pH:=.ok (.int .i64 (.negSucc 0))
def zvx(O:Ev.Call)(a:pD)(b:AV):=wI b a
def zga:=wF 0 j fun a=>wq (aH 2 a k) fun d=>wF 0 d fun e=>wq (fO (mJ .eql).f e i) fun f=>wd f (b k) (zvx O c k)
def zgc:=wF 0 j fun a=>wq (aD a) fun c=>wq (ib .lss A c) fun e=>wd e (zga O b x i j A) (d)
def q6w:=iC (zgc O b d i j)
def zvy:=q6w O b d i j dM
def zzl:=wB 1 i fun a=>zvy O .ok (zgb O) j a (iN 0)
def zBs:=zzl O i j
def zdq:=wF 2 i fun a=>wF 2 j fun b=>wc O 106 [a,b] fun c=>.ok c
def zx2:=wB 3 i fun a=>wB 3 j fun b=>wq (aP 0 a) fun c=>wA 2 c fun d=>wq (aP 0 b) fun e=>wA 2 e fun f=>wq (mF true ((⟨E2.f ⟨dQ (eqFields [(p1,⟨bH⟩,0),(p1,⟨bH⟩,1)])⟩⟩:E2).f d f)) fun g=>wd g (wq (aP 0 a) fun h=>wA 2 h fun k=>wq (aP 0 b) fun l=>wA 2 l fun m=>wc O 105 [k,m] fun n=>.ok n) (zdq O a b)
def zEo:=zx2 O i j
def zdp:=wF 2 i fun a=>wF 2 j fun b=>wc O 106 [a,b] fun c=>.ok c
def zx1:=wB 3 i fun a=>wB 3 j fun b=>wq (aP 0 a) fun c=>wA 2 c fun d=>wq (aP 0 b) fun e=>wA 2 e fun f=>wq (mF true ((⟨E2.f ⟨dQ (eqFields [(p1,⟨bH⟩,0),(p1,⟨bH⟩,1)])⟩⟩:E2).f d f)) fun g=>wd g (wq (aP 0 a) fun h=>wA 2 h fun k=>wq (aP 0 b) fun l=>wA 2 l fun m=>wc O 105 [k,m] fun n=>.ok n) (zdp O a b)
def zEp:=zx1 O i j
def q6x(O:Ev.Call):pH:=.ok (iN 0)
def q3c(O:Ev.Call)(a:AV->pD)(b c:AV):=wI c fun d=>a b d
def zgt(O:Ev.Call)(a:AV->pD)(b c:AV):=wI c fun d=>a b d
def zgs:=wI i fun b=>zgt O a b j
def zgr:=wA 2 k fun a=>wc O 109 [i,a,j] fun c=>wq (ib .neq c (iN 0)) fun d=>wd d (b c) (zgs O g j l)
def q3d:=wq (ib .lss B k) fun a=>wd a (zgr O b y i A j B) (c A)
def quj:=oU (q3d O b c i j k)
def zgv:=quj O b c i j k dM
def zgq:=wq (aH 2 k l) fun a=>wA 2 a fun c=>wN [.str 0 0,.aA] fun d=>wT 2 d c <| wF 1 d fun e=>wq (aD e) fun f=>fun H=>zgv O b (fun j H=>q3c O g j l H) i d f j (iN 0) H
def zgu:=wq (ib .lss B k) fun a=>wd a (zgq O b y i A j B) (d)
def qxq:=oU (zgu O b d i j k)
def zvz:=qxq O b d i j k dM
def zgp:=wF 0 i fun a=>wq (aD a) fun b=>zvz O .ok (q6x O) j a b (iN 0) (iN 0)
def zgo:=wA 1 i fun a=>wc O 108 [a] fun b=>wl (aY b) fun c=>wl (aP 1 c) fun d=>wL (aT · d) fun e=>wL (aAe · e) fun f=>wl (aP 0 i) fun g=>wL (aT · g) fun h=>wl (aD h) fun j=>wl (ib .lss f j) fun k=>wd k (.ok (iN 7)) (zgp O i b)
def zzt:=wB 1 i fun a=>wA 1 a fun b=>wc O 107 [b] fun c=>wq (ib .neq c (iN 0)) fun d=>wd d (.ok c) (zgo O a)
def zBj:=zzt O i
def zzs:=wB 4 i fun a=>wc O 110 [a] fun b=>wq (bT 0 b) fun c=>wq (bT 1 b) fun d=>wq (bT 2 b) fun e=>.ok (.aX [c,e])
def zBk:=zzs O i
def zzr(O:Ev.Call)(a b c d e f g:AV)(H:Hp):R1:=dz 21 H fun h H=>dn 0 0 h H [] [] (aP 1 c) fun i H p w=>dl 1 1 h H p w (fun H=>aT H i) fun j H p w=>dl 2 0 h H p w (fun H=>aT H d) fun k H p w=>dn 3 0 h H p w (aP 0 e) fun l H p w=>dl 4 8 h H p w (fun H=>aT H l) fun m H p w=>dn 5 0 h H p w (aP 0 f) fun n H p w=>dl 6 32 h H p w (fun H=>aT H n) fun o H p w=>dn 7 120 h H p w (bR (bK [.str 0 0,.str 0 0] [(0,1,m),(1,1,o)])) fun q H p w=>dl 8 252 h H p w (fun H=>qL ⟨(⟨dQ fun r s=>zJ p1 ⟨bH⟩ 1 r s 2 0⟩:E2).f,some 2⟩ (iN 0) false H k q) fun t H p w=>dl 9 0 h H p w (fun H=>aT H d) fun u H p w=>dn 10 0 h H p w (.val a) fun v H p w=>dn 11 0 h H p w (.val b) fun x H p w=>dn 12 3072 h H p w (bR (bK [.str 0 0,.str 0 0] [(0,1,v),(1,1,x)])) fun y H p w=>dl 13 7680 h H p w (fun H=>qL ⟨(⟨dQ fun r s=>zJ p1 ⟨bH⟩ 1 r s 2 0⟩:E2).f,some 2⟩ (iN 0) false H u y) fun z H p w=>dn 14 0 h H p w (aP 4 g) fun A H p w=>dl 15 16384 h H p w (fun H=>aT H A) fun B H p w=>dn 16 65532 h H p w (bR (bK [iN 0,iN 0,.bool false] [(0,1,t),(1,1,z),(2,1,B)])) fun C H p w=>da 17 131068 h H p w (sZ 1 (h+17) (bK (aV [iN 0,iN 0,.bool false] 1) [(0,3,C)])) fun D H p w=>de 262143 H p w (j5 3 24 (eP 262143 p H) j (oQ 3 (eP 262143 p H) D)) (some true) fun E H p w=>dn 19 524287 h H p w (aP 1 c) fun F H p w=>de 1048575 H p w (kL (eP 1048575 p H) F E) (some true) fun _ H p w=>zQ p H fun H=>.ok (.aX []) H
def zBl:=zzr O i j k l m n o
def z4o(O:Ev.Call)(a:AV):pH:=.ok (.aX [a,(iN 0)])
def z4n:=wc O 112 [l,i,j,k] fun a=>wq (aD a) fun b=>wq (ib .eql b (iN 0)) fun c=>wd c (.ok (.aX [(.aA),(iN 11)])) (z4o O a)
def zgn:=wA 1 l fun a=>wc O 108 [a] fun b=>wc O 111 [b,i,j] fun c=>wq (mF false ((⟨E2.f ⟨qpp⟩⟩:E2).f c (.cK))) fun d=>wd d (.ok (.aX [(.aA),(iN 6)])) (z4n O i j k b)
def zzq:=wB 1 i fun a=>wA 1 a fun b=>wc O 84 [b] fun c=>wq (ib .neq c (iN 0)) fun d=>wd d (.ok (.aX [(.aA),c])) (zgn O j k l a)
def zBm:=zzq O i j k l
def z4m:=wc O 114 [i,(.fn 113 [] [])] fun a=>wc O 116 [i] fun b=>wc O 115 [b] fun c=>.ok c
def zBn:=z4m O i
def zgk:=wc O 122 [i] fun a=>wc O 123 [i] fun b=>wc O 120 [b] fun c=>.ok (.aX [c,(iN 0)])
def qnu(O:Ev.Call)(a:AV->pD)(b c:AV):=wI c fun d=>a b d
def zgj:=wq (aH 3 k l) fun b=>wA 3 b fun c=>wN [iN 0,iN 0,.bool false] fun d=>wT 3 d c <| wl (aP 2 d) fun e=>wL (aT · e) fun f=>wm (wv f) (aP 1 i) fun g=>wM (wv f) (aT · g) fun h=>wm (wv f) (aP 0 d) fun m=>wM (wv f) (aT · m) fun n=>wm (wv f) (aH 1 h n) fun o=>wM (wv f) (aT · o) fun q=>wm (wv f) (aP 1 i) fun r=>wM (wv f) (aT · r) fun s=>wm (wv f) (aP 1 d) fun t=>wM (wv f) (aT · t) fun u=>wm (wv f) (aH 1 s u) fun v=>wM (wv f) (aT · v) fun x=>wm (wv f) (ib .eql q x) fun y=>wl (eD f y (.bool false)) fun z=>wd z (wF 1 i fun A=>wF 0 d fun B=>wq (aH 1 A B) fun C=>w1 C fun D=>wS 1 (bK (aV [iN 0] 1) [(0,1,D)]) fun E=>wP 1 8 j E fun F=>qnu O a F l) (qnu O a j l)
def q25:=wq (ib .lss B k) fun a=>wd a (zgj O y i A j B) (b A)
def quh:=oU (q25 O b i j k)
def zgl:=quh O b i j k dM
def qui:=wF 1 i fun a=>wq (aD a) fun b=>zgl O (zgk O) j a b (.aA) (iN 0)
def zgi:=cst qui
theorem qrl:zgi=qui:=eY _
def zzo:=wB 2 i fun a=>wA 2 a fun b=>wc O 89 [b] fun c=>wq (bT 0 c) fun d=>wq (bT 1 c) fun e=>wN [.aA,.aA] fun f=>wT 2 f d <| wq (ib .neq e (iN 0)) fun g=>wd g (.ok (.aX [(.aA),e])) (zgi O a f)
def zBp:=zzo O i
def z4l(O:Ev.Call):pH:=.ok (iN 0)
def zzn:=wB 3 i fun a=>wF 2 a fun b=>wd b (.ok (iN 1)) (z4l O)
def zBq:=zzn O i
def zv5(O:Ev.Call)(a:AV):pH:=.ok a
def zv4(O:Ev.Call)(a:AV->pD)(b c:AV):=wI c fun d=>a b d
def zv3:=wq (aH 1 j k) fun b=>w1 b fun c=>wq (qE qC i [c]) fun d=>zv4 O a d k
def zg4:=wq (ib .lss B j) fun a=>wd a (zv3 O y A i B) (b A)
def q6y:=oU (zg4 O b i j)
def zv6:=q6y O b i j dM
def zz0:=wq (aD i) fun a=>zv6 O (zv5 O) i a (iN 0) (iN 0)
def zBc:=zz0 O i
def zx0:=wB 3 i fun a=>wq (aP 0 a) fun b=>wF 0 b fun c=>wq (aP 0 a) fun d=>wF 1 d fun e=>wF 2 a fun f=>wS 3 (bK (aV [.str 0 0] 3) [(0,1,c),(1,1,e),(2,1,f)]) fun g=>wc O 128 [g] fun h=>.ok h
def zEs:=zx0 O i
def zdo:=wA 3 i fun a=>wc O 97 [a] fun b=>.ok b
def zxz:=wB 3 i fun a=>wF 2 a fun b=>wq (fO (mJ .eql).f b (.str 0 0)) fun c=>wd c (wq (aP 0 a) fun d=>wA 2 d fun e=>wc O 129 [e] fun f=>.ok f) (zdo O a)
def zEt:=zxz O i
def zek(O:Ev.Call):pH:=.ok (.int .i64 (.negSucc 0))
def zu5(O:Ev.Call)(a:pD)(b:AV):=wI b a
def zej:=wL (dD 2 · j) fun a=>wl (aH 2 i k) fun d=>wL (dD 2 · d) fun e=>wl (mF false ((⟨E2.f ⟨dQ (eqFields [(p1,⟨bH⟩,0),(p1,⟨bH⟩,1)])⟩⟩:E2).f a e)) fun f=>wd f (b k) (zu5 O c k)
def zel:=wq (ib .lss A k) fun a=>wd a (zej O b x i j A) (d)
def q6h:=iC (zel O b d i j k)
def zu6:=q6h O b d i j k dM
def zym:=wB 2 j fun a=>wq (aD i) fun b=>zu6 O .ok (zek O) i a b (iN 0)
def zDm:=zym O i j
def z4a:=wc O 95 [i] fun a=>wc O 96 [a,j] fun b=>.ok a
def zFq:=z4a O i j
def qpv(O:Ev.Call)(a:Nat)(b:AV->AV->Option Bool)(c:List AV)(d:AV):pH:=.ok d
def zmo(O:Ev.Call)(a:Nat)(b:AV->AV->Option Bool)(c:List AV)(d:pD)(e:AV):=wI e d
def qfx(O:Ev.Call)(a:Nat)(b:AV->AV->Option Bool)(c:List AV)(d:pD)(e f:AV):=wq (kM a e (some f) none none) fun g=>we (qik c · g) fun _=>wq (kM a e none (some f) none) fun h=>d h
def qpu(O:Ev.Call)(a:Nat)(b:AV->AV->Option Bool)(c:List AV)(d:AV->pD)(e f:AV):=wI f fun g=>d e g
def q5t(a:Nat)(b:AV->AV->Option Bool)(c:List AV)(d:AV->pD)(e f g h:AV):=wl (aH a g h) fun i=>wL (dD a · i) fun j=>wl (ib .sub h (iN 1)) fun k=>wl (aH a g k) fun l=>wL (dD a · l) fun m=>wl (mF true (b j m)) fun n=>wd n (wq (aH a g h) fun o=>wA a o fun q=>wq (aH a e f) fun r=>wT a r q <| wI f fun s=>qpu O a b c d s h) (qpu O a b c d f h)
def q5u(a:Nat)(b:AV->AV->Option Bool)(c:List AV)(d:pD)(e f:AV)(g:AV->pD)(h i:AV):=wq (aD f) fun j=>wq (ib .lss i j) fun k=>wd k (q5t O a b c g e h f i) (d h)
def qgu(a:Nat)(b:AV->AV->Option Bool)(c:List AV)(d:pD)(e f:AV):=oU (q5u O a b c d e f)
def q5v(a:Nat)(b:AV->AV->Option Bool)(c:List AV)(d:pD)(e f:AV):=qgu O a b c d e f dM
def q5s(a:Nat)(b:AV->AV->Option Bool)(c:List AV)(d e:pD)(f g:AV):=wl (aH a f g) fun h=>wL (dD a · h) fun i=>wl (ib .sub g (iN 1)) fun j=>wl (aH a f j) fun k=>wL (dD a · k) fun l=>wl (mF false (b i l)) fun m=>wd m (wq (kM a f (some g) none none) fun n=>q5v O a b c (qfx O a b c d f) f n g (iN 1)) (zmo O a b c e g)
def zmp(a:Nat)(b:AV->AV->Option Bool)(c:List AV)(d:pD)(e:pH)(f:AV)(g:pD)(h:AV):=wq (aD f) fun i=>wq (ib .lss h i) fun j=>wd j (q5s O a b c d g f h) (e)
def qpt(a:Nat)(b:AV->AV->Option Bool)(c:List AV)(d:pD)(e:pH)(f:AV):=iC (zmp O a b c d e f)
def zmq(a:Nat)(b:AV->AV->Option Bool)(c:List AV)(d:pD)(e:pH)(f:AV):=qpt O a b c d e f dM
def q5q(a:Nat)(b:AV->AV->Option Bool)(c:List AV)(d:AV):=zmq O a b c .ok (qpv O a b c d) d (iN 1)
def zbw(a:Nat)(b:AV->AV->Option Bool)(c:List AV)(d:AV):=wq (aD d) fun e=>wq (ib .lss e (iN 2)) fun f=>wd f (.ok d) (q5q O a b c d)
abbrev oZ:AV->AV->Option Bool:=dQ (eqFields [(p1,⟨bH⟩,0),(p1,⟨bH⟩,1)])
abbrev iF:List AV:=[.str 0 0,.str 0 0]
def zFr:=zbw O 2 oZ iF i
def zxj(O:Ev.Call)(a:AV):=wq (aD a) fun b=>wq (aD a) fun c=>wq (kM 2 a none (some b) (some c)) fun d=>.ok d
def zFs:=zxj O i
def qqw(O:Ev.Call):pH:=.ok (.bool false)
def zcn(O:Ev.Call)(a:pD)(b:AV):=wI b a
def zcm:=wl (aH 2 i k) fun a=>wL (dD 2 · a) fun d=>wL (dD 2 · j) fun e=>wl (mF false ((⟨E2.f ⟨dQ (eqFields [(p1,⟨bH⟩,0),(p1,⟨bH⟩,1)])⟩⟩:E2).f d e)) fun f=>wd f (b (.bool true)) (zcn O c k)
def zco:=wq (aD i) fun a=>wq (ib .lss A a) fun c=>wd c (zcm O b x i j A) (d)
def qqv:=iC (zco O b d i j)
def zcp:=qqv O b d i j dM
def zxi:=wB 2 j fun a=>zcp O .ok (qqw O) i a (iN 0)
def zFt:=zxi O i j
def zxh(O:Ev.Call)(a b:AV):=wB 2 a fun c=>wB 2 b fun d=>wF 0 c fun e=>wF 0 d fun f=>wq (fO (mJ .lss).f e f) fun g=>wg (bI false g) (aP 0 c) fun h=>wG (bI false g) (aT · h) fun i=>wg (bI false g) (aP 0 d) fun j=>wG (bI false g) (aT · j) fun k=>wg (bI false g) (fO (mJ .eql).f i k) fun l=>wg (bI false g) (.val l) fun m=>wg (wv m) (aP 1 c) fun n=>wG (wv m) (aT · n) fun o=>wg (wv m) (aP 1 d) fun q=>wG (wv m) (aT · q) fun r=>wg (wv m) (fO (mJ .lss).f o r) fun s=>wg (bI false g) (eD m s (.bool false)) fun t=>wq (eD g (.bool true) t) fun u=>.ok u
def zFu:=zxh O i j
def z4k:=wc O 79 [j] fun a=>wc O 79 [i] fun b=>wq (ib .lss a b) fun c=>wg (bI false c) (.val k) fun d=>wg (bI false c) ((l8 .not).f d) fun e=>wg (bI false c) (.val e) fun f=>wg (wv f) (.val j) fun g=>wx (wv f) (O (.f 79) [g]) fun h=>wg (wv f) (.val i) fun l=>wx (wv f) (O (.f 79) [l]) fun m=>wg (wv f) (ib .eql h m) fun n=>wg (bI false c) (eD f n (.bool false)) fun o=>wq (eD c (.bool true) o) fun q=>.ok q
def zBt:=z4k O i j k
def zdn:=wF 1 i fun a=>wF 1 j fun b=>wc O 106 [a,b] fun c=>.ok c
def zxy:=wB 2 i fun a=>wB 2 j fun b=>wF 0 a fun c=>wF 0 b fun d=>wq (fO (mJ .neq).f c d) fun e=>wd e (wF 0 a fun f=>wF 0 b fun g=>wc O 106 [f,g] fun h=>.ok h) (zdn O a b)
def zEu:=zxy O i j
def zuw(O:Ev.Call):pH:=.ok (iN 0)
def zdk:=wq (oL i) fun a=>wq (oL j) fun b=>wq (ib .gtr a b) fun c=>wd c (.ok (iN 1)) (zuw O)
def qle:=wq (oL i) fun a=>wq (oL j) fun b=>wq (ib .lss a b) fun c=>wd c (.ok (.int .i64 (.negSucc 0))) (zdk O i j)
def q1k(O:Ev.Call)(a:pD)(b:AV):=wI b a
def q1j:=wl (qek i k) fun a=>wl (qek j k) fun d=>wl (ib .gtr a d) fun e=>wd e (b (iN 1)) (q1k O c k)
def q1i:=wl (qek i k) fun a=>wl (qek j k) fun d=>wl (ib .lss a d) fun e=>wd e (b (.int .i64 (.negSucc 0))) (q1j O b c i j k)
def zdl:=wq (oL i) fun a=>wq (ib .lss A a) fun c=>wg (wv c) (.val A) fun e=>wg (wv c) (.val j) fun f=>wg (wv c) (oL f) fun g=>wg (wv c) (ib .lss e g) fun h=>wq (eD c h (.bool false)) fun k=>wd k (q1i O b x i j A) (d)
def qnd:=iC (zdl O b d i j)
def zdm:=qnd O b d i j dM
def zxx:=zdm O .ok (qle O i j) i j (iN 0)
def zEv:=zxx O i j
def zf7(O:Ev.Call):pH:=.ok (iN 0)
def zf1(O:Ev.Call)(a:pD)(b:AV):=wI b a
def zf6(O:Ev.Call)(a:pD)(b:AV):=wI b a
def zf5:=wq (aH 6 i j) fun a=>wA 6 a fun d=>wN [.str 0 0,.aA,.int .u8 (.ofNat 0),.str 0 0,.str 0 0,.aA] fun e=>wT 6 e d <| wA 6 e fun f=>wc O 131 [f] fun g=>wq (ib .neq g (iN 0)) fun h=>wd h (b g) (zf6 O c j)
def q2w:=wq (ib .lss A j) fun a=>wd a (zf5 O b x i A) (d)
def quf:=iC (q2w O b d i j)
def zf9:=quf O b d i j dM
def zf4:=wF 1 i fun a=>wq (aD a) fun d=>zf9 O b (zf1 O c j) a d (iN 0)
def zf3:=wq (aH 2 i j) fun a=>wA 2 a fun d=>wN [.str 0 0,.aA] fun e=>wT 2 e d <| wF 0 e fun f=>wc O 130 [f] fun g=>wq ((l8 .not).f g) fun h=>wd h (b (iN 6)) (wF 1 e fun k=>wq (aD k) fun l=>wq (ib .gtr l (iN 16)) fun m=>wd m (b (iN 3)) (zf4 O b c e j))
def zf8:=wq (ib .lss A j) fun a=>wd a (zf3 O b x i A) (d)
def qxp:=iC (zf8 O b d i j)
def zvw:=qxp O b d i j dM
def zf2:=wF 0 i fun a=>wq (aD a) fun b=>zvw O .ok (zf7 O) a b (iN 0)
def zzk:=wB 1 i fun a=>wF 0 a fun b=>wq (aD b) fun c=>wq (ib .gtr c (iN 16)) fun d=>wd d (.ok (iN 3)) (zf2 O a)
def zBu:=zzk O i
def zge(O:Ev.Call)(a:AV):pH:=.ok a
def q20(O:Ev.Call)(a:pD)(b:AV):=wI b a
def zgf(O:Ev.Call)(a:pD)(b:AV):=wI b a
def q2y(a:pD)(b c d e:AV)(H:Hp):R1:=dz 23 H fun f H=>dn 0 0 f H [] [] (.val b) fun g H p w=>dn 1 0 f H p w (.val b) fun h H p w=>dn 2 0 f H p w (.val b) fun i H p w=>dn 3 4 f H p w (aY i) fun j H p w=>dn 4 12 f H p w (aP 3 j) fun k H p w=>dl 5 28 f H p w (fun H=>aT H k) fun l H p w=>dn 6 0 f H p w (.val d) fun m H p w=>da 7 64 f H p w (sZ 1 (f+7) (bK (aV [.cK] 1) [(0,1,m)])) fun n H p w=>dn 9 0 f H p w (.val b) fun o H p w=>dn 10 512 f H p w (aY o) fun q H p w=>dn 11 1536 f H p w (aP 4 q) fun r H p w=>dl 12 3584 f H p w (fun H=>aT H r) fun s H p w=>dn 13 0 f H p w (aP 0 c) fun t H p w=>dl 14 8192 f H p w (fun H=>aT H t) fun u H p w=>da 15 24576 f H p w (sZ 1 (f+15) (bK (aV [.str 0 0] 1) [(0,1,u)])) fun v H p w=>de 252 H p w (j5 1 8 (eP 252 p H) l (oQ 1 (eP 252 p H) n)) (some true) fun x H p w=>de 65532 H p w (j5 1 16 (eP 65532 p H) s (oQ 1 (eP 65532 p H) v)) (some true) fun y H p w=>dn 17 131069 f H p w (aY g) fun z H p w=>dn 18 262141 f H p w (aP 3 z) fun A H p w=>de 524285 H p w (kL (eP 524285 p H) A x) (some true) fun _ H p w=>dn 20 1048575 f H p w (aY h) fun B H p w=>dn 21 2097151 f H p w (aP 4 B) fun C H p w=>de 4194303 H p w (kL (eP 4194303 p H) C y) (some true) fun _ H p w=>zQ p H fun H=>zgf O a e H
def q2x:=wF 1 j fun a=>wq (aH 6 a k) fun c=>wl (aY i) fun d=>wl (aP 2 d) fun e=>wL (aT · e) fun f=>wl (aP 0 j) fun g=>wL (aT · g) fun h=>wl (aY c) fun l=>wl (aP 0 l) fun m=>wL (aT · m) fun n=>wl (bR (bK [.str 0 0,.str 0 0] [(0,1,h),(1,1,n)])) fun o=>wL (qL ⟨(⟨dQ (eqFields [(p1,⟨bH⟩,0),(p1,⟨bH⟩,1)])⟩:E2).f,some 2⟩ (iN 0) true · f o) fun q=>wl (bT 0 q) fun r=>wl (bT 1 q) fun s=>wq ((l8 .not).f s) fun t=>wd t (wz 0 fun u=>wn 0 0 u (.val i) fun v=>wn 1 1 u (aY v) fun x=>wn 2 3 u (aP 2 x) fun y=>wo 3 7 u (aT · y) fun z=>wn 4 0 u (aP 0 j) fun A=>wo 5 16 u (aT · A) fun B=>wn 6 0 u (.val c) fun C=>wn 7 64 u (aY C) fun D=>wn 8 192 u (aP 0 D) fun E=>wo 9 448 u (aT · E) fun F=>wn 10 1008 u (bR (bK [.str 0 0,.str 0 0] [(0,1,B),(1,1,F)])) fun G=>wn 11 0 u (.val i) fun I=>wn 12 2048 u (aY I) fun J=>wn 13 6144 u (aP 3 J) fun K=>wo 14 14336 u (aT · K) fun L=>wn 15 30720 u (aD L) fun M=>wu 65535 (nI ⟨(⟨dQ (eqFields [(p1,⟨bH⟩,0),(p1,⟨bH⟩,1)])⟩:E2).f,some 2⟩ · z G M) fun _=>wy <| q2y O b i j c k) (q2y O b i j c k)
def q21:=wq (ib .lss A k) fun a=>wd a (q2x O x i j A) (d)
def qug:=iC (q21 O d i j k)
def zgg:=qug O d i j k dM
def zgd:=wq (aH 2 j k) fun a=>wA 2 a fun c=>wN [.str 0 0,.aA] fun d=>wT 2 d c <| wz 0 fun e=>wn 0 0 e (.val i) fun f=>wn 1 1 e (aY f) fun g=>wn 2 3 e (aP 1 g) fun h=>wo 3 7 e (aT · h) fun l=>wn 4 0 e (aP 0 d) fun m=>wo 5 16 e (aT · m) fun n=>wo 6 63 e (qL ⟨(⟨bH⟩:E2).f,none⟩ (iN 0) false · l n) fun o=>wn 7 127 e (ib .add o (iN 1)) fun q=>wu 255 (nI ⟨(⟨bH⟩:E2).f,none⟩ · l n q) fun _=>wy <| wF 1 d fun r=>wq (aD r) fun s=>zgg O (q20 O b k) i d s (iN 0)
def q23:=wq (ib .lss A k) fun a=>wd a (zgd O x i j A) (d)
def qnt:=iC (q23 O d i j k)
def zgh:=qnt O d i j k dM
def zzm:=wB 1 i fun a=>wA 1 a fun b=>wh (fun H=>.new (.map H.nx) (.map [] 0)) fun c=>wh (fun H=>.new (.map H.nx) (.map [] 0)) fun d=>wq (bR (bK [.aA,.dV,.dV,.aA,.aA] [(0,1,b),(1,1,c),(2,1,d)])) fun e=>wB 5 e fun f=>wF 0 a fun g=>wq (aD g) fun h=>zgh O (zge O f) f g h (iN 0)
def zBr:=zzm O i
def zzj:=wh (fun H=>jT H.nx i) fun a=>wB 2 j fun b=>wh (fun H=>jT H.nx k) fun c=>wz 9 fun d=>wo 0 0 d (aT · a) fun e=>wn 1 1 d (aY e) fun f=>wn 2 3 d (aP 3 f) fun g=>wo 3 7 d (aT · g) fun h=>wo 4 0 d (aT · c) fun l=>wn 5 31 d (aH 1 h l) fun m=>wo 6 63 d (aT · m) fun n=>wa 7 0 d (.new (.ptr (d+7) 0) (aB 0 [.cK])) fun o=>wu 255 (kL · o n) fun _=>wy <| w1 o fun q=>wq (aY q) fun r=>wq (aP 2 r) fun s=>wA 4 s fun t=>wc O 85 [t] fun u=>wq (bT 0 u) fun v=>wq (bT 1 u) fun x=>wN [.aA] fun y=>wU y v <| wN [.bool false] fun z=>wU z (.bool false) <| wS 4 (bK (aV [.jH] 4) [(0,1,(.fn 133 [] [a,b,o,c])),(1,1,(.fn 134 [] [a,o])),(2,1,(.fn 136 [] [a,b,y,z])),(3,1,(.fn 138 [] [z,o,b]))]) fun A=>wc O 132 [A] fun B=>.ok B
def zBv:=zzj O i j k
def zf0:=wz 0 fun a=>wo 0 0 a (aT · i) fun b=>wo 2 0 a (aT · j) fun c=>wu 1 (O (.f 142) [b]) fun d=>wu 3 (kL · i d) fun _=>wu 15 (kL · j c) fun _=>wn 5 31 a (.val (iN 0)) fun e=>wy <| fun H=>fJ (jK (qbv (rV (aT H i)) (qbv (rV (aT H j)) (qbv (some e) (some []))))) H
def zfz:=w1 k fun a=>wq (ib .neq a (iN 0)) fun b=>wd b (wz 0 fun c=>wo 0 0 c (aT · k) fun d=>wu 0 (kL · i (.aA)) fun _=>wu 2 (kL · j (iN 0)) fun _=>wn 3 7 c (.val d) fun e=>wy <| fun H=>fJ (jK (qbv (rV (aT H i)) (qbv (rV (aT H j)) (qbv (some e) (some []))))) H) (zf0 O i j)
def zzi:=wN [.aA] fun a=>wN [iN 0] fun b=>wN [iN 0] fun c=>wU c (iN 0) <| wN [.jH] fun d=>wU d (.fn 140 [] [a,b,c,d]) <| w1 d fun e=>we (uG O e [i,(iN 1),(.bool false)]) fun f=>wq ((l8 .not).f f) fun g=>wd g (wU a (.aA) <| wU b (iN 0) <| fun H=>fJ (jK (qbv (rV (aT H a)) (qbv (rV (aT H b)) (qbv (some (iN 3)) (some []))))) H) (zfz O a b c)
def zBw:=zzi O i
def zfy(O:Ev.Call)(a b:AV):=wq (aY a) fun c=>wF 3 c fun d=>wq (aH 1 d b) fun e=>w1 e fun f=>.ok f
def zp9:=wq (aY i) fun a=>wF 2 a fun b=>wq (bR (bK [.str 0 0,.str 0 0] [(0,1,j),(1,1,k)])) fun c=>wh (qL ⟨(⟨dQ (eqFields [(p1,⟨bH⟩,0),(p1,⟨bH⟩,1)])⟩:E2).f,some 2⟩ (iN 0) true · b c) fun d=>wq (bT 0 d) fun e=>wq (bT 1 d) fun f=>wq ((l8 .not).f f) fun g=>wd g (.ok (.cK)) (zfy O i e)
def zBx:=zp9 O i j k
def q6v:=wc O 143 [i] fun a=>.ok a
def qns(O:Ev.Call)(a:AV->pD)(b c:AV):=wI c fun d=>a b d
def zfw:=wq (aH 2 l m) fun b=>wA 2 b fun c=>wN [.str 0 0,.str 0 0] fun d=>wT 2 d c <| wF 1 d fun e=>wq (fO (mJ .eql).f e (.str 0 0)) fun f=>wg (wv f) (.val i) fun g=>wg (wv f) (aP 0 d) fun h=>wG (wv f) (aT · h) fun n=>wg (wv f) (.val j) fun o=>wx (wv f) (O (.f 111) [g,n,o]) fun q=>wg (wv f) (mF true ((⟨E2.f ⟨qpp⟩⟩:E2).f q (.cK))) fun r=>wq (eD f r (.bool false)) fun s=>wd s (wF 0 d fun t=>wS 1 (bK (aV [.str 0 0] 1) [(0,1,t)]) fun u=>wP 1 16 k u fun v=>qns O a v m) (qns O a k m)
def zfx:=wq (ib .lss B l) fun a=>wd a (zfw O y i j A k B) (b A)
def qxo:=oU (zfx O b i j k l)
def zvv:=qxo O b i j k l dM
def zzh:=wc O 111 [i,j,k] fun a=>wq (mF true ((⟨E2.f ⟨qpp⟩⟩:E2).f a (.cK))) fun b=>wd b (wq (aY a) fun c=>wF 1 c fun d=>wq (aD d) fun e=>zvv O (q6v O) i l d e (.aA) (iN 0)) (q6v O (.aA))
def zBy:=zzh O i j k l
def zzg:=wB 3 i fun a=>wB 3 j fun b=>wz 18 fun c=>wn 0 0 c (aP 0 a) fun d=>wo 1 1 c (aT · d) fun e=>wn 2 0 c (aP 0 b) fun f=>wo 3 4 c (aT · f) fun g=>wn 5 0 c (aP 1 a) fun h=>wo 6 32 c (aT · h) fun k=>wn 7 0 c (aP 1 b) fun l=>wo 8 128 c (aT · l) fun m=>wo 10 0 c (dD 3 · a) fun n=>wo 12 0 c (dD 3 · b) fun o=>wu 15 (O (.f 144) [e,g]) fun q=>wu 511 (O (.f 144) [k,m]) fun r=>wu 2047 (O (.f 145) [n]) fun s=>wu 8191 (O (.f 145) [o]) fun t=>wu 16383 (O (.f 144) [s,t]) fun u=>wa 15 32767 c (sZ 3 (c+15) (bK (aV [iN 0] 3) [(0,1,q),(1,1,r),(2,1,u)])) fun v=>wu 65535 (O (.f 93) [v]) fun x=>wn 17 131071 c (.val x) fun y=>wy <| .ok y
def zBz:=zzg O i j
abbrev zY:AV->AV->Option Bool:=dQ (eqFields [(p1,⟨qqf⟩,0),(p1,⟨qqf⟩,1),(p1,⟨qhw⟩,2)])
abbrev zB:List AV:=[iN 0,iN 0,.bool false]
def zCb:=zbw O 3 zY zB i
def zzf(O:Ev.Call)(a:AV):=wq (aD a) fun b=>wq (aD a) fun c=>wq (kM 3 a none (some b) (some c)) fun d=>.ok d
def zCc:=zzf O i
def zvt(O:Ev.Call):pH:=.ok (iN 0)
def zfs(O:Ev.Call)(a:pD)(b:AV):=wI b a
def z4j:=wF 0 k fun a=>wF 1 k fun d=>wq (qE oI a [d]) fun e=>wq (ib .lss e (iN 0)) fun f=>wg (bI false f) (aP 0 k) fun g=>wG (bI false f) (aT · g) fun h=>wg (bI false f) (aP 1 k) fun m=>wG (bI false f) (aT · m) fun n=>wg (bI false f) (qE qC h [n]) fun o=>wg (bI false f) (aP 0 i) fun q=>wG (bI false f) (aT · q) fun r=>wg (bI false f) (ib .geq o r) fun s=>wq (eD f (.bool true) s) fun t=>wd t (b (iN 4)) (wz 0 fun u=>wn 0 0 u (.val j) fun v=>wn 1 1 u (ib .gtr v (iN 0)) fun x=>wn 2 3 u (.val x) fun y=>wr 3 7 u (aP 1 i) (wv y) fun z=>ws 4 15 u (aT · z) (wv y) fun A=>wr 5 7 u (.val j) (wv y) fun B=>wr 6 39 u (ib .sub B (iN 1)) (wv y) fun C=>wr 7 127 u (aH 3 A C) (wv y) fun D=>ws 8 255 u (dD 3 · D) (wv y) fun E=>ws 9 7 u (dD 3 · k) (wv y) fun F=>wt 1023 (O (.f 113) [E,F]) (wv y) fun G=>wr 11 2047 u (ib .geq G (iN 0)) (wv y) fun I=>wn 12 4095 u (eD y I (.bool false)) fun J=>wn 13 8191 u (.val J) fun K=>wy <| wd K (b (iN 18)) (zfs O c l))
def zfu:=wq (aH 3 j k) fun a=>wA 3 a fun d=>wN [iN 0,iN 0,.bool false] fun e=>wT 3 e d <| z4j O b c i k e k
def zfv:=wq (ib .lss A k) fun a=>wd a (zfu O b x i j A) (d)
def q6u:=iC (zfv O b d i j k)
def zvu:=q6u O b d i j k dM
def zft:=wF 1 i fun a=>wq (aD a) fun b=>zvu O .ok (zvt O) i a b (iN 0)
def zze:=wB 2 i fun a=>wF 0 a fun b=>wq (ib .lss b (iN 0)) fun c=>wg (bI false c) (aP 0 a) fun d=>wG (bI false c) (aT · d) fun e=>wg (bI false c) (ib .gtr e (iN 256)) fun f=>wq (eD c (.bool true) f) fun g=>wd g (.ok (iN 3)) (zft O a)
def zCd:=zze O i
def zfn(O:Ev.Call)(a:AV):=wF 1026 a fun b=>.ok b
def que(O:Ev.Call)(a:pD)(b:AV):=wI b a
def zfp:=wq (aP 256 i) fun a=>wq (fQ 256 1 a j) fun c=>w1 c fun d=>wq (ib .eql d (iN 0)) fun e=>wd e (wc O 150 [i,j] fun f=>que O b j) (que O b j)
def zfq:=wq (ib .lss A j) fun a=>wd a (zfp O x i A) (d)
def q6t:=iC (zfq O d i j)
def zvs:=q6t O d i j dM
def q2u:=wF 0 i fun a=>zvs O (zfn O j) j a (iN 0)
def zfo(O:Ev.Call)(a:pD)(b:AV):=wI b a
def zfm:=wq (aH 3 j k) fun a=>wA 3 a fun c=>wN [iN 0,iN 0,.bool false] fun d=>wT 3 d c <| fun H=>dz 14 H fun e H=>dn 0 0 e H [] [] (aP 0 d) fun f H p w=>dl 1 1 e H p w (fun H=>aT H f) fun g H p w=>dn 2 0 e H p w (aP 0 d) fun h H p w=>dl 3 4 e H p w (fun H=>aT H h) fun l H p w=>dn 4 0 e H p w (aP 0 i) fun m H p w=>dn 5 28 e H p w (fQ 256 1 m l) fun n H p w=>dl 6 60 e H p w (fun H=>aT H n) fun o H p w=>dn 7 0 e H p w (aP 1 d) fun q H p w=>dl 8 128 e H p w (fun H=>aT H q) fun r H p w=>da 9 384 e H p w (sZ 1 (e+9) (bK (aV [iN 0] 1) [(0,1,r)])) fun s H p w=>dn 11 0 e H p w (aP 0 i) fun t H p w=>de 1020 H p w (j5 1 8 (eP 1020 p H) o (oQ 1 (eP 1020 p H) s)) (some true) fun u H p w=>dn 12 4095 e H p w (fQ 256 1 t g) fun v H p w=>de 8191 H p w (kL (eP 8191 p H) v u) (some true) fun _ H p w=>zQ p H fun H=>zfo O b k H
def q2v:=wq (ib .lss A k) fun a=>wd a (zfm O x i j A) (d)
def qud:=iC (q2v O d i j k)
def zfr:=qud O d i j k dM
def zzd:=wB 2 i fun a=>wh (fun H=>.new (.ptr H.nx 0) (aB 0 (List.replicate 256 (.aA)++List.replicate 512 (iN 0)++List.replicate 256 (.bool false)++[.aA]++[iN 0]++[.aA]))) fun b=>wF 1 a fun c=>wq (aD c) fun d=>zfr O (q2u O a b) b c d (iN 0)
def zCe:=zzd O i
def q6s(O:Ev.Call)(a b c:AV):pH:=.ok (.fn 149 [] [b,a,c])
def q2p(O:Ev.Call)(a:pD)(b:AV):=wI b a
def zfj(O:Ev.Call)(a:pD)(b:AV):=wI b a
def zfi:=wq (aH 1 k l) fun a=>w1 a fun c=>w1 i fun d=>wq (aH 1 d c) fun e=>wU e j <| zfj O b l
def q2q:=wq (ib .lss A l) fun a=>wd a (zfi O x i j k A) (d)
def quc:=iC (q2q O d i j k l)
def zfk:=quc O d i j k l dM
def zfh:=wq (aH 1 j k) fun a=>w1 a fun c=>wq (aD c) fun d=>zfk O (q2p O b k) i k c d (iN 0)
def q2s:=wq (ib .lss A k) fun a=>wd a (zfh O x i j A) (d)
def qnr:=iC (q2s O d i j k)
def zfl:=qnr O d i j k dM
def zzc:=wB 2 i fun a=>wh (fun H=>jT H.nx j) fun b=>w1 b fun c=>wc O 147 [c,(.fn 148 [] [])] fun d=>wF 0 a fun e=>wh (fun H=>qjs [iN 0] 8 H.nx e e) fun f=>wN [.aA] fun g=>wU g f <| w1 b fun h=>wq (aD h) fun k=>zfl O (q6s O a b g) g h k (iN 0)
def zCf:=zzc O i j
def zqv(O:Ev.Call)(a:AV):=wq (aD a) fun b=>wq (aD a) fun c=>wq (kM 1 a none (some b) (some c)) fun d=>.ok d
def zBd:=zqv O i
def zzb(O:Ev.Call)(a:AV):=wq (aD a) fun b=>wq (aD a) fun c=>wq (kM 1 a none (some b) (some c)) fun d=>.ok d
def zCg:=zzb O i
def qgj(O:Ev.Call)(a:AV):pH:=.ok a
def qlj(O:Ev.Call)(a:pD)(b:AV):=wI b a
def qfn(O:Ev.Call)(a:pD)(b c:AV):=wq (kM 1 b (some c) none none) fun d=>we (qik [iN 0] · d) fun _=>wq (kM 1 b none (some c) none) fun e=>a e
def qdo(O:Ev.Call)(a:AV->pD)(b c:AV):=wI c fun d=>a b d
def qjp:=wl (aH 1 k l) fun b=>wL (aT · b) fun c=>wl (ib .sub l (iN 1)) fun d=>wl (aH 1 k d) fun e=>wL (aT · e) fun f=>wl (ib .neq c f) fun g=>wd g (wq (aH 1 k l) fun h=>w1 h fun m=>wq (aH 1 i j) fun n=>wU n m <| wI j fun o=>qdo O a o l) (qdo O a j l)
def qfo:=wq (aD j) fun a=>wq (ib .lss B a) fun c=>wd c (qjp O y i A j B) (b A)
def qdn:=oU (qfo O b i j)
def qjq:=qdn O b i j dM
def qjo:=wl (aH 1 i j) fun a=>wL (aT · a) fun d=>wl (ib .sub j (iN 1)) fun e=>wl (aH 1 i e) fun f=>wL (aT · f) fun g=>wl (ib .eql d g) fun h=>wd h (wq (kM 1 i (some j) none none) fun k=>qjq O (qfn O b i) i k j (iN 1)) (qlj O c j)
def qgk:=wq (aD i) fun a=>wq (ib .lss A a) fun c=>wd c (qjo O b x i A) (d)
def qeh:=iC (qgk O b d i)
def qlk:=qeh O b d i dM
def qjn:=qlk O .ok (qgj O i) i (iN 1)
def qif:=wq (aD i) fun a=>wq (ib .lss a (iN 2)) fun b=>wd b (.ok i) (qjn O i)
def jS:=qif O i
def qnc(O:Ev.Call):pH:=.ok (iN 0)
def zdh(O:Ev.Call)(a:pD)(b:AV):=wI b a
def q1h:=wq (aH 1 i j) fun a=>w1 a fun d=>wc O 163 [d] fun e=>wq (ib .neq e (iN 0)) fun f=>wd f (b e) (zdh O c j)
def zdi:=wq (ib .lss A j) fun a=>wd a (q1h O b x i A) (d)
def qq5:=iC (zdi O b d i j)
def zdj:=qq5 O b d i j dM
def zxw:=wq (aD i) fun a=>zdj O .ok (qnc O) i a (iN 0)
def zEw:=zxw O i
def zxv:=wB 2 i fun a=>wF 0 a fun b=>wF 1 a fun c=>wS 2 (bK (aV [.str 0 0] 2) [(0,1,b),(1,1,c)]) fun d=>wc O 128 [d] fun e=>.ok e
def zEx:=zxv O i
def z3z:=wc O 125 [(.aA),i] fun a=>.ok a
def zFv:=z3z O i
def zfd:=wq (aP 2 i) fun a=>wA 4 a fun b=>wc O 165 [b] fun c=>.ok c
def q2o(O:Ev.Call)(a:pD)(b:AV):=wI b a
def zff:=wq (aH 2 i j) fun a=>wA 2 a fun d=>wN [.str 0 0,.str 0 0] fun e=>wT 2 e d <| wF 0 e fun f=>wc O 130 [f] fun g=>wq ((l8 .not).f g) fun h=>wg (bI false h) (aP 1 e) fun k=>wG (bI false h) (aT · k) fun l=>wg (bI false h) (fO (mJ .neq).f l (.str 0 0)) fun m=>wg (bI false h) (.val m) fun n=>wg (wv n) (aP 1 e) fun o=>wG (wv n) (aT · o) fun q=>wx (wv n) (O (.f 130) [q]) fun r=>wg (wv n) ((l8 .not).f r) fun s=>wg (bI false h) (eD n s (.bool false)) fun t=>wq (eD h (.bool true) t) fun u=>wd u (b (iN 6)) (q2o O c j)
def zfg:=wq (ib .lss A j) fun a=>wd a (zff O b x i A) (d)
def q6q:=iC (zfg O b d i j)
def zvr:=q6q O b d i j dM
def zfe:=wF 1 i fun a=>wq (aD a) fun b=>zvr O .ok (zfd O i) a b (iN 0)
def zza:=wB 6 i fun a=>wF 0 a fun b=>wc O 130 [b] fun c=>wq ((l8 .not).f c) fun d=>wd d (.ok (iN 6)) (wF 1 a fun e=>wq (aD e) fun f=>wq (ib .gtr f (iN 8)) fun g=>wd g (.ok (iN 3)) (zfe O a))
def zCi:=zza O i
def z4i(O:Ev.Call):pH:=.ok (iN 0)
def zy9:=wL (aT · i) fun a=>wl (aY a) fun b=>wl (aP 2 b) fun c=>wL (aT · c) fun d=>wl (aP 0 j) fun e=>wL (aT · e) fun f=>wL (aT · k) fun g=>wl (aY g) fun h=>wl (aP 0 h) fun m=>wL (aT · m) fun n=>wl (bR (bK [.str 0 0,.str 0 0] [(0,1,f),(1,1,n)])) fun o=>wL (qL ⟨(⟨dQ (eqFields [(p1,⟨bH⟩,0),(p1,⟨bH⟩,1)])⟩:E2).f,some 2⟩ (iN 0) false · d o) fun q=>wL (aT · l) fun r=>wl (ib .neq q r) fun s=>wd s (.ok (iN 7)) (z4i O)
def zCj:=zy9 O i j k l
def zy8:=w1 i fun a=>w1 j fun b=>wc O 135 [a,b] fun c=>.ok c
def zCk:=zy8 O i j
def zy7:=w1 i fun a=>wF 0 j fun b=>w1 k fun c=>wc O 137 [a,b,c] fun d=>wq (bT 0 d) fun e=>wq (bT 1 d) fun f=>wU l e <| .ok f
def zCl:=zy7 O i j k l
def z4h(O:Ev.Call):pH:=.ok (iN 0)
def zy6:=wz 0 fun a=>wo 0 0 a (aT · i) fun b=>wn 1 1 a (.val b) fun c=>ws 2 3 a (aT · j) (wv c) fun d=>wr 3 7 a (aY d) (wv c) fun e=>wr 4 15 a (aP 1 e) (wv c) fun f=>ws 5 31 a (aT · f) (wv c) fun g=>wr 6 63 a (aD g) (wv c) fun h=>wr 7 127 a (ib .eql h (iN 0)) (wv c) fun l=>wn 8 255 a (eD c l (.bool false)) fun m=>wn 9 511 a (.val m) fun n=>ws 10 1023 a (aT · i) (bI false n) fun o=>wr 11 2047 a ((l8 .not).f o) (bI false n) fun q=>wr 12 4095 a (.val q) (bI false n) fun r=>ws 13 8191 a (aT · j) (wv r) fun s=>wr 14 16383 a (aY s) (wv r) fun t=>wr 15 32767 a (aP 1 t) (wv r) fun u=>ws 16 65535 a (aT · u) (wv r) fun v=>wr 17 131071 a (aD v) (wv r) fun x=>wr 18 262143 a (ib .gtr x (iN 0)) (wv r) fun y=>wr 19 524287 a (eD r y (.bool false)) (bI false n) fun z=>wr 20 1048575 a (.val z) (bI false n) fun A=>ws 21 2097151 a (dD 2 · k) (wv A) fun B=>ws 22 2097151 a (aT · j) (wv A) fun C=>wr 23 6291455 a (aY C) (wv A) fun D=>wr 24 14680063 a (aP 0 D) (wv A) fun E=>ws 25 31457279 a (aT · E) (wv A) fun F=>wt 67108863 (O (.f 139) [B,F]) (wv A) fun G=>wr 27 134217727 a ((l8 .not).f G) (wv A) fun I=>wr 28 268435455 a (eD A I (.bool false)) (bI false n) fun J=>wn 29 536870911 a (eD n (.bool true) J) fun K=>wy <| wd K (.ok (iN 11)) (z4h O)
def zCm:=zy6 O i j k
def zvp(O:Ev.Call):pH:=.ok (iN 0)
def qxn(O:Ev.Call)(a:pD)(b:AV):=wI b a
def qnp:=wq (aH 1 i j) fun a=>w1 a fun d=>we (uG O d []) fun e=>wq (ib .neq e (iN 0)) fun f=>wd f (b e) (qxn O c j)
def qnq:=wq (ib .lss A j) fun a=>wd a (qnp O b x i A) (d)
def q6p:=iC (qnq O b d i j)
def zvq:=q6p O b d i j dM
def zy5:=wq (aD i) fun a=>zvq O .ok (zvp O) i a (iN 0)
def zCn:=zy5 O i
def qno:=wz 0 fun a=>wo 0 0 a (aT · i) fun b=>wn 1 0 a (.val j) fun c=>wn 2 0 a (.val k) fun d=>wu 4 (O (.f 120) [d]) fun e=>wn 4 15 a (aH 5 b c) fun f=>wn 5 31 a (aP 3 f) fun g=>wu 63 (kL · g e) fun _=>wy <| .ok (.bool true)
def qua(O:Ev.Call)(a:AV->pD)(b c:AV):=wI c fun d=>a b d
def q2n:=w1 l fun a=>wq (aD a) fun c=>wS 1 (bK (aV [iN 0] 1) [(0,1,c)]) fun d=>wP 1 8 n d fun e=>wz 0 fun f=>wo 0 0 f (aT · m) fun h=>wn 1 0 f (.val i) fun q=>wn 2 2 f (aY q) fun r=>wn 3 6 f (aP 3 r) fun s=>wo 4 14 f (aT · s) fun t=>wn 5 0 f (.val o) fun u=>wn 6 62 f (aH 4 t u) fun v=>wn 7 0 f (.val j) fun x=>wn 8 128 f (ib .add x (iN 1)) fun y=>wn 9 0 f (.val k) fun z=>wn 10 512 f (.val z) fun A=>wr 11 1536 f (.val i) (bI false A) fun B=>wr 12 3584 f (aY B) (bI false A) fun C=>wr 13 7680 f (aP 0 C) (bI false A) fun D=>ws 14 15872 f (aT · D) (bI false A) fun E=>wr 15 32256 f (ib .eql E (.int .u8 (.ofNat 6))) (bI false A) fun F=>wr 16 65024 f (.val F) (bI false A) fun G=>wr 17 130560 f (.val o) (wv G) fun I=>wr 18 261632 f (ib .eql I (iN 1)) (wv G) fun J=>wr 19 523776 f (eD G J (.bool false)) (bI false A) fun K=>wn 20 1048064 f (eD A (.bool true) K) fun L=>wu 2097151 (uG O h [v,y,L]) fun M=>wn 22 4194303 f ((l8 .not).f M) fun N=>wy <| wd N (b (.bool false)) (qua O g e o)
def qj9:=wq (ib .lss B n) fun a=>wd a (q2n O b y i j k l m A B) (c A)
def qt9:=oU (qj9 O b c i j k l m n)
def qub:=qt9 O b c i j k l m n dM
def q2m:=w1 l fun a=>wq (aD a) fun b=>fun H=>dz 18 H fun c H=>dl 0 0 c H [] [] (fun H=>aT H l) fun d H p w=>dn 1 0 c H p w (.val i) fun e H p w=>dn 2 2 c H p w (aY e) fun f H p w=>dn 3 6 c H p w (aP 0 f) fun g H p w=>dl 4 14 c H p w (fun H=>aT H g) fun h H p w=>dn 5 0 c H p w (.val i) fun n H p w=>dn 6 32 c H p w (aY n) fun o H p w=>dn 7 96 c H p w (aP 1 o) fun q H p w=>dl 8 224 c H p w (fun H=>aT H q) fun r H p w=>dn 9 0 c H p w (.val i) fun s H p w=>dn 10 512 c H p w (aY s) fun t H p w=>dn 11 1536 c H p w (aP 2 t) fun u H p w=>dl 12 3584 c H p w (fun H=>aT H u) fun v H p w=>dn 13 0 c H p w (.val k) fun x H p w=>dn 14 16382 c H p w (bR (bK [.int .u8 (.ofNat 0),.str 0 0,.str 0 0,.aA,.bool false] [(0,1,h),(1,1,r),(2,1,v),(4,1,x)])) fun y H p w=>da 15 32766 c H p w (sZ 1 (c+15) (bK (aV [.int .u8 (.ofNat 0),.str 0 0,.str 0 0,.aA,.bool false] 1) [(0,5,y)])) fun z H p w=>de 65535 H p w (j5 5 72 (eP 65535 p H) d (oQ 5 (eP 65535 p H) z)) (some true) fun A H p w=>de 131071 H p w (kL (eP 131071 p H) l A) (some true) fun _ H p w=>zQ p H fun H=>vq (aY i) H fun B H=>vF 3 B H fun C H=>vq (aD C) H fun D H=>qub O .ok (qno O l b) i j k l m D (.aA) (iN 0) H
def zfc:=w1 m fun a=>wq (qE qC a [j]) fun b=>wU m b <| w1 n fun c=>wq (ib .eql c (iN 0)) fun d=>wd d (wc O 141 [i] fun e=>wU n e <| q2m O i j k l o) (q2m O i j k l o)
def zpt:=w1 l fun a=>wq (aD a) fun b=>wq (ib .eql b (iN 32)) fun c=>wg (bI false c) (.val j) fun d=>wg (bI false c) (ib .gtr d (iN 8)) fun e=>wq (eD c (.bool true) e) fun f=>wd f (.ok (.bool false)) (zfc O i j k l m n o)
def zCo:=zpt O i j k l m n o
def zy4(O:Ev.Call)(a:AV):=wq (aD a) fun b=>wq (aD a) fun c=>wq (kM 5 a none (some b) (some c)) fun d=>.ok d
def zCp:=zy4 O i
def zy3(O:Ev.Call)(a:AV):=wq (aD a) fun b=>wq (aD a) fun c=>wq (kM 1 a none (some b) (some c)) fun d=>.ok d
def zCq:=zy3 O i
def zvo(O:Ev.Call):pH:=.ok (iN 0)
def zvn:=wq (ib .gtr i j) fun a=>wd a (.ok (iN 1)) (zvo O)
def zvm:=wq (ib .lss i j) fun a=>wd a (.ok (.int .i64 (.negSucc 0))) (zvn O i j)
def zvl:=wd k (.ok (iN 1)) (zvm O i j)
def z4g(O:Ev.Call):pH:=.ok (.int .i64 (.negSucc 0))
def zy2:=wc O 171 [i] fun a=>wc O 171 [j] fun b=>wd a (wd b (.ok (iN 0)) (z4g O)) (zvl O i j b)
def zCr:=zy2 O i j
def zvk(O:Ev.Call):pH:=.ok (iN 0)
def zy1:=wB 3 i fun a=>wF 2 a fun b=>wd b (.ok (iN 1)) (zvk O)
def zCs:=zy1 O i
def zfa(O:Ev.Call)(a:AV):pH:=.ok a
def zvi(O:Ev.Call)(a:pD)(b:AV):=wI b a
def zvh:=wq (aH 1 j k) fun a=>w1 a fun d=>wq (ib .neq d i) fun e=>wd e (b d) (zvi O c k)
def zfb:=wq (ib .lss A k) fun a=>wd a (zvh O b x i j A) (d)
def q6o:=iC (zfb O b d i j k)
def zvj:=q6o O b d i j k dM
def zy0:=wq (aD i) fun a=>zvj O .ok (zfa O (iN 0)) (iN 0) i a (iN 0)
def zCt:=zy0 O i
def qt8:=wq (aY k) fun a=>wF 0 a fun c=>wc O 182 [i,c] fun d=>wq (aD j) fun e=>wq (ib .sub e (iN 1)) fun f=>wq (kM 2 j none (some f) none) fun g=>wq (aD g) fun h=>wq (ib .gtr h (iN 0)) fun l=>wd l (wq (aD g) fun m=>wq (ib .sub m (iN 1)) fun n=>wq (aH 2 g n) fun o=>wF 0 o fun q=>wz 0 fun r=>wn 0 0 r (.val i) fun s=>wn 1 0 r (.val q) fun t=>wn 2 0 r (.val i) fun u=>wn 3 0 r (.val q) fun v=>wn 4 4 r (aY u) fun x=>wn 5 20 r (aP 512 x) fun y=>wn 6 60 r (fQ 256 1 y v) fun z=>wo 7 124 r (aT · z) fun A=>wn 8 0 r (.val i) fun B=>wn 9 0 r (.val c) fun C=>wn 10 256 r (aY B) fun D=>wn 11 1280 r (aP 512 D) fun E=>wn 12 3840 r (fQ 256 1 E C) fun F=>wo 13 7936 r (aT · F) fun G=>wn 14 16380 r (qE oI A [G]) fun I=>wn 15 1 r (aY s) fun J=>wn 16 32769 r (aP 512 J) fun K=>wn 17 131071 r (fQ 256 1 K t) fun L=>wu 262143 (kL · L I) fun _=>wy <| b g) (b g)
def ze7(O:Ev.Call)(a:pD)(b c d e:AV):=wq (aY b) fun f=>wq (aP 768 f) fun g=>wq (fQ 256 1 g e) fun h=>w1 h fun i=>wd i (wz 0 fun j=>wn 0 0 j (.val b) fun k=>wn 1 0 j (.val d) fun l=>wn 2 2 j (aY l) fun m=>wn 3 6 j (aP 0 m) fun n=>wo 4 14 j (aT · n) fun o=>wn 5 0 j (.val b) fun q=>wn 6 0 j (.val d) fun r=>wn 7 64 j (aY r) fun s=>wn 8 192 j (aP 0 s) fun t=>wo 9 448 j (aT · t) fun u=>wn 10 32 j (aY q) fun v=>wn 11 1056 j (aP 512 v) fun x=>wn 12 4064 j (fQ 256 1 x u) fun y=>wo 13 8160 j (aT · y) fun z=>wn 14 0 j (.val b) fun A=>wn 15 0 j (.val e) fun B=>wn 16 16384 j (aY A) fun C=>wn 17 81920 j (aP 256 C) fun D=>wn 18 245760 j (fQ 256 1 D B) fun E=>wo 19 507904 j (aT · E) fun F=>wn 20 1048544 j (qE oI z [F]) fun G=>wn 21 1 j (aY k) fun I=>wn 22 2097153 j (aP 512 I) fun J=>wn 23 8388607 j (fQ 256 1 J o) fun K=>wu 16777215 (kL · K G) fun _=>wy <| a c) (a c)
def q6n:=wl (aY k) fun a=>wl (aP 0 a) fun d=>wL (aT · d) fun e=>wl (aY i) fun f=>wl (aP 0 f) fun g=>wl (fQ 256 1 g e) fun h=>wL (aT · h) fun l=>wl (aY k) fun m=>wl (aP 1 m) fun n=>wL (aT · n) fun o=>wl (aH 1 l o) fun q=>wL (aT · q) fun r=>wq (aY k) fun s=>wF 1 s fun t=>wI t fun u=>wq (aY k) fun v=>wq (aP 1 v) fun x=>wU x u <| wq (aY i) fun y=>wq (aP 256 y) fun z=>wq (fQ 256 1 z r) fun A=>w1 A fun B=>wq (ib .eql B (iN 0)) fun C=>wd C (wc O 181 [i,r] fun D=>wq (bR (bK [iN 0,iN 0] [(0,1,r),(1,1,(iN 0))])) fun E=>wS 1 (bK (aV [iN 0,iN 0] 1) [(0,2,E)]) fun F=>wP 2 16 j F fun G=>b G) (ze7 O c i j k r)
def q2l:=wl (aY j) fun a=>wl (aP 1 a) fun d=>wL (aT · d) fun e=>wl (aY j) fun f=>wl (aP 0 f) fun g=>wL (aT · g) fun h=>wl (aY i) fun k=>wl (aP 0 k) fun l=>wl (fQ 256 1 l h) fun m=>wL (aT · m) fun n=>wl (aD n) fun o=>wl (ib .lss e o) fun q=>wd q (q6n O b x i A j) (c A)
def qt7:=iC (q2l O b c i j)
def ze9:=qt7 O b c i j dM
def q6m:=wq (aD j) fun a=>wq (ib .sub a (iN 1)) fun c=>wq (aH 2 j c) fun d=>fun H=>ze9 O b (fun j H=>qt8 O b i j d H) i d j H
def ze8:=wq (aD A) fun a=>wq (ib .gtr a (iN 0)) fun b=>wd b (q6m O x i A) (d)
def qrk:=iC (ze8 O d i)
def zvg:=qrk O d i dM
def q6l:=zvg O (.ok (.aX [])) i j
def z4f:=wc O 181 [i,j] fun a=>wq (bR (bK [iN 0,iN 0] [(0,1,j),(1,1,(iN 0))])) fun b=>wS 1 (bK (aV [iN 0,iN 0] 1) [(0,2,b)]) fun c=>q6l O i c
def zCu:=z4f O i j
def z4e(O:Ev.Call)(a b:AV):=wl (aH 1 a (iN 0)) fun c=>wL (aT · c) fun d=>wl (aH 1 b (iN 0)) fun e=>wL (aT · e) fun f=>wl (ib .sub d f) fun g=>.ok g
def zCv:=z4e O i j
def q6k(O:Ev.Call)(a:pD)(b:AV):=wI b a
def q2i(O:Ev.Call)(a:pD)(b:AV):=wI b a
def ze3:=wq (aH 1 k m) fun a=>w1 a fun b=>wq ((l8 .not).f b) fun c=>wg (wv c) (.val l) fun g=>wg (wv c) (.val m) fun h=>wg (wv c) (aH 1 g h) fun n=>wG (wv c) (aT · n) fun o=>wg (wv c) ((l8 .not).f o) fun q=>wq (eD c q (.bool false)) fun r=>wd r (wq (aH 1 k m) fun s=>wU s (.bool true) <| w1 j fun t=>wq (aH 1 t m) fun u=>w1 u fun v=>we (uG O i [v]) fun x=>wq ((l8 .not).f x) fun y=>wd y (d) (e)) (q2i O f m)
def q2k:=wq (ib .lss A m) fun a=>wd a (ze3 O d e x i j k l A) (e)
def qnn:=iC (q2k O d e i j k l m)
def ze6:=qnn O d e i j k l m dM
def q2h:=w1 j fun a=>wq (aD a) fun b=>ze6 O d (q6k O f m) i j k l b (iN 0)
def qt6(O:Ev.Call)(a:pD)(b:AV):=wI b a
def ze2:=wq (aH 3 l m) fun a=>wA 3 a fun c=>wN [iN 0,iN 0,.bool false] fun d=>wT 3 d c <| wL (aT · i) fun e=>wl (aP 0 d) fun f=>wL (aT · f) fun g=>wl (aH 1 e g) fun h=>wL (aT · h) fun n=>wL (aT · i) fun o=>wl (aP 1 d) fun q=>wL (aT · q) fun r=>wl (aH 1 o r) fun s=>wL (aT · s) fun t=>wq (ib .neq n t) fun u=>wg (wv u) (.val j) fun v=>wg (wv u) (.val t) fun x=>wg (wv u) (aH 1 v x) fun y=>wG (wv u) (aT · y) fun z=>wg (wv u) ((l8 .not).f z) fun A=>wq (eD u A (.bool false)) fun B=>wd B (wq (aH 1 k n) fun C=>wU C (.bool true) <| qt6 O b m) (qt6 O b m)
def q2j:=wq (ib .lss A m) fun a=>wd a (ze2 O x i j k l A) (d)
def qnm:=iC (q2j O d i j k l m)
def ze5:=qnm O d i j k l m dM
def ze1:=w1 j fun a=>wq (aD a) fun b=>wh (fun H=>qjs [.bool false] 1 H.nx b b) fun c=>wF 1 k fun e=>wq (aD e) fun g=>ze5 O (q2h O d f i j m c n) l m c e g (iN 0)
def ze4:=wq (ib .lss A n) fun a=>wd a (ze1 O d x i j k l m A) (e)
def qrj:=iC (ze4 O d e i j k l m n)
def zvf:=qrj O d e i j k l m n dM
def zyz:=w1 j fun a=>wq (aD a) fun b=>wh (fun H=>qjs [.bool false] 1 H.nx b b) fun c=>w1 j fun d=>wq (aD d) fun e=>zvf O (.ok (.aX [])) (.ok (.aX [])) i j k l c e (iN 0)
def zCw:=zyz O i j k l
def qnb(O:Ev.Call):pH:=.ok (iN 0)
def q6e(O:Ev.Call)(a:pD)(b:AV):=wI b a
def q1g:=wq (qek i j) fun a=>wq (ib .lss a (.int .u8 (.ofNat 97))) fun d=>wg (bI false d) (.val i) fun e=>wg (bI false d) (.val j) fun f=>wg (bI false d) (qek e f) fun g=>wg (bI false d) (ib .gtr g (.int .u8 (.ofNat 122))) fun h=>wq (eD d (.bool true) h) fun k=>wg (wv k) (.val i) fun l=>wg (wv k) (.val j) fun m=>wg (wv k) (qek l m) fun n=>wg (wv k) (ib .lss n (.int .u8 (.ofNat 48))) fun o=>wg (wv k) (.val o) fun q=>wg (bI false q) (.val i) fun r=>wg (bI false q) (.val j) fun s=>wg (bI false q) (qek r s) fun t=>wg (bI false q) (ib .gtr t (.int .u8 (.ofNat 57))) fun u=>wg (wv k) (eD q (.bool true) u) fun v=>wq (eD k v (.bool false)) fun x=>wd x (b (iN 6)) (q6e O c j)
def zdf:=wq (ib .lss A j) fun a=>wd a (q1g O b x i A) (d)
def qna:=iC (zdf O b d i j)
def zdg:=qna O b d i j dM
def q1f:=wq (oL i) fun a=>zdg O .ok (qnb O) i a (iN 0)
def zxu:=wq (oL i) fun a=>wq (ib .lss a (iN 1)) fun b=>wg (bI false b) (.val i) fun c=>wg (bI false b) (oL c) fun d=>wg (bI false b) (ib .gtr d (iN 16)) fun e=>wq (eD b (.bool true) e) fun f=>wd f (.ok (iN 6)) (q1f O i)
def zEy:=zxu O i
def zyy:=wB 4 i fun a=>wc O 110 [a] fun b=>wq (bT 0 b) fun c=>wq (bT 1 b) fun d=>wq (bT 2 b) fun e=>.ok e
def zCx:=zyy O i
def zez(O:Ev.Call):pH:=.ok (iN 0)
def q6j:=cst zez
theorem qxl:q6j=zez:=eY _
def q2g(O:Ev.Call)(a:pD)(b:AV):=wI b a
def zex:=cst q2g
theorem qxk:zex=q2g:=eY _
def q2f:=wd j (b (iN 7)) (zex O c i)
def zvd:=cst q2f
theorem qxj:zvd=q2f:=eY _
def qt4:=wd m (b (iN 6)) (wz 0 fun a=>wn 0 0 a (.val i) fun d=>wn 1 1 a (aY d) fun e=>wn 2 3 a (aP 1 e) fun f=>wo 3 7 a (aT · f) fun g=>wn 4 0 a (.val j) fun h=>wn 5 31 a (kM 2 g none (some h) none) fun n=>wo 6 0 a (dD 2 · k) fun o=>wu 127 (O (.f 65) [n,o]) fun q=>wn 8 255 a (.val q) fun r=>wy <| zvd O b c l r)
def zew:=cst qt4
theorem qrg:zew=qt4:=eY _
def qt3:=wz 0 fun a=>wn 0 0 a (.val i) fun d=>wn 1 1 a (aY d) fun e=>wn 2 3 a (aP 1 e) fun f=>wo 3 7 a (aT · f) fun g=>wn 4 0 a (aP 0 l) fun h=>wo 5 16 a (aT · h) fun n=>wo 6 63 a (qL ⟨(⟨bH⟩:E2).f,none⟩ (iN 0) false · g n) fun o=>wn 7 127 a (ib .eql o (iN 0)) fun q=>wn 8 255 a (.val q) fun r=>wr 9 511 a (aP 1 l) (bI false r) fun s=>ws 10 1023 a (aT · s) (bI false r) fun t=>wr 11 2047 a (fO (mJ .neq).f t (.str 0 0)) (bI false r) fun u=>wr 12 4095 a (.val u) (bI false r) fun v=>wr 13 8191 a (.val i) (wv v) fun x=>wr 14 8191 a (aP 0 l) (wv v) fun y=>ws 15 24575 a (aT · y) (wv v) fun z=>wr 16 8191 a (aP 1 l) (wv v) fun A=>ws 17 73727 a (aT · A) (wv v) fun B=>wt 262143 (O (.f 111) [x,z,B]) (wv v) fun C=>wr 19 524287 a (mF false ((⟨E2.f ⟨qpp⟩⟩:E2).f C (.cK))) (wv v) fun D=>wr 20 1048575 a (eD v D (.bool false)) (bI false r) fun E=>wn 21 2097151 a (eD r (.bool true) E) fun F=>wn 22 4194303 a (.val F) fun G=>wy <| zew O b c j k l m G
def zev:=cst qt3
theorem qrf:zev=qt3:=eY _
def qt5:=wq (aH 2 k l) fun a=>wA 2 a fun d=>wN [.str 0 0,.str 0 0] fun e=>wT 2 e d <| zev O b c i j l e l
def zey:=cst qt5
theorem qri:zey=qt5:=eY _
def ze0:=wq (ib .lss A l) fun a=>wd a (zey O b x i j k A) (d)
def qrh:=iC (ze0 O b d i j k l)
def zve:=qrh O b d i j k l dM
def qt2:=zve O .ok (q6j O) i j k l m
def zeu:=cst qt2
theorem qre:zeu=qt2:=eY _
def zyx:=wq (aY j) fun a=>wF 1 a fun b=>wq (aD b) fun c=>zeu O i j b c (iN 0)
def zCy:=zyx O i j
def zvb(O:Ev.Call)(a:AV):pH:=.ok (.aX [a,(iN 0)])
def zer(O:Ev.Call)(a:AV->pD)(b c:AV):=wI c fun d=>a b d
def q2d:=wg (bI false i) (aP 0 j) fun b=>wG (bI false i) (aT · b) fun c=>wg (bI false i) (ib .eql c (.int .u8 (.ofNat 1))) fun d=>wq (eD i (.bool true) d) fun e=>zer O a e k
def zes:=wq (aH 5 l m) fun b=>wA 5 b fun c=>wN [.int .u8 (.ofNat 0),.str 0 0,.str 0 0,.aA,.bool false] fun d=>wT 5 d c <| wF 0 d fun e=>wq (ib .eql e (.int .u8 (.ofNat 2))) fun f=>wg (bI false f) (aP 0 d) fun h=>wG (bI false f) (aT · h) fun n=>wg (bI false f) (ib .eql n (.int .u8 (.ofNat 3))) fun o=>wq (eD f (.bool true) o) fun q=>wg (wv q) (.val i) fun r=>wg (wv q) (.val j) fun s=>wg (wv q) (aP 1 d) fun t=>wG (wv q) (aT · t) fun u=>wx (wv q) (O (.f 111) [r,s,u]) fun v=>wg (wv q) (mF false ((⟨E2.f ⟨qpp⟩⟩:E2).f v (.cK))) fun x=>wq (eD q x (.bool false)) fun y=>wd y (a k (iN 6)) (wF 0 d fun z=>wq (ib .eql z (.int .u8 (.ofNat 3))) fun A=>wg (wv A) (.val i) fun B=>wg (wv A) (.val j) fun C=>wg (wv A) (aP 1 d) fun D=>wG (wv A) (aT · D) fun E=>wg (wv A) (aP 2 d) fun F=>wG (wv A) (aT · F) fun G=>wx (wv A) (O (.f 112) [B,C,E,G]) fun I=>wg (wv A) (aD I) fun J=>wg (wv A) (ib .eql J (iN 0)) fun K=>wq (eD A K (.bool false)) fun L=>wd L (a k (iN 11)) (q2d O g k d m))
def zet:=wq (ib .lss B l) fun c=>wd c (zes O a y i j A k B) (b A)
def qxi:=oU (zet O a b i j k l)
def zvc:=qxi O a b i j k l dM
def zyw:=wq (aD k) fun a=>fun H=>zvc O (fun b c H=>.ok (.aX [b,c]) H) (zvb O) i j k a (.bool false) (iN 0) H
def zCz:=zyw O i j k
def zyv:=wB 2 i fun a=>wh (fun H=>jT H.nx j) fun b=>wF 1 a fun c=>wc O 166 [c,(.fn 167 [] [b])] fun d=>.ok d
def zDa:=zyv O i j
def qnl(O:Ev.Call):pH:=.ok (iN 0)
def qj8:=wd i (.ok (iN 6)) (qnl O)
def qff:=wq ((l8 .not).f l) fun a=>wG (bI false a) (dD 2 · j) fun b=>wG (bI false a) (dD 2 · k) fun c=>wg (bI false a) (mF true ((⟨E2.f ⟨dQ fun d e=>zJ p1 ⟨qhw⟩ 1 d e 2 0⟩⟩:E2).f b c)) fun f=>wq (eD a (.bool true) f) fun g=>wd g (.ok (iN 5)) (wq (aY i) fun h=>wF 0 h fun m=>wq (ib .eql m (.int .u8 (.ofNat 3))) fun n=>wg (wv n) (.val i) fun o=>wg (wv n) (aY o) fun q=>wg (wv n) (aP 2 q) fun r=>wG (wv n) (aT · r) fun s=>wx (wv n) (O (.f 170) [s]) fun t=>wg (wv n) ((l8 .not).f t) fun u=>wq (eD n u (.bool false)) fun v=>wd v (qj8 O v) (wq (aY i) fun x=>wF 0 x fun y=>wq (ib .eql y (.int .u8 (.ofNat 2))) fun z=>wg (bI false z) (.val i) fun A=>wg (bI false z) (aY A) fun B=>wg (bI false z) (aP 0 B) fun C=>wG (bI false z) (aT · C) fun D=>wg (bI false z) (ib .eql D (.int .u8 (.ofNat 3))) fun E=>wq (eD z (.bool true) E) fun F=>wg (wv F) (.val i) fun G=>wg (wv F) (aY G) fun I=>wg (wv F) (aP 1 I) fun J=>wG (wv F) (aT · J) fun K=>wx (wv F) (O (.f 170) [K]) fun L=>wg (wv F) ((l8 .not).f L) fun M=>wq (eD F M (.bool false)) fun N=>qj8 O N))
def q2c:=wd n (wq (ib .geq l (iN 2)) fun a=>qff O i j k a) (wq (ib .eql m (.int .u8 (.ofNat 6))) fun b=>wd b (wq (ib .eql l (iN 2)) fun c=>qff O i j k c) (.ok (iN 10)))
def zyu:=wz 13 fun a=>wn 0 0 a (.val i) fun b=>wn 1 1 a (aY b) fun c=>wn 2 3 a (aP 1 c) fun d=>wo 3 7 a (aT · d) fun e=>wn 4 15 a (fO (mJ .neq).f e (.str 0 0)) fun f=>wn 5 0 a (.val i) fun g=>wn 6 32 a (aY g) fun h=>wn 7 96 a (aP 2 h) fun j=>wo 8 224 a (aT · j) fun k=>wn 9 480 a (fO (mJ .neq).f k (.str 0 0)) fun l=>wn 10 1023 a (bR (bK [.bool false,.bool false] [(0,1,f),(1,1,l)])) fun m=>wa 11 0 a (.new (.ptr (a+11) 0) (aB 0 [.bool false,.bool false])) fun n=>wu 4095 (xV 2 · n m) fun _=>wy <| wq (bR (bK [.bool false,.bool false] [])) fun o=>wN [.bool false,.bool false] fun q=>wT 2 q o <| wq (aY i) fun r=>wF 3 r fun s=>wq (aD s) fun t=>wq (ib .eql t (iN 0)) fun u=>wq (aY i) fun v=>wF 0 v fun x=>wq (ib .eql x (.int .u8 (.ofNat 1))) fun y=>wd y (qff O i n q u) (wq (ib .eql x (.int .u8 (.ofNat 2))) fun z=>wd z (wq (fQ 2 1 n (iN 0)) fun A=>w1 A fun B=>wq (bR (bK [.bool false,.bool false] [(0,1,B),(1,1,(.bool false))])) fun C=>wT 2 q C <| qff O i n q u) (wq (ib .eql x (.int .u8 (.ofNat 3))) fun D=>wd D (wA 2 n fun E=>wT 2 q E <| qff O i n q u) (wq (ib .eql x (.int .u8 (.ofNat 4))) fun F=>wd F (q2c O i n q t x F) (wq (ib .eql x (.int .u8 (.ofNat 5))) fun G=>q2c O i n q t x G))))
def zDb:=zyu O i
def zyt(O:Ev.Call)(a:AV):=wq (ib .neq a a) fun b=>.ok b
def zDc:=zyt O i
def zys(O:Ev.Call)(a b:AV):=wq (aY a) fun c=>wF 1025 c fun d=>wI d fun e=>wq (aY a) fun f=>wq (aP 1025 f) fun g=>wU g e <| wz 0 fun h=>wn 0 0 h (.val a) fun i=>wn 1 0 h (.val b) fun j=>wn 2 0 h (.val a) fun k=>wn 3 0 h (.val b) fun l=>wn 4 0 h (.val a) fun m=>wn 5 0 h (.val b) fun n=>wn 6 0 h (.val a) fun o=>wn 7 64 h (aY o) fun q=>wn 8 192 h (aP 1025 q) fun r=>wo 9 448 h (aT · r) fun s=>wn 10 0 h (.val a) fun t=>wn 11 1024 h (aY t) fun u=>wn 12 3072 h (aP 1025 u) fun v=>wo 13 7168 h (aT · v) fun x=>wn 14 1 h (aY i) fun y=>wn 15 16385 h (aP 256 y) fun z=>wn 16 65475 h (fQ 256 1 z j) fun A=>wn 18 4 h (aY k) fun B=>wn 19 262148 h (aP 512 B) fun C=>wn 22 16 h (aY m) fun D=>wn 23 4194320 h (aP 768 D) fun E=>wu 131011 (kL · A s) fun _=>wn 20 1048527 h (fQ 256 1 C l) fun F=>wu 2097103 (kL · F x) fun _=>wn 24 16777215 h (fQ 256 1 E n) fun G=>wu 33554431 (kL · G (.bool true)) fun _=>wy <| wq (aY a) fun I=>wF 1024 I fun J=>wS 1 (bK (aV [iN 0] 1) [(0,1,b)]) fun K=>wP 1 8 J K fun L=>wq (aY a) fun M=>wq (aP 1024 M) fun N=>wU N L <| .ok (.aX [])
def zDd:=zys O i j
def q2a(O:Ev.Call)(a b c:AV):=wq (aY a) fun d=>wF 1024 d fun e=>wq (kM 1 e none (some b) none) fun f=>wq (aY a) fun g=>wq (aP 1024 g) fun h=>wU h f <| wq (aY a) fun i=>wF 1026 i fun j=>wS 1 (bK (aV [.aA] 1) [(0,1,c)]) fun k=>wP 1 24 j k fun l=>wq (aY a) fun m=>wq (aP 1026 m) fun n=>wU n l <| .ok (.aX [])
def zep(O:Ev.Call)(a:pD)(b:AV):=wI b a
def zeo:=wq (aH 1 j k) fun a=>w1 a fun c=>wq (aY i) fun d=>wq (aP 768 d) fun e=>wq (fQ 256 1 e c) fun f=>wU f (.bool false) <| zep O b k
def q2b:=wq (ib .lss A k) fun a=>wd a (zeo O x i j A) (d)
def qt1:=iC (q2b O d i j k)
def zeq:=qt1 O d i j k dM
def zen:=wq (aY i) fun a=>wF 1024 a fun b=>wc O 211 [b,j] fun c=>wq (aY i) fun d=>wF 1024 d fun e=>wq (kM 1 e (some c) none none) fun f=>wc O 213 [f] fun g=>wc O 212 [g] fun h=>wq (aD h) fun k=>zeq O (q2a O i c h) i h k (iN 0)
def zpc:=wl (aY i) fun a=>wl (aP 512 a) fun b=>wl (fQ 256 1 b j) fun c=>wL (aT · c) fun d=>wl (aY i) fun e=>wl (aP 256 e) fun f=>wl (fQ 256 1 f j) fun g=>wL (aT · g) fun h=>wl (ib .lss d h) fun k=>wd k (.ok (.aX [])) (zen O i j)
def zDe:=zpc O i j
def zyq:=wB 6 i fun a=>wq (aP 2 a) fun b=>wA 4 b fun c=>wc O 85 [c] fun d=>wq (bT 0 d) fun e=>wq (bT 1 d) fun f=>wc O 168 [e,(.fn 169 [] [j])] fun g=>.ok g
def zDg:=zyq O i j
def zyp:=wc O 198 [i,j] fun a=>wq (ib .geq a (iN 0)) fun b=>.ok b
def zDh:=zyp O i j
def zu9(O:Ev.Call):pH:=.ok (.int .i64 (.negSucc 0))
def zu8(O:Ev.Call)(a:pD)(b:AV):=wI b a
def zu7:=wq (aH 1 i k) fun a=>w1 a fun d=>wq (ib .eql j d) fun e=>wd e (b k) (zu8 O c k)
def zem:=wq (ib .lss A k) fun a=>wd a (zu7 O b x i j A) (d)
def q6i:=iC (zem O b d i j k)
def zva:=q6i O b d i j k dM
def zyo:=wq (aD i) fun a=>zva O .ok (zu9 O) i j a (iN 0)
def zDj:=zyo O i j
def zyn(O:Ev.Call)(a:AV):=wh (fun H=>jT H.nx a) fun b=>.ok (.fn 227 [] [b])
def zDk:=zyn O i
def z4d:=wc O 226 [i] fun a=>wc O 122 [a] fun b=>.ok a
def zDl:=z4d O i
def zyl(O:Ev.Call)(a b:AV):=wB 5 a fun c=>wF 0 c fun d=>wq (ib .eql d (.int .u8 (.ofNat 3))) fun e=>wg (wv e) (aP 1 c) fun f=>wG (wv e) (aT · f) fun g=>wG (wv e) (aT · b) fun h=>wg (wv e) (fO (mJ .eql).f g h) fun i=>wq (eD e i (.bool false)) fun j=>.ok j
def zDn:=zyl O i j
def zyk:=wc O 199 [i,j] fun a=>wq (ib .geq a (iN 0)) fun b=>.ok b
def zDo:=zyk O i j
def zeh(O:Ev.Call):pH:=.ok (.int .i64 (.negSucc 0))
def zu3(O:Ev.Call)(a:pD)(b:AV):=wI b a
def zu1:=wq (aH 6 i k) fun a=>wA 6 a fun d=>we (uG O j [d]) fun e=>wd e (b k) (zu3 O c k)
def zei:=wq (ib .lss A k) fun a=>wd a (zu1 O b x i j A) (d)
def q6g:=iC (zei O b d i j k)
def zu4:=q6g O b d i j k dM
def zyj:=wq (aD i) fun a=>zu4 O .ok (zeh O) i j a (iN 0)
def zDp:=zyj O i j
def zuz(O:Ev.Call)(a:pD)(b:AV):=wI b a
def zef:=wq (aH 1 j k) fun a=>w1 a fun b=>we (uG O i [b]) fun c=>wq ((l8 .not).f c) fun e=>wd e (d) (zuz O f k)
def zeg:=wq (ib .lss A k) fun a=>wd a (zef O d x i j A) (e)
def q6f:=iC (zeg O d e i j k)
def zu0:=q6f O d e i j k dM
def zyi:=w1 j fun a=>wq (aD a) fun b=>zu0 O (.ok (.aX [])) (.ok (.aX [])) i a b (iN 0)
def zDq:=zyi O i j
def z4c:=wc O 231 [(.aA),i] fun a=>.ok a
def zDr:=z4c O i
def zed(O:Ev.Call):pH:=.ok (.int .i64 (.negSucc 0))
def zec(O:Ev.Call)(a:pD)(b:AV):=wI b a
def zux:=wq (aH 5 i k) fun a=>wA 5 a fun d=>we (uG O j [d]) fun e=>wd e (b k) (zec O c k)
def zee:=wq (ib .lss A k) fun a=>wd a (zux O b x i j A) (d)
def qxh:=iC (zee O b d i j k)
def zuy:=qxh O b d i j k dM
def zyh:=wq (aD i) fun a=>zuy O .ok (zed O) i j a (iN 0)
def zDs:=zyh O i j
end
end Go.Di
end
