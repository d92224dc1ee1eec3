/-
 For ReachesElse: functions in direct style, their contracts, and the plain mathematics, part 2 of 7. No conditions beyond those that each theorem states.
-/
import Derived.Test.YtfkgaaibbfcaoaaGreatConA
set_option linter.all false
noncomputable section
namespace Go.Di
open Go.Ev
def cst{α:Type}(a:α):α:=Classical.choose (⟨a,rfl⟩:∃f,f=a)
variable (O:Ev.Call)
def cK{α:Type}(a:α):{b:α // b=a}:=Classical.choice ⟨⟨a,rfl⟩⟩
def kA{α:Type}(a:α):α:=(cK a).1
theorem kE{α:Type}(a:α):kA a=a:=(cK a).2
section
variable (a:AV->pD)(b c:pD)(d e:pH)(f:pD)(g:AV->pD)(h:AV->AV->pD)(i j k l m n o q r s t u v:AV)(x:pD)(y:AV->pD)(z:AV->AV->pD)(A B C D E F:AV)
def J0:=wz 0 λa=>wo 0 0 a (bW 1 · j) λb=>wn 1 0 a (.val k) λc=>wu 2 (O (.f 52) [c]) λd=>wu 7 (yI 1 · i b) λ_=>wn 4 15 a (.val d) λe=>wy <| λH=>dJ (dY (dU (rV (bW 1 H i)) (dU (some e) (some [])))) H
def lB(O:Ev.Call)(a:AV->pD)(b c:AV):=wI c λd=>a b d
def Oq:=wz 13 λb=>wo 0 0 b (bW 1 · j) λc=>wn 1 0 b (aL 1 i) λd=>wo 2 2 b (aR · d) λe=>wn 3 0 b (.val l) λf=>wn 4 14 b (aG 4 e f) λg=>wo 5 30 b (bW 4 · g) λh=>wa 10 0 b (.new (.ptr (b+10) 0) (aB 0 [zS,zS,zS,zS,zS,zS])) λm=>wu 63 (O (.f 51) [c,h]) λn=>wn 7 127 b (.val n) λo=>wn 8 255 b (aT 0 o) λq=>wn 9 255 b (aT 1 o) λr=>wu 1535 (yI 6 · m q) λ_=>wn 12 4095 b (.val r) λs=>wy <| wd s (wA 6 m λt=>wQ 1 (bK (aU [zS,zS,zS,zS,zS,zS] 1) [(0,6,t)]) λu=>wP 6 96 k u λv=>lB O a v l) (lB O a k l)
def J1:=wF 1 i λa=>wq (aD a) λc=>wq (ib .lss B c) λd=>wg (wv d) (.val B) λe=>wg (wv d) (ib .lss e (iN 20)) λf=>wq (dQ d f (.bool false)) λg=>wd g (Oq O y i j A B) (b A)
def GQ:=jX (J1 O b i j)
def WK:=wB 2 i λa=>wN [.aA] λb=>wq (aL 0 a) λc=>wA 1 c λd=>wc O 50 [d] λe=>wN [.aA] λf=>wT 1 f e <| GQ O (J0 O b f) a f bZ (.aA) (iN 0)
def V9:=wB 1 i λa=>wN [.aA,.aA,.aA,.aA,.aA] λb=>wA 1 a λc=>wc O 27 [c] λd=>wc O 53 [d] λe=>wq (aT 0 e) λf=>wq (aT 1 e) λg=>wz 0 λh=>wo 0 0 h (bW 1 · a) λk=>wn 1 0 h (.val j) λl=>wo 2 0 h (bW 1 · a) λm=>wn 4 0 h (.val f) λn=>wo 5 0 h (bW 1 · a) λo=>wn 6 0 h (.val j) λq=>wu 4 (O (.f 28) [m]) λr=>wu 108 (O (.f 54) [o,q]) λs=>wn 8 255 h (bJ (bK [.aA,.aA,.aA,.aA,.aA] [(0,1,k),(1,1,l),(2,1,r),(3,1,n),(4,1,s)])) λt=>wu 511 (yI 5 · b t) λ_=>wy <| λH=>dJ (rV (bW 5 H b)) H
def mc(O:Ev.Call)(a b:AV):pH:=.ok (.aX [a,b])
def Zg(O:Ev.Call)(a:AV->AV->pD)(b c d:AV):=wI d λe=>a b c e
def vM(O:Ev.Call)(a:AV->pD)(b c:AV):=wI c λd=>a b d
def N3:=wq (aG 3 j k) λb=>wA 3 b λc=>wc O 87 [i,c] λd=>wq (ib .lss d (iN 0)) λe=>wd e (wq (aG 3 j k) λf=>wA 3 f λg=>wQ 1 (bK (aU [zS,zS,zS] 1) [(0,3,g)]) λh=>wP 3 48 i h λl=>vM O a l k) (vM O a i k)
def Js:=wq (aD i) λa=>wq (ib .lss B a) λc=>wd c (N3 O y A i B) (b A)
def B0:=jX (Js O b i)
def Zh:=wz 0 λa=>wo 0 0 a (bW 5 · i) λb=>wn 1 0 a (.val j) λc=>wn 2 0 a (.val l) λd=>wn 3 6 a (aG 3 c d) λe=>wo 4 14 a (bW 3 · e) λf=>wu 31 (O (.f 86) [b,f]) λg=>wn 6 63 a (.val g) λm=>wy <| wq (aD m) λn=>wq (ib .add k n) λo=>λH=>B0 O (λj H=>Zg O h j o l H) m bZ j (iN 0) H
def N4:=wq (aD A) λb=>wq (ib .lss C b) λc=>wd c (Zh O z i A B C) (a A B)
def CD:=nC (N4 O a i)
def V8:=wB 5 i λa=>wB 3 j λb=>wA 3 b λc=>wQ 1 (bK (aU [zS,zS,zS] 1) [(0,3,c)]) λd=>CD O (mc O) a bZ d (iN 0) (iN 0)
def N2:=wA 2 j λa=>wA 3 i λb=>wc O 90 [a,b] λc=>wq (aT 0 c) λd=>wq (aT 1 c) λe=>.ok (.aX [d,(iN 0)])
def Zf:=wF 0 j λa=>wA 3 i λb=>wc O 107 [a,b] λc=>wq ((kF .not).f c) λd=>wd d (.ok (.aX [(.aA),(iN 6)])) (N2 O i j)
def V7:=wB 1 i λa=>wB 3 k λb=>wA 1 a λc=>wc O 88 [c,j] λd=>wq (aT 0 d) λe=>wq (aT 1 d) λf=>wN [.bQ,.bU] λg=>wT 2 g e <| wq (ib .neq f (iN 0)) λh=>wd h (.ok (.aX [(.aA),f])) (Zf O b g)
def gV(O:Ev.Call)(a:AV):pH:=.ok a
def oK(O:Ev.Call)(a:AV->pD)(b c:AV):=wI c λd=>a b d
def yn(O:Ev.Call)(a:AV->pD)(b c:AV):=wI c λd=>a b d
def xp:=wl (aL 0 n) λb=>wL (bW 3 · b) λc=>wl (aL 0 i) λd=>wL (bW 2 · d) λe=>wl (aG 5 k l) λf=>wl (aL 1 f) λg=>wL (aR · g) λh=>wl (bJ (bK [zS,zS,zS] [(0,2,e),(2,1,h)])) λq=>wl (iQ false ((⟨E2.f ⟨dL (eqFields [((pA 2),⟨dL (eqFields [(p1,⟨bH⟩,0),(p1,⟨bH⟩,1)])⟩,0),(p1,⟨bH⟩,2)])⟩⟩:E2).f c q)) λr=>wm (wv r) (aL 3 n) λs=>wm (wv r) (aL 2 s) λt=>wM (wv r) (aR · t) λu=>wm (wv r) (eF (lQ .eql).f u zS) λv=>wl (dQ r v (.bool false)) λx=>wm (wv x) (aL 3 n) λy=>wm (wv x) (aL 0 y) λz=>wm (wv x) (aL 0 z) λA=>wM (wv x) (aR · A) λB=>wm (wv x) (.val m) λC=>wm (wv x) (.val o) λD=>wm (wv x) (aG 1 C D) λE=>wM (wv x) (aR · E) λF=>wm (wv x) (eF (lQ .eql).f B F) λG=>wl (dQ x G (.bool false)) λI=>wd I (λH=>dz 13 H λJ H =>   dn 0 0 J H [] [] (.val j) λK H p w =>   dn 1 0 J H p w (aL 3 n) λL H p w =>   dn 2 2 J H p w (aL 0 L) λM H p w =>   dl 3 6 J H p w (λH=>bW 2 H M) λN H p w =>   dn 4 0 J H p w (.val k) λP H p w =>   dn 5 0 J H p w (.val l) λQ H p w =>   dn 6 48 J H p w (aG 5 P Q) λR H p w =>   dn 7 112 J H p w (aL 2 R) λS H p w =>   dl 8 240 J H p w (λH=>aR H S) λT H p w =>   dn 9 510 J H p w (bJ (bK [zS,zS,zS] [(0,2,N),(2,1,T)])) λU H p w =>   da 10 1022 J H p w (sQ 1 (J+10) (bK (aU [zS,zS,zS] 1) [(0,3,U)])) λV H p w =>   de 2047 H p w (jD 3 48 (eB 2047 p H) K (nP 3 (eB 2047 p H) V)) (some true) λW H p w =>   dn 12 4095 J H p w (.val W) λX H p w =>   zG p H λH =>   yn O a X o H) (yn O a j o)
def Jp:=wq (aD l) λa=>wq (ib .lss B a) λc=>wg (wv c) (.val j) λd=>wg (wv c) (.val k) λe=>wg (wv c) (aG 5 d e) λf=>wg (wv c) (aL 0 f) λg=>wG (wv c) (aR · g) λh=>wg (wv c) (ib .eql h (uN 3)) λn=>wq (dQ c n (.bool false)) λo=>wd o ((kA xp) O y i A j k l m B) (b A)
def ja:=jX (Jp O b i j k l m)
def lj(a:AV->pD)(b c d e f g h:AV)(H:Hp):R1:=ja O (λc H=>oK O a c g H) b d e f h bZ c (iN 0) H
def v8:=wF 1 i λb=>wq (aG 6 b o) λc=>wA 6 c λd=>wN [zS,zS,zS,zS,zS,zS] λe=>wT 6 e d <| wq (aG 5 l m) λf=>wF 0 f λg=>wq (ib .eql g (uN 1)) λh=>wg (wv h) (aL 0 e) λq=>wG (wv h) (bW 3 · q) λr=>wG (wv h) (bW 3 · j) λs=>wg (wv h) (iQ false ((⟨E2.f ⟨dL (eqFields [((pA 2),⟨dL (eqFields [(p1,⟨bH⟩,0),(p1,⟨bH⟩,1)])⟩,0),(p1,⟨bH⟩,2)])⟩⟩:E2).f r s)) λt=>wq (dQ h t (.bool false)) λu=>wg (wv u) (aL 3 e) λv=>wg (wv u) (aL 2 v) λx=>wG (wv u) (aR · x) λy=>wg (wv u) (eF (lQ .neq).f y zS) λz=>wq (dQ u z (.bool false)) λA=>wd A (wq (aL 3 e) λB=>wq (aL 0 B) λC=>wA 2 C λD=>wq (aL 3 e) λE=>wF 2 E λF=>wq (bJ (bK [zS,zS,zS] [(0,2,D),(2,1,F)])) λG=>wQ 1 (bK (aU [zS,zS,zS] 1) [(0,3,G)]) λI=>wP 3 48 k I λJ=>(kA lj) O a j J l m n o e) ((kA lj) O a j k l m n o e)
def Jq:=wF 1 i λa=>wq (aD a) λc=>wq (ib .lss B c) λd=>wd d ((kA v8) O y i j A k l m B) (b A)
def cC:=jX (Jq O b i j k l m)
def nK:=wz 0 λb=>wn 0 0 b (aL 0 i) λc=>wo 1 1 b (bW 1 · c) λd=>wn 2 0 b (aL 0 j) λe=>wn 3 4 b (aL 0 e) λf=>wo 4 12 b (aR · f) λg=>wn 5 0 b (.val l) λh=>wn 6 0 b (.val m) λn=>wn 7 96 b (aG 5 h n) λo=>wn 8 224 b (aL 1 o) λq=>wo 9 480 b (aR · q) λr=>wn 10 0 b (.val l) λs=>wn 11 0 b (.val m) λt=>wn 12 3072 b (aG 5 s t) λu=>wn 13 7168 b (aL 2 u) λv=>wo 14 15360 b (aR · v) λx=>wu 32767 (O (.f 78) [d,g,r,x]) λy=>wn 16 65535 b (.val y) λz=>wy <| λH=>cC O (λk H=>vM O a k m H) i j l m z bZ k (iN 0) H
def v7:=wq (aG 5 l m) λb=>wF 0 b λc=>wq (ib .eql c (uN 2)) λd=>wd d (λH=>dz 12 H λe H =>   dn 0 0 e H [] [] (.val k) λf H p w =>   dn 1 0 e H p w (aL 0 j) λg H p w =>   dl 2 2 e H p w (λH=>bW 2 H g) λh H p w =>   dn 3 0 e H p w (.val l) λn H p w =>   dn 4 0 e H p w (.val m) λo H p w =>   dn 5 24 e H p w (aG 5 n o) λq H p w =>   dn 6 56 e H p w (aL 1 q) λr H p w =>   dl 7 120 e H p w (λH=>aR H r) λs H p w =>   dn 8 254 e H p w (bJ (bK [zS,zS,zS] [(0,2,h),(2,1,s)])) λt H p w =>   da 9 510 e H p w (sQ 1 (e+9) (bK (aU [zS,zS,zS] 1) [(0,3,t)])) λu H p w =>   de 1023 H p w (jD 3 48 (eB 1023 p H) f (nP 3 (eB 1023 p H) u)) (some true) λv H p w =>   dn 11 2047 e H p w (.val v) λx H p w =>   zG p H λH =>   kA nK O a i j x l m H) ((kA nK) O a i j k l m)
def Jr:=wq (aD k) λa=>wq (ib .lss B a) λc=>wd c ((kA v7) O y i j A k B) (b A)
def uG:=jX (Jr O b i j k)
def V6:=wB 5 i λa=>wB 3 j λb=>wq (aL 0 a) λc=>wA 1 c λd=>wq (aL 0 b) λe=>wF 0 e λf=>wF 2 b λg=>wc O 30 [d,f,g] λh=>wq (aT 0 h) λk=>wq (aT 1 h) λl=>wN [zS,.aA,uN 0,zS,zS,.aA] λm=>wT 6 m k <| wq (aL 2 m) λn=>wA 4 n λo=>wc O 76 [(.aA),o,(.bool false)] λq=>uG O (gV O) a b q bZ (.aA) (iN 0)
def zw9(O:Ev.Call):pH:=.ok (.bool true)
def jg(O:Ev.Call)(a:pD)(b:AV):=wI b a
def zw8:=wl (aG 3 i k) λa=>wL (bW 3 · a) λd=>wl (aG 3 j k) λe=>wL (bW 3 · e) λf=>wl (iQ true ((⟨E2.f ⟨dL (eqFields [((pA 2),⟨dL (eqFields [(p1,⟨bH⟩,0),(p1,⟨bH⟩,1)])⟩,0),(p1,⟨bH⟩,2)])⟩⟩:E2).f d f)) λg=>wd g (b (.bool false)) (jg O c k)
def Ze:=wq (aD j) λa=>wq (ib .lss A a) λc=>wd c (zw8 O b x i j A) (d)
def D5:=fM (Ze O b d i j)
def N1:=D5 O .ok (zw9 O) i j bZ (iN 0)
def V5:=wq (ib .neq j l) λa=>wg (bI false a) (.val i) λb=>wg (bI false a) (aD b) λc=>wg (bI false a) (.val k) λd=>wg (bI false a) (aD d) λe=>wg (bI false a) (ib .neq c e) λf=>wq (dQ a (.bool true) f) λg=>wg (bI false g) (.val i) λh=>wg (bI false g) (dX h) λm=>wg (bI false g) (.val i) λn=>wg (bI false g) (aD n) λo=>wg (bI false g) (ib .neq m o) λq=>wq (dQ g (.bool true) q) λr=>wd r (.ok (.bool false)) (N1 O i k)
def oR(O:Ev.Call)(a b:AV):=wA 1 b λc=>wT 1 a c <| λH=>dJ (rV (bW 1 H a)) H
def w9(O:Ev.Call)(a:pD)(b:AV):=wI b a
def iS(O:Ev.Call)(a:pD)(b:AV):=wI b a
def Bx:=wq ((kF .not).f k) λa=>wd a (wq (aG 6 i j) λc=>wq (aL 1 c) λd=>wU d (.aA) <| (kA iS) O b j) ((kA iS) O b j)
def lx(O:Ev.Call)(a:AV->pD)(b c:AV):=wI c λd=>a b d
def Gt:=wz 0 λb=>wn 0 0 b (.val k) λc=>wn 1 1 b (.val c) λd=>wr 2 3 b (.val i) (bI false d) λe=>wr 3 3 b (.val l) (bI false d) λf=>wr 4 15 b (aG 6 e f) (bI false d) λg=>wr 5 31 b (aL 2 g) (bI false d) λh=>ws 6 63 b (bW 4 · h) (bI false d) λm=>wr 7 3 b (.val i) (bI false d) λn=>wr 8 3 b (.val j) (bI false d) λo=>wr 9 387 b (aG 6 n o) (bI false d) λq=>wr 10 899 b (aL 0 q) (bI false d) λr=>ws 11 1923 b (aR · r) (bI false d) λs=>wt 4095 (O (.f 117) [m,(uN 3),s]) (bI false d) λt=>wn 13 8191 b (dQ d (.bool true) t) λu=>wn 14 16383 b (.val u) λv=>wy <| (kA lx) O a v l
def Gn:=wd m ((kA Gt) O a i j k l) (b k)
def OQ:=(cK Gn).1
theorem TH:OQ=Gn:=(cK Gn).2
def KZ:=wq (aD i) λa=>wq (ib .lss B a) λc=>OQ O y b i j A B c
def BT:=jX (KZ O b i j)
def Gm:=BT O (kA Bx O b i j) i j bZ k (iN 0)
def zi0:=(cK Gm).1
theorem TG:zi0=Gm:=(cK Gm).2
def Gr:=wq (aG 6 i j) λa=>wq (aL 2 a) λc=>wA 4 c λd=>wc O 117 [d,(uN 1),zS] λe=>zi0 O b i j e
def Gk:=wd k ((kA Gr) O b i j) (d)
def ziz:=(cK Gk).1
theorem TF:ziz=Gk:=(cK Gk).2
def K0:=wq (aD i) λa=>wq (ib .lss A a) λb=>ziz O x d i A b
def Cm:=fM (K0 O d i)
def Gj:=Cm O (kA w9 O b i) j bZ (iN 0)
def ziy:=(cK Gj).1
theorem Tq:ziy=Gj:=(cK Gj).2
def Gq:=wF 0 i λa=>wq (aG 2 a j) λc=>wF 1 c λd=>ziy O b j d
def Gi:=wd k ((kA Gq) O b i j) (d)
def zix:=(cK Gi).1
theorem Tp:zix=Gi:=(cK Gi).2
def K1:=wF 0 i λa=>wq (aD a) λb=>wq (ib .lss A b) λc=>zix O x d i A c
def yW:=fM (K1 O d i)
def tQ:=yW O (kA oR O i j) j bZ (iN 1)
def Gp(O:Ev.Call)(a:pD)(b:AV):=wI b a
def Gh(a:pD)(b c d e:AV)(H:Hp):R1:=dz 17 H λf H=>dn 0 0 f H [] [] (.val e) λg H p w=>dn 1 0 f H p w (.val e) λh H p w=>dn 2 2 f H p w (aW h) λi H p w=>dn 3 6 f H p w (aL 1 i) λj H p w=>dl 4 14 f H p w (λH=>aR H j) λk H p w=>dn 5 0 f H p w (.val c) λl H p w=>dl 7 0 f H p w (λH=>bW 1 H b) λm H p w=>dn 8 0 f H p w (.val c) λn H p w=>dl 10 0 f H p w (λH=>bW 4 H d) λo H p w=>de 32 H p w (O (.f 115) [l] (eB 32 p H)) (some true) λq H p w=>de 480 H p w (O (.f 116) [m,n] (eB 480 p H)) (some true) λr H p w=>dn 11 2016 f H p w (bJ (bK [zS,.aA,uN 0,zS,zS,.aA] [(0,1,q),(1,1,r),(2,4,o)])) λs H p w=>da 12 4064 f H p w (sQ 1 (f+12) (bK (aU [zS,.aA,uN 0,zS,zS,.aA] 1) [(0,6,s)])) λt H p w=>de 8190 H p w (jD 6 104 (eB 8190 p H) k (nP 6 (eB 8190 p H) t)) (some true) λu H p w=>dn 14 16383 f H p w (aW g) λv H p w=>dn 15 32767 f H p w (aL 1 v) λx H p w=>de 65535 H p w (kL (eB 65535 p H) x u) (some true) λ_ H p w=>zG p H λH=>(kA Gp) O a c H
def ziw:=(cK Gh).1
theorem To:ziw=Gh:=(cK Gh).2
def Gg:=wF 0 j λa=>wq (ib .quo k (iN 4)) λc=>wq (ib .add (iN 1) c) λd=>wq (aG 2 a d) λe=>ziw O b i k l e
def ziv:=(cK Gg).1
theorem Tn:ziv=Gg:=(cK Gg).2
def oc:=wA 1 i λa=>wc O 114 [a,k,(iN 2),(iN 1),(.bool false)] λc=>wq (aT 0 c) λd=>wq (aT 1 c) λe=>wN [uN 0,zS,zS,.aA] λf=>wT 4 f d <| ziv O b i j k f
def tA:=wq (ib .rem k (iN 4)) λa=>wq (ib .eql a (iN 0)) λc=>wd c (λH=>dz 10 H λd H =>   dn 0 0 d H [] [] (aL 0 j) λe H p w =>   dl 1 1 d H p w (λH=>aR H e) λf H p w =>   dn 2 0 d H p w (.val k) λg H p w =>   dn 3 4 d H p w (ib .quo g (iN 4)) λh H p w =>   de 12 H p w (O (.f 113) [h] (eB 12 p H)) (some true) λl H p w =>   dn 5 28 d H p w (bJ (bK [zS,.aA] [(0,1,l)])) λm H p w =>   da 6 60 d H p w (sQ 1 (d+6) (bK (aU [zS,.aA] 1) [(0,2,m)])) λn H p w =>   de 127 H p w (jD 2 40 (eB 127 p H) f (nP 2 (eB 127 p H) n)) (some true) λo H p w =>   dn 8 255 d H p w (aL 0 j) λq H p w =>   de 511 H p w (kL (eB 511 p H) q o) (some true) λ_ H p w =>   zG p H λH =>   kA oc O b i j k H) ((kA oc) O b i j k)
def Fw:=wd l ((kA tA) O b i j k) (d)
def Rg:=(cK Fw).1
theorem SR:Rg=Fw:=(cK Fw).2
def KY:=wA 1 i λa=>wc O 112 [a] λb=>wq (ib .lss A b) λc=>Rg O x d i j A c
def yO:=fM (KY O d i j)
def Fv:=yO O (kA tQ O j k) i k bZ (iN 0)
def Rf:=(cK Fv).1
theorem SQ:Rf=Fv:=(cK Fv).2
def XT:=wB 1 i λa=>wN [.aA] λb=>wq (bJ (bK [zS,.aA] [(0,1,(.str 4 1919251317))])) λc=>wQ 1 (bK (aU [zS,.aA] 1) [(0,2,c)]) λd=>wq (bJ (bK [.aA] [(0,1,d)])) λe=>wN [.aA] λf=>wT 1 f e <| Rf O a b f
def tN:=wz 13 λa=>wn 0 0 a (aL 1 l) λb=>wo 1 1 a (aR · b) λc=>wn 2 0 a (gP 4 1 i (iN 2)) λd=>wo 3 4 a (aR · d) λe=>wa 4 12 a (io .i64 e) λf=>wn 5 0 a (aL 1 l) λg=>wo 6 32 a (aR · g) λh=>wn 7 96 a (aD h) λm=>wn 8 252 a (ib .rem f m) λn=>wn 9 511 a (aG 2 c n) λo=>wo 10 1023 a (bW 2 · o) λq=>wa 11 0 a (.new (.ptr (a+11) 0) (aB 0 [zS,zS])) λr=>wu 4095 (yI 2 · r q) λ_=>wy <| wz 0 λs=>wn 0 0 s (aL 0 k) λt=>wo 1 1 s (aR · t) λu=>wn 2 0 s (gP 4 1 i (iN 1)) λv=>wo 3 4 s (aR · v) λx=>wn 6 0 s (aL 1 k) λy=>wo 7 64 s (aR · y) λz=>wn 9 0 s (aL 0 r) λA=>wo 10 512 s (aR · A) λB=>wn 11 0 s (gP 4 1 i (iN 3)) λC=>wo 12 2048 s (aR · C) λD=>wn 15 0 s (aL 1 r) λE=>wo 16 32768 s (aR · E) λF=>wu 12 (O (.f 118) [x]) λG=>wn 5 31 s (bJ (bK [zS,zS] [(0,1,u),(1,1,G)])) λI=>wn 8 255 s (bJ (bK [zS,zS,zS] [(0,2,I),(2,1,z)])) λJ=>wu 6172 (O (.f 118) [D]) λK=>wn 14 15900 s (bJ (bK [zS,zS] [(0,1,B),(1,1,K)])) λL=>wn 17 130588 s (bJ (bK [zS,zS,zS] [(0,2,L),(2,1,F)])) λM=>wn 18 262143 s (bJ (bK [zS,zS,zS,zS,zS,zS] [(0,3,J),(3,3,M)])) λN=>wu 524287 (yI 6 · j N) λ_=>wn 20 1048575 s (.val (.bool true)) λP=>wy <| λH=>dJ (dY (dU (rV (bW 6 H j)) (dU (some P) (some [])))) H
def xr:=wq (gP 4 1 j (iN 0)) λa=>w1 a λb=>wq (io .i64 b) λc=>wq (aD l) λd=>wq (ib .rem c d) λe=>wq (aG 2 l e) λf=>wA 2 f λg=>wN [zS,zS] λh=>wT 2 h g <| wA 1 i λm=>wF 0 h λn=>wF 1 h λo=>wc O 30 [m,n,o] λq=>wq (aT 0 q) λr=>wq (aT 1 q) λs=>wN [zS,.aA,uN 0,zS,zS,.aA] λt=>wT 6 t r <| wF 1 t λu=>wq (aD u) λv=>wq (ib .eql v (iN 0)) λx=>wd x (wq (bJ (bK [zS,zS,zS,zS,zS,zS] [])) λy=>wT 6 k y <| λH=>dJ (dY (dU (rV (bW 6 H k)) (dU (some (.bool false)) (some [])))) H) ((kA tN) O j k h t)
def WI:=wB 1 i λa=>wB 4 j λb=>wN [zS,zS,zS,zS,zS,zS] λc=>wA 1 a λd=>wc O 28 [d] λe=>wq (aD e) λf=>wq (ib .eql f (iN 0)) λg=>wd g (wq (bJ (bK [zS,zS,zS,zS,zS,zS] [])) λh=>wT 6 c h <| λH=>dJ (dY (dU (rV (bW 6 H c)) (dU (some (.bool false)) (some [])))) H) ((kA xr) O a b c e)
def ud(O:Ev.Call)(a:AV->pD)(b c:AV):=wI c λd=>a b d
def Ed:=ud O a j i
def JY:=wq ((kF .not).f l) λb=>wd b (wq (aG 6 i j) λc=>wA 6 c λd=>wQ 1 (bK (aU [zS,zS,zS,zS,zS,zS] 1) [(0,6,d)]) λe=>wP 6 96 k e λf=>Ed O a j f) (Ed O a j k)
def Om(O:Ev.Call)(a:AV->AV->pD)(b c d:AV):=wI d λe=>a b c e
def GP:=wq (aG 6 i l) λa=>wA 6 a λb=>wQ 1 (bK (aU [zS,zS,zS,zS,zS,zS] 1) [(0,6,b)]) λc=>wP 6 96 j c λd=>Om O h d k l
def Zz:=wz 0 λa=>wn 0 0 a (.val m) λb=>wn 1 1 a ((kF .not).f b) λc=>wn 2 3 a (.val c) λd=>wr 3 7 a (.val i) (wv d) λe=>wr 4 7 a (.val k) (wv d) λf=>wr 5 31 a (aG 6 e f) (wv d) λg=>ws 6 63 a (bW 6 · g) (wv d) λo=>wr 7 7 a (.val j) (wv d) λq=>wr 8 7 a (.val n) (wv d) λr=>wr 9 391 a (aG 6 q r) (wv d) λs=>ws 10 903 a (bW 6 · s) (wv d) λt=>wt 2047 (O (.f 120) [o,t]) (wv d) λu=>wr 12 4095 a (ib .lss u (iN 0)) (wv d) λv=>wn 13 8191 a (dQ d v (.bool false)) λx=>wy <| wd x (wq (aG 6 i k) λy=>wA 6 y λz=>wQ 1 (bK (aU [zS,zS,zS,zS,zS,zS] 1) [(0,6,z)]) λA=>wP 6 96 l A λB=>GP O h j B (.bool true) n) (GP O h j l m n)
def JZ:=wq (aD j) λb=>wq (ib .lss C b) λc=>wd c (Zz O z i j k A B C) (a A B)
def B6:=nC (JZ O a i j k)
def Zy:=B6 O (JY O a i k) i j k bZ (.aA) (.bool false) (iN 0)
def Zx:=wq (aG 6 i k) λb=>wA 6 b λc=>wc O 119 [j,c] λd=>wq (ib .eql d (iN 1)) λe=>wd e (ud O a j k) (Zy O a i j k)
def On:=wq (aD i) λa=>wq (ib .lss B a) λc=>wd c (Zx O y i A B) (b A)
def CK:=jX (On O b i)
def WH:=CK O (gV O) i bZ (.aA) (iN 0)
def HT(O:Ev.Call)(a b:AV):=wA 2 b λc=>wT 2 a c <| λH=>dJ (rV (bW 2 H a)) H
def yM(O:Ev.Call)(a:pD)(b:AV):=wI b a
def t0(O:Ev.Call)(a:pD)(b:AV):=wI b a
def HQ(O:Ev.Call)(a:pD)(b:AV):=wI b a
def ziq:=wF 1 l λa=>wq (aG 2 a o) λc=>wF 1 c λd=>wq (eF (lQ .neq).f d zS) λe=>wd e (wz 0 λf=>wo 0 0 f (bW 2 · j) λg=>wn 1 0 f (.val k) λh=>wo 2 0 f (bW 1 · i) λq=>wn 3 0 f (aL 1 l) λr=>wo 4 8 f (aR · r) λs=>wn 5 0 f (.val o) λt=>wn 6 56 f (aG 2 s t) λu=>wn 7 120 f (aL 0 u) λv=>wo 8 248 f (aR · v) λx=>wn 9 0 f (aL 1 l) λy=>wo 10 512 f (aR · y) λz=>wn 11 0 f (.val o) λA=>wn 12 3584 f (aG 2 z A) λB=>wn 13 7680 f (aL 1 B) λC=>wo 14 15872 f (aR · C) λD=>wn 16 0 f (.val m) λE=>wn 17 0 f (.val n) λF=>wn 18 196608 f (aG 5 E F) λG=>wn 19 458752 f (aL 4 G) λI=>wo 20 983040 f (aR · I) λJ=>wu 32764 (O (.f 29) [q,x,D]) λK=>wu 2097151 (O (.f 77) [g,h,K,J]) λL=>wy <| HQ O b o) (HQ O b o)
def Kl:=wF 1 l λa=>wq (aD a) λb=>wq (ib .lss A b) λc=>wd c (ziq O x i j k l m n A) (d)
def HP:=fM (Kl O d i j k l m n)
def Re(O:Ev.Call)(a:pD)(b:AV):=wI b a
def Rb:=wz 0 λa=>wo 0 0 a (bW 2 · j) λc=>wn 1 0 a (.val k) λd=>wo 2 0 a (bW 1 · i) λe=>wn 3 0 a (.val n) λf=>wn 4 0 a (.val o) λg=>wn 5 24 a (aG 1 f g) λh=>wo 6 56 a (aR · h) λq=>wn 7 0 a (.val l) λr=>wn 8 0 a (.val m) λs=>wn 9 384 a (aG 5 r s) λt=>wn 10 896 a (aL 2 t) λu=>wo 11 1920 a (aR · u) λv=>wn 13 0 a (.val l) λx=>wn 14 0 a (.val m) λy=>wn 15 24576 a (aG 5 x y) λz=>wn 16 57344 a (aL 4 z) λA=>wo 17 122880 a (aR · A) λB=>wu 4092 (O (.f 29) [e,q,v]) λC=>wu 262143 (O (.f 77) [c,d,C,B]) λD=>wy <| Re O b o
def MN:=wq (aD n) λa=>wq (ib .lss A a) λb=>wd b (Rb O x i j k l m n A) (d)
def Gf:=fM (MN O d i j k l m n)
def Ra:=wq (aG 5 n o) λa=>wF 0 a λc=>wq (ib .eql c (uN 1)) λd=>wd d (HP O (t0 O b o) i k l m n o bZ (iN 0)) (wq (ib .eql c (uN 2)) λe=>wd e (wz 0 λf=>wo 0 0 f (bW 2 · k) λg=>wn 1 0 f (.val l) λh=>wo 2 0 f (bW 1 · i) λq=>wn 3 0 f (.val j) λr=>wn 4 0 f (.val l) λs=>wn 5 24 f (aG 2 r s) λt=>wn 6 56 f (aL 0 t) λu=>wo 7 120 f (aR · u) λv=>wn 8 0 f (.val n) λx=>wn 9 0 f (.val o) λy=>wn 10 768 f (aG 5 x y) λz=>wn 11 1792 f (aL 1 z) λA=>wo 12 3840 f (aR · A) λB=>wn 14 0 f (.val n) λC=>wn 15 0 f (.val o) λD=>wn 16 49152 f (aG 5 C D) λE=>wn 17 114688 f (aL 4 E) λF=>wo 18 245760 f (aR · F) λG=>wu 8188 (O (.f 29) [q,v,B]) λI=>wu 524287 (O (.f 77) [g,h,I,G]) λJ=>wy <| t0 O b o) (wq (ib .eql c (uN 3)) λK=>wd K (wz 0 λL=>wo 0 0 L (bW 1 · i) λM=>wn 1 0 L (.val j) λN=>wn 2 0 L (.val l) λP=>wn 3 6 L (aG 2 N P) λQ=>wn 4 14 L (aL 0 Q) λR=>wo 5 30 L (aR · R) λS=>wn 6 0 L (.val n) λT=>wn 7 0 L (.val o) λU=>wn 8 192 L (aG 5 T U) λV=>wn 9 448 L (aL 1 V) λW=>wo 10 960 L (aR · W) λX=>wn 11 0 L (.val n) λY=>wn 12 0 L (.val o) λZ=>wn 13 6144 L (aG 5 Y Z) λp=>wn 14 14336 L (aL 2 p) λH=>wo 15 30720 L (aR · H) λw=>wu 65535 (O (.f 78) [M,S,X,w]) λaJ5=>wn 17 131071 L (.val aJ5) λaCT=>wy <| Gf O (t0 O b o) i k l n o aCT bZ (iN 0)) (t0 O b o)))
def Km:=wq (aD n) λa=>wq (ib .lss A a) λb=>wd b (Ra O x i j k l m n A) (d)
def yH:=fM (Km O d i j k l m n)
def Q9:=wz 18 λa=>wo 0 0 a (bW 1 · i) λc=>wn 1 0 a (.val j) λd=>wn 2 0 a (.val l) λe=>wn 3 6 a (aG 2 d e) λf=>wn 4 14 a (aL 0 f) λg=>wo 5 30 a (aR · g) λh=>wn 6 0 a (.val j) λm=>wn 7 0 a (.val l) λn=>wn 8 192 a (aG 2 m n) λo=>wn 9 448 a (aL 1 o) λq=>wo 10 960 a (aR · q) λr=>wa 15 0 a (.new (.ptr (a+15) 0) (aB 0 [zS,.aA,uN 0,zS,zS,.aA])) λs=>wu 2047 (O (.f 30) [c,h,r]) λt=>wn 12 4095 a (.val t) λu=>wn 13 8191 a (aT 0 u) λv=>wn 14 8191 a (aT 1 u) λx=>wu 49151 (yI 6 · s v) λ_=>wn 17 131071 a (.val x) λy=>wy <| wq (aL 2 s) λz=>wA 4 z λA=>wc O 76 [(.aA),A,(.bool false)] λB=>yH O (yM O b l) i j k l s B bZ (iN 0)
def Ko:=wq (aD j) λa=>wq (ib .lss A a) λb=>wd b (Q9 O x i j k A) (d)
def BS:=fM (Ko O d i j k)
def XP:=wB 1 i λa=>wN [iN 0,.aA] λb=>wA 1 a λc=>wc O 28 [c] λd=>wq (aD d) λe=>wc O 75 [e] λf=>wN [iN 0,.aA] λg=>wT 2 g f <| BS O (HT O b g) a d g bZ (iN 0)
def CA(O:Ev.Call)(a:AV):pH:=.ok (.aX [a,(.bool true)])
def DE(O:Ev.Call)(a:AV->pD)(b c:AV):=wI c λd=>a b d
def tZ(O:Ev.Call)(a:AV->pD)(b c:AV):=wI c λd=>a b d
def BQ:=wl (aG 1 j l) λb=>wL (aR · b) λc=>wl (aL 0 i) λd=>wL (aR · d) λe=>wl (ib .gtr c e) λf=>wd f (a (.aA) (.bool false)) (tZ O g k m)
def BP:=wq (aG 1 j l) λb=>w1 b λc=>wq (ib .lss c n) λd=>wd d (wq (aG 1 j l) λe=>wU e n <| BQ O a g i j (.bool true) l m) (BQ O a g i j k l m)
def BO:=wF 1 i λb=>wF 0 i λc=>wq (ib .mul l c) λd=>wq (ib .add d m) λe=>wq (aG 1 b e) λf=>w1 f λh=>wq (ib .gtr h (iN 1)) λo=>wd o (wq (aG 1 j m) λq=>w1 q λr=>wI r λs=>BP O a g i j k l m s) (BP O a g i j k l m n)
def OX:=wF 1 i λb=>wF 0 i λc=>wq (ib .mul l c) λd=>wq (ib .add d m) λe=>wq (aG 1 b e) λf=>w1 f λh=>wq (ib .eql h (iN 1)) λn=>wd n (wq (aG 1 j m) λo=>w1 o λq=>BO O a g i j k l m q) (BO O a g i j k l m (.int .i64 (.negSucc 0)))
def OY:=wF 0 i λc=>wq (ib .lss B c) λd=>wd d (OX O a y i j A k B) (b A)
def zp:=jX (OY O a b i j k)
def zil(a b:AV->pD)(c d e f:AV)(H:Hp):R1:=zp O (λg h H=>a g h H) (λe H=>DE O b e f H) c d f bZ e (iN 0) H
def DF:=wF 0 i λc=>wq (ib .lss B c) λd=>wd d (zil O a y i j A B) (b A)
def Cz:=jX (DF O a b i j)
def zik:=Cz O a b i j bZ (.bool false) (iN 0)
def CB:=wd A (zik O a x i j) (d)
def ua:=fM (CB O a d i j)
def XO:=wB 2 i λa=>wF 0 a λb=>wh (λH=>fC [iN 0] 8 H.nx b b) λc=>λH=>ua O (λd e H=>.ok (.aX [d,e]) H) (CA O c) a c bZ (.bool true) H
def pf(O:Ev.Call)(a:AV->pD)(b c:AV):=wI c λd=>a b d
def t9(O:Ev.Call)(a:AV->pD)(b c:AV):=wI c λd=>a b d
def OU(a:AV->pD)(b c d e:AV)(H:Hp):R1:=dz 21 H λf H=>dn 0 0 f H [] [] (.val c) λg H p w=>dn 1 0 f H p w (aL 0 b) λh H p w=>dl 2 2 f H p w (λH=>aR H h) λi H p w=>dn 3 0 f H p w (.val d) λj H p w=>dn 4 14 f H p w (aG 2 i j) λk H p w=>dn 5 30 f H p w (aL 0 k) λl H p w=>dl 6 62 f H p w (λH=>aR H l) λm H p w=>dn 7 0 f H p w (aL 0 b) λn H p w=>dl 8 128 f H p w (λH=>aR H n) λo H p w=>dn 9 0 f H p w (.val d) λq H p w=>dn 10 896 f H p w (aG 2 o q) λr H p w=>dn 11 1920 f H p w (aL 1 r) λs H p w=>dl 12 3968 f H p w (λH=>aR H s) λt H p w=>dn 13 0 f H p w (.val e) λu H p w=>dn 14 16256 f H p w (aG 6 t u) λv H p w=>dn 15 32640 f H p w (aL 0 v) λx H p w=>dl 16 65408 f H p w (λH=>aR H x) λy H p w=>dn 17 131070 f H p w (bJ (bK [zS,zS] [(0,1,m),(1,1,y)])) λz H p w=>da 18 262142 f H p w (sQ 1 (f+18) (bK (aU [zS,zS] 1) [(0,2,z)])) λA H p w=>de 524287 H p w (jD 2 32 (eB 524287 p H) g (nP 2 (eB 524287 p H) A)) (some true) λB H p w=>dn 20 1048575 f H p w (.val B) λC H p w=>zG p H λH=>t9 O a C e H
def OV:=wF 0 i λa=>wq (aG 2 a j) λc=>wF 1 c λd=>wq (aD d) λe=>wq (ib .lss B e) λf=>wd f (OU O y i A j B) (b A)
def Ek:=jX (OV O b i j)
def zie(a:AV->pD)(b c d:AV)(H:Hp):R1:=Ek O (λc H=>pf O a c d H) b d bZ c (iN 0) H
def OW:=wF 0 i λa=>wq (aD a) λc=>wq (ib .lss B c) λd=>wd d (zie O y i A B) (b A)
def Cy:=jX (OW O b i)
def XN:=wB 1 i λa=>Cy O (gV O) a bZ (.aA) (iN 0)
def cY(O:Ev.Call)(a:AV->pD)(b c:AV):=wI c λd=>a b d
def NW:=wl (aG 2 k m) λb=>wl (aL 0 b) λc=>wL (aR · c) λd=>wl (aG 2 j l) λe=>wl (aL 0 e) λf=>wL (aR · f) λg=>wl (eF (lQ .eql).f d g) λh=>wd h (λH=>dz 14 H λn H =>   dn 0 0 n H [] [] (.val i) λo H p w =>   dn 1 0 n H p w (.val j) λq H p w =>   dn 2 0 n H p w (.val l) λr H p w =>   dn 3 6 n H p w (aG 2 q r) λs H p w =>   dl 4 14 n H p w (λH=>bW 2 H s) λt H p w =>   dn 5 0 n H p w (.val k) λu H p w =>   dn 6 0 n H p w (.val m) λv H p w =>   dn 7 96 n H p w (aG 2 u v) λx H p w =>   dn 8 224 n H p w (aL 1 x) λy H p w =>   dl 9 480 n H p w (λH=>aR H y) λz H p w =>   dn 10 1022 n H p w (bJ (bK [zS,zS,zS] [(0,2,t),(2,1,z)])) λA H p w =>   da 11 2046 n H p w (sQ 1 (n+11) (bK (aU [zS,zS,zS] 1) [(0,3,A)])) λB H p w =>   de 4095 H p w (jD 3 48 (eB 4095 p H) o (nP 3 (eB 4095 p H) B)) (some true) λC H p w =>   dn 13 8191 n H p w (.val C) λD H p w =>   zG p H λH =>   cY O a D m H) (cY O a i m)
def Oe:=wq (aD j) λa=>wq (ib .lss B a) λc=>wd c (NW O y A i j k B) (b A)
def D9:=jX (Oe O b i j k)
def Y4(a:AV->pD)(b c d e:AV)(H:Hp):R1:=D9 O (λb H=>t9 O a b e H) c d e bZ b (iN 0) H
def Zo:=wq (aD i) λa=>wq (ib .lss B a) λc=>wd c (Y4 O y A i j B) (b A)
def CH:=jX (Zo O b i j)
def Wq:=wB 1 i λa=>wc O 121 [j] λb=>wA 1 a λc=>wc O 28 [c] λd=>CH O (gV O) b d bZ (.aA) (iN 0)
def rF(O:Ev.Call):pH:=.ok (.int .i64 (.negSucc 0))
def lC(O:Ev.Call)(a:pD)(b:AV):=wI b a
def zw7:=wl (aG 3 i k) λa=>wL (bW 3 · a) λd=>wL (bW 3 · j) λe=>wl (iQ false ((⟨E2.f ⟨dL (eqFields [((pA 2),⟨dL (eqFields [(p1,⟨bH⟩,0),(p1,⟨bH⟩,1)])⟩,0),(p1,⟨bH⟩,2)])⟩⟩:E2).f d e)) λf=>wd f (b k) (lC O c k)
def Zd:=wq (aD i) λa=>wq (ib .lss A a) λc=>wd c (zw7 O b x i j A) (d)
def D4:=fM (Zd O b d i j)
def V4:=wB 3 j λa=>D4 O .ok (rF O) i a bZ (iN 0)
def Jn(O:Ev.Call)(a b c:AV):=wA 2 c λd=>wT 2 a d <| λH=>dJ (dY (dU (rV (bW 2 H a)) (dU (some b) (some [])))) H
def N0(O:Ev.Call)(a:pD)(b:AV):=wI b a
def Zc:=wq (aG 6 j k) λa=>wA 6 a λc=>wN [zS,zS,zS,zS,zS,zS] λd=>wT 6 d c <| wF 1 i λe=>wq (aL 0 d) λf=>wA 3 f λg=>wA 6 d λh=>wQ 1 (bK (aU [zS,zS,zS,zS,zS,zS] 1) [(0,6,h)]) λl=>we (lR ⟨(⟨dL (eqFields [((pA 2),⟨dL (eqFields [(p1,⟨bH⟩,0),(p1,⟨bH⟩,1)])⟩,0),(p1,⟨bH⟩,2)])⟩:E2).f,some 3⟩ (.aA) · e g) λm=>wq (aT 0 m) λn=>wP 6 96 n l λo=>wq (aT 1 m) λq=>we (wY · e q o) λ_=>N0 O b k
def Jo:=wq (ib .lss A k) λa=>wd a (Zc O x i j A) (d)
def GK:=fM (Jo O d i j k)
def Zb:=wA 1 j λa=>wc O 123 [a] λb=>wq (aT 0 b) λc=>wq (aT 1 b) λd=>wh (λH=>.new (.map H.nx) (.map [] 0)) λe=>wq (bJ (bK [.bQ,.bU] [(0,1,c),(1,1,e)])) λf=>wN [.bQ,.bU] λg=>wT 2 g f <| wc O 124 [i] λh=>wq (aD h) λl=>GK O (Jn O k d g) g h l bZ (iN 0)
def V3:=wB 1 i λa=>wN [.bQ,.bU] λb=>wA 1 a λc=>wc O 122 [c,j] λd=>wq (aT 0 d) λe=>wq (aT 1 d) λf=>wq (ib .neq f (iN 0)) λg=>wd g (wq (bJ (bK [.bQ,.bU] [])) λh=>wT 2 b h <| λH=>dJ (dY (dU (rV (bW 2 H b)) (dU (some f) (some [])))) H) (Zb O j a b)
def V0:=wB 3 j λa=>wA 3 a λb=>wc O 133 [b] λc=>wq (ib .eql c (iN 0)) λd=>wg (wv d) (.val i) λe=>wg (wv d) (aL 0 a) λf=>wg (wv d) (aL 0 f) λg=>wG (wv d) (aR · g) λh=>wg (wv d) (aL 2 a) λk=>wG (wv d) (aR · k) λl=>wx (wv d) (O (.f 134) [e,h,l]) λm=>wq (dQ d m (.bool false)) λn=>.ok n
def JL:=wc O 65 [i] λa=>.ok a
def oE(O:Ev.Call)(a:AV->pD)(b c:AV):=wI c λd=>a b d
def Za:=wq (aG 6 l m) λb=>wA 6 b λc=>wN [uN 0,zS,zS,.aA,.aA,iN 0] λd=>wT 6 d c <| wF 5 d λe=>wq (ib .geq e (iN 0)) λf=>wd f (wA 2 i λg=>wA 6 d λh=>wA 3 j λn=>wc O 139 [g,h,n] λo=>wq (aT 0 o) λq=>wq (aT 1 o) λr=>wP 3 48 k r λs=>oE O a s m) (oE O a k m)
def JM:=wq (ib .lss B l) λa=>wd a (Za O y i j A k B) (b A)
def BZ:=jX (JM O b i j k l)
def VZ:=wB 2 i λa=>wB 3 j λb=>wF 0 a λc=>wq (aL 0 b) λd=>wF 0 d λe=>wF 2 b λf=>wc O 62 [c,e,f] λg=>wq (aT 0 g) λh=>wq (aT 1 g) λk=>wN [zS,zS,iN 0,iN 0,.aA,.aA] λl=>wT 6 l h <| wF 5 l λm=>wq (aD m) λn=>BZ O (JL O) a b m n bZ (.aA) (iN 0)
def D3:=wc O 65 [i] λa=>.ok (.aX [a,j])
def JJ(O:Ev.Call)(a:AV->AV->pD)(b c d:AV):=wI d λe=>a b c e
def xo(O:Ev.Call)(a:AV->AV->pD)(b c d:AV):=wI d λe=>a b c e
def F1:=wq (aG 3 l m) λa=>wA 3 a λb=>wN [zS,zS,zS] λc=>wT 3 c b <| wI j λd=>wA 3 c λe=>wh (mX ⟨(⟨dL (eqFields [((pA 2),⟨dL (eqFields [(p1,⟨bH⟩,0),(p1,⟨bH⟩,1)])⟩,0),(p1,⟨bH⟩,2)])⟩:E2).f,some 3⟩ (iN 0) true · k e) λf=>wq (aT 0 f) λg=>wq (aT 1 f) λn=>wq ((kF .not).f n) λo=>wd o (wA 3 c λq=>wq (aD i) λr=>we (jN ⟨(⟨dL (eqFields [((pA 2),⟨dL (eqFields [(p1,⟨bH⟩,0),(p1,⟨bH⟩,1)])⟩,0),(p1,⟨bH⟩,2)])⟩:E2).f,some 3⟩ · k q r) λ_=>wA 3 c λs=>wQ 1 (bK (aU [zS,zS,zS] 1) [(0,3,s)]) λt=>wP 3 48 i t λu=>(kA xo) O h u d m) ((kA xo) O h i d m)
def JK:=wq (ib .lss C k) λb=>wd b ((kA F1) O z A B i j C) (a A B)
def tS:=nC (JK O a i j k)
def F0:=wz 0 λa=>wo 0 0 a (bW 2 · i) λb=>wn 1 0 a (.val j) λc=>wn 2 0 a (.val m) λd=>wn 3 6 a (aG 3 c d) λe=>wo 4 14 a (bW 3 · e) λf=>wn 7 0 a (.val (iN 0)) λg=>wu 31 (O (.f 137) [b,f]) λn=>wn 6 63 a (aD n) λo=>wy <| λH=>tS O (λj k H=>JJ O h j k m H) l n o bZ j k g H
def Y9:=wq (aD A) λb=>wq (ib .eql C b) λc=>wd c (a A B) ((kA F0) O z i A B j C)
def zA:=nC (Y9 O a i j)
def FZ:=zA O (D3 O) i l bZ j k m
def VY:=wB 2 i λa=>wB 3 j λb=>wA 3 b λc=>wQ 1 (bK (aU [zS,zS,zS] 1) [(0,3,c)]) λd=>wh (λH=>.new (.map H.nx) (.map [] 0)) λe=>wA 3 b λf=>we (jN ⟨(⟨dL (eqFields [((pA 2),⟨dL (eqFields [(p1,⟨bH⟩,0),(p1,⟨bH⟩,1)])⟩,0),(p1,⟨bH⟩,2)])⟩:E2).f,some 3⟩ · e f (iN 0)) λ_=>(kA FZ) O a d (iN 0) e (iN 0)
def Ew(O:Ev.Call)(a:AV):=wq (bJ (bK [zS,.aA,uN 0,zS,zS,.aA] [])) λb=>wT 6 a b <| λH=>dJ (dY (dU (rV (bW 6 H a)) (dU (some (.bool false)) (some [])))) H
def zj(O:Ev.Call)(a:pD)(b:AV):=wI b a
def zhu:=wF 0 j λa=>wq (aG 2 a l) λd=>wF 1 d λe=>wq (aG 6 e m) λf=>wF 0 f λg=>wq (eF (lQ .eql).f g i) λh=>wd h (wF 0 j λn=>wq (aG 2 n l) λo=>wF 1 o λq=>wq (aG 6 q m) λr=>wA 6 r λs=>wT 6 k s <| b (.bool true)) (zj O c m)
def CU:=wq (ib .geq l (iN 0)) λa=>wg (wv a) (.val A) λc=>wg (wv a) (aL 0 j) λe=>wG (wv a) (aR · e) λf=>wg (wv a) (.val l) λg=>wg (wv a) (aG 2 f g) λh=>wg (wv a) (aL 1 h) λm=>wG (wv a) (aR · m) λn=>wg (wv a) (aD n) λo=>wg (wv a) (ib .lss c o) λq=>wq (dQ a q (.bool false)) λr=>wd r (zhu O b x i j k l A) (d)
def CT:=fM (CU O b d i j k l)
def Xz:=wB 1 i λa=>wN [zS,.aA,uN 0,zS,zS,.aA] λb=>wA 1 a λc=>wc O 79 [c,j] λd=>λH=>CT O (λe H=>dJ (dY (dU (rV (bW 6 H b)) (dU (some e) (some [])))) H) (Ew O b) k a b d bZ (iN 0) H
def HI(O:Ev.Call)(a b c:AV):=wq (aG 5 a b) λd=>wq (aL 3 d) λe=>wU e c <| .ok a
def HH(O:Ev.Call)(a:AV->AV->pD)(b c d:AV):=wI d λe=>a b c e
def KI:=wq (aD i) λa=>wQ 1 (bK (aU [iN 0] 1) [(0,1,a)]) λb=>wP 1 8 l b λc=>wz 0 λd=>wn 0 0 d (.val i) λe=>wn 1 0 d (aL 3 k) λf=>wo 2 2 d (aR · f) λg=>wn 3 0 d (.val m) λn=>wn 4 14 d (aG 4 g n) λo=>wo 5 30 d (bW 4 · o) λq=>wn 6 0 d (.val j) λr=>wn 7 64 d (.val r) λs=>wr 8 192 d (aL 0 k) (bI false s) λt=>ws 9 448 d (aR · t) (bI false s) λu=>wr 10 960 d (ib .eql u (uN 6)) (bI false s) λv=>wr 11 1984 d (.val v) (bI false s) λx=>wr 12 4032 d (.val m) (wv x) λy=>wr 13 8128 d (ib .eql y (iN 1)) (wv x) λz=>wr 14 16320 d (dQ x z (.bool false)) (bI false s) λA=>wn 15 32704 d (dQ s (.bool true) A) λB=>wu 65535 (O (.f 76) [e,q,B]) λC=>wn 17 131071 d (.val C) λD=>wy <| HH O h D c m
def yr:=wF 3 j λb=>wq (aD b) λc=>wq (ib .lss C c) λd=>wd d (KI O z A i j B C) (a A B)
def HG:=nC (yr O a i j)
def Pp:=wB 4 j λa=>wq (aD i) λb=>wF 0 a λc=>wF 1 a λd=>wF 2 a λe=>wq (bJ (bK [uN 0,zS,zS,.aA,.bool false] [(0,1,c),(1,1,d),(2,1,e),(4,1,k)])) λf=>wQ 1 (bK (aU [uN 0,zS,zS,.aA,.bool false] 1) [(0,5,f)]) λg=>wP 5 72 i g λh=>λH=>HG O (λi l H=>HI O i b l H) k a bZ h (.aA) (iN 0) H
def FF:=wz 15 λb=>wo 0 0 b (bW 1 · j) λc=>wn 1 0 b (aL 1 l) λd=>wo 2 2 b (aR · d) λe=>wn 3 0 b (.val m) λf=>wn 4 14 b (aG 2 e f) λg=>wn 5 30 b (aL 0 g) λh=>wo 6 62 b (aR · h) λn=>wn 7 0 b (.val i) λo=>wa 12 0 b (.new (.ptr (b+12) 0) (aB 0 [zS,.aA,uN 0,zS,zS,.aA])) λq=>wu 255 (O (.f 30) [c,n,o]) λr=>wn 9 511 b (.val r) λs=>wn 10 1023 b (aT 0 s) λt=>wn 11 1023 b (aT 1 s) λu=>wu 6143 (yI 6 · q t) λ_=>wn 14 16383 b (.val u) λv=>wy <| wF 1 l λx=>wq (aG 2 x m) λy=>wF 1 y λz=>wq (eF (lQ .eql).f z zS) λA=>wg (wv A) (.val v) λB=>wq (dQ A B (.bool false)) λC=>wd C (wF 1 l λD=>wq (aG 2 D m) λE=>wF 0 E λF=>wQ 1 (bK (aU [zS] 1) [(0,1,F)]) λG=>wP 1 16 k G λI=>cY O a I m) (cY O a k m)
def Du:=wF 1 k λa=>wq (aD a) λc=>wq (ib .lss B c) λd=>wd d ((kA FF) O y i j A k B) (b A)
def un:=jX (Du O b i j k)
def Xx:=wB 1 i λa=>wA 1 a λb=>wc O 30 [b,j,k] λc=>wq (aT 0 c) λd=>wq (aT 1 c) λe=>wN [zS,.aA,uN 0,zS,zS,.aA] λf=>wT 6 f d <| un O (gV O) l a f bZ (.aA) (iN 0)
def XJ(O:Ev.Call)(a:AV):=wB 1 a λb=>wF 0 b λc=>wq (aD c) λd=>wq (rT pQ d [(iN 12)]) λe=>.ok e
def XI(O:Ev.Call)(a:AV):=wQ 3 (bK (aU [zS] 3) [(0,1,(.str 1 97)),(1,1,(.str 1 98)),(2,1,(.str 1 99))]) λb=>wq (ib .rem a (iN 3)) λc=>wq (aG 1 b c) λd=>w1 d λe=>.ok e
def tY:=wA 1 m λa=>wI k λb=>wc O 114 [a,i,j,b,l] λc=>wq (aT 0 c) λd=>wq (aT 1 c) λe=>wN [uN 0,zS,zS,.aA] λf=>wT 4 f d <| wA 1 m λg=>wI k λh=>wg (bI false l) (.val o) λq=>wg (bI false l) (ib .eql q (uN 6)) λr=>wq (dQ l (.bool true) r) λs=>wc O 114 [g,i,e,h,s] λt=>wq (aT 0 t) λu=>wq (aT 1 t) λv=>wN [uN 0,zS,zS,.aA] λx=>wT 4 x u <| wA 4 f λy=>wA 4 x λz=>wQ 2 (bK (aU [uN 0,zS,zS,.aA] 2) [(0,4,y),(4,4,z)]) λA=>wq (bJ (bK [uN 0,zS,zS,.aA] [(0,1,o),(3,1,A)])) λB=>wT 4 n B <| λH=>dJ (dY (dU (rV (bW 4 H n)) (dU (some v) (some [])))) H
def lE:=wd s (wA 1 m λa=>wq (ib .quo o (uN 8)) λb=>wc O 168 [a,i,b,l] λc=>wT 4 n c <| λH=>dJ (dY (dU (rV (bW 4 H n)) (dU (some j) (some [])))) H) (wq (ib .eql r (uN 4)) λd=>wd d (wA 1 m λe=>wq (ib .quo o (uN 8)) λf=>wc O 169 [e,i,f,l] λg=>wT 4 n g <| λH=>dJ (dY (dU (rV (bW 4 H n)) (dU (some j) (some [])))) H) (wq (ib .eql r (uN 6)) λh=>wd h (tY O i j k l m n (uN 5)) (wq (ib .eql r (uN 7)) λt=>wd t (wc O 170 [i] λu=>wq (ib .gtr u (iN 0)) λv=>wd v (tY O i j k l m n (uN 6)) (tY O i j k l m n q)) (tY O i j k l m n q))))
def ia:=wd s (wc O 167 [l] λa=>wT 4 n a <| λH=>dJ (dY (dU (rV (bW 4 H n)) (dU (some j) (some [])))) H) (wq (ib .eql r (uN 2)) λb=>wd b (lE O i j k l m n o q r b) (wq (ib .eql r (uN 3)) λc=>lE O i j k l m n o q r c))
def Z6:=wF 0 m λa=>wq (aG 1 a i) λb=>w1 b λc=>wq (aG 1 c j) λd=>w1 d λe=>wI j λf=>wq (ib .rem e (uN 8)) λg=>wq (ib .eql g (uN 0)) λh=>wd h (ia O i f k l m n e (uN 4) g h) (wq (ib .eql g (uN 1)) λo=>ia O i f k l m n e (uN 4) g o)
def ID:=wB 1 i λa=>wN [uN 0,zS,zS,.aA] λb=>wF 0 a λc=>wq (aG 1 c j) λd=>w1 d λe=>wq (aD e) λf=>wq (ib .geq k f) λg=>wg (bI false g) (.val k) λh=>wg (bI false g) (ib .geq h (iN 12)) λn=>wq (dQ g (.bool true) n) λo=>wg (bI false o) (.val l) λq=>wg (bI false o) (ib .gtr q (iN 6)) λr=>wq (dQ o (.bool true) r) λs=>wd s (wc O 167 [m] λt=>wT 4 b t <| λH=>dJ (dY (dU (rV (bW 4 H b)) (dU (some k) (some [])))) H) (Z6 O j k l m a b)
def XH(O:Ev.Call)(a:AV):=wQ 4 (bK (aU [zS] 4) [(0,1,(.str 2 12402)),(1,1,(.str 2 12658)),(2,1,(.str 2 12914)),(3,1,(.str 2 13170))]) λb=>wq (ib .rem a (iN 4)) λc=>wq (aG 1 b c) λd=>w1 d λe=>.ok e
def Ki:=wA 1 j λa=>wc O 171 [a,i,(iN 1)] λb=>wq (ib .quo b (uN 2)) λc=>wq (io .i64 c) λd=>wq (aD l) λe=>wq (ib .rem d e) λf=>wq (aG 2 l f) λg=>wA 2 g λh=>wQ 1 (bK (aU [zS,zS] 1) [(0,2,h)]) λm=>wP 2 32 k m λn=>gV O n
def zz1:=wc O 170 [k] λb=>wc O 170 [i] λc=>wq (ib .leq b c) λd=>wd d (wq (ib .quo k (iN 4)) λe=>wc O 113 [e] λf=>wc O 115 [k] λg=>wq (bJ (bK [zS,zS] [(0,1,f),(1,1,g)])) λh=>wQ 1 (bK (aU [zS,zS] 1) [(0,2,h)]) λl=>wP 2 32 j l λm=>oE O a m k) (oE O a j k)
def Kk:=wA 1 j λa=>wc O 112 [a] λc=>wq (ib .lss B c) λd=>wd d (zz1 O y i A B) (b A)
def G6:=jX (Kk O b i j)
def G8:=wA 1 j λa=>wc O 171 [a,i,(iN 1)] λb=>wq (ib .rem b (uN 2)) λc=>wq (ib .eql c (uN 1)) λd=>wd d (G6 O (Ki O i j k) i j bZ (.aA) (iN 0)) (gV O k)
def G7(O:Ev.Call)(a:AV->pD)(b c:AV):=wI c λd=>a b d
def Z5:=wA 1 j λb=>wc O 171 [b,i,(iN 0)] λc=>wq (C3 (BE .shr).f c l) λd=>wq (ib .rem d (uN 2)) λe=>wq (ib .eql e (uN 1)) λf=>wd f (wc O 113 [l] λg=>wq (bJ (bK [zS,zS] [(0,1,g)])) λh=>wQ 1 (bK (aU [zS,zS] 1) [(0,2,h)]) λm=>wP 2 32 k m λn=>G7 O a n l) (G7 O a k l)
def Kj:=wq (ib .mul (iN 4) B) λa=>wA 1 j λc=>wc O 112 [c] λd=>wq (ib .lss a d) λe=>wg (wv e) (.val B) λf=>wg (wv e) (ib .lss f (iN 3)) λg=>wq (dQ e g (.bool false)) λh=>wd h (Z5 O y i j A B) (b A)
def G5:=jX (Kj O b i j)
def XG:=wB 1 i λa=>wq (bJ (bK [zS,zS] [(0,1,(.str 4 1919251317))])) λb=>wQ 1 (bK (aU [zS,zS] 1) [(0,2,b)]) λc=>G5 O (G8 O j a) j a bZ c (iN 0)
def CV(O:Ev.Call):pH:=.ok (.bool false)
def zm(O:Ev.Call)(a:pD)(b:AV):=wI b a
def OG:=wq (aG 5 k l) λa=>wF 0 a λd=>wq (ib .eql d i) λe=>wg (wv e) (.val k) λf=>wg (wv e) (.val l) λg=>wg (wv e) (aG 5 f g) λh=>wg (wv e) (aL 1 h) λm=>wG (wv e) (aR · m) λn=>wg (wv e) (.val j) λo=>wg (wv e) (eF (lQ .eql).f n o) λq=>wq (dQ e q (.bool false)) λr=>wd r (b (.bool true)) (zm O c l)
def Z4:=wq (aD k) λa=>wq (ib .lss A a) λc=>wd c (OG O b x i j k A) (d)
def Ey:=fM (Z4 O b d i j k)
def XF:=wB 4 i λa=>wA 4 a λb=>wc O 76 [(.aA),b,(.bool false)] λc=>Ey O .ok (CV O) j k c bZ (iN 0)
def WE(O:Ev.Call)(a:AV):=wQ 5 (bK (aU [zS] 5) [(0,1,(.str 1 49)),(1,1,(.str 1 50)),(2,1,(.str 1 51)),(3,1,(.str 1 52)),(4,1,(.str 4 1953460082))]) λb=>wq (ib .rem a (uN 5)) λc=>wq (aG 1 b c) λd=>w1 d λe=>.ok e
def kJ(O:Ev.Call):pH:=.ok (iN 0)
def zxp:=wl (aG 6 i k) λa=>wL (bW 6 · a) λd=>wL (bW 6 · j) λe=>wl (iQ false ((⟨E2.f ⟨dL (eqFields [((pA 3),⟨dL (eqFields [((pA 2),⟨dL (eqFields [(p1,⟨bH⟩,0),(p1,⟨bH⟩,1)])⟩,0),(p1,⟨bH⟩,2)])⟩,0),((pA 3),⟨dL (eqFields [((pA 2),⟨dL (eqFields [(p1,⟨bH⟩,0),(p1,⟨bH⟩,1)])⟩,0),(p1,⟨bH⟩,2)])⟩,3)])⟩⟩:E2).f d e)) λf=>wd f (b (iN 1)) (lC O c k)
def Zs:=wq (aD i) λa=>wq (ib .lss A a) λc=>wd c (zxp O b x i j A) (d)
def Ec:=fM (Zs O b d i j)
def WD:=wB 6 j λa=>Ec O .ok (kJ O) i a bZ (iN 0)
def zxo:=wq (aL 3 i) λa=>wA 3 a λb=>wq (aL 3 j) λc=>wA 3 c λd=>wc O 173 [b,d] λe=>.ok e
def WC:=wB 6 i λa=>wB 6 j λb=>wq (aL 0 a) λc=>wA 3 c λd=>wq (aL 0 b) λe=>wA 3 e λf=>wq (iQ true ((⟨E2.f ⟨dL (eqFields [((pA 2),⟨dL (eqFields [(p1,⟨bH⟩,0),(p1,⟨bH⟩,1)])⟩,0),(p1,⟨bH⟩,2)])⟩⟩:E2).f d f)) λg=>wd g (wq (aL 0 a) λh=>wA 3 h λk=>wq (aL 0 b) λl=>wA 3 l λm=>wc O 172 [k,m] λn=>.ok n) (zxo O a b)
def XA(O:Ev.Call)(a:AV):=wN [iN 0,.aA] λb=>wq (ib .mul a a) λc=>wh (λH=>fC [iN 0] 8 H.nx c c) λd=>wq (bJ (bK [iN 0,.aA] [(0,1,a),(1,1,d)])) λe=>wT 2 b e <| λH=>dJ (rV (bW 2 H b)) H
def OH:=wq (aG 2 k l) λa=>wF 0 a λd=>wq (eF (lQ .eql).f d i) λe=>wg (wv e) (.val k) λf=>wg (wv e) (.val l) λg=>wg (wv e) (aG 2 f g) λh=>wg (wv e) (aL 1 h) λm=>wG (wv e) (aR · m) λn=>wg (wv e) (.val j) λo=>wg (wv e) (eF (lQ .eql).f n o) λq=>wq (dQ e q (.bool false)) λr=>wd r (b l) (zm O c l)
def Z7:=wq (aD k) λa=>wq (ib .lss A a) λc=>wd c (OH O b x i j k A) (d)
def CW:=fM (Z7 O b d i j k)
def XK:=wB 1 i λa=>wA 1 a λb=>wc O 28 [b] λc=>CW O .ok (rF O) j k c bZ (iN 0)
def HF(O:Ev.Call)(a b c d:AV):=wF 1 c λe=>wF 0 c λf=>wq (ib .mul a f) λg=>wq (ib .add g b) λh=>wq (aG 1 e h) λi=>w1 i λj=>wq (ib .quo j d) λk=>wq (ib .rem k (iN 2)) λl=>wq (ib .eql l (iN 0)) λm=>wd m (wF 1 c λn=>wF 0 c λo=>wq (ib .mul a o) λq=>wq (ib .add q b) λr=>wq (aG 1 n r) λs=>w1 s λt=>wq (ib .add t d) λu=>wq (aG 1 n r) λv=>wU v u <| .ok (.aX [])) (.ok (.aX []))
def Xy:=wB 2 i λa=>wd l (HF O j k a (iN 2)) (HF O j k a (iN 1))
def Of:=wz 0 λb=>wn 0 0 b (.val j) λc=>wn 1 0 b (.val i) λd=>wn 2 0 b (.val k) λe=>wn 3 6 b (aG 6 d e) λf=>wn 4 14 b (aL 0 f) λg=>wn 5 30 b (aL 0 g) λh=>wo 6 62 b (bW 2 · h) λl=>wn 8 0 b (.val i) λm=>wn 9 0 b (.val k) λn=>wn 10 768 b (aG 6 m n) λo=>wn 11 1792 b (aL 3 o) λq=>wn 12 3840 b (aL 0 q) λr=>wo 13 7936 b (bW 2 · r) λs=>wu 127 (O (.f 67) [c,l]) λt=>wu 16383 (O (.f 67) [t,s]) λu=>wn 15 32767 b (.val u) λv=>wy <| ud O a v k
def Zp:=wq (aD i) λa=>wq (ib .lss B a) λc=>wd c (Of O y i A B) (b A)
def Ea:=jX (Zp O b i)
def Wr:=Ea O (gV O) i bZ (.aA) (iN 0)
def ZA(O:Ev.Call)(a:AV):=wq (aD a) λb=>.ok (.aX [b,(iN 0)])
def md(O:Ev.Call)(a:pD)(b:AV):=wI b a
def Oo:=wq (aG 6 j k) λc=>wA 6 c λd=>wN [zS,zS,zS,zS,zS,zS] λe=>wT 6 e d <| wA 6 e λf=>wc O 175 [i,f] λg=>wq (ib .neq g (iN 0)) λh=>wd h (a k g) (md O b k)
def ZC:=wq (ib .lss A k) λb=>wd b (Oo O a x i j A) (d)
def Ee:=fM (ZC O a d i j k)
def ZB:=wA 1 j λa=>wc O 174 [a] λb=>wq (aD i) λc=>λH=>Ee O (λd e H=>.ok (.aX [d,e]) H) (ZA O i) b i c bZ (iN 0) H
def WJ:=wB 1 i λa=>wA 1 a λb=>wc O 125 [b] λc=>wq (ib .neq c (iN 0)) λd=>wd d (.ok (.aX [(iN 0),c])) (ZB O j a)
def cX(O:Ev.Call)(a:AV):pH:=.ok (.aX [a,(iN 0)])
def Bv(a:pD)(b c d e f g h:AV)(H:Hp):R1:=dz 27 H λi H=>dn 0 0 i H [] [] (.val c) λj H p w=>dn 1 0 i H p w (.val c) λk H p w=>dn 2 2 i H p w (aW k) λl H p w=>dn 3 6 i H p w (aL 1 l) λm H p w=>dl 4 14 i H p w (λH=>aR H m) λn H p w=>dn 5 0 i H p w (aL 0 d) λo H p w=>dl 6 32 i H p w (λH=>aR H o) λq H p w=>dn 7 0 i H p w (aL 0 e) λr H p w=>dl 8 128 i H p w (λH=>aR H r) λs H p w=>dn 9 0 i H p w (.val c) λt H p w=>dn 10 512 i H p w (aW t) λu H p w=>dn 11 1536 i H p w (aL 1 u) λv H p w=>dl 12 3584 i H p w (λH=>aR H v) λx H p w=>dn 13 7680 i H p w (aD x) λy H p w=>dn 14 0 i H p w (.val g) λz H p w=>dn 15 0 i H p w (aL 1 e) λA H p w=>dl 16 32768 i H p w (λH=>aR H A) λB H p w=>dl 18 0 i H p w (λH=>bW 4 H f) λC H p w=>dn 19 0 i H p w (.val (.fn 182 [] [b,d])) λD H p w=>de 98304 H p w (O (.f 180) [B] (eB 98304 p H)) (some true) λE H p w=>de 1015808 H p w (O (.f 181) [C,D] (eB 1015808 p H)) (some true) λF H p w=>dn 21 2097120 i H p w (bJ (bK [zS,zS,iN 0,iN 0,.aA,.aA] [(0,1,q),(1,1,s),(2,1,y),(3,1,z),(4,1,E),(5,1,F)])) λG H p w=>da 22 4194272 i H p w (sQ 1 (i+22) (bK (aU [zS,zS,iN 0,iN 0,.aA,.aA] 1) [(0,6,G)])) λI H p w=>de 8388606 H p w (jD 6 96 (eB 8388606 p H) n (nP 6 (eB 8388606 p H) I)) (some true) λJ H p w=>dn 24 16777215 i H p w (aW j) λK H p w=>dn 25 33554431 i H p w (aL 1 K) λL H p w=>de 67108863 H p w (kL (eB 67108863 p H) L J) (some true) λ_ H p w=>zG p H λH=>(kA md) O a h H
def Ga:=wz 0 λa=>wn 0 0 a (.val j) λc=>wn 1 1 a (aW c) λd=>wn 2 3 a (aL 2 d) λe=>wo 3 7 a (aR · e) λf=>wn 4 0 a (aL 0 k) λg=>wo 5 16 a (aR · g) λh=>wn 6 0 a (aL 0 l) λq=>wo 7 64 a (aR · q) λr=>wn 8 240 a (bJ (bK [zS,zS] [(0,1,h),(1,1,r)])) λs=>wn 9 0 a (.val j) λt=>wn 10 512 a (aW t) λu=>wn 11 1536 a (aL 1 u) λv=>wo 12 3584 a (aR · v) λx=>wn 13 7680 a (aD x) λy=>wu 16383 (jN ⟨(⟨dL (eqFields [(p1,⟨bH⟩,0),(p1,⟨bH⟩,1)])⟩:E2).f,some 2⟩ · f s y) λ_=>wy <| (kA Bv) O b i j k l m n o
def F9:=wA 1 j λa=>wF 0 l λc=>wF 0 m λd=>wc O 179 [a,c,d] λe=>wq (aT 0 e) λf=>wq (aT 1 e) λg=>(kA Ga) O b i k l m n f o
def F8:=wq (aL 2 m) λa=>wA 4 a λc=>wc O 178 [c] λd=>wq (aT 0 d) λe=>wq (aT 1 d) λf=>wN [uN 0,zS,zS,.aA] λg=>wT 4 g e <| (kA F9) O b i j k l m g n
def Bu:=wq (aG 6 m n) λa=>wA 6 a λc=>wN [zS,.aA,uN 0,zS,zS,.aA] λd=>wT 6 d c <| (kA F8) O b i j k l d n
def NS:=wq (ib .lss A n) λa=>wd a ((kA Bu) O x i j k l m A) (d)
def zF:=fM (NS O d i j k l m n)
def F7:=zF O (kA lC O b m) i j k l n o bZ q
def F6:=wF 1 l λa=>wq (aD a) λc=>(kA F7) O b i j k l m a c (iN 0)
def F5:=wq (aG 2 l m) λa=>wA 2 a λc=>wN [zS,.aA] λd=>wT 2 d c <| (kA F6) O b i j k d m
def NT:=wq (ib .lss A m) λa=>wd a ((kA F5) O x i j k l A) (d)
def zP:=fM (NT O d i j k l m)
def F4:=zP O (kA cX O k) i j k l m bZ n
def F3:=wF 0 i λa=>wq (aD a) λb=>(kA F4) O i j k a b (iN 0)
def F2:=wh (λH=>.new (.map H.nx) (.map [] 0)) λa=>wA 1 j λb=>wc O 177 [b] λc=>wq (bJ (bK [.bool false,.aA,.bU,iN 0] [(0,1,(.bool true)),(2,1,a),(3,1,c)])) λd=>wB 4 d λe=>(kA F3) O i j e
def Fu:=wq (ib .neq k (iN 0)) λa=>wd a (.ok (.aX [(.bQ),k])) ((kA F2) O i j)
def Wl:=wB 1 i λa=>wA 1 a λb=>wc O 176 [b] λc=>wq (aT 0 c) λd=>wq (aT 1 c) λe=>wN [.aA] λf=>wT 1 f d <| (kA Fu) O a f e
def aPN:=wc O 184 [i] λa=>wc O 185 [a,(.fn 186 [] [])] λb=>wc O 187 [a] λc=>wq (aD c) λd=>wq (aD c) λe=>wq (kM 6 c none (some d) (some e)) λf=>.ok f
def Wy:=wB 3 i λa=>wq (aL 0 a) λb=>wF 0 b λc=>wq (aL 0 a) λd=>wF 1 d λe=>wF 2 a λf=>wQ 3 (bK (aU [zS] 3) [(0,1,c),(1,1,e),(2,1,f)]) λg=>wc O 135 [g] λh=>.ok h
def aMB:=wc O 62 [i,j,k] λa=>wq (aT 0 a) λb=>wq (aT 1 a) λc=>wN [zS,zS,iN 0,iN 0,.aA,.aA] λd=>wT 6 d b <| wq (ib .eql c (iN 0)) λe=>.ok e
def JW:=wq (aW i) λa=>wF 1 a λb=>wq (aG 6 b k) λc=>wA 6 c λd=>wc O 129 [d] λe=>wT 6 j e <| λH=>dJ (dY (dU (rV (bW 6 H j)) (dU (some (iN 0)) (some [])))) H
def JV:=wq (aW i) λa=>wF 2 a λb=>wq (bJ (bK [zS,zS] [(0,1,j),(1,1,k)])) λc=>wh (mX ⟨(⟨dL (eqFields [(p1,⟨bH⟩,0),(p1,⟨bH⟩,1)])⟩:E2).f,some 2⟩ (iN 0) true · b c) λd=>wq (aT 0 d) λe=>wq (aT 1 d) λf=>wq ((kF .not).f f) λg=>wd g (wq (bJ (bK [zS,zS,iN 0,iN 0,.aA,.aA] [])) λh=>wT 6 l h <| λH=>dJ (dY (dU (rV (bW 6 H l)) (dU (some (iN 6)) (some [])))) H) (JW O i l e)
def Wk:=wN [zS,zS,iN 0,iN 0,.aA,.aA] λa=>wq (iQ false ((⟨E2.f ⟨eN⟩⟩:E2).f i (.bQ))) λb=>wg (bI false b) (.val i) λc=>wg (bI false b) (aW c) λd=>wg (bI false b) (aL 0 d) λe=>wG (bI false b) (aR · e) λf=>wg (bI false b) ((kF .not).f f) λg=>wq (dQ b (.bool true) g) λh=>wd h (wq (bJ (bK [zS,zS,iN 0,iN 0,.aA,.aA] [])) λl=>wT 6 a l <| λH=>dJ (dY (dU (rV (bW 6 H a)) (dU (some (iN 2)) (some [])))) H) (JV O i j k a)
def GJ(O:Ev.Call)(a:AV->AV->pD)(b c d:AV):=wI d λe=>a b c e
def NY:=wq (aG 6 k l) λa=>wA 6 a λb=>wN [zS,zS,zS,zS,zS,zS] λc=>wT 6 c b <| wq (aL 3 c) λd=>wF 2 d λe=>wq (eF (lQ .eql).f e zS) λf=>wd f (wq (aL 3 c) λg=>wq (aL 0 g) λm=>wA 2 m λn=>wQ 1 (bK (aU [zS,zS] 1) [(0,2,n)]) λo=>wP 2 32 i o λq=>GJ O h q j l) (wq (aL 3 c) λr=>wA 3 r λs=>wQ 1 (bK (aU [zS,zS,zS] 1) [(0,3,s)]) λt=>wP 3 48 j t λu=>GJ O h i u l)
def JI:=wq (ib .lss C j) λb=>wd b (NY O z A B i C) (a A B)
def BX:=nC (JI O a i j)
def GI(O:Ev.Call)(a:AV->pD)(b c:AV):=wI c λd=>a b d
def Y8:=wq (aG 6 k l) λb=>wA 6 b λc=>wN [zS,zS,zS,zS,zS,zS] λd=>wT 6 d c <| wq (aL 3 d) λe=>wF 2 e λf=>wq (eF (lQ .eql).f f zS) λg=>wg (wv g) (aL 3 i) λh=>wG (wv g) (aR · h) λm=>wg (wv g) (aL 3 d) λn=>wg (wv g) (aL 0 n) λo=>wg (wv g) (aL 0 o) λq=>wG (wv g) (aR · q) λr=>wx (wv g) (O (.f 198) [m,r]) λs=>wq (dQ g s (.bool false)) λt=>wd t (wq (aL 3 d) λu=>wq (aL 0 u) λv=>wA 2 v λx=>wF 2 i λy=>wq (bJ (bK [zS,zS,zS] [(0,2,x),(2,1,y)])) λz=>wQ 1 (bK (aU [zS,zS,zS] 1) [(0,3,z)]) λA=>wP 3 48 j A λB=>GI O a B l) (GI O a j l)
def JH:=wq (ib .lss B k) λa=>wd a (Y8 O y i A j B) (b A)
def BW:=jX (JH O b i j k)
def VX:=wB 2 i λa=>wB 6 j λb=>wB 3 k λc=>wF 0 b λd=>wq (ib .eql d (uN 1)) λe=>wd e (wF 1 a λf=>wA 3 c λg=>wh (mX ⟨(⟨dL (eqFields [((pA 2),⟨dL (eqFields [(p1,⟨bH⟩,0),(p1,⟨bH⟩,1)])⟩,0),(p1,⟨bH⟩,2)])⟩:E2).f,some 3⟩ (.aA) false · f g) λh=>wq (aD h) λl=>BX O (mc O) h l bZ (.aA) (.aA) (iN 0)) (wq (ib .eql d (uN 2)) λm=>wd m (wq (aL 0 c) λn=>wA 2 n λo=>wF 1 b λq=>wq (bJ (bK [zS,zS,zS] [(0,2,o),(2,1,q)])) λr=>wQ 1 (bK (aU [zS,zS,zS] 1) [(0,3,r)]) λs=>mc O (.aA) s) (wq (ib .eql d (uN 3)) λt=>wd t (wF 1 a λu=>wq (aL 0 c) λv=>wA 2 v λx=>wF 1 b λy=>wq (bJ (bK [zS,zS,zS] [(0,2,x),(2,1,y)])) λz=>wh (mX ⟨(⟨dL (eqFields [((pA 2),⟨dL (eqFields [(p1,⟨bH⟩,0),(p1,⟨bH⟩,1)])⟩,0),(p1,⟨bH⟩,2)])⟩:E2).f,some 3⟩ (.aA) false · u z) λA=>wq (aD A) λB=>BW O (mc O (.aA)) b A B bZ (.aA) (iN 0)) (mc O (.aA) (.aA))))
def Y3(O:Ev.Call)(a:AV):=wq (aD a) λb=>wq (aD a) λc=>wq (kM 3 a none (some b) (some c)) λd=>.ok d
def OK:=wF 0 j λa=>wq (aG 2 a k) λd=>wF 0 d λe=>wq (eF (lQ .eql).f e i) λf=>wd f (b k) (lC O c k)
def Z8:=wF 0 j λa=>wq (aD a) λc=>wq (ib .lss A c) λe=>wd e (OK O b x i j A) (d)
def Et:=fM (Z8 O b d i j)
def Xl:=wB 1 i λa=>Et O .ok (rF O) j a bZ (iN 0)
def zx1(O:Ev.Call)(a:AV):=wq (bJ (bK [uN 0,zS,zS,.aA] [(0,1,(uN 1))])) λb=>wT 4 a b <| λH=>dJ (rV (bW 4 H a)) H
def Xv:=wN [uN 0,zS,zS,.aA] λa=>wd i (wq (bJ (bK [uN 0,zS,zS,.aA] [(0,1,(uN 2)),(1,1,(.str 2 12402))])) λb=>wT 4 a b <| λH=>dJ (rV (bW 4 H a)) H) (zx1 O a)
def ON(O:Ev.Call)(a b c:AV):=wq (io .i64 a) λd=>wq (aD c) λe=>wq (ib .rem d e) λf=>wq (aG 1 c f) λg=>w1 g λh=>wq (bJ (bK [uN 0,zS,zS,.aA] [(0,1,(uN 2)),(1,1,h)])) λi=>wT 4 b i <| λH=>dJ (rV (bW 4 H b)) H
def HE(O:Ev.Call)(a:AV->pD)(b c:AV):=wI c λd=>a b d
def zzz:=wc O 225 [i,l,j] λb=>wd b (wc O 115 [l] λc=>wQ 1 (bK (aU [zS] 1) [(0,1,c)]) λd=>wP 1 16 k d λe=>HE O a e l) (HE O a k l)
def KH:=wA 1 k λa=>wc O 112 [a] λc=>wq (ib .lss B c) λd=>wg (wv d) (.val B) λe=>wg (wv d) (.val i) λf=>wg (wv d) (ib .quo f (iN 4)) λg=>wg (wv d) (ib .mul g (iN 4)) λh=>wg (wv d) (ib .add h (iN 4)) λl=>wg (wv d) (ib .lss e l) λm=>wq (dQ d m (.bool false)) λn=>wd n (zzz O y i j A B) (b A)
def HC:=jX (KH O b i j k)
def Xu:=wB 1 i λa=>wN [uN 0,zS,zS,.aA] λb=>wq (ib .quo j (iN 4)) λc=>wq (ib .mul c (iN 4)) λd=>HC O (ON O k b) j l a bZ (.aA) d
def zxz(O:Ev.Call)(a b c:AV):=wq (io .i64 a) λd=>wq (aD c) λe=>wq (ib .rem d e) λf=>wq (aG 4 c f) λg=>wA 4 g λh=>wT 4 b h <| λH=>dJ (rV (bW 4 H b)) H
def Hy:=wq (aD l) λa=>wq (ib .eql a (iN 0)) λb=>wd b (wc O 167 [j] λc=>wT 4 k c <| λH=>dJ (rV (bW 4 H k)) H) (zxz O i k l)
def KD(O:Ev.Call)(a:AV->pD)(b c:AV):=wI c λd=>a b d
def yq(O:Ev.Call)(a:AV->pD)(b c:AV):=wI c λd=>a b d
def OM:=wz 0 λb=>wn 0 0 b (.val m) λc=>wn 1 0 b (.val n) λd=>wn 2 3 b (aG 2 c d) λe=>wn 3 7 b (aL 1 e) λf=>wo 4 15 b (aR · f) λg=>wn 5 31 b (eF (lQ .eql).f g zS) λh=>wn 6 63 b (.val h) λq=>wr 7 127 b (.val m) (wv q) λr=>wr 8 127 b (.val n) (wv q) λs=>wr 9 511 b (aG 2 r s) (wv q) λt=>wr 10 1023 b (aL 0 t) (wv q) λu=>ws 11 2047 b (aR · u) (wv q) λv=>wr 12 127 b (.val o) (wv q) λx=>wr 13 4223 b (ib .quo x (iN 4)) (wv q) λy=>wt 12415 (O (.f 113) [y]) (wv q) λz=>wr 15 32767 b (eF (lQ .eql).f v z) (wv q) λA=>wn 16 65535 b (dQ q A (.bool false)) λB=>wn 17 131071 b (.val B) λC=>wr 18 262143 b (.val i) (wv C) λD=>wr 19 262143 b (.val o) (wv C) λE=>wr 20 262143 b (.val j) (wv C) λF=>wt 2097151 (O (.f 225) [D,E,F]) (wv C) λG=>wn 22 4194303 b (dQ C G (.bool false)) λI=>wy <| wd I (wc O 115 [l] λJ=>wc O 115 [o] λK=>wq (bJ (bK [uN 0,zS,zS,.aA] [(0,1,(uN 3)),(1,1,J),(2,1,K)])) λL=>wQ 1 (bK (aU [uN 0,zS,zS,.aA] 1) [(0,4,L)]) λM=>wP 4 64 k M λN=>yq O a N o) (yq O a k o)
def KE:=wA 1 k λa=>wc O 112 [a] λc=>wq (ib .lss B c) λd=>wd d (OM O y i j A l m n B) (b A)
def Hw:=jX (KE O b i j k l m n)
def zhp(a:AV->pD)(b c d e f g h:AV)(H:Hp):R1:=Hw O (λe H=>KD O a e h H) b c d f g h bZ e (iN 0) H
def KF:=wq (aD m) λa=>wq (ib .lss B a) λc=>wd c (zhp O y i j k A l m B) (b A)
def Cf:=jX (KF O b i j k l m)
def zho:=wA 1 k λb=>wc O 116 [b,m] λc=>λH=>Cf O (λl H=>lx O a l m H) i j k m c bZ l (iN 0) H
def KG:=wA 1 k λa=>wc O 112 [a] λc=>wq (ib .lss B c) λd=>wg (wv d) (.val B) λe=>wg (wv d) (.val i) λf=>wg (wv d) (ib .quo f (iN 4)) λg=>wg (wv d) (ib .mul g (iN 4)) λh=>wg (wv d) (ib .add h (iN 4)) λl=>wg (wv d) (ib .lss e l) λm=>wq (dQ d m (.bool false)) λn=>wd n (zho O y i j k A B) (b A)
def Cg:=jX (KG O b i j k)
def Xt:=wB 1 i λa=>wN [uN 0,zS,zS,.aA] λb=>wq (ib .quo j (iN 4)) λc=>wq (ib .mul c (iN 4)) λd=>Cg O (Hy O k l b) j l a bZ (.aA) d
def Xs(O:Ev.Call)(a:AV):=wQ 4 (bK (aU [iN 0] 4) [(0,1,(iN 0)),(1,1,(iN 1)),(2,1,(iN 1)),(3,1,(iN 2))]) λb=>wq (ib .rem a (iN 4)) λc=>wq (aG 1 b c) λd=>w1 d λe=>.ok e
def z7b(O:Ev.Call):pH:=.ok (uN 0)
def Xr:=wB 1 i λa=>wF 0 a λb=>wq (aG 1 b j) λc=>w1 c λd=>wq (aD d) λe=>wq (ib .lss k e) λf=>wd f (wF 0 a λg=>wq (aG 1 g j) λh=>w1 h λl=>wq (aG 1 l k) λm=>w1 m λn=>.ok n) (z7b O)
def zxm:=wF 2 i λa=>wF 2 j λb=>wc O 227 [a,b] λc=>.ok c
def WA:=wB 3 i λa=>wB 3 j λb=>wq (aL 0 a) λc=>wA 2 c λd=>wq (aL 0 b) λe=>wA 2 e λf=>wq (iQ true ((⟨E2.f ⟨dL (eqFields [(p1,⟨bH⟩,0),(p1,⟨bH⟩,1)])⟩⟩:E2).f d f)) λg=>wd g (wq (aL 0 a) λh=>wA 2 h λk=>wq (aL 0 b) λl=>wA 2 l λm=>wc O 226 [k,m] λn=>.ok n) (zxm O a b)
def zxl:=wF 2 i λa=>wF 2 j λb=>wc O 227 [a,b] λc=>.ok c
def Wz:=wB 3 i λa=>wB 3 j λb=>wq (aL 0 a) λc=>wA 2 c λd=>wq (aL 0 b) λe=>wA 2 e λf=>wq (iQ true ((⟨E2.f ⟨dL (eqFields [(p1,⟨bH⟩,0),(p1,⟨bH⟩,1)])⟩⟩:E2).f d f)) λg=>wd g (wq (aL 0 a) λh=>wA 2 h λk=>wq (aL 0 b) λl=>wA 2 l λm=>wc O 226 [k,m] λn=>.ok n) (zxl O a b)
def Y1:=wq ((kF .not).f k) λa=>wd a (wA 2 i λb=>wQ 1 (bK (aU [zS,zS] 1) [(0,2,b)]) λc=>wP 2 32 j c λd=>gV O d) (gV O j)
def zxg(O:Ev.Call)(a:AV->AV->pD)(b c d:AV):=wI d λe=>a b c e
def GN:=wq (aG 2 i l) λa=>wA 2 a λb=>wQ 1 (bK (aU [zS,zS] 1) [(0,2,b)]) λc=>wP 2 32 j c λd=>zxg O h d k l
def NV:=wz 0 λa=>wn 0 0 a (.val l) λb=>wn 1 1 a ((kF .not).f b) λc=>wn 2 3 a (.val c) λd=>ws 3 7 a (bW 2 · j) (wv d) λe=>wr 4 7 a (.val i) (wv d) λf=>wr 5 7 a (.val m) (wv d) λg=>wr 6 55 a (aG 2 f g) (wv d) λn=>ws 7 119 a (bW 2 · n) (wv d) λo=>wt 255 (O (.f 132) [e,o]) (wv d) λq=>wn 9 511 a (dQ d q (.bool false)) λr=>wy <| wd r (wA 2 j λs=>wQ 1 (bK (aU [zS,zS] 1) [(0,2,s)]) λt=>wP 2 32 k t λu=>GN O h i u (.bool true) m) (GN O h i k l m)
def Da:=wq (aD i) λb=>wq (ib .lss C b) λc=>wd c (NV O z i j A B C) (a A B)
def CG:=nC (Da O a i j)
def Y2:=CG O (Y1 O j) i j bZ (.aA) (.bool false) (iN 0)
def Wo:=wB 2 j λa=>wA 2 a λb=>wc O 131 [i,b] λc=>wd c (.ok i) (Y2 O i a)
def XQ:=wB 1 i λa=>wA 1 a λb=>wc O 188 [b] λc=>wq (aT 0 c) λd=>wq (aT 1 c) λe=>wN [iN 0,.aA] λf=>wT 2 f d <| wq (ib .eql e (iN 0)) λg=>wd g (wA 2 f λh=>wc O 189 [h] λj=>wq (aT 0 j) λk=>wq (aT 1 j) λl=>gV O l) (gV O e)
def Ol(O:Ev.Call)(a:pD)(b:AV):=wI b a
def Zv:=wq (aG 6 k l) λa=>wA 6 a λc=>wN [zS,.aA,uN 0,zS,zS,.aA] λd=>wT 6 d c <| λH=>dz 11 H λe H=>dn 0 0 e H [] [] (.val i) λf H p w=>dn 1 0 e H p w (aL 0 j) λg H p w=>dl 2 2 e H p w (λH=>aR H g) λh H p w=>dn 3 0 e H p w (aL 0 d) λm H p w=>dl 4 8 e H p w (λH=>aR H m) λn H p w=>dn 5 30 e H p w (bJ (bK [zS,zS] [(0,1,h),(1,1,n)])) λo H p w=>da 6 0 e H p w (sQ 0 (e+6) (bK (aU [zS,zS] 0) [])) λq H p w=>dn 7 0 e H p w (aL 1 d) λr H p w=>dl 8 128 e H p w (λH=>aR H r) λs H p w=>de 448 H p w (jD 2 32 (eB 448 p H) q (nP 2 (eB 448 p H) s)) (some true) λt H p w=>de 1023 H p w (jN ⟨(⟨dL (eqFields [(p1,⟨bH⟩,0),(p1,⟨bH⟩,1)])⟩:E2).f,some 2⟩ (eB 1023 p H) f o t) (some true) λ_ H p w=>zG p H λH=>Ol O b l H
def JX:=wq (ib .lss A l) λa=>wd a (Zv O x i j k A) (d)
def GO:=fM (JX O d i j k l)
def Zu:=wq (aG 2 j k) λa=>wA 2 a λc=>wN [zS,.aA] λd=>wT 2 d c <| wF 1 d λe=>wq (aD e) λf=>GO O (md O b k) i d e f bZ (iN 0)
def Zw:=wq (ib .lss A k) λa=>wd a (Zu O x i j A) (d)
def CJ:=fM (Zw O d i j k)
def WG:=wB 1 i λa=>wh (λH=>.new (.map H.nx) (.map [] 0)) λb=>wF 0 a λc=>wq (aD c) λd=>CJ O (gV O b) b c d bZ (iN 0)
def Zt:=wq (aL 0 j) λa=>wq (aL 0 a) λb=>wF 0 b λc=>wq (aL 0 j) λd=>wF 2 d λe=>wq (bJ (bK [zS,zS] [(0,1,c),(1,1,e)])) λf=>wh (mX ⟨(⟨dL (eqFields [(p1,⟨bH⟩,0),(p1,⟨bH⟩,1)])⟩:E2).f,some 2⟩ (.aA) true · i f) λg=>wq (aT 0 g) λh=>wq (aT 1 g) λk=>wq ((kF .not).f k) λl=>wd l (.ok (iN 6)) (wq (aL 3 j) λm=>wq (aL 0 m) λn=>wF 0 n λo=>wq (aL 3 j) λq=>wF 2 q λr=>wq (bJ (bK [zS,zS] [(0,1,o),(1,1,r)])) λs=>wc O 229 [h,s] λt=>wq ((kF .not).f t) λu=>wd u (.ok (iN 11)) (kJ O))
def WF:=wB 6 j λa=>wA 6 a λb=>wc O 228 [b] λc=>wq (ib .neq c (iN 0)) λd=>wd d (.ok (iN 6)) (Zt O i a)
def Kp(O:Ev.Call)(a b:AV):=wA 1 b λc=>wT 1 a c <| λH=>dJ (dY (dU (rV (bW 1 H a)) (dU (some (iN 0)) (some [])))) H
def ziu(O:Ev.Call)(a:pD)(b:AV):=wI b a
def zit:=wz 0 λa=>wn 0 0 a (aL 0 k) λc=>wo 1 1 a (aR · c) λd=>wn 2 0 a (.val l) λe=>wn 3 0 a (aL 0 k) λf=>wo 4 8 a (aR · f) λg=>wn 5 0 a (.val l) λh=>wo 6 0 a (bW 1 · i) λm=>wn 7 0 a (.val l) λn=>wu 192 (O (.f 230) [m,n]) λo=>wn 9 448 a (.val o) λq=>wn 10 960 a (aT 0 q) λr=>wn 11 960 a (aT 1 q) λs=>wn 12 960 a (aT 2 q) λt=>wn 13 1991 a (aG 3 d e) λu=>wn 14 10183 a (aL 0 u) λv=>wu 26567 (kL · v r) λ_=>wn 16 61439 a (aG 3 g h) λx=>wn 17 126975 a (aL 1 x) λy=>wu 258047 (kL · y s) λ_=>wy <| wz 0 λz=>wn 0 0 z (aL 0 k) λA=>wo 1 1 z (aR · A) λB=>wn 2 0 z (.val l) λC=>wn 3 7 z (aG 3 B C) λD=>wn 4 0 z (.val j) λE=>wn 5 0 z (.val l) λF=>wn 6 48 z (aG 1 E F) λG=>wo 7 112 z (aR · G) λI=>wu 255 (O (.f 231) [D,I]) λJ=>wy <| ziu O b l
def KX:=wq (ib .lss A l) λa=>wd a (zit O x i j k A) (d)
def HU:=fM (KX O d i j k l)
def zis:=wq (aD k) λa=>wh (λH=>fC [zS,zS,iN 0] 40 H.nx a a) λb=>wq (bJ (bK [.aA] [(0,1,b)])) λc=>wN [.aA] λd=>wT 1 d c <| wF 0 d λe=>wq (aD e) λf=>HU O (Kp O j d) i k d f bZ (iN 0)
def zir:=wA 2 k λa=>wc O 189 [a] λb=>wq (aT 0 b) λc=>wq (aT 1 b) λd=>wq (ib .neq d (iN 0)) λe=>wd e (wq (bJ (bK [.aA] [])) λf=>wT 1 j f <| λH=>dJ (dY (dU (rV (bW 1 H j)) (dU (some d) (some [])))) H) (zis O i j c)
def XR:=wB 1 i λa=>wN [.aA] λb=>wA 1 a λc=>wc O 188 [c] λd=>wq (aT 0 d) λe=>wq (aT 1 d) λf=>wN [iN 0,.aA] λg=>wT 2 g e <| wq (ib .neq f (iN 0)) λh=>wd h (wq (bJ (bK [.aA] [])) λj=>wT 1 b j <| λH=>dJ (dY (dU (rV (bW 1 H b)) (dU (some f) (some [])))) H) (zir O a b g)
def OJ:=wq (aG 3 j k) λb=>wA 3 b λc=>wN [zS,zS,iN 0] λd=>wT 3 d c <| wF 2 d λe=>wI e λf=>wQ 2 (bK (aU [iN 0] 2) [(0,1,i),(1,1,f)]) λg=>wc O 232 [g] λh=>t9 O a h k
def DA:=wq (ib .lss B j) λa=>wd a (OJ O y A i B) (b A)
def Ej:=jX (DA O b i j)
def XL:=wB 1 i λa=>wF 0 a λb=>wq (aD b) λc=>Ej O (gV O) b c bZ (iN 0) (iN 0)
def N9:=wA 4 i λa=>wc O 233 [a] λb=>wT 4 j b <| λH=>dJ (dY (dU (rV (bW 4 H j)) (dU (some (iN 0)) (some [])))) H
def Wj:=wB 4 i λa=>wN [uN 0,zS,zS,.aA] λb=>wA 4 a λc=>wc O 201 [c] λd=>wq (ib .neq d (iN 0)) λe=>wd e (wq (bJ (bK [uN 0,zS,zS,.aA] [])) λf=>wT 4 b f <| λH=>dJ (dY (dU (rV (bW 4 H b)) (dU (some d) (some [])))) H) (N9 O a b)
def OT(O:Ev.Call):pH:=.ok (.aX [(iN 0),(iN 6)])
def OS:=wq (aG 3 k l) λc=>wA 3 c λd=>wN [zS,zS,iN 0] λe=>wT 3 e d <| wF 0 e λf=>wq (eF (lQ .eql).f f i) λg=>wg (wv g) (aL 1 e) λh=>wG (wv g) (aR · h) λm=>wg (wv g) (.val j) λn=>wg (wv g) (eF (lQ .eql).f m n) λo=>wq (dQ g o (.bool false)) λq=>wd q (wF 2 e λr=>a r (iN 0)) (w9 O b l)
def DC:=wq (ib .lss A l) λb=>wd b (OS O a x i j k A) (d)
def Cx:=fM (DC O a d i j k l)
def XM:=wB 1 i λa=>wF 0 a λb=>wq (aD b) λc=>λH=>Cx O (λd e H=>.ok (.aX [d,e]) H) (OT O) j k b c bZ (iN 0) H
def zxe(O:Ev.Call)(a:AV):=wQ 0 (bK (aU [zS,zS] 0) []) λb=>wP 2 32 b a λc=>.ok c
def aMx:=wq (iQ false ((⟨E2.f ⟨rX⟩⟩:E2).f i (.aA))) λa=>wd a (.ok (.aA)) (zxe O i)
def Wi:=wA 1 k λa=>wF 0 l λb=>wc O 183 [a,b,i,j] λc=>wq (aT 0 c) λd=>wq (aT 1 c) λe=>.ok d
def yo:=wF 0 m λb=>wq (ib .eql b (uN 3)) λc=>wd c (wF 1 m λd=>wF 2 m λe=>we (oV O i [d,e]) λf=>wq (aG 6 j l) λg=>wq (aL 3 g) λh=>wU h f <| tZ O a k n) (tZ O a k n)
def GM:=wq (aG 5 l m) λb=>wA 5 b λc=>wN [uN 0,zS,zS,.aA,.bool false] λd=>wT 5 d c <| wF 0 d λe=>wF 1 d λf=>wF 2 d λg=>wF 3 d λh=>wq (bJ (bK [uN 0,zS,zS,.aA,.aA,iN 0] [(0,1,e),(1,1,f),(2,1,g),(4,1,h),(5,1,(.int .i64 (.negSucc 0)))])) λn=>wq (aG 6 j m) λo=>wT 6 o n <| wF 0 d λq=>wq (ib .leq q (uN 3)) λr=>wd r (wq (aG 6 j m) λs=>wq (aL 5 s) λt=>wU t k <| wI k λu=>yo O a i j u m d m) (yo O a i j k m d m)
def N8:=wq (ib .lss B l) λa=>wd a (GM O y i j A k B) (d)
def zE:=jX (N8 O d i j k l)
def Wh:=wB 4 i λa=>wA 4 a λb=>wc O 234 [b] λc=>wq (aT 0 c) λd=>wq (aT 1 c) λe=>wq (aD d) λf=>wh (λH=>fC [uN 0,zS,zS,.aA,.aA,iN 0] 96 H.nx f f) λg=>wq (aD d) λh=>zE O (gV O g) j g d h bZ (iN 0) (iN 0)
def zw6(O:Ev.Call)(a:AV):=wQ 0 (bK (aU [zS,zS,zS,zS,zS,zS] 0) []) λb=>wP 6 96 b a λc=>.ok c
def aNW:=wq (iQ false ((⟨E2.f ⟨rX⟩⟩:E2).f i (.aA))) λa=>wd a (.ok (.aA)) (zw6 O i)
def Y7(O:Ev.Call)(a:pD)(b c:AV):=wq (kM 6 b (some c) none none) λd=>we (oY [zS,zS,zS,zS,zS,zS] · d) λ_=>wq (kM 6 b none (some c) none) λe=>a e
def ym(O:Ev.Call)(a:AV->pD)(b c:AV):=wI c λd=>a b d
def zzk:=wl (aG 6 k l) λb=>wL (bW 6 · b) λc=>wl (ib .sub l (iN 1)) λd=>wl (aG 6 k d) λe=>wL (bW 6 · e) λf=>wl (iQ true ((⟨E2.f ⟨dL (eqFields [((pA 3),⟨dL (eqFields [((pA 2),⟨dL (eqFields [(p1,⟨bH⟩,0),(p1,⟨bH⟩,1)])⟩,0),(p1,⟨bH⟩,2)])⟩,0),((pA 3),⟨dL (eqFields [((pA 2),⟨dL (eqFields [(p1,⟨bH⟩,0),(p1,⟨bH⟩,1)])⟩,0),(p1,⟨bH⟩,2)])⟩,3)])⟩⟩:E2).f c f)) λg=>wd g (wq (aG 6 k l) λh=>wA 6 h λm=>wq (aG 6 i j) λn=>wT 6 n m <| wI j λo=>ym O a o l) (ym O a j l)
def zzl:=wq (aD j) λa=>wq (ib .lss B a) λc=>wd c (zzk O y i A j B) (b A)
def Y6:=jX (zzl O b i j)
def zzj:=wl (aG 6 i j) λa=>wL (bW 6 · a) λd=>wl (ib .sub j (iN 1)) λe=>wl (aG 6 i e) λf=>wL (bW 6 · f) λg=>wl (iQ false ((⟨E2.f ⟨dL (eqFields [((pA 3),⟨dL (eqFields [((pA 2),⟨dL (eqFields [(p1,⟨bH⟩,0),(p1,⟨bH⟩,1)])⟩,0),(p1,⟨bH⟩,2)])⟩,0),((pA 3),⟨dL (eqFields [((pA 2),⟨dL (eqFields [(p1,⟨bH⟩,0),(p1,⟨bH⟩,1)])⟩,0),(p1,⟨bH⟩,2)])⟩,3)])⟩⟩:E2).f d g)) λh=>wd h (wq (kM 6 i (some j) none none) λk=>Y6 O (Y7 O b i) i k bZ j (iN 1)) (jg O c j)
def z3q:=wq (aD i) λa=>wq (ib .lss A a) λc=>wd c (zzj O b x i A) (d)
def zw5:=fM (z3q O b d i)
def zzi:=zw5 O .ok (gV O i) i bZ (iN 1)
def VW:=wq (aD i) λa=>wq (ib .lss a (iN 2)) λb=>wd b (.ok i) (zzi O i)
def Oh:=wq (aG 1 i j) λa=>w1 a λd=>wc O 199 [d] λe=>wq (ib .neq e (iN 0)) λf=>wd f (b e) (lC O c j)
def Oi:=wq (ib .lss A j) λa=>wd a (Oh O b x i A) (d)
def Eb:=fM (Oi O b d i j)
def Wv:=wq (aD i) λa=>Eb O .ok (kJ O) i a bZ (iN 0)
def GL(O:Ev.Call)(a b:AV):=wA 6 a λc=>wT 6 b c <| λH=>dJ (rV (bW 6 H b)) H
def Jv(O:Ev.Call)(a:pD)(b:AV):=wI b a
def Ju:=wF 5 i λa=>wq (aG 6 a j) λc=>wz 0 λd=>wn 0 0 d (.val c) λe=>wn 1 0 d (.val c) λf=>wn 2 0 d (.val c) λg=>wn 3 4 d (aW g) λh=>wn 4 12 d (aL 3 h) λk=>wo 5 28 d (aR · k) λl=>wn 8 0 d (.val c) λm=>wn 9 256 d (aW m) λn=>wn 10 768 d (aL 4 n) λo=>wo 11 1792 d (aR · o) λq=>wu 60 (O (.f 195) [l]) λr=>wu 124 (O (.f 194) [r]) λs=>wu 4092 (O (.f 197) [q]) λt=>wu 8188 (O (.f 196) [t]) λu=>wn 14 16381 d (aW e) λv=>wn 15 32765 d (aL 3 v) λx=>wu 65533 (kL · x s) λ_=>wn 17 131071 d (aW f) λy=>wn 18 262143 d (aL 4 y) λz=>wu 524287 (kL · z u) λ_=>wy <| Jv O b j
def JU:=wq (ib .lss A j) λa=>wd a (Ju O x i A) (d)
def tT:=fM (JU O d i j)
def Wg:=wB 6 i λa=>wN [zS,zS,iN 0,iN 0,.aA,.aA] λb=>wF 4 a λc=>wc O 180 [c] λd=>wc O 191 [d] λe=>wq (aL 4 a) λf=>wU f e <| wF 5 a λg=>wc O 193 [g] λh=>wc O 192 [h] λj=>wq (aL 5 a) λk=>wU k j <| wF 5 a λl=>wq (aD l) λm=>tT O (GL O a b) a m bZ (iN 0)
def Px:=wc O 247 [i,j] λa=>wq (ib .geq a (iN 0)) λb=>.ok b
def aOc:=wc O 170 [j] λa=>wc O 170 [i] λb=>wq (ib .lss a b) λc=>wg (bI false c) (.val k) λd=>wg (bI false c) ((kF .not).f d) λe=>wg (bI false c) (.val e) λf=>wg (wv f) (.val j) λg=>wx (wv f) (O (.f 170) [g]) λh=>wg (wv f) (.val i) λl=>wx (wv f) (O (.f 170) [l]) λm=>wg (wv f) (ib .eql h m) λn=>wg (bI false c) (dQ f n (.bool false)) λo=>wq (dQ c (.bool true) o) λq=>.ok q
def zxj:=wF 1 i λa=>wF 1 j λb=>wc O 227 [a,b] λc=>.ok c
def Ww:=wB 2 i λa=>wB 2 j λb=>wF 0 a λc=>wF 0 b λd=>wq (eF (lQ .neq).f c d) λe=>wd e (wF 0 a λf=>wF 0 b λg=>wc O 227 [f,g] λh=>.ok h) (zxj O a b)
def z4v:=wq (qY i) λa=>wq (qY j) λb=>wq (ib .gtr a b) λc=>wd c (.ok (iN 1)) (kJ O)
def zxh:=wq (qY i) λa=>wq (qY j) λb=>wq (ib .lss a b) λc=>wd c (.ok (.int .i64 (.negSucc 0))) (z4v O i j)
def zzq(O:Ev.Call)(a:pD)(b:AV):=wI b a
def zzp:=wl (fE i k) λa=>wl (fE j k) λd=>wl (ib .gtr a d) λe=>wd e (b (iN 1)) (zzq O c k)
def zzo:=wl (fE i k) λa=>wl (fE j k) λd=>wl (ib .lss a d) λe=>wd e (b (.int .i64 (.negSucc 0))) (zzp O b c i j k)
def zxi:=wq (qY i) λa=>wq (ib .lss A a) λc=>wg (wv c) (.val A) λe=>wg (wv c) (.val j) λf=>wg (wv c) (qY f) λg=>wg (wv c) (ib .lss e g) λh=>wq (dQ c h (.bool false)) λk=>wd k (zzo O b x i j A) (d)
def Oj:=fM (zxi O b d i j)
def IB:=Oj O .ok (zxh O i j) i j bZ (iN 0)
def zxf:=wl (aG 2 i k) λa=>wL (bW 2 · a) λd=>wL (bW 2 · j) λe=>wl (iQ false ((⟨E2.f ⟨dL (eqFields [(p1,⟨bH⟩,0),(p1,⟨bH⟩,1)])⟩⟩:E2).f d e)) λf=>wd f (b (.bool true)) (lC O c k)
def NU:=wq (aD i) λa=>wq (ib .lss A a) λc=>wd c (zxf O b x i j A) (d)
def D8:=fM (NU O b d i j)
def Wn:=wB 2 j λa=>D8 O .ok (CV O) i a bZ (iN 0)
def Wm(O:Ev.Call)(a b:AV):=wB 2 a λc=>wB 2 b λd=>wF 0 c λe=>wF 0 d λf=>wq (eF (lQ .lss).f e f) λg=>wg (bI false g) (aL 0 c) λh=>wG (bI false g) (aR · h) λi=>wg (bI false g) (aL 0 d) λj=>wG (bI false g) (aR · j) λk=>wg (bI false g) (eF (lQ .eql).f i k) λl=>wg (bI false g) (.val l) λm=>wg (wv m) (aL 1 c) λn=>wG (wv m) (aR · n) λo=>wg (wv m) (aL 1 d) λq=>wG (wv m) (aR · q) λr=>wg (wv m) (eF (lQ .lss).f o r) λs=>wg (bI false g) (dQ m s (.bool false)) λt=>wq (dQ g (.bool true) t) λu=>.ok u
def BN:=wF 1 j λa=>wc O 243 [a] λb=>wq (aL 1 j) λc=>wU c b <| wA 2 j λd=>wT 2 i d <| λH=>dJ (dY (dU (rV (bW 2 H i)) (dU (some (iN 0)) (some [])))) H
def yG(O:Ev.Call)(a:pD)(b:AV):=wI b a
def KL(O:Ev.Call)(a:pD)(b:AV):=wI b a
def tW(O:Ev.Call)(a:pD)(b:AV):=wI b a
def G4(O:Ev.Call)(a:pD)(b:AV):=wI b a
def Z3:=wq (aG 2 j k) λa=>wA 2 a λc=>wN [zS,zS] λd=>wT 2 d c <| wF 1 d λe=>wq (eF (lQ .neq).f e zS) λf=>wd f (wF 0 d λg=>wF 1 d λh=>we (oV O i [g,h]) λl=>G4 O b k) (G4 O b k)
def KN:=wq (ib .lss A k) λa=>wd a (Z3 O x i j A) (d)
def G2:=fM (KN O d i j k)
def Z2(O:Ev.Call)(a:pD)(b:AV):=wI b a
def RD:=wq (aG 1 k l) λa=>w1 a λc=>wF 2 i λd=>we (oV O j [c,d]) λe=>Z2 O b l
def KM:=wq (ib .lss A l) λa=>wd a (RD O x i j k A) (d)
def G1:=fM (KM O d i j k l)
def RC:=wq (aG 5 n o) λa=>wA 5 a λc=>wN [uN 0,zS,zS,.aA,.bool false] λd=>wT 5 d c <| wF 0 d λe=>wq (ib .eql e (uN 1)) λf=>wd f (wF 1 m λg=>wq (aD g) λh=>G2 O (tW O b o) (.fn 242 [] [k,j,l,m,d]) g h bZ (iN 0)) (wq (ib .eql e (uN 2)) λq=>wd q (wF 0 l λr=>wF 1 d λs=>we (oV O (.fn 242 [] [k,j,l,m,d]) [r,s]) λt=>tW O b o) (wq (ib .eql e (uN 3)) λu=>wd u (wA 1 i λv=>wF 0 l λx=>wF 1 d λy=>wF 2 d λz=>wc O 183 [v,x,y,z] λA=>wq (aT 0 A) λB=>wq (aT 1 A) λC=>wq (aD B) λD=>G1 O (tW O b o) d (.fn 242 [] [k,j,l,m,d]) B D bZ (iN 0)) (tW O b o)))
def KO:=wq (ib .lss A o) λa=>wd a (RC O x i j k l m n A) (d)
def yy:=fM (KO O d i j k l m n o)
def RA:=wq (aG 6 m n) λa=>wA 6 a λc=>wN [zS,.aA,uN 0,zS,zS,.aA] λd=>wT 6 d c <| wq (aL 2 d) λe=>wA 4 e λf=>wc O 234 [f] λg=>wq (aT 0 g) λh=>wq (aT 1 g) λo=>wq (aD h) λq=>yy O (KL O b n) i j k l d h q bZ (iN 0)
def Kg:=wq (ib .lss A n) λa=>wd a (RA O x i j k l m A) (d)
def Cj:=fM (Kg O d i j k l m n)
def Rz:=wq (aG 2 l m) λa=>wA 2 a λc=>wN [zS,.aA] λd=>wT 2 d c <| wF 1 d λe=>wq (aD e) λf=>Cj O (yG O b m) i j k d e f bZ (iN 0)
def Kh:=wq (ib .lss A m) λa=>wd a (Rz O x i j k l A) (d)
def yz:=fM (Kh O d i j k l m)
def FK:=w1 k λa=>wh (sd · a) λb=>wq (bJ (bK [iN 0,.aA] [(0,1,b)])) λc=>wN [iN 0,.aA] λd=>wT 2 d c <| wF 0 i λe=>wq (aD e) λf=>yz O (BN O j d) i k d e f bZ (iN 0)
def MD(O:Ev.Call)(a:pD)(b:AV):=wI b a
def Ry(O:Ev.Call)(a:pD)(b:AV):=wI b a
def Rw:=wq (aG 6 k l) λa=>wA 6 a λc=>wN [zS,.aA,uN 0,zS,zS,.aA] λd=>wT 6 d c <| w1 i λe=>wF 0 j λf=>wF 0 d λg=>wq (bJ (bK [zS,zS] [(0,1,f),(1,1,g)])) λh=>w1 i λm=>wh (sd · m) λn=>we (jN ⟨(⟨dL λo q=>zI p1 ⟨bH⟩ 1 o q 2 0⟩:E2).f,some 2⟩ · e h n) λ_=>Ry O b l
def ME:=wq (ib .lss A l) λa=>wd a (Rw O x i j k A) (d)
def FJ:=fM (ME O d i j k l)
def Rr:=wq (aG 2 j k) λa=>wA 2 a λc=>wN [zS,.aA] λd=>wT 2 d c <| wF 1 d λe=>wq (aD e) λf=>FJ O (MD O b k) i d e f bZ (iN 0)
def MF:=wq (ib .lss A k) λa=>wd a (Rr O x i j A) (d)
def Bw:=fM (MF O d i j k)
def Rq:=wh (λH=>.new (.map H.nx) (.map [] 0)) λa=>wN [.bU] λb=>wU b a <| wF 0 i λc=>wq (aD c) λd=>Bw O (FK O i j b) b c d bZ (iN 0)
def XE:=wB 1 i λa=>wN [iN 0,.aA] λb=>wA 1 a λc=>wc O 235 [c] λd=>wq (ib .neq d (iN 0)) λe=>wd e (wq (bJ (bK [iN 0,.aA] [])) λf=>wT 2 b f <| λH=>dJ (dY (dU (rV (bW 2 H b)) (dU (some d) (some [])))) H) (Rq O a b)
def OP(O:Ev.Call)(a:pD)(b:AV):=wI b a
def zhy:=wq (aG 1 k l) λa=>w1 a λc=>wc O 232 [j] λd=>wq (aG 1 i c) λe=>wU e d <| OP O b l
def KK:=wq (ib .lss A l) λa=>wd a (zhy O x i j k A) (d)
def HJ:=fM (KK O d i j k l)
def HK:=wq (aD j) λa=>HJ O (yM O b l) i k j a bZ (iN 0)
def Ch(O:Ev.Call)(a:AV->pD)(b c:AV):=wI c λd=>a b d
def FI:=wq (aG 3 m n) λb=>wA 3 b λc=>wN [iN 0,iN 0,.bool false] λd=>wT 3 d c <| wF 1 i λe=>wF 0 d λf=>wq (aG 1 e f) λg=>w1 g λh=>wq (ib .eql h k) λo=>wg (wv o) (aL 1 i) λq=>wG (wv o) (aR · q) λr=>wg (wv o) (aL 1 d) λs=>wG (wv o) (aR · s) λt=>wg (wv o) (aG 1 r t) λu=>wG (wv o) (aR · u) λv=>wg (wv o) (.val k) λx=>wg (wv o) (ib .neq v x) λy=>wq (dQ o y (.bool false)) λz=>wd z (λH=>dz 12 H λA H =>   dn 0 0 A H [] [] (.val l) λB H p w =>   dn 1 0 A H p w (.val j) λC H p w =>   dn 2 0 A H p w (aL 1 d) λD H p w =>   dl 3 4 A H p w (λH=>aR H D) λE H p w =>   dn 4 14 A H p w (aG 1 C E) λF H p w =>   dl 5 30 A H p w (λH=>aR H F) λG H p w =>   dl 6 0 A H p w (λH=>bW 3 H d) λI H p w =>   de 64 H p w (O (.f 246) [I] (eB 64 p H)) (some true) λJ H p w =>   dn 8 254 A H p w (ib .add G J) λK H p w =>   da 9 510 A H p w (sQ 1 (A+9) (bK (aU [iN 0] 1) [(0,1,K)])) λL H p w =>   de 1023 H p w (jD 1 8 (eB 1023 p H) B (nP 1 (eB 1023 p H) L)) (some true) λM H p w =>   dn 11 2047 A H p w (.val M) λN H p w =>   zG p H λH =>   Ch O a N n H) (Ch O a l n)
def KJ:=wq (ib .lss B m) λa=>wd a ((kA FI) O y i j k A l B) (b A)
def yt:=jX (KJ O b i j k l m)
def zhx:=wq (aG 1 l m) λa=>w1 a λc=>wF 1 i λd=>wq (aD d) λe=>λH=>yt O (λf H=>HK O b k c f m H) j k m d e bZ (.aA) (iN 0) H
def Ci:=wq (ib .lss A m) λa=>wd a (zhx O x i j k l A) (d)
def yv:=fM (Ci O d i j k l m)
def tP:=wF 0 j λa=>wq (aD a) λb=>yv O (cX O k) i j k a b bZ (iN 0)
def FH:=wF 0 i λa=>wq (ib .gtr a (iN 0)) λb=>wd b (wF 0 i λc=>wh (λH=>fC [iN 0] 8 H.nx c c) λd=>(kA tP) O i j d) ((kA tP) O i j (.aA))
def FG:=wA 2 i λa=>wc O 245 [a] λb=>wq (aT 0 b) λc=>wq (aT 1 b) λd=>wq (aD c) λe=>wq (ib .gtr e (iN 0)) λf=>wd f (.ok (.aX [(.aA),(iN 12)])) ((kA FH) O i j)
def XD:=wB 2 i λa=>wA 2 a λb=>wc O 244 [b] λc=>wq (aT 0 c) λd=>wq (aT 1 c) λe=>wN [.aA,.aA] λf=>wT 2 f d <| wq (ib .neq e (iN 0)) λg=>wd g (.ok (.aX [(.aA),e])) ((kA FG) O a f)
def zxn:=wq (aL 3 i) λa=>wA 3 a λb=>wc O 261 [b] λc=>.ok c
def WB:=wB 6 i λa=>wq (aL 0 a) λb=>wA 3 b λc=>wc O 133 [c] λd=>wq (ib .neq d (iN 0)) λe=>wd e (.ok d) (zxn O a)
def WW:=wB 2 j λa=>wA 2 a λb=>wc O 262 [i,b] λc=>wq (ib .geq c (iN 0)) λd=>.ok d
def zhw(O:Ev.Call)(a b:AV):=wl (aW b) λc=>wl (aL 4 c) λd=>wL (aR · d) λe=>wl (aG 1 e a) λf=>wL (aR · f) λg=>wl (aW b) λh=>wl (aL 3 h) λi=>wL (aR · i) λj=>wl (aG 1 j a) λk=>wL (aR · k) λl=>wl (aW l) λm=>wl (aL 0 m) λn=>wL (aR · n) λo=>.ok (.aX [g,o,(iN 0)])
def zhv:=wA 1 j λa=>wc O 236 [a] λb=>wq (ib .lss i (iN 0)) λc=>wg (bI false c) (.val i) λd=>wg (bI false c) (.val b) λe=>wg (bI false c) (aW e) λf=>wg (bI false c) (aL 3 f) λg=>wG (bI false c) (aR · g) λh=>wg (bI false c) (aD h) λk=>wg (bI false c) (ib .geq d k) λl=>wq (dQ c (.bool true) l) λm=>wd m (.ok (.aX [zS,zS,(iN 4)])) (zhw O i b)
def XC:=wB 1 i λa=>wA 1 a λb=>wc O 235 [b] λc=>wq (ib .neq c (iN 0)) λd=>wd d (.ok (.aX [zS,zS,c])) (zhv O j a)
def XB(O:Ev.Call)(a b:AV):=wq (aW a) λc=>wq (aL 2 c) λd=>wU d b <| .ok (.aX [])
def zx2:=wq (aG 1 j k) λb=>w1 b λc=>wq (rT qV i [c]) λd=>pf O a d k
def OO:=wq (ib .lss B j) λa=>wd a (zx2 O y A i B) (b A)
def Eu:=jX (OO O b i j)
def Xw:=wq (aD i) λa=>Eu O (gV O) i a bZ (iN 0) (iN 0)
def PA:=wB 4 i λa=>wc O 249 [a] λb=>wq (aT 0 b) λc=>wq (aT 1 b) λd=>wq (aT 2 b) λe=>.ok e
def N6:=wc O 248 [k] λa=>wq (aL 3 i) λb=>wU b a <| wA 4 i λc=>wT 4 j c <| λH=>dJ (rV (bW 4 H j)) H
def B4(O:Ev.Call)(a:AV->pD)(b c:AV):=wI c λd=>a b d
def Jt:=wq (aG 4 k l) λb=>wA 4 b λc=>wN [uN 0,zS,zS,.aA] λd=>wT 4 d c <| wA 4 d λe=>wc O 233 [e] λf=>wT 4 d f <| wF 0 d λg=>wF 0 i λh=>wq (ib .eql g h) λm=>wg (wv m) (aL 0 i) λn=>wG (wv m) (aR · n) λo=>wg (wv m) (ib .neq o (uN 6)) λq=>wq (dQ m q (.bool false)) λr=>wd r (wF 3 d λs=>wP 4 64 j s λt=>B4 O a t l) (wA 4 d λu=>wQ 1 (bK (aU [uN 0,zS,zS,.aA] 1) [(0,4,u)]) λv=>wP 4 64 j v λx=>B4 O a x l)
def B5:=wq (ib .lss B k) λa=>wd a (Jt O y i A j B) (b A)
def lA:=jX (B5 O b i j k)
def Wf:=wB 4 i λa=>wN [uN 0,zS,zS,.aA] λb=>wF 3 a λc=>wq (aD c) λd=>lA O (N6 O a b) a c d bZ (.aA) (iN 0)
def z6y:=wc O 238 [l,i,j,k] λa=>wq (aD a) λb=>wq (ib .eql b (iN 0)) λc=>wd c (.ok (.aX [(.aA),(iN 11)])) (cX O a)
def zhh:=wA 1 l λa=>wc O 236 [a] λb=>wc O 237 [b,i,j] λc=>wq (iQ false ((⟨E2.f ⟨eN⟩⟩:E2).f c (.bQ))) λd=>wd d (.ok (.aX [(.aA),(iN 6)])) (z6y O i j k b)
def Xp:=wB 1 i λa=>wA 1 a λb=>wc O 235 [b] λc=>wq (ib .neq c (iN 0)) λd=>wd d (.ok (.aX [(.aA),c])) (zhh O j k l a)
def PG:=wB 4 i λa=>wc O 249 [a] λb=>wq (aT 0 b) λc=>wq (aT 1 b) λd=>wq (aT 2 b) λe=>.ok (.aX [c,e])
def Og:=wq (fE i j) λa=>wq (ib .lss a (uN 97)) λd=>wg (bI false d) (.val i) λe=>wg (bI false d) (.val j) λf=>wg (bI false d) (fE e f) λg=>wg (bI false d) (ib .gtr g (uN 122)) λh=>wq (dQ d (.bool true) h) λk=>wg (wv k) (.val i) λl=>wg (wv k) (.val j) λm=>wg (wv k) (fE l m) λn=>wg (wv k) (ib .lss n (uN 48)) λo=>wg (wv k) (.val o) λq=>wg (bI false q) (.val i) λr=>wg (bI false q) (.val j) λs=>wg (bI false q) (fE r s) λt=>wg (bI false q) (ib .gtr t (uN 57)) λu=>wg (wv k) (dQ q (.bool true) u) λv=>wq (dQ k v (.bool false)) λx=>wd x (b (iN 6)) (lC O c j)
def Zr:=wq (ib .lss A j) λa=>wd a (Og O b x i A) (d)
def CI:=fM (Zr O b d i j)
def Zq:=wq (qY i) λa=>CI O .ok (kJ O) i a bZ (iN 0)
def Ws:=wq (qY i) λa=>wq (ib .lss a (iN 1)) λb=>wg (bI false b) (.val i) λc=>wg (bI false b) (qY c) λd=>wg (bI false b) (ib .gtr d (iN 16)) λe=>wq (dQ b (.bool true) e) λf=>wd f (.ok (iN 6)) (Zq O i)
def We(O:Ev.Call)(a:AV):=wq (aD a) λb=>wq (aD a) λc=>wq (kM 2 a none (some b) (some c)) λd=>.ok d
def zxd(O:Ev.Call)(a:AV):=wQ 0 (bK (aU [uN 0,zS,zS,.aA,.aA,iN 0] 0) []) λb=>wP 6 96 b a λc=>.ok c
def aNb:=wq (iQ false ((⟨E2.f ⟨rX⟩⟩:E2).f i (.aA))) λa=>wd a (.ok (.aA)) (zxd O i)
def Wc(O:Ev.Call)(a:AV):=wq (aD a) λb=>wq (aD a) λc=>wq (kM 6 a none (some b) (some c)) λd=>.ok d
def zxc(O:Ev.Call)(a:AV):=wQ 0 (bK (aU [zS] 0) []) λb=>wP 1 16 b a λc=>.ok c
def Wb:=wq (iQ false ((⟨E2.f ⟨rX⟩⟩:E2).f i (.aA))) λa=>wd a (.ok (.aA)) (zxc O i)
def jm(O:Ev.Call)(a:AV):=wq (aD a) λb=>wq (aD a) λc=>wq (kM 1 a none (some b) (some c)) λd=>.ok d
def zxb(O:Ev.Call)(a:AV):=wQ 0 (bK (aU [iN 0] 0) []) λb=>wP 1 8 b a λc=>.ok c
def aNe:=wq (iQ false ((⟨E2.f ⟨rX⟩⟩:E2).f i (.aA))) λa=>wd a (.ok (.aA)) (zxb O i)
def NB:=jm O i
def CE:=wq (aG 1 i k) λa=>w1 a λd=>wq (eF (lQ .eql).f j d) λe=>wd e (b k) (lC O c k)
def CF:=wq (ib .lss A k) λa=>wd a (CE O b x i j A) (d)
def pe:=fM (CF O b d i j k)
def Pw:=wq (aD i) λa=>pe O .ok (rF O) i j a bZ (iN 0)
def KB(O:Ev.Call)(a:AV->pD)(b c:AV):=wI c λd=>a b d
def OL:=wI i λb=>vM O a b j
def zhl:=wA 2 k λa=>wc O 264 [i,a,j] λc=>wq (ib .neq c (iN 0)) λd=>wd d (b c) (OL O g j l)
def KC:=wq (ib .lss B k) λa=>wd a (zhl O b y i A j B) (c A)
def Hu:=jX (KC O b c i j k)
def zhk:=wq (aG 2 k l) λa=>wA 2 a λc=>wN [zS,.aA] λd=>wT 2 d c <| wF 1 d λe=>wq (aD e) λf=>λH=>Hu O b (λj H=>KB O g j l H) i d f bZ j (iN 0) H
def Dt:=wq (ib .lss B k) λa=>wd a (zhk O b y i A j B) (d)
def CQ:=jX (Dt O b d i j k)
def zhj:=wF 0 i λa=>wq (aD a) λb=>CQ O .ok (kJ O) j a b bZ (iN 0) (iN 0)
def zhi:=wA 1 i λa=>wc O 236 [a] λb=>wl (aW b) λc=>wl (aL 1 c) λd=>wL (aR · d) λe=>wL (sd · e) λf=>wl (aL 0 i) λg=>wL (aR · g) λh=>wl (aD h) λj=>wl (ib .lss f j) λk=>wd k (.ok (iN 7)) (zhj O i b)
def Xq:=wB 1 i λa=>wA 1 a λb=>wc O 263 [b] λc=>wq (ib .neq c (iN 0)) λd=>wd d (.ok c) (zhi O a)
def PF(O:Ev.Call)(a b c d e f g:AV)(H:Hp):R1:=dz 21 H λh H=>dn 0 0 h H [] [] (aL 1 c) λi H p w=>dl 1 1 h H p w (λH=>aR H i) λj H p w=>dl 2 0 h H p w (λH=>aR H d) λk H p w=>dn 3 0 h H p w (aL 0 e) λl H p w=>dl 4 8 h H p w (λH=>aR H l) λm H p w=>dn 5 0 h H p w (aL 0 f) λn H p w=>dl 6 32 h H p w (λH=>aR H n) λo H p w=>dn 7 120 h H p w (bJ (bK [zS,zS] [(0,1,m),(1,1,o)])) λq H p w=>dl 8 252 h H p w (λH=>mX ⟨(⟨dL λr s=>zI p1 ⟨bH⟩ 1 r s 2 0⟩:E2).f,some 2⟩ (iN 0) false H k q) λt H p w=>dl 9 0 h H p w (λH=>aR H d) λu H p w=>dn 10 0 h H p w (.val a) λv H p w=>dn 11 0 h H p w (.val b) λx H p w=>dn 12 3072 h H p w (bJ (bK [zS,zS] [(0,1,v),(1,1,x)])) λy H p w=>dl 13 7680 h H p w (λH=>mX ⟨(⟨dL λr s=>zI p1 ⟨bH⟩ 1 r s 2 0⟩:E2).f,some 2⟩ (iN 0) false H u y) λz H p w=>dn 14 0 h H p w (aL 4 g) λA H p w=>dl 15 16384 h H p w (λH=>aR H A) λB H p w=>dn 16 65532 h H p w (bJ (bK [iN 0,iN 0,.bool false] [(0,1,t),(1,1,z),(2,1,B)])) λC H p w=>da 17 131068 h H p w (sQ 1 (h+17) (bK (aU [iN 0,iN 0,.bool false] 1) [(0,3,C)])) λD H p w=>de 262143 H p w (jD 3 24 (eB 262143 p H) j (nP 3 (eB 262143 p H) D)) (some true) λE H p w=>dn 19 524287 h H p w (aL 1 c) λF H p w=>de 1048575 H p w (kL (eB 1048575 p H) F E) (some true) λ_ H p w=>zG p H λH=>.ok (.aX []) H
def aON:=wc O 274 [i,(.fn 273 [] [])] λa=>wc O 276 [i] λb=>wc O 275 [b] λc=>.ok c
def zhf:=wc O 281 [i] λa=>wc O 282 [i] λb=>wc O 196 [b] λc=>.ok (.aX [c,(iN 0)])
def zhe:=wq (aG 3 k l) λb=>wA 3 b λc=>wN [iN 0,iN 0,.bool false] λd=>wT 3 d c <| wl (aL 2 d) λe=>wL (aR · e) λf=>wm (wv f) (aL 1 i) λg=>wM (wv f) (aR · g) λh=>wm (wv f) (aL 0 d) λm=>wM (wv f) (aR · m) λn=>wm (wv f) (aG 1 h n) λo=>wM (wv f) (aR · o) λq=>wm (wv f) (aL 1 i) λr=>wM (wv f) (aR · r) λs=>wm (wv f) (aL 1 d) λt=>wM (wv f) (aR · t) λu=>wm (wv f) (aG 1 s u) λv=>wM (wv f) (aR · v) λx=>wm (wv f) (ib .eql q x) λy=>wl (dQ f y (.bool false)) λz=>wd z (wF 1 i λA=>wF 0 d λB=>wq (aG 1 A B) λC=>w1 C λD=>wQ 1 (bK (aU [iN 0] 1) [(0,1,D)]) λE=>wP 1 8 j E λF=>lB O a F l) (lB O a j l)
def Ks:=wq (ib .lss B k) λa=>wd a (zhe O y i A j B) (b A)
def Ht:=jX (Ks O b i j k)
def FE:=wF 1 i λa=>wq (aD a) λb=>Ht O (zhf O) j a b bZ (.aA) (iN 0)
def Xo:=wB 2 i λa=>wA 2 a λb=>wc O 244 [b] λc=>wq (aT 0 c) λd=>wq (aT 1 c) λe=>wN [.aA,.aA] λf=>wT 2 f d <| wq (ib .neq e (iN 0)) λg=>wd g (.ok (.aX [(.aA),e])) ((kA FE) O a f)
def Xn:=wB 3 i λa=>wF 2 a λb=>wd b (.ok (iN 1)) (kJ O)
def zxk:=wA 3 i λa=>wc O 133 [a] λb=>.ok b
def Wx:=wB 3 i λa=>wF 2 a λb=>wq (eF (lQ .eql).f b zS) λc=>wd c (wq (aL 0 a) λd=>wA 2 d λe=>wc O 70 [e] λf=>.ok f) (zxk O a)
def zxs(O:Ev.Call)(a:pD)(b:AV):=wI b a
def Oc:=wL (bW 2 · j) λa=>wl (aG 2 i k) λd=>wL (bW 2 · d) λe=>wl (iQ false ((⟨E2.f ⟨dL (eqFields [(p1,⟨bH⟩,0),(p1,⟨bH⟩,1)])⟩⟩:E2).f a e)) λf=>wd f (b k) (zxs O c k)
def Od:=wq (ib .lss A k) λa=>wd a (Oc O b x i j A) (d)
def Ei:=fM (Od O b d i j k)
def WQ:=wB 2 j λa=>wq (aD i) λb=>Ei O .ok (rF O) i a b bZ (iN 0)
def JT(O:Ev.Call)(a:pD)(b:AV):=wI b a
def zhd(O:Ev.Call)(a:pD)(b:AV):=wI b a
def JS(a:pD)(b c d e:AV)(H:Hp):R1:=dz 23 H λf H=>dn 0 0 f H [] [] (.val b) λg H p w=>dn 1 0 f H p w (.val b) λh H p w=>dn 2 0 f H p w (.val b) λi H p w=>dn 3 4 f H p w (aW i) λj H p w=>dn 4 12 f H p w (aL 3 j) λk H p w=>dl 5 28 f H p w (λH=>aR H k) λl H p w=>dn 6 0 f H p w (.val d) λm H p w=>da 7 64 f H p w (sQ 1 (f+7) (bK (aU [.bQ] 1) [(0,1,m)])) λn H p w=>dn 9 0 f H p w (.val b) λo H p w=>dn 10 512 f H p w (aW o) λq H p w=>dn 11 1536 f H p w (aL 4 q) λr H p w=>dl 12 3584 f H p w (λH=>aR H r) λs H p w=>dn 13 0 f H p w (aL 0 c) λt H p w=>dl 14 8192 f H p w (λH=>aR H t) λu H p w=>da 15 24576 f H p w (sQ 1 (f+15) (bK (aU [zS] 1) [(0,1,u)])) λv H p w=>de 252 H p w (jD 1 8 (eB 252 p H) l (nP 1 (eB 252 p H) n)) (some true) λx H p w=>de 65532 H p w (jD 1 16 (eB 65532 p H) s (nP 1 (eB 65532 p H) v)) (some true) λy H p w=>dn 17 131069 f H p w (aW g) λz H p w=>dn 18 262141 f H p w (aL 3 z) λA H p w=>de 524285 H p w (kL (eB 524285 p H) A x) (some true) λ_ H p w=>dn 20 1048575 f H p w (aW h) λB H p w=>dn 21 2097151 f H p w (aL 4 B) λC H p w=>de 4194303 H p w (kL (eB 4194303 p H) C y) (some true) λ_ H p w=>zG p H λH=>zhd O a e H
def JR:=wF 1 j λa=>wq (aG 6 a k) λc=>wl (aW i) λd=>wl (aL 2 d) λe=>wL (aR · e) λf=>wl (aL 0 j) λg=>wL (aR · g) λh=>wl (aW c) λl=>wl (aL 0 l) λm=>wL (aR · m) λn=>wl (bJ (bK [zS,zS] [(0,1,h),(1,1,n)])) λo=>wL (mX ⟨(⟨dL (eqFields [(p1,⟨bH⟩,0),(p1,⟨bH⟩,1)])⟩:E2).f,some 2⟩ (iN 0) true · f o) λq=>wl (aT 0 q) λr=>wl (aT 1 q) λs=>wq ((kF .not).f s) λt=>wd t (wz 0 λu=>wn 0 0 u (.val i) λv=>wn 1 1 u (aW v) λx=>wn 2 3 u (aL 2 x) λy=>wo 3 7 u (aR · y) λz=>wn 4 0 u (aL 0 j) λA=>wo 5 16 u (aR · A) λB=>wn 6 0 u (.val c) λC=>wn 7 64 u (aW C) λD=>wn 8 192 u (aL 0 D) λE=>wo 9 448 u (aR · E) λF=>wn 10 1008 u (bJ (bK [zS,zS] [(0,1,B),(1,1,F)])) λG=>wn 11 0 u (.val i) λI=>wn 12 2048 u (aW I) λJ=>wn 13 6144 u (aL 3 J) λK=>wo 14 14336 u (aR · K) λL=>wn 15 30720 u (aD L) λM=>wu 65535 (jN ⟨(⟨dL (eqFields [(p1,⟨bH⟩,0),(p1,⟨bH⟩,1)])⟩:E2).f,some 2⟩ · z G M) λ_=>wy <| JS O b i j c k) (JS O b i j c k)
def Kq:=wq (ib .lss A k) λa=>wd a (JR O x i j A) (d)
def Ho:=fM (Kq O d i j k)
def Z9:=wq (aG 2 j k) λa=>wA 2 a λc=>wN [zS,.aA] λd=>wT 2 d c <| wz 0 λe=>wn 0 0 e (.val i) λf=>wn 1 1 e (aW f) λg=>wn 2 3 e (aL 1 g) λh=>wo 3 7 e (aR · h) λl=>wn 4 0 e (aL 0 d) λm=>wo 5 16 e (aR · m) λn=>wo 6 63 e (mX ⟨(⟨bH⟩:E2).f,none⟩ (iN 0) false · l n) λo=>wn 7 127 e (ib .add o (iN 1)) λq=>wu 255 (jN ⟨(⟨bH⟩:E2).f,none⟩ · l n q) λ_=>wy <| wF 1 d λr=>wq (aD r) λs=>Ho O (JT O b k) i d s bZ (iN 0)
def Kr:=wq (ib .lss A k) λa=>wd a (Z9 O x i j A) (d)
def Cd:=fM (Kr O d i j k)
def Xm:=wB 1 i λa=>wA 1 a λb=>wh (λH=>.new (.map H.nx) (.map [] 0)) λc=>wh (λH=>.new (.map H.nx) (.map [] 0)) λd=>wq (bJ (bK [.aA,.bU,.bU,.aA,.aA] [(0,1,b),(1,1,c),(2,1,d)])) λe=>wB 5 e λf=>wF 0 a λg=>wq (aD g) λh=>Cd O (gV O f) f g h bZ (iN 0)
def JP:=wz 0 λa=>wo 0 0 a (aR · i) λb=>wo 2 0 a (aR · j) λc=>wu 1 (O (.f 285) [b]) λd=>wu 3 (kL · i d) λ_=>wu 15 (kL · j c) λ_=>wn 5 31 a (.val (iN 0)) λe=>wy <| λH=>dJ (dY (dU (rV (aR H i)) (dU (rV (aR H j)) (dU (some e) (some []))))) H
def JO:=w1 k λa=>wq (ib .neq a (iN 0)) λb=>wd b (wz 0 λc=>wo 0 0 c (aR · k) λd=>wu 0 (kL · i (.aA)) λ_=>wu 2 (kL · j (iN 0)) λ_=>wn 3 7 c (.val d) λe=>wy <| λH=>dJ (dY (dU (rV (aR H i)) (dU (rV (aR H j)) (dU (some e) (some []))))) H) (JP O i j)
def PC:=wN [.aA] λa=>wN [iN 0] λb=>wN [iN 0] λc=>wU c (iN 0) <| wN [.iV] λd=>wU d (.fn 283 [] [a,b,c,d]) <| w1 d λe=>we (oV O e [i,(iN 1),(.bool false)]) λf=>wq ((kF .not).f f) λg=>wd g (wU a (.aA) <| wU b (iN 0) <| λH=>dJ (dY (dU (rV (aR H a)) (dU (rV (aR H b)) (dU (some (iN 3)) (some []))))) H) (JO O a b c)
def Wa(O:Ev.Call)(a:AV):=wq (aD a) λb=>wq (aD a) λc=>wq (kM 4 a none (some b) (some c)) λd=>.ok d
def ZF(O:Ev.Call)(a b:AV):=wq (aW a) λc=>wF 3 c λd=>wq (aG 1 d b) λe=>w1 e λf=>.ok f
def PB:=wq (aW i) λa=>wF 2 a λb=>wq (bJ (bK [zS,zS] [(0,1,j),(1,1,k)])) λc=>wh (mX ⟨(⟨dL (eqFields [(p1,⟨bH⟩,0),(p1,⟨bH⟩,1)])⟩:E2).f,some 2⟩ (iN 0) true · b c) λd=>wq (aT 0 d) λe=>wq (aT 1 d) λf=>wq ((kF .not).f f) λg=>wd g (.ok (.bQ)) (ZF O i e)
def Es:=wc O 194 [i] λa=>.ok a
def Ot:=wq (aG 2 l m) λb=>wA 2 b λc=>wN [zS,zS] λd=>wT 2 d c <| wF 1 d λe=>wq (eF (lQ .eql).f e zS) λf=>wg (wv f) (.val i) λg=>wg (wv f) (aL 0 d) λh=>wG (wv f) (aR · h) λn=>wg (wv f) (.val j) λo=>wx (wv f) (O (.f 237) [g,n,o]) λq=>wg (wv f) (iQ true ((⟨E2.f ⟨eN⟩⟩:E2).f q (.bQ))) λr=>wq (dQ f r (.bool false)) λs=>wd s (wF 0 d λt=>wQ 1 (bK (aU [zS] 1) [(0,1,t)]) λu=>wP 1 16 k u λv=>cY O a v m) (cY O a k m)
def ZE:=wq (ib .lss B l) λa=>wd a (Ot O y i j A k B) (b A)
def CO:=jX (ZE O b i j k l)
def Xi:=wc O 237 [i,j,k] λa=>wq (iQ true ((⟨E2.f ⟨eN⟩⟩:E2).f a (.bQ))) λb=>wd b (wq (aW a) λc=>wF 1 c λd=>wq (aD d) λe=>CO O (Es O) i l d e bZ (.aA) (iN 0)) (Es O (.aA))
def Ou(O:Ev.Call)(a:pD)(b:AV):=wI b a
def ZJ:=wq (aG 6 i j) λa=>wA 6 a λd=>wN [zS,.aA,uN 0,zS,zS,.aA] λe=>wT 6 e d <| wA 6 e λf=>wc O 289 [f] λg=>wq (ib .neq g (iN 0)) λh=>wd h (b g) (Ou O c j)
def JQ:=wq (ib .lss A j) λa=>wd a (ZJ O b x i A) (d)
def Hm:=fM (JQ O b d i j)
def ZI:=wF 1 i λa=>wq (aD a) λd=>Hm O b (w9 O c j) a d bZ (iN 0)
def ZH:=wq (aG 2 i j) λa=>wA 2 a λd=>wN [zS,.aA] λe=>wT 2 e d <| wF 0 e λf=>wc O 288 [f] λg=>wq ((kF .not).f g) λh=>wd h (b (iN 6)) (wF 1 e λk=>wq (aD k) λl=>wq (ib .gtr l (iN 16)) λm=>wd m (b (iN 3)) (ZI O b c e j))
def ZK:=wq (ib .lss A j) λa=>wd a (ZH O b x i A) (d)
def CP:=fM (ZK O b d i j)
def ZG:=wF 0 i λa=>wq (aD a) λb=>CP O .ok (kJ O) a b bZ (iN 0)
def Xk:=wB 1 i λa=>wF 0 a λb=>wq (aD b) λc=>wq (ib .gtr c (iN 16)) λd=>wd d (.ok (iN 3)) (ZG O a)
def Xj:=wh (λH=>lM H.nx i) λa=>wB 2 j λb=>wh (λH=>lM H.nx k) λc=>wz 9 λd=>wo 0 0 d (aR · a) λe=>wn 1 1 d (aW e) λf=>wn 2 3 d (aL 3 f) λg=>wo 3 7 d (aR · g) λh=>wo 4 0 d (aR · c) λl=>wn 5 31 d (aG 1 h l) λm=>wo 6 63 d (aR · m) λn=>wa 7 0 d (.new (.ptr (d+7) 0) (aB 0 [.bQ])) λo=>wu 255 (kL · o n) λ_=>wy <| w1 o λq=>wq (aW q) λr=>wq (aL 2 r) λs=>wA 4 s λt=>wc O 234 [t] λu=>wq (aT 0 u) λv=>wq (aT 1 u) λx=>wN [.aA] λy=>wU y v <| wN [.bool false] λz=>wU z (.bool false) <| wQ 4 (bK (aU [.iV] 4) [(0,1,(.fn 291 [] [a,b,o,c])),(1,1,(.fn 292 [] [a,o])),(2,1,(.fn 294 [] [a,b,y,z])),(3,1,(.fn 296 [] [z,o,b]))]) λA=>wc O 290 [A] λB=>.ok B
def Xh:=wB 3 i λa=>wB 3 j λb=>wz 18 λc=>wn 0 0 c (aL 0 a) λd=>wo 1 1 c (aR · d) λe=>wn 2 0 c (aL 0 b) λf=>wo 3 4 c (aR · f) λg=>wn 5 0 c (aL 1 a) λh=>wo 6 32 c (aR · h) λk=>wn 7 0 c (aL 1 b) λl=>wo 8 128 c (aR · l) λm=>wo 10 0 c (bW 3 · a) λn=>wo 12 0 c (bW 3 · b) λo=>wu 15 (O (.f 301) [e,g]) λq=>wu 511 (O (.f 301) [k,m]) λr=>wu 2047 (O (.f 302) [n]) λs=>wu 8191 (O (.f 302) [o]) λt=>wu 16383 (O (.f 301) [s,t]) λu=>wa 15 32767 c (sQ 3 (c+15) (bK (aU [iN 0] 3) [(0,1,q),(1,1,r),(2,1,u)])) λv=>wu 65535 (O (.f 151) [v]) λx=>wn 17 131071 c (.val x) λy=>wy <| .ok y
def zy6(O:Ev.Call)(a:Nat)(b:AV->AV->Option Bool)(c:List AV)(d:AV):pH:=.ok d
def zy5(O:Ev.Call)(a:Nat)(b:AV->AV->Option Bool)(c:List AV)(d:pD)(e:AV):=wI e d
def Ig(O:Ev.Call)(a:Nat)(b:AV->AV->Option Bool)(c:List AV)(d:pD)(e f:AV):=wq (kM a e (some f) none none) λg=>we (oY c · g) λ_=>wq (kM a e none (some f) none) λh=>d h
def Ie(O:Ev.Call)(a:Nat)(b:AV->AV->Option Bool)(c:List AV)(d:AV->pD)(e f:AV):=wI f λg=>d e g
def znp(a:Nat)(b:AV->AV->Option Bool)(c:List AV)(d:AV->pD)(e f g h:AV):=wl (aG a g h) λi=>wL (bW a · i) λj=>wl (ib .sub h (iN 1)) λk=>wl (aG a g k) λl=>wL (bW a · l) λm=>wl (iQ true (b j m)) λn=>wd n (wq (aG a g h) λo=>wA a o λq=>wq (aG a e f) λr=>wT a r q <| wI f λs=>Ie O a b c d s h) (Ie O a b c d f h)
def Lp(a:Nat)(b:AV->AV->Option Bool)(c:List AV)(d:pD)(e f:AV)(g:AV->pD)(h i:AV):=wq (aD f) λj=>wq (ib .lss i j) λk=>wd k (znp O a b c g e h f i) (d h)
def Cu(a:Nat)(b:AV->AV->Option Bool)(c:List AV)(d:pD)(e f:AV):=jX (Lp O a b c d e f)
def zno(a:Nat)(b:AV->AV->Option Bool)(c:List AV)(d e:pD)(f g:AV):=wl (aG a f g) λh=>wL (bW a · h) λi=>wl (ib .sub g (iN 1)) λj=>wl (aG a f j) λk=>wL (bW a · k) λl=>wl (iQ false (b i l)) λm=>wd m (wq (kM a f (some g) none none) λn=>Cu O a b c (Ig O a b c d f) f n bZ g (iN 1)) (zy5 O a b c e g)
def Pn(a:Nat)(b:AV->AV->Option Bool)(c:List AV)(d:pD)(e:pH)(f:AV)(g:pD)(h:AV):=wq (aD f) λi=>wq (ib .lss h i) λj=>wd j (zno O a b c d g f h) (e)
def Iz(a:Nat)(b:AV->AV->Option Bool)(c:List AV)(d:pD)(e:pH)(f:AV):=fM (Pn O a b c d e f)
def znn(a:Nat)(b:AV->AV->Option Bool)(c:List AV)(d:AV):=Iz O a b c .ok (zy6 O a b c d) d bZ (iN 1)
def Dj(a:Nat)(b:AV->AV->Option Bool)(c:List AV)(d:AV):=wq (aD d) λe=>wq (ib .lss e (iN 2)) λf=>wd f (.ok d) (znn O a b c d)
abbrev rU:AV->AV->Option Bool:=dL (eqFields [(p1,⟨pI⟩,0),(p1,⟨pI⟩,1),(p1,⟨zT⟩,2)])
abbrev rh:List AV:=[iN 0,iN 0,.bool false]
def zCb:=Dj O 3 rU rh i
def X7:=Y3 O i
def Xf:=wF 0 k λa=>wF 1 k λd=>wq (rT pQ a [d]) λe=>wq (ib .lss e (iN 0)) λf=>wg (bI false f) (aL 0 k) λg=>wG (bI false f) (aR · g) λh=>wg (bI false f) (aL 1 k) λm=>wG (bI false f) (aR · m) λn=>wg (bI false f) (rT qV h [n]) λo=>wg (bI false f) (aL 0 i) λq=>wG (bI false f) (aR · q) λr=>wg (bI false f) (ib .geq o r) λs=>wq (dQ f (.bool true) s) λt=>wd t (b (iN 4)) (wz 0 λu=>wn 0 0 u (.val j) λv=>wn 1 1 u (ib .gtr v (iN 0)) λx=>wn 2 3 u (.val x) λy=>wr 3 7 u (aL 1 i) (wv y) λz=>ws 4 15 u (aR · z) (wv y) λA=>wr 5 7 u (.val j) (wv y) λB=>wr 6 39 u (ib .sub B (iN 1)) (wv y) λC=>wr 7 127 u (aG 3 A C) (wv y) λD=>ws 8 255 u (bW 3 · D) (wv y) λE=>ws 9 7 u (bW 3 · k) (wv y) λF=>wt 1023 (O (.f 273) [E,F]) (wv y) λG=>wr 11 2047 u (ib .geq G (iN 0)) (wv y) λI=>wn 12 4095 u (dQ y I (.bool false)) λJ=>wn 13 8191 u (.val J) λK=>wy <| wd K (b (iN 18)) (w9 O c l))
def OE:=wq (aG 3 j k) λa=>wA 3 a λd=>wN [iN 0,iN 0,.bool false] λe=>wT 3 e d <| Xf O b c i k e k
def ZD:=wq (ib .lss A k) λa=>wd a (OE O b x i j A) (d)
def Er:=fM (ZD O b d i j k)
def Z0:=wF 1 i λa=>wq (aD a) λb=>Er O .ok (kJ O) i a b bZ (iN 0)
def Xg:=wB 2 i λa=>wF 0 a λb=>wq (ib .lss b (iN 0)) λc=>wg (bI false c) (aL 0 a) λd=>wG (bI false c) (aR · d) λe=>wg (bI false c) (ib .gtr e (iN 256)) λf=>wq (dQ c (.bool true) f) λg=>wd g (.ok (iN 3)) (Z0 O a)
def ZY(O:Ev.Call)(a:AV):=wF 1026 a λb=>.ok b
def OD:=wq (aL 256 i) λa=>wq (gP 256 1 a j) λc=>w1 c λd=>wq (ib .eql d (iN 0)) λe=>wd e (wc O 307 [i,j] λf=>zj O b j) (zj O b j)
def ZZ:=wq (ib .lss A j) λa=>wd a (OD O x i A) (d)
def Ep:=fM (ZZ O d i j)
def Kf:=wF 0 i λa=>Ep O (ZY O j) j a bZ (iN 0)
def OC:=wq (aG 3 j k) λa=>wA 3 a λc=>wN [iN 0,iN 0,.bool false] λd=>wT 3 d c <| λH=>dz 14 H λe H=>dn 0 0 e H [] [] (aL 0 d) λf H p w=>dl 1 1 e H p w (λH=>aR H f) λg H p w=>dn 2 0 e H p w (aL 0 d) λh H p w=>dl 3 4 e H p w (λH=>aR H h) λl H p w=>dn 4 0 e H p w (aL 0 i) λm H p w=>dn 5 28 e H p w (gP 256 1 m l) λn H p w=>dl 6 60 e H p w (λH=>aR H n) λo H p w=>dn 7 0 e H p w (aL 1 d) λq H p w=>dl 8 128 e H p w (λH=>aR H q) λr H p w=>da 9 384 e H p w (sQ 1 (e+9) (bK (aU [iN 0] 1) [(0,1,r)])) λs H p w=>dn 11 0 e H p w (aL 0 i) λt H p w=>de 1020 H p w (jD 1 8 (eB 1020 p H) o (nP 1 (eB 1020 p H) s)) (some true) λu H p w=>dn 12 4095 e H p w (gP 256 1 t g) λv H p w=>de 8191 H p w (kL (eB 8191 p H) v u) (some true) λ_ H p w=>zG p H λH=>yG O b k H
def JN:=wq (ib .lss A k) λa=>wd a (OC O x i j A) (d)
def Hl:=fM (JN O d i j k)
def Xe:=wB 2 i λa=>wh (λH=>.new (.ptr H.nx 0) (aB 0 (List.replicate 256 (.aA)++List.replicate 512 (iN 0)++List.replicate 256 (.bool false)++[.aA]++[iN 0]++[.aA]))) λb=>wF 1 a λc=>wq (aD c) λd=>Hl O (Kf O a b) b c d bZ (iN 0)
def Eo(O:Ev.Call)(a b c:AV):pH:=.ok (.fn 306 [] [b,a,c])
def Kb(O:Ev.Call)(a:pD)(b:AV):=wI b a
def ZX(O:Ev.Call)(a:pD)(b:AV):=wI b a
def ZW:=wq (aG 1 k l) λa=>w1 a λc=>w1 i λd=>wq (aG 1 d c) λe=>wU e j <| ZX O b l
def Kc:=wq (ib .lss A l) λa=>wd a (ZW O x i j k A) (d)
def Hk:=fM (Kc O d i j k l)
def ZV:=wq (aG 1 j k) λa=>w1 a λc=>wq (aD c) λd=>Hk O (Kb O b k) i k c d bZ (iN 0)
def Ke:=wq (ib .lss A k) λa=>wd a (ZV O x i j A) (d)
def Cb:=fM (Ke O d i j k)
def Xd:=wB 2 i λa=>wh (λH=>lM H.nx j) λb=>w1 b λc=>wc O 304 [c,(.fn 305 [] [])] λd=>wF 0 a λe=>wh (λH=>fC [iN 0] 8 H.nx e e) λf=>wN [.aA] λg=>wU g f <| w1 b λh=>wq (aD h) λk=>Cb O (Eo O a b g) g h k bZ (iN 0)
def X8:=jm O i
def Lu(O:Ev.Call)(a:pD)(b c:AV):=wq (kM 1 b (some c) none none) λd=>we (oY [iN 0] · d) λ_=>wq (kM 1 b none (some c) none) λe=>a e
def SI:=wl (aG 1 k l) λb=>wL (aR · b) λc=>wl (ib .sub l (iN 1)) λd=>wl (aG 1 k d) λe=>wL (aR · e) λf=>wl (ib .neq c f) λg=>wd g (wq (aG 1 k l) λh=>w1 h λm=>wq (aG 1 i j) λn=>wU n m <| wI j λo=>ym O a o l) (ym O a j l)
def Lv:=wq (aD j) λa=>wq (ib .lss B a) λc=>wd c (SI O y i A j B) (b A)
def EV:=jX (Lv O b i j)
def SH:=wl (aG 1 i j) λa=>wL (aR · a) λd=>wl (ib .sub j (iN 1)) λe=>wl (aG 1 i e) λf=>wL (aR · f) λg=>wl (ib .eql d g) λh=>wd h (wq (kM 1 i (some j) none none) λk=>EV O (Lu O b i) i k bZ j (iN 1)) (jg O c j)
def Lw:=wq (aD i) λa=>wq (ib .lss A a) λc=>wd c (SH O b x i A) (d)
def EW:=fM (Lw O b d i)
def SG:=EW O .ok (gV O i) i bZ (iN 1)
def LK:=wq (aD i) λa=>wq (ib .lss a (iN 2)) λb=>wd b (.ok i) (SG O i)
def kV:=LK O i
def Wu:=wB 2 i λa=>wF 0 a λb=>wF 1 a λc=>wQ 2 (bK (aU [zS] 2) [(0,1,b),(1,1,c)]) λd=>wc O 135 [d] λe=>.ok e
def oM:=wz 0 λa=>wo 0 0 a (aR · i) λb=>wn 1 0 a (.val j) λc=>wn 2 0 a (.val k) λd=>wu 4 (O (.f 196) [d]) λe=>wn 4 15 a (aG 5 b c) λf=>wn 5 31 a (aL 3 f) λg=>wu 63 (kL · g e) λ_=>wy <| .ok (.bool true)
def tU(O:Ev.Call)(a:AV->pD)(b c:AV):=wI c λd=>a b d
def Hj:=w1 l λa=>wq (aD a) λc=>wQ 1 (bK (aU [iN 0] 1) [(0,1,c)]) λd=>wP 1 8 n d λe=>wz 0 λf=>wo 0 0 f (aR · m) λh=>wn 1 0 f (.val i) λq=>wn 2 2 f (aW q) λr=>wn 3 6 f (aL 3 r) λs=>wo 4 14 f (aR · s) λt=>wn 5 0 f (.val o) λu=>wn 6 62 f (aG 4 t u) λv=>wn 7 0 f (.val j) λx=>wn 8 128 f (ib .add x (iN 1)) λy=>wn 9 0 f (.val k) λz=>wn 10 512 f (.val z) λA=>wr 11 1536 f (.val i) (bI false A) λB=>wr 12 3584 f (aW B) (bI false A) λC=>wr 13 7680 f (aL 0 C) (bI false A) λD=>ws 14 15872 f (aR · D) (bI false A) λE=>wr 15 32256 f (ib .eql E (uN 6)) (bI false A) λF=>wr 16 65024 f (.val F) (bI false A) λG=>wr 17 130560 f (.val o) (wv G) λI=>wr 18 261632 f (ib .eql I (iN 1)) (wv G) λJ=>wr 19 523776 f (dQ G J (.bool false)) (bI false A) λK=>wn 20 1048064 f (dQ A (.bool true) K) λL=>wu 2097151 (oV O h [v,y,L]) λM=>wn 22 4194303 f ((kF .not).f M) λN=>wy <| wd N (b (.bool false)) (tU O g e o)
def jc:=wq (ib .lss B n) λa=>wd a (Hj O b y i j k l m A B) (c A)
def jb:=jX (jc O b c i j k l m n)
def Hi:=w1 l λa=>wq (aD a) λb=>λH=>dz 18 H λc H=>dl 0 0 c H [] [] (λH=>aR H l) λd H p w=>dn 1 0 c H p w (.val i) λe H p w=>dn 2 2 c H p w (aW e) λf H p w=>dn 3 6 c H p w (aL 0 f) λg H p w=>dl 4 14 c H p w (λH=>aR H g) λh H p w=>dn 5 0 c H p w (.val i) λn H p w=>dn 6 32 c H p w (aW n) λo H p w=>dn 7 96 c H p w (aL 1 o) λq H p w=>dl 8 224 c H p w (λH=>aR H q) λr H p w=>dn 9 0 c H p w (.val i) λs H p w=>dn 10 512 c H p w (aW s) λt H p w=>dn 11 1536 c H p w (aL 2 t) λu H p w=>dl 12 3584 c H p w (λH=>aR H u) λv H p w=>dn 13 0 c H p w (.val k) λx H p w=>dn 14 16382 c H p w (bJ (bK [uN 0,zS,zS,.aA,.bool false] [(0,1,h),(1,1,r),(2,1,v),(4,1,x)])) λy H p w=>da 15 32766 c H p w (sQ 1 (c+15) (bK (aU [uN 0,zS,zS,.aA,.bool false] 1) [(0,5,y)])) λz H p w=>de 65535 H p w (jD 5 72 (eB 65535 p H) d (nP 5 (eB 65535 p H) z)) (some true) λA H p w=>de 131071 H p w (kL (eB 131071 p H) l A) (some true) λ_ H p w=>zG p H λH=>vq (aW i) H λB H=>vF 3 B H λC H=>vq (aD C) H λD H=>jb O .ok (oM O l b) i j k l m D bZ (.aA) (iN 0) H
def Ka:=w1 m λa=>wq (rT qV a [j]) λb=>wU m b <| w1 n λc=>wq (ib .eql c (iN 0)) λd=>wd d (wc O 284 [i] λe=>wU n e <| Hi O i j k l o) (Hi O i j k l o)
def te:=w1 l λa=>wq (aD a) λb=>wq (ib .eql b (iN 32)) λc=>wg (bI false c) (.val j) λd=>wg (bI false c) (ib .gtr d (iN 8)) λe=>wq (dQ c (.bool true) e) λf=>wd f (.ok (.bool false)) (Ka O i j k l m n o)
def W6(O:Ev.Call)(a:AV):=wq (aD a) λb=>wq (aD a) λc=>wq (kM 5 a none (some b) (some c)) λd=>.ok d
def ZS:=wq (aL 2 i) λa=>wA 4 a λb=>wc O 201 [b] λc=>.ok c
def OB:=wq (aG 2 i j) λa=>wA 2 a λd=>wN [zS,zS] λe=>wT 2 e d <| wF 0 e λf=>wc O 288 [f] λg=>wq ((kF .not).f g) λh=>wg (bI false h) (aL 1 e) λk=>wG (bI false h) (aR · k) λl=>wg (bI false h) (eF (lQ .neq).f l zS) λm=>wg (bI false h) (.val m) λn=>wg (wv n) (aL 1 e) λo=>wG (wv n) (aR · o) λq=>wx (wv n) (O (.f 288) [q]) λr=>wg (wv n) ((kF .not).f r) λs=>wg (bI false h) (dQ n s (.bool false)) λt=>wq (dQ h (.bool true) t) λu=>wd u (b (iN 6)) (iS O c j)
def ZU:=wq (ib .lss A j) λa=>wd a (OB O b x i A) (d)
def En:=fM (ZU O b d i j)
def ZT:=wF 1 i λa=>wq (aD a) λb=>En O .ok (ZS O i) a b bZ (iN 0)
def Xc:=wB 6 i λa=>wF 0 a λb=>wc O 288 [b] λc=>wq ((kF .not).f c) λd=>wd d (.ok (iN 6)) (wF 1 a λe=>wq (aD e) λf=>wq (ib .gtr f (iN 8)) λg=>wd g (.ok (iN 3)) (ZT O a))
def Xb:=wL (aR · i) λa=>wl (aW a) λb=>wl (aL 2 b) λc=>wL (aR · c) λd=>wl (aL 0 j) λe=>wL (aR · e) λf=>wL (aR · k) λg=>wl (aW g) λh=>wl (aL 0 h) λm=>wL (aR · m) λn=>wl (bJ (bK [zS,zS] [(0,1,f),(1,1,n)])) λo=>wL (mX ⟨(⟨dL (eqFields [(p1,⟨bH⟩,0),(p1,⟨bH⟩,1)])⟩:E2).f,some 2⟩ (iN 0) false · d o) λq=>wL (aR · l) λr=>wl (ib .neq q r) λs=>wd s (.ok (iN 7)) (kJ O)
def Xa:=w1 i λa=>w1 j λb=>wc O 293 [a,b] λc=>.ok c
def W9:=w1 i λa=>wF 0 j λb=>w1 k λc=>wc O 295 [a,b,c] λd=>wq (aT 0 d) λe=>wq (aT 1 d) λf=>wU l e <| .ok f
def W8:=wz 0 λa=>wo 0 0 a (aR · i) λb=>wn 1 1 a (.val b) λc=>ws 2 3 a (aR · j) (wv c) λd=>wr 3 7 a (aW d) (wv c) λe=>wr 4 15 a (aL 1 e) (wv c) λf=>ws 5 31 a (aR · f) (wv c) λg=>wr 6 63 a (aD g) (wv c) λh=>wr 7 127 a (ib .eql h (iN 0)) (wv c) λl=>wn 8 255 a (dQ c l (.bool false)) λm=>wn 9 511 a (.val m) λn=>ws 10 1023 a (aR · i) (bI false n) λo=>wr 11 2047 a ((kF .not).f o) (bI false n) λq=>wr 12 4095 a (.val q) (bI false n) λr=>ws 13 8191 a (aR · j) (wv r) λs=>wr 14 16383 a (aW s) (wv r) λt=>wr 15 32767 a (aL 1 t) (wv r) λu=>ws 16 65535 a (aR · u) (wv r) λv=>wr 17 131071 a (aD v) (wv r) λx=>wr 18 262143 a (ib .gtr x (iN 0)) (wv r) λy=>wr 19 524287 a (dQ r y (.bool false)) (bI false n) λz=>wr 20 1048575 a (.val z) (bI false n) λA=>ws 21 2097151 a (bW 2 · k) (wv A) λB=>ws 22 2097151 a (aR · j) (wv A) λC=>wr 23 6291455 a (aW C) (wv A) λD=>wr 24 14680063 a (aL 0 D) (wv A) λE=>ws 25 31457279 a (aR · E) (wv A) λF=>wt 67108863 (O (.f 297) [B,F]) (wv A) λG=>wr 27 134217727 a ((kF .not).f G) (wv A) λI=>wr 28 268435455 a (dQ A I (.bool false)) (bI false n) λJ=>wn 29 536870911 a (dQ n (.bool true) J) λK=>wy <| wd K (.ok (iN 11)) (kJ O)
def Ca:=wq (aG 1 i j) λa=>w1 a λd=>we (oV O d []) λe=>wq (ib .neq e (iN 0)) λf=>wd f (b e) (lC O c j)
def ue:=wq (ib .lss A j) λa=>wd a (Ca O b x i A) (d)
def DX:=fM (ue O b d i j)
def W7:=wq (aD i) λa=>DX O .ok (kJ O) i a bZ (iN 0)
def zxy:=wq (ib .gtr i j) λa=>wd a (.ok (iN 1)) (kJ O)
def zxx:=wq (ib .lss i j) λa=>wd a (.ok (.int .i64 (.negSucc 0))) (zxy O i j)
def zxw:=wd k (.ok (iN 1)) (zxx O i j)
def W5:=wc O 316 [i] λa=>wc O 316 [j] λb=>wd a (wd b (.ok (iN 0)) (rF O)) (zxw O i j b)
def W4:=wB 3 i λa=>wF 2 a λb=>wd b (.ok (iN 1)) (kJ O)
def zxv:=wq (aG 1 j k) λa=>w1 a λd=>wq (ib .neq d i) λe=>wd e (b d) (lC O c k)
def OA:=wq (ib .lss A k) λa=>wd a (zxv O b x i j A) (d)
def DW:=fM (OA O b d i j k)
def W3:=wq (aD i) λa=>DW O .ok (gV O (iN 0)) (iN 0) i a bZ (iN 0)
def Hh:=wq (aW k) λa=>wF 0 a λc=>wc O 327 [i,c] λd=>wq (aD j) λe=>wq (ib .sub e (iN 1)) λf=>wq (kM 2 j none (some f) none) λg=>wq (aD g) λh=>wq (ib .gtr h (iN 0)) λl=>wd l (wq (aD g) λm=>wq (ib .sub m (iN 1)) λn=>wq (aG 2 g n) λo=>wF 0 o λq=>wz 0 λr=>wn 0 0 r (.val i) λs=>wn 1 0 r (.val q) λt=>wn 2 0 r (.val i) λu=>wn 3 0 r (.val q) λv=>wn 4 4 r (aW u) λx=>wn 5 20 r (aL 512 x) λy=>wn 6 60 r (gP 256 1 y v) λz=>wo 7 124 r (aR · z) λA=>wn 8 0 r (.val i) λB=>wn 9 0 r (.val c) λC=>wn 10 256 r (aW B) λD=>wn 11 1280 r (aL 512 D) λE=>wn 12 3840 r (gP 256 1 E C) λF=>wo 13 7936 r (aR · F) λG=>wn 14 16380 r (rT pQ A [G]) λI=>wn 15 1 r (aW s) λJ=>wn 16 32769 r (aL 512 J) λK=>wn 17 131071 r (gP 256 1 K t) λL=>wu 262143 (kL · L I) λ_=>wy <| b g) (b g)
def Oy(O:Ev.Call)(a:pD)(b c d e:AV):=wq (aW b) λf=>wq (aL 768 f) λg=>wq (gP 256 1 g e) λh=>w1 h λi=>wd i (wz 0 λj=>wn 0 0 j (.val b) λk=>wn 1 0 j (.val d) λl=>wn 2 2 j (aW l) λm=>wn 3 6 j (aL 0 m) λn=>wo 4 14 j (aR · n) λo=>wn 5 0 j (.val b) λq=>wn 6 0 j (.val d) λr=>wn 7 64 j (aW r) λs=>wn 8 192 j (aL 0 s) λt=>wo 9 448 j (aR · t) λu=>wn 10 32 j (aW q) λv=>wn 11 1056 j (aL 512 v) λx=>wn 12 4064 j (gP 256 1 x u) λy=>wo 13 8160 j (aR · y) λz=>wn 14 0 j (.val b) λA=>wn 15 0 j (.val e) λB=>wn 16 16384 j (aW A) λC=>wn 17 81920 j (aL 256 C) λD=>wn 18 245760 j (gP 256 1 D B) λE=>wo 19 507904 j (aR · E) λF=>wn 20 1048544 j (rT pQ z [F]) λG=>wn 21 1 j (aW k) λI=>wn 22 2097153 j (aL 512 I) λJ=>wn 23 8388607 j (gP 256 1 J o) λK=>wu 16777215 (kL · K G) λ_=>wy <| a c) (a c)
def Q3:=wl (aW k) λa=>wl (aL 0 a) λd=>wL (aR · d) λe=>wl (aW i) λf=>wl (aL 0 f) λg=>wl (gP 256 1 g e) λh=>wL (aR · h) λl=>wl (aW k) λm=>wl (aL 1 m) λn=>wL (aR · n) λo=>wl (aG 1 l o) λq=>wL (aR · q) λr=>wq (aW k) λs=>wF 1 s λt=>wI t λu=>wq (aW k) λv=>wq (aL 1 v) λx=>wU x u <| wq (aW i) λy=>wq (aL 256 y) λz=>wq (gP 256 1 z r) λA=>w1 A λB=>wq (ib .eql B (iN 0)) λC=>wd C (wc O 326 [i,r] λD=>wq (bJ (bK [iN 0,iN 0] [(0,1,r),(1,1,(iN 0))])) λE=>wQ 1 (bK (aU [iN 0,iN 0] 1) [(0,2,E)]) λF=>wP 2 16 j F λG=>b G) (Oy O c i j k r)
def J9:=wl (aW j) λa=>wl (aL 1 a) λd=>wL (aR · d) λe=>wl (aW j) λf=>wl (aL 0 f) λg=>wL (aR · g) λh=>wl (aW i) λk=>wl (aL 0 k) λl=>wl (gP 256 1 l h) λm=>wL (aR · m) λn=>wl (aD n) λo=>wl (ib .lss e o) λq=>wd q (Q3 O b x i A j) (c A)
def Hf:=fM (J9 O b c i j)
def Q2:=wq (aD j) λa=>wq (ib .sub a (iN 1)) λc=>wq (aG 2 j c) λd=>λH=>Hf O b (λj H=>Hh O b i j d H) i d bZ j H
def Oz:=wq (aD A) λa=>wq (ib .gtr a (iN 0)) λb=>wd b (Q2 O x i A) (d)
def ze:=fM (Oz O d i)
def Q1:=ze O (.ok (.aX [])) i bZ j
def aPI:=wc O 326 [i,j] λa=>wq (bJ (bK [iN 0,iN 0] [(0,1,j),(1,1,(iN 0))])) λb=>wQ 1 (bK (aU [iN 0,iN 0] 1) [(0,2,b)]) λc=>Q1 O i c
def J6(O:Ev.Call)(a:pD)(b:AV):=wI b a
def Ox:=wq (aG 1 k m) λa=>w1 a λb=>wq ((kF .not).f b) λc=>wg (wv c) (.val l) λg=>wg (wv c) (.val m) λh=>wg (wv c) (aG 1 g h) λn=>wG (wv c) (aR · n) λo=>wg (wv c) ((kF .not).f o) λq=>wq (dQ c q (.bool false)) λr=>wd r (wq (aG 1 k m) λs=>wU s (.bool true) <| w1 j λt=>wq (aG 1 t m) λu=>w1 u λv=>we (oV O i [v]) λx=>wq ((kF .not).f x) λy=>wd y (d) (e)) (J6 O f m)
def J8:=wq (ib .lss A m) λa=>wd a (Ox O d e x i j k l A) (e)
def B9:=fM (J8 O d e i j k l m)
def J5:=w1 j λa=>wq (aD a) λb=>B9 O d (w9 O f m) i j k l b bZ (iN 0)
def He(O:Ev.Call)(a:pD)(b:AV):=wI b a
def ZQ:=wq (aG 3 l m) λa=>wA 3 a λc=>wN [iN 0,iN 0,.bool false] λd=>wT 3 d c <| wL (aR · i) λe=>wl (aL 0 d) λf=>wL (aR · f) λg=>wl (aG 1 e g) λh=>wL (aR · h) λn=>wL (aR · i) λo=>wl (aL 1 d) λq=>wL (aR · q) λr=>wl (aG 1 o r) λs=>wL (aR · s) λt=>wq (ib .neq n t) λu=>wg (wv u) (.val j) λv=>wg (wv u) (.val t) λx=>wg (wv u) (aG 1 v x) λy=>wG (wv u) (aR · y) λz=>wg (wv u) ((kF .not).f z) λA=>wq (dQ u A (.bool false)) λB=>wd B (wq (aG 1 k n) λC=>wU C (.bool true) <| He O b m) (He O b m)
def J7:=wq (ib .lss A m) λa=>wd a (ZQ O x i j k l A) (d)
def B8:=fM (J7 O d i j k l m)
def ZP:=w1 j λa=>wq (aD a) λb=>wh (λH=>fC [.bool false] 1 H.nx b b) λc=>wF 1 k λe=>wq (aD e) λg=>B8 O (J5 O d f i j m c n) l m c e g bZ (iN 0)
def ZR:=wq (ib .lss A n) λa=>wd a (ZP O d x i j k l m A) (e)
def zd:=fM (ZR O d e i j k l m n)
def W2:=w1 j λa=>wq (aD a) λb=>wh (λH=>fC [.bool false] 1 H.nx b b) λc=>w1 j λd=>wq (aD d) λe=>zd O (.ok (.aX [])) (.ok (.aX [])) i j k l c e bZ (iN 0)
def h9:=wd i (.ok (iN 6)) (kJ O)
def ez:=wq ((kF .not).f l) λa=>wG (bI false a) (bW 2 · j) λb=>wG (bI false a) (bW 2 · k) λc=>wg (bI false a) (iQ true ((⟨E2.f ⟨dL λd e=>zI p1 ⟨zT⟩ 1 d e 2 0⟩⟩:E2).f b c)) λf=>wq (dQ a (.bool true) f) λg=>wd g (.ok (iN 5)) (wq (aW i) λh=>wF 0 h λm=>wq (ib .eql m (uN 3)) λn=>wg (wv n) (.val i) λo=>wg (wv n) (aW o) λq=>wg (wv n) (aL 2 q) λr=>wG (wv n) (aR · r) λs=>wx (wv n) (O (.f 309) [s]) λt=>wg (wv n) ((kF .not).f t) λu=>wq (dQ n u (.bool false)) λv=>wd v (h9 O v) (wq (aW i) λx=>wF 0 x λy=>wq (ib .eql y (uN 2)) λz=>wg (bI false z) (.val i) λA=>wg (bI false z) (aW A) λB=>wg (bI false z) (aL 0 B) λC=>wG (bI false z) (aR · C) λD=>wg (bI false z) (ib .eql D (uN 3)) λE=>wq (dQ z (.bool true) E) λF=>wg (wv F) (.val i) λG=>wg (wv F) (aW G) λI=>wg (wv F) (aL 1 I) λJ=>wG (wv F) (aR · J) λK=>wx (wv F) (O (.f 309) [K]) λL=>wg (wv F) ((kF .not).f L) λM=>wq (dQ F M (.bool false)) λN=>h9 O N))
def B7:=wd n (wq (ib .geq l (iN 2)) λa=>ez O i j k a) (wq (ib .eql m (uN 6)) λb=>wd b (wq (ib .eql l (iN 2)) λc=>ez O i j k c) (.ok (iN 10)))
def Pz:=wz 13 λa=>wn 0 0 a (.val i) λb=>wn 1 1 a (aW b) λc=>wn 2 3 a (aL 1 c) λd=>wo 3 7 a (aR · d) λe=>wn 4 15 a (eF (lQ .neq).f e zS) λf=>wn 5 0 a (.val i) λg=>wn 6 32 a (aW g) λh=>wn 7 96 a (aL 2 h) λj=>wo 8 224 a (aR · j) λk=>wn 9 480 a (eF (lQ .neq).f k zS) λl=>wn 10 1023 a (bJ (bK [.bool false,.bool false] [(0,1,f),(1,1,l)])) λm=>wa 11 0 a (.new (.ptr (a+11) 0) (aB 0 [.bool false,.bool false])) λn=>wu 4095 (yI 2 · n m) λ_=>wy <| wq (bJ (bK [.bool false,.bool false] [])) λo=>wN [.bool false,.bool false] λq=>wT 2 q o <| wq (aW i) λr=>wF 3 r λs=>wq (aD s) λt=>wq (ib .eql t (iN 0)) λu=>wq (aW i) λv=>wF 0 v λx=>wq (ib .eql x (uN 1)) λy=>wd y (ez O i n q u) (wq (ib .eql x (uN 2)) λz=>wd z (wq (gP 2 1 n (iN 0)) λA=>w1 A λB=>wq (bJ (bK [.bool false,.bool false] [(0,1,B),(1,1,(.bool false))])) λC=>wT 2 q C <| ez O i n q u) (wq (ib .eql x (uN 3)) λD=>wd D (wA 2 n λE=>wT 2 q E <| ez O i n q u) (wq (ib .eql x (uN 4)) λF=>wd F (B7 O i n q t x F) (wq (ib .eql x (uN 5)) λG=>B7 O i n q t x G))))
def Hc:=wd j (b (iN 7)) ((kA jg) O c i)
def zxu:=(cK Hc).1
theorem Un:zxu=Hc:=(cK Hc).2
def FC:=wd m (b (iN 6)) (wz 0 λa=>wn 0 0 a (.val i) λd=>wn 1 1 a (aW d) λe=>wn 2 3 a (aL 1 e) λf=>wo 3 7 a (aR · f) λg=>wn 4 0 a (.val j) λh=>wn 5 31 a (kM 2 g none (some h) none) λn=>wo 6 0 a (bW 2 · k) λo=>wu 127 (O (.f 229) [n,o]) λq=>wn 8 255 a (.val q) λr=>wy <| zxu O b c l r)
def Ow:=(cK FC).1
theorem Tw:Ow=FC:=(cK FC).2
def FB:=wz 0 λa=>wn 0 0 a (.val i) λd=>wn 1 1 a (aW d) λe=>wn 2 3 a (aL 1 e) λf=>wo 3 7 a (aR · f) λg=>wn 4 0 a (aL 0 l) λh=>wo 5 16 a (aR · h) λn=>wo 6 63 a (mX ⟨(⟨bH⟩:E2).f,none⟩ (iN 0) false · g n) λo=>wn 7 127 a (ib .eql o (iN 0)) λq=>wn 8 255 a (.val q) λr=>wr 9 511 a (aL 1 l) (bI false r) λs=>ws 10 1023 a (aR · s) (bI false r) λt=>wr 11 2047 a (eF (lQ .neq).f t zS) (bI false r) λu=>wr 12 4095 a (.val u) (bI false r) λv=>wr 13 8191 a (.val i) (wv v) λx=>wr 14 8191 a (aL 0 l) (wv v) λy=>ws 15 24575 a (aR · y) (wv v) λz=>wr 16 8191 a (aL 1 l) (wv v) λA=>ws 17 73727 a (aR · A) (wv v) λB=>wt 262143 (O (.f 237) [x,z,B]) (wv v) λC=>wr 19 524287 a (iQ false ((⟨E2.f ⟨eN⟩⟩:E2).f C (.bQ))) (wv v) λD=>wr 20 1048575 a (dQ v D (.bool false)) (bI false r) λE=>wn 21 2097151 a (dQ r (.bool true) E) λF=>wn 22 4194303 a (.val F) λG=>wy <| Ow O b c j k l m G
def ZN:=(cK FB).1
theorem Tv:ZN=FB:=(cK FB).2
def FD:=wq (aG 2 k l) λa=>wA 2 a λd=>wN [zS,zS] λe=>wT 2 e d <| ZN O b c i j l e l
def ZO:=wq (ib .lss A l) λa=>wd a ((kA FD) O b x i j k A) (d)
def zc:=fM (ZO O b d i j k l)
def Gb:=zc O .ok (kA kJ O) i j k l bZ m
def ZM:=(cK Gb).1
theorem Tt:ZM=Gb:=(cK Gb).2
def W1:=wq (aW j) λa=>wF 1 a λb=>wq (aD b) λc=>ZM O i j b c (iN 0)
def J4:=wg (bI false i) (aL 0 j) λb=>wG (bI false i) (aR · b) λc=>wg (bI false i) (ib .eql c (uN 1)) λd=>wq (dQ i (.bool true) d) λe=>pf O a e k
def Ov:=wq (aG 5 l m) λb=>wA 5 b λc=>wN [uN 0,zS,zS,.aA,.bool false] λd=>wT 5 d c <| wF 0 d λe=>wq (ib .eql e (uN 2)) λf=>wg (bI false f) (aL 0 d) λh=>wG (bI false f) (aR · h) λn=>wg (bI false f) (ib .eql n (uN 3)) λo=>wq (dQ f (.bool true) o) λq=>wg (wv q) (.val i) λr=>wg (wv q) (.val j) λs=>wg (wv q) (aL 1 d) λt=>wG (wv q) (aR · t) λu=>wx (wv q) (O (.f 237) [r,s,u]) λv=>wg (wv q) (iQ false ((⟨E2.f ⟨eN⟩⟩:E2).f v (.bQ))) λx=>wq (dQ q x (.bool false)) λy=>wd y (a k (iN 6)) (wF 0 d λz=>wq (ib .eql z (uN 3)) λA=>wg (wv A) (.val i) λB=>wg (wv A) (.val j) λC=>wg (wv A) (aL 1 d) λD=>wG (wv A) (aR · D) λE=>wg (wv A) (aL 2 d) λF=>wG (wv A) (aR · F) λG=>wx (wv A) (O (.f 238) [B,C,E,G]) λI=>wg (wv A) (aD I) λJ=>wg (wv A) (ib .eql J (iN 0)) λK=>wq (dQ A K (.bool false)) λL=>wd L (a k (iN 11)) (J4 O g k d m))
def ZL:=wq (ib .lss B l) λc=>wd c (Ov O a y i j A k B) (b A)
def CM:=jX (ZL O a b i j k l)
def W0:=wq (aD k) λa=>λH=>CM O (λb c H=>.ok (.aX [b,c]) H) (cX O) i j k a bZ (.bool false) (iN 0) H
def WZ:=wB 2 i λa=>wh (λH=>lM H.nx j) λb=>wF 1 a λc=>wc O 311 [c,(.fn 312 [] [b])] λd=>.ok d
def WY(O:Ev.Call)(a:AV):=wq (ib .neq a a) λb=>.ok b
def WX(O:Ev.Call)(a b:AV):=wq (aW a) λc=>wF 1025 c λd=>wI d λe=>wq (aW a) λf=>wq (aL 1025 f) λg=>wU g e <| wz 0 λh=>wn 0 0 h (.val a) λi=>wn 1 0 h (.val b) λj=>wn 2 0 h (.val a) λk=>wn 3 0 h (.val b) λl=>wn 4 0 h (.val a) λm=>wn 5 0 h (.val b) λn=>wn 6 0 h (.val a) λo=>wn 7 64 h (aW o) λq=>wn 8 192 h (aL 1025 q) λr=>wo 9 448 h (aR · r) λs=>wn 10 0 h (.val a) λt=>wn 11 1024 h (aW t) λu=>wn 12 3072 h (aL 1025 u) λv=>wo 13 7168 h (aR · v) λx=>wn 14 1 h (aW i) λy=>wn 15 16385 h (aL 256 y) λz=>wn 16 65475 h (gP 256 1 z j) λA=>wn 18 4 h (aW k) λB=>wn 19 262148 h (aL 512 B) λC=>wn 22 16 h (aW m) λD=>wn 23 4194320 h (aL 768 D) λE=>wu 131011 (kL · A s) λ_=>wn 20 1048527 h (gP 256 1 C l) λF=>wu 2097103 (kL · F x) λ_=>wn 24 16777215 h (gP 256 1 E n) λG=>wu 33554431 (kL · G (.bool true)) λ_=>wy <| wq (aW a) λI=>wF 1024 I λJ=>wQ 1 (bK (aU [iN 0] 1) [(0,1,b)]) λK=>wP 1 8 J K λL=>wq (aW a) λM=>wq (aL 1024 M) λN=>wU N L <| .ok (.aX [])
def J2(O:Ev.Call)(a b c:AV):=wq (aW a) λd=>wF 1024 d λe=>wq (kM 1 e none (some b) none) λf=>wq (aW a) λg=>wq (aL 1024 g) λh=>wU h f <| wq (aW a) λi=>wF 1026 i λj=>wQ 1 (bK (aU [.aA] 1) [(0,1,c)]) λk=>wP 1 24 j k λl=>wq (aW a) λm=>wq (aL 1026 m) λn=>wU n l <| .ok (.aX [])
def Zn(O:Ev.Call)(a:pD)(b:AV):=wI b a
def Zm:=wq (aG 1 j k) λa=>w1 a λc=>wq (aW i) λd=>wq (aL 768 d) λe=>wq (gP 256 1 e c) λf=>wU f (.bool false) <| Zn O b k
def J3:=wq (ib .lss A k) λa=>wd a (Zm O x i j A) (d)
def G9:=fM (J3 O d i j k)
def Zl:=wq (aW i) λa=>wF 1024 a λb=>wc O 351 [b,j] λc=>wq (aW i) λd=>wF 1024 d λe=>wq (kM 1 e (some c) none none) λf=>wc O 353 [f] λg=>wc O 352 [g] λh=>wq (aD h) λk=>G9 O (J2 O i c h) i h k bZ (iN 0)
def Py:=wl (aW i) λa=>wl (aL 512 a) λb=>wl (gP 256 1 b j) λc=>wL (aR · c) λd=>wl (aW i) λe=>wl (aL 256 e) λf=>wl (gP 256 1 f j) λg=>wL (aR · g) λh=>wl (ib .lss d h) λk=>wd k (.ok (.aX [])) (Zl O i j)
def WV:=wB 6 i λa=>wq (aL 2 a) λb=>wA 4 b λc=>wc O 234 [c] λd=>wq (aT 0 d) λe=>wq (aT 1 d) λf=>wc O 313 [e,(.fn 314 [] [j])] λg=>.ok g
def WU:=wc O 338 [i,j] λa=>wq (ib .geq a (iN 0)) λb=>.ok b
def zxt:=wq (aG 1 i k) λa=>w1 a λd=>wq (ib .eql j d) λe=>wd e (b k) (lC O c k)
def Zk:=wq (ib .lss A k) λa=>wd a (zxt O b x i j A) (d)
def DV:=fM (Zk O b d i j k)
def WT:=wq (aD i) λa=>DV O .ok (rF O) i j a bZ (iN 0)
def WR(O:Ev.Call)(a:AV):=wh (λH=>lM H.nx a) λb=>.ok (.fn 366 [] [b])
def aO4:=wc O 365 [i] λa=>wc O 281 [a] λb=>.ok a
def WP(O:Ev.Call)(a b:AV):=wB 5 a λc=>wF 0 c λd=>wq (ib .eql d (uN 3)) λe=>wg (wv e) (aL 1 c) λf=>wG (wv e) (aR · f) λg=>wG (wv e) (aR · b) λh=>wg (wv e) (eF (lQ .eql).f g h) λi=>wq (dQ e i (.bool false)) λj=>.ok j
def WO:=wc O 339 [i,j] λa=>wq (ib .geq a (iN 0)) λb=>.ok b
def zxr:=wq (aG 6 i k) λa=>wA 6 a λd=>we (oV O j [d]) λe=>wd e (b k) (lC O c k)
def Zj:=wq (ib .lss A k) λa=>wd a (zxr O b x i j A) (d)
def Eh:=fM (Zj O b d i j k)
def WN:=wq (aD i) λa=>Eh O .ok (rF O) i j a bZ (iN 0)
def Oa:=wq (aG 1 j k) λa=>w1 a λb=>we (oV O i [b]) λc=>wq ((kF .not).f c) λe=>wd e (d) (lC O f k)
def Ob:=wq (ib .lss A k) λa=>wd a (Oa O d x i j A) (e)
def Ef:=fM (Ob O d e i j k)
def WM:=w1 j λa=>wq (aD a) λb=>Ef O (.ok (.aX [])) (.ok (.aX [])) i a b bZ (iN 0)
def aQU:=wc O 370 [(.aA),i] λa=>.ok a
def zxq:=wq (aG 5 i k) λa=>wA 5 a λd=>we (oV O j [d]) λe=>wd e (b k) (lC O c k)
def Zi:=wq (ib .lss A k) λa=>wd a (zxq O b x i j A) (d)
def CL:=fM (Zi O b d i j k)
def WL:=wq (aD i) λa=>CL O .ok (rF O) i j a bZ (iN 0)
def zw4(O:Ev.Call)(a:AV):=wq (aW a) λb=>wF 3 b λc=>.ok c
def VV:=wq (iQ false ((⟨E2.f ⟨eN⟩⟩:E2).f i (.bQ))) λa=>wd a (.ok (iN 0)) (zw4 O i)
def NX(O:Ev.Call):pH:=.ok (.int .i64 (.negSucc 0))
def zw3(O:Ev.Call)(a:pD)(b:AV):=wI b a
def NI:=wL (bW 2 · j) λa=>wl (aG 2 i k) λd=>wL (bW 2 · d) λe=>wl (iQ false ((⟨E2.f ⟨dL (eqFields [(p1,⟨bH⟩,0),(p1,⟨bH⟩,1)])⟩⟩:E2).f a e)) λf=>wd f (b k) (zw3 O c k)
def Y5:=wq (ib .lss A k) λa=>wd a (NI O b x i j A) (d)
def D2:=fM (Y5 O b d i j k)
def VU:=wB 2 j λa=>wq (aD i) λb=>D2 O .ok (NX O) i a b bZ (iN 0)
def VT:=wB 2 j λa=>wA 2 a λb=>wc O 136 [i,b] λc=>wq (ib .geq c (iN 0)) λd=>.ok d
def NH(O:Ev.Call):pH:=.ok (.int .i64 (.negSucc 0))
def zw2(O:Ev.Call)(a:pD)(b:AV):=wI b a
def zw1:=wq (aG 1 i k) λa=>w1 a λd=>wq (iQ false ((⟨E2.f ⟨zT⟩⟩:E2).f j d)) λe=>wd e (b k) (zw2 O c k)
def YH:=wq (ib .lss A k) λa=>wd a (zw1 O b x i j A) (d)
def D1:=fM (YH O b d i j k)
def VS:=wq (aD i) λa=>D1 O .ok (NH O) i j a bZ (iN 0)
def VR:=wc O 140 [i,j] λa=>wq (ib .geq a (iN 0)) λb=>.ok b
def JG:=wF 3 i λa=>wc O 248 [a] λb=>wq (aL 3 i) λc=>wU c b <| wA 4 i λd=>wT 4 i d <| λH=>dJ (dY (dU (rV (bW 4 H i)) (dU (some j) (dU (some (.bool true)) (some []))))) H
def NG(O:Ev.Call)(a:AV->pD)(b c:AV):=wI c λd=>a b d
def YG:=wF 3 i λb=>wA 4 k λc=>wQ 1 (bK (aU [uN 0,zS,zS,.aA] 1) [(0,4,c)]) λd=>wP 4 64 b d λe=>wq (aL 3 i) λf=>wU f e <| NG O a j l
def YF:=wN [uN 0,zS,zS,.aA] λb=>wc O 200 [i,k] λc=>wq (aT 0 c) λd=>wq (aT 1 c) λe=>wq (aT 2 c) λf=>wT 4 b d <| wq ((kF .not).f f) λh=>wd h (wA 4 j λm=>wT 4 j m <| a e (.bool false)) (YG O g j e b l)
def YE:=wq (aG 1 l m) λb=>w1 b λc=>wq (ib .neq c k) λd=>wd d (wA 4 j λe=>wT 4 j e <| a k (.bool false)) (YF O a g i j c m)
def BV:=wq (ib .lss B l) λc=>wd c (YE O a y i j A k B) (b A)
def BU:=jX (BV O a b i j k l)
def YD:=wq (aG 6 i j) λa=>wA 6 a λb=>wN [uN 0,zS,zS,.aA,.aA,iN 0] λc=>wT 6 c b <| wF 0 c λd=>wF 1 c λe=>wF 2 c λf=>wq (bJ (bK [uN 0,zS,zS,.aA] [(0,1,d),(1,1,e),(2,1,f)])) λg=>wT 4 k g <| wI j λh=>wF 4 c λl=>wq (aD l) λm=>λH=>BU O (λn o H=>dJ (dY (dU (rV (bW 4 H k)) (dU (some n) (dU (some o) (some []))))) H) (JG O k) i k l m bZ h (iN 0) H
def VQ:=wN [uN 0,zS,zS,.aA] λa=>wq (aD i) λb=>wq (ib .geq j b) λc=>wg (bI false c) (.val i) λd=>wg (bI false c) (aD d) λe=>wg (bI false c) (ib .gtr e (iN 32)) λf=>wq (dQ c (.bool true) f) λg=>wd g (wA 4 a λh=>wT 4 a h <| λH=>dJ (dY (dU (rV (bW 4 H a)) (dU (some j) (dU (some (.bool false)) (some []))))) H) (YD O i j a)
def VP(O:Ev.Call)(a b:AV):=wB 5 a λc=>wB 5 b λd=>wF 0 c λe=>wF 0 d λf=>wq (ib .eql e f) λg=>wg (wv g) (aL 1 c) λh=>wG (wv g) (aR · h) λi=>wg (wv g) (aL 2 c) λj=>wG (wv g) (aR · j) λk=>wg (wv g) (bJ (bK [zS,zS] [(0,1,i),(1,1,k)])) λl=>wg (wv g) (aL 1 d) λm=>wG (wv g) (aR · m) λn=>wg (wv g) (aL 2 d) λo=>wG (wv g) (aR · o) λq=>wg (wv g) (bJ (bK [zS,zS] [(0,1,n),(1,1,q)])) λr=>wg (wv g) (iQ false ((⟨E2.f ⟨dL λs t=>zI p1 ⟨bH⟩ 1 s t 2 0⟩⟩:E2).f l r)) λu=>wq (dQ g u (.bool false)) λv=>wg (wv v) (aL 3 c) λx=>wG (wv v) (aR · x) λy=>wg (wv v) (aD y) λz=>wg (wv v) (aL 3 d) λA=>wG (wv v) (aR · A) λB=>wg (wv v) (aD B) λC=>wg (wv v) (ib .eql z C) λD=>wq (dQ v D (.bool false)) λE=>.ok E
def NF(O:Ev.Call):pH:=.ok (.bool true)
def zw0(O:Ev.Call)(a:pD)(b:AV):=wI b a
def NR:=wq (aG 5 k l) λa=>wA 5 a λd=>wN [uN 0,zS,zS,.aA,.bool false] λe=>wT 5 e d <| wq (aG 5 i l) λf=>wA 5 f λg=>wN [uN 0,zS,zS,.aA,.bool false] λh=>wT 5 h g <| wA 5 e λm=>wA 5 h λn=>we (oV O j [m,n]) λo=>wq ((kF .not).f o) λq=>wd q (b (.bool false)) (zw0 O c l)
def YC:=wq (ib .lss A l) λa=>wd a (NR O b x i j k A) (d)
def D0:=fM (YC O b d i j k l)
def Y0:=wq (aD i) λa=>D0 O .ok (NF O) j k i a bZ (iN 0)
def VO:=wq (aD i) λa=>wq (aD j) λb=>wq (ib .neq a b) λc=>wd c (.ok (.bool false)) (Y0 O i j k)
def VN:=wB 4 i λa=>wB 4 j λb=>wc O 249 [a] λc=>wq (aT 0 c) λd=>wq (aT 1 c) λe=>wq (aT 2 c) λf=>wc O 249 [b] λg=>wq (aT 0 g) λh=>wq (aT 1 g) λk=>wq (aT 2 g) λl=>wq (ib .eql f (iN 0)) λm=>wg (wv m) (.val l) λn=>wg (wv m) (ib .eql n (iN 0)) λo=>wq (dQ m o (.bool false)) λq=>wg (wv q) (.val d) λr=>wg (wv q) (.val h) λs=>wx (wv q) (O (.f 250) [r,s,(.fn 251 [] [])]) λt=>wq (dQ q t (.bool false)) λu=>.ok u
def YY(O:Ev.Call)(a:AV):=wq (aD a) λb=>wq (ib .gtr b (iN 0)) λc=>.ok c
def zwz(O:Ev.Call)(a:pD)(b:AV):=wI b a
def NQ:=wq (aG 1 j k) λa=>w1 a λd=>wq (bJ (bK [uN 0,zS,zS,.aA] [(0,1,(uN 2)),(1,1,d)])) λe=>wc O 201 [e] λf=>wq (ib .neq f (iN 0)) λg=>wg (bI false g) (.val i) λh=>wg (bI false g) (.val k) λl=>wg (bI false g) (kM 1 h none (some l) none) λm=>wg (bI false g) (.val d) λn=>wx (bI false g) (O (.f 198) [m,n]) λo=>wq (dQ g (.bool true) o) λq=>wd q (b (.bool false)) (zwz O c k)
def YZ:=wq (ib .lss A k) λa=>wd a (NQ O b x i j A) (d)
def DZ:=fM (YZ O b d i j k)
def VM:=wq (aD i) λa=>DZ O .ok (YY O i) i i a bZ (iN 0)
def CC(O:Ev.Call):pH:=.ok (iN 0)
def G0(O:Ev.Call)(a:AV->pD)(b c:AV):=wI c λd=>a b d
def tM:=wF 5 j λa=>wq (ib .neq a k) λc=>wg (bI false c) (aL 0 j) λd=>wG (bI false c) (aR · d) λe=>wg (bI false c) (ib .eql e (uN 3)) λf=>wg (bI false c) (aL 3 j) λh=>wG (bI false c) (aR · h) λm=>wg (bI false c) (aD m) λn=>wg (bI false c) (ib .gtr n (iN 0)) λo=>wg (bI false c) (iQ true ((⟨E2.f ⟨zT⟩⟩:E2).f f o)) λq=>wq (dQ c (.bool true) q) λr=>wg (bI false r) (aL 0 j) λs=>wG (bI false r) (aR · s) λt=>wg (bI false r) (ib .eql t (uN 3)) λu=>wg (bI false r) (.val u) λv=>wg (wv v) (aL 3 j) λx=>wG (wv v) (aR · x) λy=>wx (wv v) (O (.f 203) [y]) λz=>wg (wv v) ((kF .not).f z) λA=>wg (bI false r) (dQ v A (.bool false)) λB=>wq (dQ r (.bool true) B) λC=>wd C (b (iN 5)) (G0 O g i l)
def FY:=wq (aG 6 j k) λa=>wA 6 a λc=>wN [uN 0,zS,zS,.aA,.aA,iN 0] λd=>wT 6 d c <| wF 0 d λe=>wq (ib .leq e (uN 3)) λf=>wd f (wI i λh=>(kA tM) O b g h d i k) ((kA tM) O b g i d (.int .i64 (.negSucc 0)) k)
def NP:=wq (ib .lss B j) λa=>wd a ((kA FY) O b y A i B) (d)
def zw:=jX (NP O b d i j)
def FX:=wq (aD i) λa=>zw O .ok (CC O) i a bZ (iN 0) (iN 0)
def FW:=wA 4 j λa=>wc O 178 [a] λb=>wq (aT 0 b) λc=>wq (aT 1 b) λd=>wN [uN 0,zS,zS,.aA] λe=>wT 4 e c <| wA 4 e λf=>wA 4 j λg=>wc O 202 [f,g] λh=>wq ((kF .not).f h) λk=>wd k (.ok (iN 5)) ((kA FX) O i)
def VL:=wc O 200 [i,(iN 0)] λa=>wq (aT 0 a) λb=>wq (aT 1 a) λc=>wq (aT 2 a) λd=>wN [uN 0,zS,zS,.aA] λe=>wT 4 e b <| wq ((kF .not).f d) λf=>wg (bI false f) (.val c) λg=>wg (bI false f) (.val i) λh=>wg (bI false f) (aD h) λj=>wg (bI false f) (ib .neq g j) λk=>wq (dQ f (.bool true) k) λl=>wG (bI false l) (bW 4 · e) λm=>wx (bI false l) (O (.f 201) [m]) λn=>wg (bI false l) (ib .neq n (iN 0)) λo=>wq (dQ l (.bool true) o) λq=>wd q (.ok (iN 5)) ((kA FW) O i e)
def NN(O:Ev.Call)(a:AV):pH:=.ok a
def YX(O:Ev.Call)(a:AV->pD)(b c:AV):=wI c λd=>a b d
def NM:=wq (aG 6 j k) λb=>wA 6 b λc=>wN [uN 0,zS,zS,.aA,.aA,iN 0] λd=>wT 6 d c <| wF 5 d λe=>wI e λf=>wq (rT qV i [f]) λg=>YX O a g k
def NO:=wq (ib .lss B j) λa=>wd a (NM O y A i B) (b A)
def DY:=jX (NO O b i j)
def VK:=wq (aD i) λa=>DY O (NN O) i a bZ (iN 0) (iN 0)
def VJ(O:Ev.Call)(a b:AV):=wg (bI false a) (.val b) λc=>wq (dQ a (.bool true) c) λd=>.ok d
def VI(O:Ev.Call)(a b:AV):=wg (wv a) (.val b) λc=>wq (dQ a c (.bool false)) λd=>.ok d
def VH(O:Ev.Call)(a b:AV):=wg (wv a) (.val b) λc=>wg (wv a) ((kF .not).f c) λd=>wq (dQ a d (.bool false)) λe=>.ok e
def JF(O:Ev.Call)(a:AV):pH:=.ok a
def GZ(O:Ev.Call)(a:AV->pD)(b c:AV):=wI c λd=>a b d
def NL:=wq (aG 1 n o) λb=>w1 b λc=>wz 0 λd=>wn 0 0 d (aL 0 l) λe=>wo 1 1 d (aR · e) λf=>wn 2 3 d (ib .sub f (uN 4)) λg=>wn 3 7 d (gP 3 1 k g) λh=>wo 4 15 d (aR · h) λq=>wn 5 0 d (.val m) λr=>wn 6 0 d (.val i) λs=>wn 7 0 d (.val c) λt=>wn 8 0 d (.val j) λu=>wo 9 0 d (bW 3 · k) λv=>wu 960 (O (.f 143) [s,t,u,v]) λx=>wu 2047 (oV O q [r,x]) λy=>wn 12 4095 d (.val y) λz=>wy <| GZ O a z o
def BM:=wq (ib .lss B n) λa=>wd a (NL O y i j k l A m B) (b A)
def yk:=jX (BM O b i j k l m n)
def YW:=wz 0 λa=>wn 0 0 a (.val i) λb=>wn 1 0 a (aL 4 l) λc=>wo 2 2 a (aR · c) λd=>wn 3 6 a (aG 1 d (iN 0)) λe=>wo 4 14 a (aR · e) λf=>wn 5 0 a (.val j) λg=>wo 6 0 a (bW 3 · k) λh=>wu 127 (O (.f 143) [b,f,g,h]) λm=>wn 8 255 a (.val m) λn=>wy <| wF 4 l λo=>wq (kM 1 o (some (iN 1)) none none) λq=>wq (aD q) λr=>yk O (JF O) i j k l q r bZ n (iN 0)
def VG:=wB 3 l λa=>wq (aG 6 i j) λb=>wA 6 b λc=>wN [uN 0,zS,zS,.aA,.aA,iN 0] λd=>wT 6 d c <| wF 5 d λe=>wq (ib .geq e (iN 0)) λf=>wd f (wF 5 d λg=>wq (aG 1 k g) λh=>w1 h λm=>.ok m) (YW O i k a d)
def zwy:=wq (bJ (bK [.iV,.iV,.iV] [(0,1,(.fn 144 [] [])),(1,1,(.fn 145 [] [])),(2,1,(.fn 146 [] []))])) λa=>wc O 143 [i,(iN 0),j,a] λb=>.ok (.aX [b,(iN 0)])
def zwx:=wq (aD j) λa=>wc O 142 [i] λb=>wq (ib .neq a b) λc=>wd c (.ok (.aX [(.bool false),(iN 4)])) (zwy O i j)
def VF:=wc O 141 [i] λa=>wq (ib .neq a (iN 0)) λb=>wd b (.ok (.aX [(.bool false),a])) (zwx O i j)
def VE:=wq (aL 4 k) λa=>wA 2 a λb=>wc O 71 [i,b] λc=>wg (bI false c) (.val j) λd=>wx (bI false c) (O (.f 94) [d,(.bool true)]) λe=>wq (dQ c (.bool true) e) λf=>.ok f
def VD:=wc O 96 [i,j] λa=>wq (aT 0 a) λb=>wq (aT 1 a) λc=>.ok b
def VC(O:Ev.Call)(a b:AV):=wq (iQ false ((⟨E2.f ⟨zT⟩⟩:E2).f a b)) λc=>.ok c
def VB(O:Ev.Call)(a b c d:AV):=wB 2 a λe=>wh (λH=>lM H.nx b) λf=>wh (λH=>lM H.nx c) λg=>wh (λH=>lM H.nx d) λh=>wh (λH=>.new (.map H.nx) (.map [] 0)) λi=>wN [.bU] λj=>wU j i <| .ok (.fn 138 [] [e,j,f,g,h])
def JC(O:Ev.Call)(a b c:AV):=w1 a λd=>wA 3 b λe=>we (jN ⟨(⟨dL (eqFields [((pA 2),⟨dL (eqFields [(p1,⟨bH⟩,0),(p1,⟨bH⟩,1)])⟩,0),(p1,⟨bH⟩,2)])⟩:E2).f,some 3⟩ · d e c) λ_=>.ok (.bool true)
def GY:=w1 j λa=>wF 5 m λb=>we (oV O a [b,n]) λc=>wz 0 λd=>wo 0 0 d (aR · k) λe=>wn 1 0 d (.val c) λf=>wo 2 0 d (aR · i) λg=>wo 3 0 d (bW 3 · l) λh=>wo 4 12 d (mX ⟨(⟨dL (eqFields [((pA 2),⟨dL (eqFields [(p1,⟨bH⟩,0),(p1,⟨bH⟩,1)])⟩,0),(p1,⟨bH⟩,2)])⟩:E2).f,some 3⟩ (.bool false) false · g h) λo=>wu 31 (oV O e [f,o]) λq=>wy <| wd q (.ok (.bool false)) (JC O i l c)
def GX(O:Ev.Call)(a:AV->pD)(b c:AV):=wI c λd=>a b d
def JB:=w1 i λb=>we (oV O b [k,l]) λc=>wQ 1 (bK (aU [.bool false] 1) [(0,1,c)]) λd=>wP 1 1 j d λe=>GX O a e m
def YV(O:Ev.Call)(a:AV->pD)(b c:AV):=wI c λd=>a b d
def YU:=wq (aG 3 k l) λb=>wA 3 b λc=>wN [zS,zS,zS] λd=>wT 3 d c <| w1 i λe=>wA 3 d λf=>wh (mX ⟨(⟨dL (eqFields [((pA 2),⟨dL (eqFields [(p1,⟨bH⟩,0),(p1,⟨bH⟩,1)])⟩,0),(p1,⟨bH⟩,2)])⟩:E2).f,some 3⟩ (.bool false) false · e f) λg=>wQ 1 (bK (aU [.bool false] 1) [(0,1,g)]) λh=>wP 1 1 j h λm=>YV O a m l
def JD:=wq (ib .lss B k) λa=>wd a (YU O y i A j B) (b A)
def GV:=jX (JD O b i j k)
def YT:=wA 2 i λb=>wA 6 n λc=>wA 3 l λd=>wc O 139 [b,c,d] λe=>wq (aT 0 e) λf=>wq (aT 1 e) λg=>wq (aD g) λh=>λH=>GV O (λq H=>JB O a k m f q o H) j g h bZ (.aA) (iN 0) H
def YR:=wq (aG 6 n o) λb=>wA 6 b λc=>wN [uN 0,zS,zS,.aA,.aA,iN 0] λd=>wT 6 d c <| wF 5 d λe=>wq (ib .lss e (iN 0)) λf=>wd f (GX O a m o) (YT O a i j k l m d o)
def JE:=wq (ib .lss B n) λa=>wd a (YR O y i j k l A m B) (b A)
def yi:=jX (JE O b i j k l m n)
def Pv:=wB 3 i λa=>wF 0 j λb=>wq (aL 0 a) λc=>wF 0 c λd=>wF 2 a λe=>wc O 62 [b,d,e] λf=>wq (aT 0 f) λg=>wq (aT 1 f) λh=>wN [zS,zS,iN 0,iN 0,.aA,.aA] λo=>wT 6 o g <| wF 5 o λq=>wq (aD q) λr=>yi O (GY O k m n a o) j k l a q r bZ (.aA) (iN 0)
def zr(O:Ev.Call)(a:pD)(b:AV):=wI b a
def GU(O:Ev.Call)(a:AV->pD)(b c:AV):=wI c λd=>a b d
def NK:=wq (aG 3 l m) λb=>wA 3 b λc=>wN [zS,zS,zS] λd=>wT 3 d c <| wq (aW i) λe=>wF 4 e λf=>wI f λg=>wq (aW i) λh=>wq (aL 4 h) λn=>wU n g <| wA 3 d λo=>we (oV O j [o]) λq=>wd q (GU O a (.bool true) m) (GU O a k m)
def JA:=wq (ib .lss B l) λa=>wd a (NK O y i j A k B) (b A)
def BK:=jX (JA O b i j k l)
def YP:=wq (aW i) λa=>wF 3 a λc=>wI c λd=>wq (aW i) λe=>wq (aL 3 e) λf=>wU f d <| wq (aD k) λg=>BK O b i j k g bZ (.bool false) (iN 0)
def BL:=wd A (YP O x i j k) (d)
def ye:=fM (BL O d i j k)
def YO:=wq (aW i) λa=>wF 2 a λc=>wI c λd=>wq (aW i) λe=>wq (aL 2 e) λf=>wU f d <| ye O (zr O b l) i j k bZ (.bool true)
def Jy:=wq (aD k) λa=>wq (ib .eql a (iN 0)) λc=>wd c (zr O b l) (YO O b i j k l)
def GT(O:Ev.Call)(a:AV->pD)(b c:AV):=wI c λd=>a b d
def YN:=wq (aG 3 l m) λb=>wA 3 b λc=>wN [zS,zS,zS] λd=>wT 3 d c <| wF 0 i λe=>wq (aL 0 d) λf=>wF 0 f λg=>wF 2 d λh=>wc O 62 [e,g,h] λn=>wq (aT 0 n) λo=>wq (aT 1 n) λq=>wN [zS,zS,iN 0,iN 0,.aA,.aA] λr=>wT 6 r o <| wF 3 r λs=>wq (ib .eql s j) λt=>wd t (wA 3 d λu=>wQ 1 (bK (aU [zS,zS,zS] 1) [(0,3,u)]) λv=>wP 3 48 k v λx=>GT O a x m) (GT O a k m)
def Jz:=wq (ib .lss B l) λa=>wd a (YN O y i j A k B) (b A)
def BJ:=jX (Jz O b i j k l)
def YM:=wq (aD i) λa=>λH=>BJ O (λc H=>Jy O b j k c m H) l m i a bZ (.aA) (iN 0) H
def YQ:=wq (ib .lss A m) λa=>wd a (YM O x i j k l A) (d)
def t8:=fM (YQ O d i j k l m)
def VA:=wB 2 i λa=>wF 0 a λb=>wc O 60 [b] λc=>t8 O (.ok (.aX [])) j k l a c bZ (iN 0)
def zww(O:Ev.Call):pH:=.ok (iN 0)
def YL:=wA 1 i λa=>wc O 123 [a] λb=>wq (aT 0 b) λc=>wq (aT 1 b) λd=>wF 0 j λe=>wq (ib .eql e (uN 1)) λf=>wq ((kF .not).f f) λg=>wg (wv g) (aL 0 j) λh=>wG (wv g) (aR · h) λk=>wg (wv g) (ib .neq k (uN 2)) λl=>wq (dQ g l (.bool false)) λm=>wd m (.ok (iN 10)) (wq (aL 1 j) λn=>wA 3 n λo=>wc O 107 [c,o] λq=>wq ((kF .not).f q) λr=>wg (bI false r) (.val f) λs=>wg (bI false r) (.val s) λt=>wg (wv t) (aL 4 j) λu=>wG (wv t) (bW 2 · u) λv=>wx (wv t) (O (.f 70) [v]) λx=>wg (wv t) (ib .neq x (iN 0)) λy=>wg (bI false r) (dQ t y (.bool false)) λz=>wq (dQ r (.bool true) z) λA=>wd A (.ok (iN 6)) (wq ((kF .not).f f) λB=>wg (wv B) (aL 4 j) λC=>wG (wv B) (bW 2 · C) λD=>wg (wv B) (bJ (bK [zS,zS] [])) λE=>wg (wv B) (iQ true ((⟨E2.f ⟨dL (eqFields [(p1,⟨bH⟩,0),(p1,⟨bH⟩,1)])⟩⟩:E2).f D E)) λF=>wq (dQ B F (.bool false)) λG=>wd G (.ok (iN 5)) (zww O)))
def Vz:=wB 1 i λa=>wB 6 j λb=>wA 1 a λc=>wc O 125 [c] λd=>wq (ib .neq d (iN 0)) λe=>wd e (.ok d) (YL O a b)
def Br(O:Ev.Call)(a b:AV):=wF 1 b λc=>wF 0 b λd=>wq (ib .add c d) λe=>wF 4 b λf=>wq (ib .add e f) λg=>wq (aL 5 b) λh=>wU h g <| wA 6 b λi=>wT 6 a i <| λH=>dJ (dY (dU (rV (bW 6 H a)) (dU (some (iN 0)) (some [])))) H
def FV:=wA 2 k λa=>wq (aL 1 i) λb=>wA 3 b λc=>wc O 90 [a,c] λd=>wq (aT 0 d) λe=>wq (aT 1 d) λf=>wq (aD e) λg=>wq (bJ (bK [iN 0,iN 0,iN 0,iN 0,iN 0,iN 0] [(0,1,g),(1,1,f)])) λh=>wN [iN 0,iN 0,iN 0,iN 0,iN 0,iN 0] λl=>wT 6 l h <| wF 0 i λm=>wq (ib .eql m (uN 1)) λn=>wd n (wz 0 λo=>wo 0 0 o (bW 2 · k) λq=>wn 1 0 o (.val e) λr=>wo 2 0 o (bW 2 · k) λs=>wn 3 0 o (.val (.fn 93 [] [i])) λt=>wu 12 (O (.f 92) [s,t,(.fn 95 [] []),(.fn 97 [] [])]) λu=>wu 31 (O (.f 91) [q,r,l,u]) λv=>wy <| (kA Br) O j l) (wz 0 λx=>wo 0 0 x (bW 2 · k) λy=>wn 1 0 x (.val e) λz=>wo 2 0 x (bW 2 · k) λA=>wu 4 (O (.f 98) [A,(.fn 99 [] []),(.fn 104 [] []),(.fn 106 [] [])]) λB=>wu 15 (O (.f 91) [y,z,l,B]) λC=>wy <| (kA Br) O j l)
def FU:=wA 1 i λa=>wA 6 j λb=>wc O 89 [a,b] λc=>wq (ib .neq c (iN 0)) λd=>wd d (wq (bJ (bK [iN 0,iN 0,iN 0,iN 0,iN 0,iN 0] [])) λe=>wT 6 k e <| λH=>dJ (dY (dU (rV (bW 6 H k)) (dU (some c) (some [])))) H) ((kA FV) O j k l)
def Vy:=wB 1 i λa=>wB 6 k λb=>wN [iN 0,iN 0,iN 0,iN 0,iN 0,iN 0] λc=>wA 1 a λd=>wc O 88 [d,j] λe=>wq (aT 0 e) λf=>wq (aT 1 e) λg=>wN [.bQ,.bU] λh=>wT 2 h f <| wq (ib .neq g (iN 0)) λl=>wd l (wq (bJ (bK [iN 0,iN 0,iN 0,iN 0,iN 0,iN 0] [])) λm=>wT 6 c m <| λH=>dJ (dY (dU (rV (bW 6 H c)) (dU (some g) (some [])))) H) ((kA FU) O a b c h)
def GS(O:Ev.Call)(a b:AV):=wA 6 b λc=>wT 6 a c <| λH=>dJ (dY (dU (rV (bW 6 H a)) (dU (some (.bool true)) (some [])))) H
def YK:=wz 14 λa=>wn 0 0 a (aL 4 j) λb=>wo 1 1 a (aR · b) λc=>wn 2 0 a (aL 1 i) λd=>wo 3 4 a (aR · d) λe=>wa 4 12 a (io .i64 e) λf=>wn 5 0 a (aL 4 j) λg=>wo 6 32 a (aR · g) λh=>wn 7 96 a (aD h) λl=>wn 8 252 a (ib .rem f l) λm=>wn 9 511 a (aG 3 c m) λn=>wo 10 1023 a (bW 3 · n) λo=>wn 11 2047 a (bJ (bK [uN 0,zS,zS,zS,zS,zS] [(0,1,(uN 1)),(1,3,o)])) λq=>wa 12 0 a (.new (.ptr (a+12) 0) (aB 0 [uN 0,zS,zS,zS,zS,zS])) λr=>wu 8191 (yI 6 · r q) λ_=>wy <| wF 0 i λs=>wq (ib .rem s (uN 2)) λt=>wq (ib .eql t (uN 1)) λu=>wd u (wq (aL 0 r) λv=>wU v (uN 2) <| GS O k r) (wQ 5 (bK (aU [zS] 5) [(0,1,(.str 1 49)),(1,1,(.str 1 50)),(2,1,(.str 1 51)),(3,1,(.str 1 52)),(4,1,(.str 4 1953460082))]) λx=>wF 2 i λy=>wq (ib .rem y (uN 5)) λz=>wq (aG 1 x z) λA=>w1 A λB=>wq (bJ (bK [zS,zS] [(0,1,(.str 4 1919251317)),(1,1,B)])) λC=>wq (aL 4 r) λD=>wT 2 D C <| GS O k r)
def Vx:=wB 3 i λa=>wB 5 j λb=>wN [uN 0,zS,zS,zS,zS,zS] λc=>wF 4 b λd=>wq (aD d) λe=>wq (ib .eql e (iN 0)) λf=>wd f (wq (bJ (bK [uN 0,zS,zS,zS,zS,zS] [])) λg=>wT 6 c g <| λH=>dJ (dY (dU (rV (bW 6 H c)) (dU (some (.bool false)) (some [])))) H) (YK O a b c)
def FS:=wq (ib .add k m) λa=>wq (ib .eql a (iN 0)) λb=>wG (wv b) (bW 6 · j) λc=>wG (wv b) (bW 6 · l) λd=>wg (wv b) (iQ false ((⟨E2.f ⟨dL (eqFields [(p1,⟨pI⟩,0),(p1,⟨pI⟩,1),(p1,⟨pI⟩,2),(p1,⟨pI⟩,3),(p1,⟨pI⟩,4),(p1,⟨pI⟩,5)])⟩⟩:E2).f c d)) λe=>wq (dQ b e (.bool false)) λf=>wg (wv f) (.val n) λg=>wg (wv f) (.val o) λh=>wg (wv f) (.val i) λq=>wx (wv f) (O (.f 39) [g,h,q,(iN 0)]) λr=>wq (dQ f r (.bool false)) λs=>wx (wv s) (O (.f 35) []) λt=>wq (dQ s t (.bool false)) λu=>.ok u
def FR:=wA 1 i λa=>wq (aL 1 j) λb=>wA 3 b λc=>wc O 38 [a,l,c] λd=>wq (aT 0 d) λe=>wq (aT 1 d) λf=>(kA FS) O k m n o q e f
def FQ:=wA 1 i λa=>wA 6 j λb=>wc O 37 [a,l,b] λc=>wq (aT 0 c) λd=>wq (aT 1 c) λe=>wN [iN 0,iN 0,iN 0,iN 0,iN 0,iN 0] λf=>wT 6 f d <| (kA FR) O i j k l m n f e
def xn:=wA 1 i λa=>wA 6 k λb=>wc O 37 [a,j,b] λc=>wq (aT 0 c) λd=>wq (aT 1 c) λe=>wN [iN 0,iN 0,iN 0,iN 0,iN 0,iN 0] λf=>wT 6 f d <| (kA FQ) O i k l m f e
def tI(O:Ev.Call)(a:AV->AV->pD)(b c d:AV):=wI d λe=>a b c e
def Bq:=wq (aG 6 i l) λa=>wA 6 a λb=>wQ 1 (bK (aU [zS,zS,zS,zS,zS,zS] 1) [(0,6,b)]) λc=>wP 6 96 j c λd=>(kA tI) O h d k l
def nY:=wd m (wq (ib .sub k (iN 1)) λa=>(kA tI) O h j a l) ((kA Bq) O h i j k l)
def Bp:=wq ((kF .not).f m) λa=>wg (wv a) (.val k) λb=>wg (wv a) (ib .gtr b (iN 0)) λc=>wq (dQ a c (.bool false)) λd=>(kA nY) O h i j k l d
def xk(O:Ev.Call)(a:AV->pD)(b c:AV):=wI c λd=>a b d
def FP:=wm (bI false l) (.val j) λb=>wm (bI false l) (.val m) λc=>wm (bI false l) (aG 3 b c) λd=>wm (bI false l) (aL 0 d) λe=>wM (bI false l) (bW 2 · e) λf=>wm (bI false l) (.val i) λg=>wm (bI false l) (.val k) λh=>wm (bI false l) (aG 6 g h) λn=>wm (bI false l) (aL 0 n) λo=>wm (bI false l) (aL 0 o) λq=>wM (bI false l) (bW 2 · q) λr=>wm (bI false l) (iQ false ((⟨E2.f ⟨dL (eqFields [(p1,⟨bH⟩,0),(p1,⟨bH⟩,1)])⟩⟩:E2).f f r)) λs=>wl (dQ l (.bool true) s) λt=>(kA xk) O a t m
def xj:=wd n ((kA FP) O a i j k l m) (b l)
def Jw:=wq (aD j) λa=>wq (ib .lss B a) λc=>(kA xj) O y b i j k A B c
def BI:=jX (Jw O b i j k)
def FO:=BI O ((kA Bp) O h i k l m) i j m bZ (.bool false) (iN 0)
def xd:=wd F ((kA FO) O h A B C D E) (x C)
def Jx:=wq (aD i) λa=>wq (ib .lss C a) λc=>(kA xd) O z b i j A B C c
def ya:=nC (Jx O b i j)
def FN:=ya O ((kA xn) O i j k l) j l bZ m n (iN 0)
def FM:=wq (ib .rem i (uN 8)) λa=>wq (io .i64 a) λb=>(kA FN) O j k l m (.aA) b
def FL:=wA 5 l λa=>wq (aL 1 m) λb=>wA 3 b λc=>wc O 36 [a,c] λd=>wq (aT 0 d) λe=>wq (aT 1 d) λf=>(kA FM) O i j k m e
def nX:=wd n (wc O 35 [] λa=>.ok a) ((kA FL) O i j k l m)
def nO:=wq ((kF .not).f n) λa=>wg (bI false a) (aL 0 m) λb=>wG (bI false a) (aR · b) λc=>wg (bI false a) (ib .neq c (uN 1)) λd=>wq (dQ a (.bool true) d) λe=>(kA nX) O i j k l m e
def Fk:=wA 3 j λa=>wA 5 m λb=>wc O 34 [a,b] λc=>wq (aT 0 c) λd=>wq (aT 1 c) λe=>wN [uN 0,zS,zS,zS,zS,zS] λf=>wT 6 f d <| (kA nO) O i k l m f e
def Fj:=wA 1 k λa=>wc O 11 [a,l] λb=>wN [.aA,.aA,.aA,.aA,.aA] λc=>wT 5 c b <| (kA Fk) O i j k l c
def Pu:=wB 2 i λa=>wB 3 j λb=>wA 2 a λc=>wc O 10 [c] λd=>wq (aT 0 d) λe=>wq (aT 1 d) λf=>wN [.aA] λg=>wT 1 g e <| (kA Fj) O k b g f
end
end Go.Di
end
