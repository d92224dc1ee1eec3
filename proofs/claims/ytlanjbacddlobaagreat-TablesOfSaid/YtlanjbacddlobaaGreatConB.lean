/-
 For TablesOf: functions in direct style, their contracts, and the plain mathematics, part 2 of 10. No conditions beyond those that each theorem states.
-/
import Derived.Test.YtlanjbacddlobaaGreatConA
set_option linter.unusedSimpArgs false
set_option linter.unusedVariables false
noncomputable section
namespace Go.Di
open Go.Ev
def cst{α:Type}(a:α):α:=Classical.choose (⟨a,rfl⟩:∃ f,f=a)
variable (O:Ev.Call)
def cK{α:Type}(a:α):{b:α // b=a}:=Classical.choice ⟨⟨a,rfl⟩⟩
section
variable (a:AV->pH)(b c:pH)(d e:pL)(f:pH)(g:AV->pH)(h:AV->AV->pH)(i j k l m n o q r s t u v:AV)(x:pH)(y:AV->pH)(z:AV->AV->pH)(A B C D E F:AV)
def qnd:=wq (ib .eql j (iN 0)) fun a=>wG (wv a) (dB 6 · k) fun b=>wG (wv a) (dB 1 · i) fun c=>wg (wv a) (.val l) fun d=>wx (wv a) (O (.f 14) [b,c,d]) fun e=>wq (dH a e (.bool false)) fun f=>wx (wv f) (O (.f 4) []) fun g=>wq (dH f g (.bool false)) fun h=>.ok h
def zis:=(cK qnd).1
theorem quc:zis=qnd:=(cK qnd).2
def qiq:=wq (ib .lss n (iN 0)) fun a=>wd a (wq (ib .eql l (iN 6)) fun b=>wg (wv b) (aP 5 m) fun c=>wG (wv b) (aN · c) fun d=>wg (wv b) (aD d) fun e=>wg (wv b) (ib .eql e (iN 0)) fun f=>wq (dH b f (.bool false)) fun g=>wg (wv g) (.val k) fun h=>wg (wv g) (gH 2 1 i (iN 0)) fun o=>wG (wv g) (aN · o) fun q=>wg (wv g) (gH 2 1 i (iN 1)) fun r=>wG (wv g) (aN · r) fun s=>wx (wv g) (O (.f 15) [h,q,s]) fun t=>wg (wv g) ((kE .not).f t) fun u=>wq (dH g u (.bool false)) fun v=>wx (wv v) (O (.f 4) []) fun x=>wq (dH v x (.bool false)) fun y=>.ok y) (zis O j l m n)
def zir:=(cK qiq).1
theorem qkq:zir=qiq:=(cK qiq).2
def qip:=wA 1 j fun a=>wq (gH 2 1 i (iN 0)) fun b=>w1 b fun c=>wq (gH 2 1 i (iN 1)) fun d=>w1 d fun e=>wc O 21 [a,c,e] fun f=>zir O i j k l m f
def ziq:=(cK qip).1
theorem qkp:ziq=qip:=(cK qip).2
def qm7:=wq (gH 2 1 i (iN 0)) fun a=>w1 a fun b=>wq (gH 2 1 i (iN 1)) fun c=>w1 c fun d=>wc O 13 [k,b,d] fun e=>wq (aW 0 e) fun f=>wq (aW 1 e) fun g=>wN [.str 0 0,.str 0 0,iN 0,iN 0,.aA,.aA] fun h=>wT 6 h f <| ziq O i j k g h
def q5j:=(cK qm7).1
theorem qub:q5j=qm7:=(cK qm7).2
def qm6:=wd l (.ok (.bool false)) (q5j O i j k)
def q5i:=(cK qm6).1
theorem qua:q5i=qm6:=(cK qm6).2
def qio:=wq (ib .lss i (iN 0)) fun a=>wg (aM false a) (.val i) fun b=>wg (aM false a) (.val n) fun c=>wg (aM false a) (aD c) fun d=>wg (aM false a) (ib .geq b d) fun e=>wq (dH a (.bool true) e) fun f=>wq (ib .eql m (iN 4)) fun g=>wq (jR true ((⟨E2.f ⟨xQ⟩⟩:E2).f f g)) fun h=>q5i O j k l h
def zio:=(cK qio).1
theorem qko:zio=qio:=(cK qio).2
def qw0:=wc O 12 [l,i] fun a=>wq (aW 0 a) fun b=>wq (aW 1 a) fun c=>zio O i j k l c m
def qo8:=(cK qw0).1
theorem qt9:qo8=qw0:=(cK qw0).2
def qm5(O:Ev.Call)(a:pH)(b:AV):=wI b a
def zin:=(cK qm5).1
theorem qt8:zin=qm5:=(cK qm5).2
def qm4:=wd j (b (.bool false)) (zin O c i)
def zim:=(cK qm4).1
theorem qt7:zim=qm4:=(cK qm4).2
def qm3:=wq (ib .neq l (iN 0)) fun a=>wG (aM false a) (dB 6 · k) fun d=>wG (aM false a) (dB 1 · i) fun e=>wg (aM false a) (.val j) fun f=>wx (aM false a) (O (.f 14) [d,e,f]) fun g=>wg (aM false a) ((kE .not).f g) fun h=>wq (dH a (.bool true) h) fun m=>zim O b c j m
def zil:=(cK qm3).1
theorem qt6:zil=qm3:=(cK qm3).2
def qwz:=wc O 12 [j,k] fun a=>wq (aW 0 a) fun d=>wq (aW 1 a) fun e=>wT 6 l d <| zil O b c i k l e
def q5h:=(cK qwz).1
theorem qt5:q5h=qwz:=(cK qwz).2
def qm2(O:Ev.Call)(a:pH)(b:AV):=wI b a
def zik:=(cK qm2).1
theorem qt4:zik=qm2:=(cK qm2).2
def qm1:=wF 4 i fun a=>wq (aG 2 a j) fun c=>wq (aP 0 c) fun d=>wU d (.str 7 28258992578979939) <| zik O b j
def zij:=(cK qm1).1
theorem qt3:zij=qm1:=(cK qm1).2
def qin:=wd k (zij O b i j) (d)
def zii:=(cK qin).1
theorem qkn:zii=qin:=(cK qin).2
def q5o:=wF 4 i fun a=>wq (aD a) fun b=>wq (ib .lss A b) fun c=>zii O x d i A c
def qo6:=gG (q5o O d i)
def q5s:=qo6 O d i dN
def qm0:=q5s O (q5h O b c i j k m) l (iN 0)
def qwy:=(cK qm0).1
theorem qt2:qwy=qm0:=(cK qm0).2
def qmz(O:Ev.Call)(a:pH)(b:AV):=wI b a
def zih:=(cK qmz).1
theorem qt1:zih=qmz:=(cK qmz).2
def qje:=wF 5 i fun a=>wq (aG 6 a j) fun c=>wq (aP 0 c) fun d=>wU d (.int .u8 (.ofNat 77)) <| zih O b j
def qw4:=(cK qje).1
theorem qpy:qw4=qje:=(cK qje).2
def qjd(O:Ev.Call)(a:pH)(b:AV):=wI b a
def zal:=(cK qjd).1
theorem qpx:zal=qjd:=(cK qjd).2
def qjc:=wF 5 i fun a=>wq (aG 6 a j) fun c=>wF 3 c fun d=>wq (aG 1 d k) fun e=>wU e (.str 7 28258992578979939) <| zal O b k
def zak:=(cK qjc).1
theorem qpw:zak=qjc:=(cK qjc).2
def qfq:=wd l (zak O b i j k) (d)
def zaj:=(cK qfq).1
theorem qhh:zaj=qfq:=(cK qfq).2
def qw7:=wF 5 i fun a=>wq (aG 6 a j) fun b=>wF 3 b fun c=>wq (aD c) fun e=>wq (ib .lss A e) fun f=>zaj O x d i j A f
def qim:=gG (qw7 O d i j)
def qxa:=qim O d i j dN
def qjb:=qxa O (qw4 O b i j) i j (iN 0)
def qw3:=(cK qjb).1
theorem qpv:qw3=qjb:=(cK qjb).2
def qja(O:Ev.Call)(a:pH)(b:AV):=wI b a
def zai:=(cK qja).1
theorem qpu:zai=qja:=(cK qja).2
def qi9:=wF 5 i fun a=>wq (aG 6 a j) fun c=>wF 4 c fun d=>wq (aG 1 d k) fun e=>wU e (iN 77) <| zai O b k
def zah:=(cK qi9).1
theorem qpt:zah=qi9:=(cK qi9).2
def qfp:=wd l (zah O b i j k) (d)
def zaf:=(cK qfp).1
theorem qhg:zaf=qfp:=(cK qfp).2
def qw6:=wF 5 i fun a=>wq (aG 6 a j) fun b=>wF 4 b fun c=>wq (aD c) fun e=>wq (ib .lss A e) fun f=>zaf O x d i j A f
def qil:=gG (qw6 O d i j)
def qw9:=qil O d i j dN
def qi8:=qw9 O (qw3 O b i j) i j (iN 0)
def zae:=(cK qi8).1
theorem qps:zae=qi8:=(cK qi8).2
def qfo:=wd k (zae O b i j) (d)
def zad:=(cK qfo).1
theorem qhf:zad=qfo:=(cK qfo).2
def q5n:=wF 5 i fun a=>wq (aD a) fun b=>wq (ib .lss A b) fun c=>zad O x d i A c
def qo5:=gG (q5n O d i)
def q5q:=qo5 O d i dN
def qi7:=q5q O (qwy O b c i j k l m) l (iN 0)
def zac:=(cK qi7).1
theorem qpr:zac=qi7:=(cK qi7).2
def qi6:=wd n (b (.bool false)) (zac O b c i j k l m)
def qnc:=(cK qi6).1
theorem qpq:qnc=qi6:=(cK qi6).2
def qi5:=wz 0 fun a=>wn 0 0 a (.val n) fun d=>wn 1 1 a (ib .neq d (iN 0)) fun e=>wn 2 3 a (.val e) fun f=>ws 3 7 a (dB 4 · o) (aM false f) fun g=>wr 4 7 a (aP 2 q) (aM false f) fun h=>ws 5 23 a (dB 4 · h) (aM false f) fun r=>wt 55 (O (.f 20) [r]) (aM false f) fun s=>wt 127 (O (.f 19) [g,s]) (aM false f) fun t=>wr 8 255 a ((kE .not).f t) (aM false f) fun u=>wn 9 511 a (dH f (.bool true) u) fun v=>wy <| qnc O b c i j k l m v
def zab:=(cK qi5).1
theorem qpp:zab=qi5:=(cK qi5).2
def qi4:=wz 18 fun a=>wo 0 0 a (dB 1 · i) fun d=>wn 1 0 a (.val k) fun e=>wn 2 0 a (.val l) fun f=>wn 3 6 a (aG 2 e f) fun g=>wn 4 14 a (aP 0 g) fun h=>wo 5 30 a (aN · h) fun r=>wn 6 0 a (.val k) fun s=>wn 7 0 a (.val l) fun t=>wn 8 192 a (aG 2 s t) fun u=>wn 9 448 a (aP 1 u) fun v=>wo 10 960 a (aN · v) fun x=>wa 15 0 a (.new (.ptr (a+15) 0) (aB 0 [.str 0 0,.aA,.int .u8 (.ofNat 0),.str 0 0,.str 0 0,.aA])) fun y=>wu 2047 (O (.f 18) [d,r,x]) fun z=>wn 12 4095 a (.val z) fun A=>wn 13 8191 a (aW 0 A) fun B=>wn 14 8191 a (aW 1 A) fun C=>wu 49151 (qdc 6 · y B) fun _=>wn 17 131071 a (.val C) fun D=>wy <| zab O b c i j l m n o q y
def zaa:=(cK qi4).1
theorem qpo:zaa=qi4:=(cK qi4).2
def qi3:=wF 5 m fun a=>wc O 17 [a] fun d=>wq (aW 0 d) fun e=>wq (aW 1 d) fun f=>wN [.int .u8 (.ofNat 0),.str 0 0,.str 0 0,.aA] fun g=>wT 4 g e <| zaa O b c i j k l m n f g
def q99:=(cK qi3).1
theorem qpn:q99=qi3:=(cK qi3).2
def qi2:=wd o (b (.bool false)) (q99 O b c i j k l m n)
def qnb:=(cK qi2).1
theorem qpm:qnb=qi2:=(cK qi2).2
def qi1:=wz 0 fun a=>wn 0 0 a (.val n) fun d=>wn 1 1 a (ib .neq d (iN 0)) fun e=>wn 2 3 a (.val e) fun f=>wr 3 7 a (.val q) (aM false f) fun g=>wr 4 15 a (ib .neq g (iN 0)) (aM false f) fun h=>wn 5 31 a (dH f (.bool true) h) fun r=>wn 6 63 a (.val r) fun s=>ws 7 127 a (dB 6 · m) (aM false s) fun t=>ws 8 127 a (dB 1 · i) (aM false s) fun u=>wr 9 127 a (.val l) (aM false s) fun v=>wt 1023 (O (.f 14) [t,u,v]) (aM false s) fun x=>wr 11 2047 a ((kE .not).f x) (aM false s) fun y=>wn 12 4095 a (dH s (.bool true) y) fun z=>wn 13 8191 a (.val z) fun A=>ws 14 16383 a (dB 6 · o) (aM false A) fun B=>ws 15 16383 a (dB 1 · i) (aM false A) fun C=>wr 16 16383 a (.val l) (aM false A) fun D=>wt 131071 (O (.f 14) [B,C,D]) (aM false A) fun E=>wr 18 262143 a ((kE .not).f E) (aM false A) fun F=>wn 19 524287 a (dH A (.bool true) F) fun G=>wn 20 1048575 a (.val G) fun I=>wr 21 2097151 a (.val j) (aM false I) fun J=>wr 22 2097151 a (.val k) (aM false I) fun K=>wr 23 2097151 a (.val l) (aM false I) fun L=>wr 24 14680063 a (aG 2 K L) (aM false I) fun M=>wr 25 31457279 a (aP 0 M) (aM false I) fun N=>ws 26 65011711 a (aN · N) (aM false I) fun P=>wr 27 2097151 a (.val k) (aM false I) fun Q=>wr 28 2097151 a (.val l) (aM false I) fun R=>wr 29 404750335 a (aG 2 Q R) (aM false I) fun S=>wr 30 941621247 a (aP 1 S) (aM false I) fun T=>ws 31 2015363071 a (aN · T) (aM false I) fun U=>wt 4294967295 (O (.f 15) [J,P,U]) (aM false I) fun V=>wr 33 8589934591 a ((kE .not).f V) (aM false I) fun W=>wn 34 17179869183 a (dH I (.bool true) W) fun X=>wn 35 34359738367 a (.val X) fun Y=>wr 36 68719476735 a (aP 5 m) (aM false Y) fun Z=>ws 37 137438953471 a (aN · Z) (aM false Y) fun a229=>wt 274877906943 (O (.f 16) [a229]) (aM false Y) fun bGj=>wr 39 549755813887 a (ib .neq bGj (iN 0)) (aM false Y) fun bE6=>wn 40 1099511627775 a (dH Y (.bool true) bE6) fun a232=>wy <| qnb O b c i j k l m o a232
def qna:=(cK qi1).1
theorem qpl:qna=qi1:=(cK qi1).2
def qi0:=wz 18 fun a=>wn 0 0 a (.val j) fun d=>wn 1 0 a (.val k) fun e=>wn 2 0 a (.val l) fun f=>wn 3 6 a (aG 2 e f) fun g=>wn 4 14 a (aP 0 g) fun h=>wo 5 30 a (aN · h) fun o=>wn 6 0 a (.val k) fun q=>wn 7 0 a (.val l) fun r=>wn 8 192 a (aG 2 q r) fun s=>wn 9 448 a (aP 1 s) fun t=>wo 10 960 a (aN · t) fun u=>wa 15 0 a (.new (.ptr (a+15) 0) (aB 0 [.str 0 0,.str 0 0,iN 0,iN 0,.aA,.aA])) fun v=>wu 2047 (O (.f 13) [d,o,u]) fun x=>wn 12 4095 a (.val x) fun y=>wn 13 8191 a (aW 0 y) fun z=>wn 14 8191 a (aW 1 y) fun A=>wu 49151 (qdc 6 · v z) fun _=>wn 17 131071 a (.val A) fun B=>wy <| qna O b c i j k l m n v B
def qw2:=(cK qi0).1
theorem qpk:qw2=qi0:=(cK qi0).2
def qpi:=wc O 12 [j,l] fun a=>wq (aW 0 a) fun d=>wq (aW 1 a) fun e=>wN [.str 0 0,.str 0 0,iN 0,iN 0,.aA,.aA] fun f=>wT 6 f d <| qw2 O b c i j k l f e
def qw1:=(cK qpi).1
theorem qpj:qw1=qpi:=(cK qpi).2
def qfn:=wd m (qw1 O b c i j k l) (d)
def q98:=(cK qfn).1
theorem qhe:q98=qfn:=(cK qfn).2
def q5p:=wq (aD k) fun a=>wq (ib .lss A a) fun c=>q98 O b x d i j k A c
def qo7:=gG (q5p O b d i j k)
def q5t:=qo7 O b d i j k dN
def qiz:=q5t O .ok (qo8 O i j k l m) k l m (iN 0)
def q97:=(cK qiz).1
theorem qph:q97=qiz:=(cK qiz).2
def qiy:=wd n (.ok (.bool false)) (q97 O i j k l m)
def q96:=(cK qiy).1
theorem qpg:q96=qiy:=(cK qiy).2
def qix:=wq (ib .neq m (iN 0)) fun a=>wg (aM false a) (.val l) fun b=>wx (aM false a) (O (.f 10) [b]) fun c=>wg (aM false a) (.val n) fun d=>wg (aM false a) (aD d) fun e=>wg (aM false a) (ib .neq c e) fun f=>wq (dH a (.bool true) f) fun g=>wg (aM false g) (.val l) fun h=>wx (aM false g) (O (.f 11) [h]) fun q=>wg (aM false g) (.val o) fun r=>wg (aM false g) (ib .neq q r) fun s=>wq (dH g (.bool true) s) fun t=>q96 O i j k l n t
def qm9:=(cK qix).1
theorem qpf:qm9=qix:=(cK qix).2
def qiw(O:Ev.Call)(a:AV->pH)(b c:AV):=wI c fun d=>a b d
def q95:=(cK qiw).1
theorem qpe:q95=qiw:=(cK qiw).2
def qiv:=wq (aG 1 i k) fun b=>w1 b fun c=>wI c fun d=>wq (qO pZ j [d]) fun e=>q95 O a e k
def q94:=(cK qiv).1
theorem qpd:q94=qiv:=(cK qiv).2
def qfm:=wd l (q94 O a i j k) (b j)
def q93:=(cK qfm).1
theorem qhd:q93=qfm:=(cK qfm).2
def qw5:=wq (aD i) fun a=>wq (ib .lss B a) fun c=>q93 O y b i A B c
def qik:=oL (qw5 O b i)
def qw8:=qik O b i dN
def qiu:=qw8 O (qm9 O i j k l m n) o (iN 0) (iN 0)
def q92:=(cK qiu).1
theorem qpc:q92=qiu:=(cK qiu).2
def qit:=wA 1 k fun a=>wc O 7 [a] fun b=>wA 1 k fun c=>wc O 9 [c] fun d=>wc O 8 [d] fun e=>wq (aW 0 e) fun f=>wq (aW 1 e) fun g=>q92 O i j k l m b f
def q91:=(cK qit).1
theorem qpb:q91=qit:=(cK qit).2
def qis:=wA 1 k fun a=>wc O 6 [a] fun b=>wq (aW 0 b) fun c=>wq (aW 1 b) fun d=>q91 O i j k c d
def q90:=(cK qis).1
theorem qpa:q90=qis:=(cK qis).2
def qir:=wA 1 j fun a=>wc O 5 [a] fun b=>wN [.aA] fun c=>wT 1 c b <| q90 O i k c
def q9z:=(cK qir).1
theorem qo9:q9z=qir:=(cK qir).2
def qfl:=wd l (wc O 4 [] fun a=>.ok a) (q9z O i j k)
def qm8:=(cK qfl).1
theorem qhc:qm8=qfl:=(cK qfl).2
def z4x:=wB 1 i fun a=>wB 2 k fun b=>wq (gH 2 1 b (iN 0)) fun c=>w1 c fun d=>wq (aA2 d) fun e=>wq (ib .gtr e (iN 20)) fun f=>wg (aM false f) (gH 2 1 b (iN 1)) fun g=>wG (aM false f) (aN · g) fun h=>wg (aM false f) (aA2 h) fun l=>wg (aM false f) (ib .gtr l (iN 20)) fun m=>wq (dH f (.bool true) m) fun n=>qm8 O j a b n
def zGt:=z4x O i j k
def qyi(O:Ev.Call)(a b:AV):=wA 1 b fun c=>wT 1 a c <| fun H=>cO (rV (dB 1 H a)) H
def quz:=(cK qyi).1
theorem q08:quz=qyi:=(cK qyi).2
def qn4(O:Ev.Call)(a:pH)(b:AV):=wI b a
def qqt:=(cK qn4).1
theorem qu6:qqt=qn4:=(cK qn4).2
def qjk(O:Ev.Call)(a:pH)(b:AV):=wI b a
def q7m:=(cK qjk).1
theorem qk5:q7m=qjk:=(cK qjk).2
def qn3:=wq ((kE .not).f k) fun a=>wd a (wq (aG 6 i j) fun c=>wq (aP 1 c) fun d=>wU d (.aA) <| q7m O b j) (q7m O b j)
def q7l:=(cK qn3).1
theorem qu5:q7l=qn3:=(cK qn3).2
def qjj(O:Ev.Call)(a:AV->pH)(b c:AV):=wI c fun d=>a b d
def znu:=(cK qjj).1
theorem qk4:znu=qjj:=(cK qjj).2
def qn2:=wz 0 fun b=>wn 0 0 b (.val k) fun c=>wn 1 1 b (.val c) fun d=>wr 2 3 b (.val i) (aM false d) fun e=>wr 3 3 b (.val l) (aM false d) fun f=>wr 4 15 b (aG 6 e f) (aM false d) fun g=>wr 5 31 b (aP 2 g) (aM false d) fun h=>ws 6 63 b (dB 4 · h) (aM false d) fun m=>wr 7 3 b (.val i) (aM false d) fun n=>wr 8 3 b (.val j) (aM false d) fun o=>wr 9 387 b (aG 6 n o) (aM false d) fun q=>wr 10 899 b (aP 0 q) (aM false d) fun r=>ws 11 1923 b (aN · r) (aM false d) fun s=>wt 4095 (O (.f 33) [m,(.int .u8 (.ofNat 3)),s]) (aM false d) fun t=>wn 13 8191 b (dH d (.bool true) t) fun u=>wn 14 16383 b (.val u) fun v=>wy <| znu O a v l
def znt:=(cK qn2).1
theorem qu4:znt=qn2:=(cK qn2).2
def qnw:=wd m (znt O a i j k l) (b k)
def znp:=(cK qnw).1
theorem qux:znp=qnw:=(cK qnw).2
def q7o:=wq (aD i) fun a=>wq (ib .lss B a) fun c=>znp O y b i j A B c
def qqq:=oL (q7o O b i j)
def zny:=qqq O b i j dN
def qnv:=zny O (q7l O b i j) i j k (iN 0)
def zno:=(cK qnv).1
theorem quw:zno=qnv:=(cK qnv).2
def qn1:=wq (aG 6 i j) fun a=>wq (aP 2 a) fun c=>wA 4 c fun d=>wc O 33 [d,(.int .u8 (.ofNat 1)),(.str 0 0)] fun e=>zno O b i j e
def zns:=(cK qn1).1
theorem qu3:zns=qn1:=(cK qn1).2
def qnu:=wd k (zns O b i j) (d)
def znn:=(cK qnu).1
theorem quv:znn=qnu:=(cK qnu).2
def q7p:=wq (aD i) fun a=>wq (ib .lss A a) fun b=>znn O x d i A b
def qqr:=gG (q7p O d i)
def znz:=qqr O d i dN
def qnt:=znz O (qqt O b i) j (iN 0)
def znm:=(cK qnt).1
theorem quu:znm=qnt:=(cK qnt).2
def qn0:=wF 0 i fun a=>wq (aG 2 a j) fun c=>wF 1 c fun d=>znm O b j d
def znr:=(cK qn0).1
theorem qu2:znr=qn0:=(cK qn0).2
def qns:=wd k (znr O b i j) (d)
def znl:=(cK qns).1
theorem qut:znl=qns:=(cK qns).2
def q7q:=wF 0 i fun a=>wq (aD a) fun b=>wq (ib .lss A b) fun c=>znl O x d i A c
def qk2:=gG (q7q O d i)
def zn0:=qk2 O d i dN
def qnz:=zn0 O (quz O i j) j (iN 1)
def qqs:=(cK qnz).1
theorem qu1:qqs=qnz:=(cK qnz).2
def qny(O:Ev.Call)(a:pH)(b:AV):=wI b a
def znq:=(cK qny).1
theorem qu0:znq=qny:=(cK qny).2
def qnr(a:pH)(b c d e:AV)(H:Hp):R1:=dz 17 H fun f H=>dn 0 0 f H [] [] (.val e) fun g H p w=>dn 1 0 f H p w (.val e) fun h H p w=>dn 2 2 f H p w (aV h) fun i H p w=>dn 3 6 f H p w (aP 1 i) fun j H p w=>dl 4 14 f H p w (fun H=>aN H j) fun k H p w=>dn 5 0 f H p w (.val c) fun l H p w=>dl 7 0 f H p w (fun H=>dB 1 H b) fun m H p w=>dn 8 0 f H p w (.val c) fun n H p w=>dl 10 0 f H p w (fun H=>dB 4 H d) fun o H p w=>de 32 H p w (O (.f 31) [l] (fI 32 p H)) (some true) fun q H p w=>de 480 H p w (O (.f 32) [m,n] (fI 480 p H)) (some true) fun r H p w=>dn 11 2016 f H p w (bY (cB [.str 0 0,.aA,.int .u8 (.ofNat 0),.str 0 0,.str 0 0,.aA] [(0,1,q),(1,1,r),(2,4,o)])) fun s H p w=>da 12 4064 f H p w (vT 1 (f+12) (cB (aZ [.str 0 0,.aA,.int .u8 (.ofNat 0),.str 0 0,.str 0 0,.aA] 1) [(0,6,s)])) fun t H p w=>de 8190 H p w (kJ 6 104 (fI 8190 p H) k (pJ 6 (fI 8190 p H) t)) (some true) fun u H p w=>dn 14 16383 f H p w (aV g) fun v H p w=>dn 15 32767 f H p w (aP 1 v) fun x H p w=>de 65535 H p w (jN (fI 65535 p H) x u) (some true) fun _ H p w=>dz2 p H fun H=>znq O a c H
def znk:=(cK qnr).1
theorem qus:znk=qnr:=(cK qnr).2
def qnq:=wF 0 j fun a=>wq (ib .quo k (iN 4)) fun c=>wq (ib .add (iN 1) c) fun d=>wq (aG 2 a d) fun e=>znk O b i k l e
def znj:=(cK qnq).1
theorem qur:znj=qnq:=(cK qnq).2
def qnx:=wA 1 i fun a=>wc O 30 [a,k,(iN 2),(iN 1),(.bool false)] fun c=>wq (aW 0 c) fun d=>wq (aW 1 c) fun e=>wN [.int .u8 (.ofNat 0),.str 0 0,.str 0 0,.aA] fun f=>wT 4 f d <| znj O b i j k f
def qk3:=(cK qnx).1
theorem quy:qk3=qnx:=(cK qnx).2
def qfu:=wq (ib .rem k (iN 4)) fun a=>wq (ib .eql a (iN 0)) fun c=>wd c (fun H=>dz 10 H fun d H =>   dn 0 0 d H [] [] (aP 0 j) fun e H p w =>   dl 1 1 d H p w (fun H=>aN H e) fun f H p w =>   dn 2 0 d H p w (.val k) fun g H p w =>   dn 3 4 d H p w (ib .quo g (iN 4)) fun h H p w =>   de 12 H p w (O (.f 29) [h] (fI 12 p H)) (some true) fun l H p w =>   dn 5 28 d H p w (bY (cB [.str 0 0,.aA] [(0,1,l)])) fun m H p w =>   da 6 60 d H p w (vT 1 (d+6) (cB (aZ [.str 0 0,.aA] 1) [(0,2,m)])) fun n H p w =>   de 127 H p w (kJ 2 40 (fI 127 p H) f (pJ 2 (fI 127 p H) n)) (some true) fun o H p w =>   dn 8 255 d H p w (aP 0 j) fun q H p w =>   de 511 H p w (jN (fI 511 p H) q o) (some true) fun _ H p w =>   dz2 p H fun H =>   qk3 O b i j k H) (qk3 O b i j k)
def qyj:=(cK qfu).1
theorem qho:qyj=qfu:=(cK qfu).2
def qji:=wd l (qyj O b i j k) (d)
def zbx:=(cK qji).1
theorem qqp:zbx=qji:=(cK qji).2
def q7n:=wA 1 i fun a=>wc O 28 [a] fun b=>wq (ib .lss A b) fun c=>zbx O x d i j A c
def qk1:=gG (q7n O d i j)
def znx:=qk1 O d i j dN
def qjh:=znx O (qqs O j k) i k (iN 0)
def zbw:=(cK qjh).1
theorem qqo:zbw=qjh:=(cK qjh).2
def z7t:=wB 1 i fun a=>wN [.aA] fun b=>wq (bY (cB [.str 0 0,.aA] [(0,1,(.str 4 1919251317))])) fun c=>wQ 1 (cB (aZ [.str 0 0,.aA] 1) [(0,2,c)]) fun d=>wq (bY (cB [.aA] [(0,1,d)])) fun e=>wN [.aA] fun f=>wT 1 f e <| zbw O a b f
def zAc:=z7t O i
def q5g(O:Ev.Call)(a:AV):pL:=.ok (.bB [a,(iN 0)])
def q0n:=(cK q5g).1
theorem q0m:q0n=q5g:=(cK q5g).2
def qwx(O:Ev.Call)(a:pH)(b:AV):=wI b a
def q0l:=(cK qwx).1
theorem q0k:q0l=qwx:=(cK qwx).2
def qww(O:Ev.Call)(a:pH)(b:AV):=wI b a
def z0o:=(cK qww).1
theorem q0j:z0o=qww:=(cK qww).2
def qmy(a:pH)(b c d e f g h:AV)(H:Hp):R1:=dz 27 H fun i H=>dn 0 0 i H [] [] (.val c) fun j H p w=>dn 1 0 i H p w (.val c) fun k H p w=>dn 2 2 i H p w (aV k) fun l H p w=>dn 3 6 i H p w (aP 1 l) fun m H p w=>dl 4 14 i H p w (fun H=>aN H m) fun n H p w=>dn 5 0 i H p w (aP 0 d) fun o H p w=>dl 6 32 i H p w (fun H=>aN H o) fun q H p w=>dn 7 0 i H p w (aP 0 e) fun r H p w=>dl 8 128 i H p w (fun H=>aN H r) fun s H p w=>dn 9 0 i H p w (.val c) fun t H p w=>dn 10 512 i H p w (aV t) fun u H p w=>dn 11 1536 i H p w (aP 1 u) fun v H p w=>dl 12 3584 i H p w (fun H=>aN H v) fun x H p w=>dn 13 7680 i H p w (aD x) fun y H p w=>dn 14 0 i H p w (.val g) fun z H p w=>dn 15 0 i H p w (aP 1 e) fun A H p w=>dl 16 32768 i H p w (fun H=>aN H A) fun B H p w=>dl 18 0 i H p w (fun H=>dB 4 H f) fun C H p w=>dn 19 0 i H p w (.val (.fn 40 [] [b,d])) fun D H p w=>de 98304 H p w (O (.f 38) [B] (fI 98304 p H)) (some true) fun E H p w=>de 1015808 H p w (O (.f 39) [C,D] (fI 1015808 p H)) (some true) fun F H p w=>dn 21 2097120 i H p w (bY (cB [.str 0 0,.str 0 0,iN 0,iN 0,.aA,.aA] [(0,1,q),(1,1,s),(2,1,y),(3,1,z),(4,1,E),(5,1,F)])) fun G H p w=>da 22 4194272 i H p w (vT 1 (i+22) (cB (aZ [.str 0 0,.str 0 0,iN 0,iN 0,.aA,.aA] 1) [(0,6,G)])) fun I H p w=>de 8388606 H p w (kJ 6 96 (fI 8388606 p H) n (pJ 6 (fI 8388606 p H) I)) (some true) fun J H p w=>dn 24 16777215 i H p w (aV j) fun K H p w=>dn 25 33554431 i H p w (aP 1 K) fun L H p w=>de 67108863 H p w (jN (fI 67108863 p H) L J) (some true) fun _ H p w=>dz2 p H fun H=>z0o O a h H
def q5f:=(cK qmy).1
theorem qtz:q5f=qmy:=(cK qmy).2
def qmx:=wz 0 fun a=>wn 0 0 a (.val j) fun c=>wn 1 1 a (aV c) fun d=>wn 2 3 a (aP 2 d) fun e=>wo 3 7 a (aN · e) fun f=>wn 4 0 a (aP 0 k) fun g=>wo 5 16 a (aN · g) fun h=>wn 6 0 a (aP 0 l) fun q=>wo 7 64 a (aN · q) fun r=>wn 8 240 a (bY (cB [.str 0 0,.str 0 0] [(0,1,h),(1,1,r)])) fun s=>wn 9 0 a (.val j) fun t=>wn 10 512 a (aV t) fun u=>wn 11 1536 a (aP 1 u) fun v=>wo 12 3584 a (aN · v) fun x=>wn 13 7680 a (aD x) fun y=>wu 16383 (qK ⟨(⟨kU (eqFields [(p1,⟨iA⟩,0),(p1,⟨iA⟩,1)])⟩:E2).f,some 2⟩ · f s y) fun _=>wy <| q5f O b i j k l m n o
def zib:=(cK qmx).1
theorem qty:zib=qmx:=(cK qmx).2
def qmw:=wA 1 j fun a=>wF 0 l fun c=>wF 0 m fun d=>wc O 37 [a,c,d] fun e=>wq (aW 0 e) fun f=>wq (aW 1 e) fun g=>zib O b i k l m n f o
def zia:=(cK qmw).1
theorem qtx:zia=qmw:=(cK qmw).2
def qmv:=wq (aP 2 m) fun a=>wA 4 a fun c=>wc O 36 [c] fun d=>wq (aW 0 d) fun e=>wq (aW 1 d) fun f=>wN [.int .u8 (.ofNat 0),.str 0 0,.str 0 0,.aA] fun g=>wT 4 g e <| zia O b i j k l m g n
def zh9:=(cK qmv).1
theorem qtw:zh9=qmv:=(cK qmv).2
def qmu:=wq (aG 6 m n) fun a=>wA 6 a fun c=>wN [.str 0 0,.aA,.int .u8 (.ofNat 0),.str 0 0,.str 0 0,.aA] fun d=>wT 6 d c <| zh9 O b i j k l d n
def q5d:=(cK qmu).1
theorem qtv:q5d=qmu:=(cK qmu).2
def zic:=wq (ib .lss A n) fun a=>wd a (q5d O x i j k l m A) (d)
def q0h:=gG (zic O d i j k l m n)
def zie:=q0h O d i j k l m n dN
def qmt:=zie O (q0l O b m) i j k l n o q
def zh8:=(cK qmt).1
theorem qtu:zh8=qmt:=(cK qmt).2
def qms:=wF 1 l fun a=>wq (aD a) fun c=>zh8 O b i j k l m a c (iN 0)
def zh7:=(cK qms).1
theorem qtt:zh7=qms:=(cK qms).2
def qmr:=wq (aG 2 l m) fun a=>wA 2 a fun c=>wN [.str 0 0,.aA] fun d=>wT 2 d c <| zh7 O b i j k d m
def zh6:=(cK qmr).1
theorem qts:zh6=qmr:=(cK qmr).2
def zid:=wq (ib .lss A m) fun a=>wd a (zh6 O x i j k l A) (d)
def q0i:=gG (zid O d i j k l m)
def zif:=q0i O d i j k l m dN
def qmq:=zif O (q0n O k) i j k l m n
def zh5:=(cK qmq).1
theorem qtr:zh5=qmq:=(cK qmq).2
def qmp:=wF 0 i fun a=>wq (aD a) fun b=>zh5 O i j k a b (iN 0)
def zh4:=(cK qmp).1
theorem qtq:zh4=qmp:=(cK qmp).2
def qmo:=wh (fun H=>.new (.map H.nx) (.map [] 0)) fun a=>wA 1 j fun b=>wc O 35 [b] fun c=>wq (bY (cB [.bool false,.aA,.eP,iN 0] [(0,1,(.bool true)),(2,1,a),(3,1,c)])) fun d=>wB 4 d fun e=>zh4 O i j e
def zh3:=(cK qmo).1
theorem qtp:zh3=qmo:=(cK qmo).2
def qij:=wq (ib .neq k (iN 0)) fun a=>wd a (.ok (.bB [(.bS),k])) (zh3 O i j)
def q9x:=(cK qij).1
theorem qo3:q9x=qij:=(cK qij).2
def z4w:=wB 1 i fun a=>wA 1 a fun b=>wc O 34 [b] fun c=>wq (aW 0 c) fun d=>wq (aW 1 c) fun e=>wN [.aA] fun f=>wT 1 f d <| q9x O a f e
def zGv:=z4w O i
def zm0(O:Ev.Call)(a:AV):pL:=.ok a
def zmx(O:Ev.Call)(a:AV->pH)(b c:AV):=wI c fun d=>a b d
def z2f(O:Ev.Call)(a:AV->pH)(b c:AV):=wI c fun d=>a b d
def zmz(a:AV->pH)(b c d e:AV)(H:Hp):R1:=dz 21 H fun f H=>dn 0 0 f H [] [] (.val c) fun g H p w=>dn 1 0 f H p w (aP 0 b) fun h H p w=>dl 2 2 f H p w (fun H=>aN H h) fun i H p w=>dn 3 0 f H p w (.val d) fun j H p w=>dn 4 14 f H p w (aG 2 i j) fun k H p w=>dn 5 30 f H p w (aP 0 k) fun l H p w=>dl 6 62 f H p w (fun H=>aN H l) fun m H p w=>dn 7 0 f H p w (aP 0 b) fun n H p w=>dl 8 128 f H p w (fun H=>aN H n) fun o H p w=>dn 9 0 f H p w (.val d) fun q H p w=>dn 10 896 f H p w (aG 2 o q) fun r H p w=>dn 11 1920 f H p w (aP 1 r) fun s H p w=>dl 12 3968 f H p w (fun H=>aN H s) fun t H p w=>dn 13 0 f H p w (.val e) fun u H p w=>dn 14 16256 f H p w (aG 6 t u) fun v H p w=>dn 15 32640 f H p w (aP 0 v) fun x H p w=>dl 16 65408 f H p w (fun H=>aN H x) fun y H p w=>dn 17 131070 f H p w (bY (cB [.str 0 0,.str 0 0] [(0,1,m),(1,1,y)])) fun z H p w=>da 18 262142 f H p w (vT 1 (f+18) (cB (aZ [.str 0 0,.str 0 0] 1) [(0,2,z)])) fun A H p w=>de 524287 H p w (kJ 2 32 (fI 524287 p H) g (pJ 2 (fI 524287 p H) A)) (some true) fun B H p w=>dn 20 1048575 f H p w (.val B) fun C H p w=>dz2 p H fun H=>z2f O a C e H
def zm1:=wF 0 i fun a=>wq (aG 2 a j) fun c=>wF 1 c fun d=>wq (aD d) fun e=>wq (ib .lss B e) fun f=>wd f (zmz O y i A j B) (b A)
def zbq:=oL (zm1 O b i j)
def z2g:=zbq O b i j dN
def zmy(a:AV->pH)(b c d:AV)(H:Hp):R1:=z2g O (fun c H=>zmx O a c d H) b d c (iN 0) H
def zm2:=wF 0 i fun a=>wq (aD a) fun c=>wq (ib .lss B c) fun d=>wd d (zmy O y i A B) (b A)
def q04:=oL (zm2 O b i)
def z2h:=q04 O b i dN
def z7p:=wB 1 i fun a=>z2h O (zm0 O) a (.aA) (iN 0)
def zAh:=z7p O i
def qyf(O:Ev.Call)(a b:AV):=wA 2 b fun c=>wT 2 a c <| fun H=>cO (rV (dB 2 H a)) H
def q7f(O:Ev.Call)(a:pH)(b:AV):=wI b a
def qhn(O:Ev.Call)(a:pH)(b:AV):=wI b a
def qye(O:Ev.Call)(a:pH)(b:AV):=wI b a
def zna:=wF 1 l fun a=>wq (aG 2 a o) fun c=>wF 1 c fun d=>wq (gN (nC .neq).f d (.str 0 0)) fun e=>wd e (wz 0 fun f=>wo 0 0 f (dB 2 · j) fun g=>wn 1 0 f (.val k) fun h=>wo 2 0 f (dB 1 · i) fun q=>wn 3 0 f (aP 1 l) fun r=>wo 4 8 f (aN · r) fun s=>wn 5 0 f (.val o) fun t=>wn 6 56 f (aG 2 s t) fun u=>wn 7 120 f (aP 0 u) fun v=>wo 8 248 f (aN · v) fun x=>wn 9 0 f (aP 1 l) fun y=>wo 10 512 f (aN · y) fun z=>wn 11 0 f (.val o) fun A=>wn 12 3584 f (aG 2 z A) fun B=>wn 13 7680 f (aP 1 B) fun C=>wo 14 15872 f (aN · C) fun D=>wn 16 0 f (.val m) fun E=>wn 17 0 f (.val n) fun F=>wn 18 196608 f (aG 5 E F) fun G=>wn 19 458752 f (aP 4 G) fun I=>wo 20 983040 f (aN · I) fun J=>wu 32764 (O (.f 21) [q,x,D]) fun K=>wu 2097151 (O (.f 44) [g,h,K,J]) fun L=>wy <| qye O b o) (qye O b o)
def q7g:=wF 1 l fun a=>wq (aD a) fun b=>wq (ib .lss A b) fun c=>wd c (zna O x i j k l m n A) (d)
def qyd:=gG (q7g O d i j k l m n)
def znb:=qyd O d i j k l m n dN
def zbu(O:Ev.Call)(a:pH)(b:AV):=wI b a
def zbt:=wz 0 fun a=>wo 0 0 a (dB 2 · j) fun c=>wn 1 0 a (.val k) fun d=>wo 2 0 a (dB 1 · i) fun e=>wn 3 0 a (.val n) fun f=>wn 4 0 a (.val o) fun g=>wn 5 24 a (aG 1 f g) fun h=>wo 6 56 a (aN · h) fun q=>wn 7 0 a (.val l) fun r=>wn 8 0 a (.val m) fun s=>wn 9 384 a (aG 5 r s) fun t=>wn 10 896 a (aP 2 t) fun u=>wo 11 1920 a (aN · u) fun v=>wn 13 0 a (.val l) fun x=>wn 14 0 a (.val m) fun y=>wn 15 24576 a (aG 5 x y) fun z=>wn 16 57344 a (aP 4 z) fun A=>wo 17 122880 a (aN · A) fun B=>wu 4092 (O (.f 21) [e,q,v]) fun C=>wu 262143 (O (.f 44) [c,d,C,B]) fun D=>wy <| zbu O b o
def qyg:=wq (aD n) fun a=>wq (ib .lss A a) fun b=>wd b (zbt O x i j k l m n A) (d)
def qnp:=gG (qyg O d i j k l m n)
def zbv:=qnp O d i j k l m n dN
def zbs:=wq (aG 5 n o) fun a=>wF 0 a fun c=>wq (ib .eql c (.int .u8 (.ofNat 1))) fun d=>wd d (znb O (qhn O b o) i k l m n o (iN 0)) (wq (ib .eql c (.int .u8 (.ofNat 2))) fun e=>wd e (wz 0 fun f=>wo 0 0 f (dB 2 · k) fun g=>wn 1 0 f (.val l) fun h=>wo 2 0 f (dB 1 · i) fun q=>wn 3 0 f (.val j) fun r=>wn 4 0 f (.val l) fun s=>wn 5 24 f (aG 2 r s) fun t=>wn 6 56 f (aP 0 t) fun u=>wo 7 120 f (aN · u) fun v=>wn 8 0 f (.val n) fun x=>wn 9 0 f (.val o) fun y=>wn 10 768 f (aG 5 x y) fun z=>wn 11 1792 f (aP 1 z) fun A=>wo 12 3840 f (aN · A) fun B=>wn 14 0 f (.val n) fun C=>wn 15 0 f (.val o) fun D=>wn 16 49152 f (aG 5 C D) fun E=>wn 17 114688 f (aP 4 E) fun F=>wo 18 245760 f (aN · F) fun G=>wu 8188 (O (.f 21) [q,v,B]) fun I=>wu 524287 (O (.f 44) [g,h,I,G]) fun J=>wy <| qhn O b o) (wq (ib .eql c (.int .u8 (.ofNat 3))) fun K=>wd K (wz 0 fun L=>wo 0 0 L (dB 1 · i) fun M=>wn 1 0 L (.val j) fun N=>wn 2 0 L (.val l) fun P=>wn 3 6 L (aG 2 N P) fun Q=>wn 4 14 L (aP 0 Q) fun R=>wo 5 30 L (aN · R) fun S=>wn 6 0 L (.val n) fun T=>wn 7 0 L (.val o) fun U=>wn 8 192 L (aG 5 T U) fun V=>wn 9 448 L (aP 1 V) fun W=>wo 10 960 L (aN · W) fun X=>wn 11 0 L (.val n) fun Y=>wn 12 0 L (.val o) fun Z=>wn 13 6144 L (aG 5 Y Z) fun a117=>wn 14 14336 L (aP 2 a117) fun uU=>wo 15 30720 L (aN · uU) fun a119=>wu 65535 (O (.f 45) [M,S,X,a119]) fun aIq=>wn 17 131071 L (.val aIq) fun aCa=>wy <| zbv O (qhn O b o) i k l n o aCa (iN 0)) (qhn O b o)))
def q7h:=wq (aD n) fun a=>wq (ib .lss A a) fun b=>wd b (zbs O x i j k l m n A) (d)
def qk0:=gG (q7h O d i j k l m n)
def znc:=qk0 O d i j k l m n dN
def zbr:=wz 18 fun a=>wo 0 0 a (dB 1 · i) fun c=>wn 1 0 a (.val j) fun d=>wn 2 0 a (.val l) fun e=>wn 3 6 a (aG 2 d e) fun f=>wn 4 14 a (aP 0 f) fun g=>wo 5 30 a (aN · g) fun h=>wn 6 0 a (.val j) fun m=>wn 7 0 a (.val l) fun n=>wn 8 192 a (aG 2 m n) fun o=>wn 9 448 a (aP 1 o) fun q=>wo 10 960 a (aN · q) fun r=>wa 15 0 a (.new (.ptr (a+15) 0) (aB 0 [.str 0 0,.aA,.int .u8 (.ofNat 0),.str 0 0,.str 0 0,.aA])) fun s=>wu 2047 (O (.f 18) [c,h,r]) fun t=>wn 12 4095 a (.val t) fun u=>wn 13 8191 a (aW 0 u) fun v=>wn 14 8191 a (aW 1 u) fun x=>wu 49151 (qdc 6 · s v) fun _=>wn 17 131071 a (.val x) fun y=>wy <| wq (aP 2 s) fun z=>wA 4 z fun A=>wc O 43 [(.aA),A,(.bool false)] fun B=>znc O (q7f O b l) i j k l s B (iN 0)
def q7i:=wq (aD j) fun a=>wq (ib .lss A a) fun b=>wd b (zbr O x i j k A) (d)
def qqn:=gG (q7i O d i j k)
def znd:=qqn O d i j k dN
def z7r:=wB 1 i fun a=>wN [iN 0,.aA] fun b=>wA 1 a fun c=>wc O 7 [c] fun d=>wq (aD d) fun e=>wc O 42 [e] fun f=>wN [iN 0,.aA] fun g=>wT 2 g f <| znd O (qyf O b g) a d g (iN 0)
def zAf:=z7r O i
def q06(O:Ev.Call)(a:AV):pL:=.ok (.bB [a,(.bool true)])
def zm3(O:Ev.Call)(a:AV->pH)(b c:AV):=wI c fun d=>a b d
def zm7(O:Ev.Call)(a:AV->pH)(b c:AV):=wI c fun d=>a b d
def qqm:=wl (aG 1 j l) fun b=>wL (aN · b) fun c=>wl (aP 0 i) fun d=>wL (aN · d) fun e=>wl (ib .gtr c e) fun f=>wd f (a (.aA) (.bool false)) (zm7 O g k m)
def qql:=wq (aG 1 j l) fun b=>w1 b fun c=>wq (ib .lss c n) fun d=>wd d (wq (aG 1 j l) fun e=>wU e n <| qqm O a g i j (.bool true) l m) (qqm O a g i j k l m)
def qqk:=wF 1 i fun b=>wF 0 i fun c=>wq (ib .mul l c) fun d=>wq (ib .add d m) fun e=>wq (aG 1 b e) fun f=>w1 f fun h=>wq (ib .gtr h (iN 1)) fun o=>wd o (wq (aG 1 j m) fun q=>w1 q fun r=>wI r fun s=>qql O a g i j k l m s) (qql O a g i j k l m n)
def zm6:=wF 1 i fun b=>wF 0 i fun c=>wq (ib .mul l c) fun d=>wq (ib .add d m) fun e=>wq (aG 1 b e) fun f=>w1 f fun h=>wq (ib .eql h (iN 1)) fun n=>wd n (wq (aG 1 j m) fun o=>w1 o fun q=>qqk O a g i j k l m q) (qqk O a g i j k l m (.int .i64 (.negSucc 0)))
def zm8:=wF 0 i fun c=>wq (ib .lss B c) fun d=>wd d (zm6 O a y i j A k B) (b A)
def quq:=oL (zm8 O a b i j k)
def z2i:=quq O a b i j k dN
def zm5(a b:AV->pH)(c d e f:AV)(H:Hp):R1:=z2i O (fun g h H=>a g h H) (fun e H=>zm3 O b e f H) c d f e (iN 0) H
def zm9:=wF 0 i fun c=>wq (ib .lss B c) fun d=>wd d (zm5 O a y i j A B) (b A)
def q05:=oL (zm9 O a b i j)
def z2j:=q05 O a b i j dN
def zm4:=z2j O a b i j (.bool false) (iN 0)
def q07:=wd A (zm4 O a x i j) (d)
def qqj:=gG (q07 O a d i j)
def z2k:=qqj O a d i j dN
def z7q:=wB 2 i fun a=>wF 0 a fun b=>wh (fun H=>qer [iN 0] 8 H.nx b b) fun c=>fun H=>z2k O (fun d e H=>.ok (.bB [d,e]) H) (q06 O c) a c (.bool true) H
def zAg:=z7q O i
def zh2(O:Ev.Call)(a:AV):=wq (aV a) fun b=>wF 1 b fun c=>wq (aD c) fun d=>.ok d
def z4v:=wq (jR false ((⟨E2.f ⟨qg3⟩⟩:E2).f i (.bS))) fun a=>wd a (.ok (iN 0)) (zh2 O i)
def zGw:=z4v O i
def zh1(O:Ev.Call)(a:AV):=wq (aV a) fun b=>wF 3 b fun c=>.ok c
def z4u:=wq (jR false ((⟨E2.f ⟨qg3⟩⟩:E2).f i (.bS))) fun a=>wd a (.ok (iN 0)) (zh1 O i)
def zGx:=z4u O i
def zh0:=wq (aV i) fun a=>wF 1 a fun b=>wq (aG 6 b j) fun c=>wA 6 c fun d=>wc O 46 [d] fun e=>wT 6 k e <| fun H=>cO (eT (d9 (rV (dB 6 H k)) (d9 (some (iN 0)) (some [])))) H
def z4t:=wN [.str 0 0,.str 0 0,iN 0,iN 0,.aA,.aA] fun a=>wq (jR false ((⟨E2.f ⟨qg3⟩⟩:E2).f i (.bS))) fun b=>wg (aM false b) (.val i) fun c=>wg (aM false b) (aV c) fun d=>wg (aM false b) (aP 0 d) fun e=>wG (aM false b) (aN · e) fun f=>wg (aM false b) ((kE .not).f f) fun g=>wq (dH b (.bool true) g) fun h=>wd h (wq (bY (cB [.str 0 0,.str 0 0,iN 0,iN 0,.aA,.aA] [])) fun k=>wT 6 a k <| fun H=>cO (eT (d9 (rV (dB 6 H a)) (d9 (some (iN 2)) (some [])))) H) (wq (ib .lss j (iN 0)) fun l=>wg (aM false l) (.val j) fun m=>wg (aM false l) (.val i) fun n=>wg (aM false l) (aV n) fun o=>wg (aM false l) (aP 1 o) fun q=>wG (aM false l) (aN · q) fun r=>wg (aM false l) (aD r) fun s=>wg (aM false l) (ib .geq m s) fun t=>wq (dH l (.bool true) t) fun u=>wd u (wq (bY (cB [.str 0 0,.str 0 0,iN 0,iN 0,.aA,.aA] [])) fun v=>wT 6 a v <| fun H=>cO (eT (d9 (rV (dB 6 H a)) (d9 (some (iN 4)) (some [])))) H) (zh0 O i j a))
def zGy:=z4t O i j
def q5c:=wq (aV i) fun a=>wF 1 a fun b=>wq (aG 6 b k) fun c=>wA 6 c fun d=>wc O 46 [d] fun e=>wT 6 j e <| fun H=>cO (eT (d9 (rV (dB 6 H j)) (d9 (some (iN 0)) (some [])))) H
def q5b:=wq (aV i) fun a=>wF 2 a fun b=>wq (bY (cB [.str 0 0,.str 0 0] [(0,1,j),(1,1,k)])) fun c=>wh (tX ⟨(⟨kU (eqFields [(p1,⟨iA⟩,0),(p1,⟨iA⟩,1)])⟩:E2).f,some 2⟩ (iN 0) true · b c) fun d=>wq (aW 0 d) fun e=>wq (aW 1 d) fun f=>wq ((kE .not).f f) fun g=>wd g (wq (bY (cB [.str 0 0,.str 0 0,iN 0,iN 0,.aA,.aA] [])) fun h=>wT 6 l h <| fun H=>cO (eT (d9 (rV (dB 6 H l)) (d9 (some (iN 6)) (some [])))) H) (q5c O i l e)
def z4s:=wN [.str 0 0,.str 0 0,iN 0,iN 0,.aA,.aA] fun a=>wq (jR false ((⟨E2.f ⟨qg3⟩⟩:E2).f i (.bS))) fun b=>wg (aM false b) (.val i) fun c=>wg (aM false b) (aV c) fun d=>wg (aM false b) (aP 0 d) fun e=>wG (aM false b) (aN · e) fun f=>wg (aM false b) ((kE .not).f f) fun g=>wq (dH b (.bool true) g) fun h=>wd h (wq (bY (cB [.str 0 0,.str 0 0,iN 0,iN 0,.aA,.aA] [])) fun l=>wT 6 a l <| fun H=>cO (eT (d9 (rV (dB 6 H a)) (d9 (some (iN 2)) (some [])))) H) (q5b O i j k a)
def zGz:=z4s O i j k
def q5a(O:Ev.Call):pL:=.ok (.bool true)
def qto:=(cK q5a).1
theorem q0g:qto=q5a:=(cK q5a).2
def qwr(O:Ev.Call)(a:AV->pH)(b c:AV):=wI c fun d=>a b d
def z0n:=(cK qwr).1
theorem q0f:z0n=qwr:=(cK qwr).2
def qwq:=wd k (b (.bool false)) (z0n O g i j)
def q9n:=(cK qwq).1
theorem q0e:q9n=qwq:=(cK qwq).2
def qmm:=wz 0 fun a=>wn 0 0 a (aP 0 l) fun c=>wo 1 1 a (aN · c) fun d=>wn 2 0 a (.val i) fun e=>wn 3 0 a (.val k) fun f=>wn 4 12 a (aG 5 e f) fun h=>wn 5 28 a (aP 0 h) fun o=>wo 6 60 a (aN · o) fun q=>wn 7 127 a (ib .neq d q) fun r=>wn 8 255 a (.val r) fun s=>wr 9 511 a (aP 1 l) (aM false s) fun t=>ws 10 1023 a (aN · t) (aM false s) fun u=>wr 11 511 a (.val i) (aM false s) fun v=>wr 12 511 a (.val k) (aM false s) fun x=>wr 13 6655 a (aG 5 v x) (aM false s) fun y=>wr 14 14847 a (aP 1 y) (aM false s) fun z=>ws 15 31231 a (aN · z) (aM false s) fun A=>wr 16 65535 a (gN (nC .neq).f u A) (aM false s) fun B=>wn 17 131071 a (dH s (.bool true) B) fun C=>wn 18 262143 a (.val C) fun D=>wr 19 524287 a (aP 2 l) (aM false D) fun E=>ws 20 1048575 a (aN · E) (aM false D) fun F=>wr 21 524287 a (.val i) (aM false D) fun G=>wr 22 524287 a (.val k) (aM false D) fun I=>wr 23 6815743 a (aG 5 G I) (aM false D) fun J=>wr 24 15204351 a (aP 2 J) (aM false D) fun K=>ws 25 31981567 a (aN · K) (aM false D) fun L=>wr 26 67108863 a (gN (nC .neq).f F L) (aM false D) fun M=>wn 27 134217727 a (dH D (.bool true) M) fun N=>wn 28 268435455 a (.val N) fun P=>wr 29 536870911 a (aP 5 l) (aM false P) fun Q=>ws 30 1073741823 a (aN · Q) (aM false P) fun R=>wr 31 536870911 a (.val m) (aM false P) fun S=>wr 32 4294967295 a (ib .neq R S) (aM false P) fun T=>wn 33 8589934591 a (dH P (.bool true) T) fun U=>wn 34 17179869183 a (.val U) fun V=>wr 35 34359738367 a (aP 4 l) (aM false V) fun W=>ws 36 68719476735 a (aN · W) (aM false V) fun X=>wr 37 34359738367 a (.val i) (aM false V) fun Y=>wr 38 34359738367 a (.val k) (aM false V) fun Z=>wr 39 446676598783 a (aG 5 Y Z) (aM false V) fun a47=>wr 40 996432412671 a (aP 3 a47) (aM false V) fun a48=>ws 41 2095944040447 a (aN · a48) (aM false V) fun a49=>wt 4398046511103 (O (.f 23) [X,a49]) (aM false V) fun a50=>wr 43 8796093022207 a ((kE .not).f a50) (aM false V) fun a51=>wn 44 17592186044415 a (dH V (.bool true) a51) fun a52=>wn 45 35184372088831 a (.val a52) fun a53=>wr 46 70368744177663 a (aP 3 l) (aM false a53) fun a54=>ws 47 140737488355327 a (aN · a54) (aM false a53) fun a55=>wr 48 70368744177663 a (.val n) (aM false a53) fun a56=>wt 562949953421311 (O (.f 24) [a55,a56]) (aM false a53) fun a57=>wr 50 1125899906842623 a ((kE .not).f a57) (aM false a53) fun a58=>wn 51 2251799813685247 a (dH a53 (.bool true) a58) fun a59=>wy <| q9n O b g j k a59
def qot:=(cK qmm).1
theorem qtn:qot=qmm:=(cK qmm).2
def qh7:=wd r (wz 0 fun a=>wo 0 0 a (dB 1 · i) fun c=>wn 1 0 a (aP 0 j) fun d=>wo 2 2 a (aN · d) fun e=>wn 3 0 a (.val k) fun f=>wn 4 0 a (.val m) fun h=>wn 5 24 a (aG 5 f h) fun s=>wn 6 56 a (aP 1 s) fun t=>wo 7 120 a (aN · t) fun u=>wn 8 0 a (.val k) fun v=>wn 9 0 a (.val m) fun x=>wn 10 768 a (aG 5 v x) fun y=>wn 11 1792 a (aP 2 y) fun z=>wo 12 3840 a (aN · z) fun A=>wu 8191 (O (.f 45) [c,e,u,A]) fun B=>wn 14 16383 a (.val B) fun C=>wy <| qot O b g k l m n o C) (qot O b g k l m n o q)
def zhw:=(cK qh7).1
theorem qkm:zhw=qh7:=(cK qh7).2
def qml:=wq (aG 5 k m) fun a=>wF 0 a fun c=>wq (ib .eql c (.int .u8 (.ofNat 3))) fun d=>zhw O b g i j k l m n o q d
def qwp:=(cK qml).1
theorem qtm:qwp=qml:=(cK qml).2
def qmk:=wd r (wI l fun a=>qwp O b g i j k a m n l q) (qwp O b g i j k l m n o q)
def zhv:=(cK qmk).1
theorem qtl:zhv=qmk:=(cK qmk).2
def qmj:=wq (aG 5 k m) fun a=>wF 0 a fun c=>wq (ib .lss c (.int .u8 (.ofNat 4))) fun d=>zhv O b g i j k l m n (.int .i64 (.negSucc 0)) (.aA) d
def zhu:=(cK qmj).1
theorem qtk:zhu=qmj:=(cK qmj).2
def qmi:=wF 5 i fun a=>wq (aG 6 a n) fun c=>wA 6 c fun d=>wN [.int .u8 (.ofNat 0),.str 0 0,.str 0 0,.aA,.aA,iN 0] fun e=>wT 6 e d <| zhu O b g j k l m n e
def zht:=(cK qmi).1
theorem qtj:zht=qmi:=(cK qmi).2
def qh6(a:pH)(b:AV->pH)(c:pL)(d e f g h i j:AV):=wd j (zht O a b d e f g h i) (c)
def zhs:=(cK qh6).1
theorem qkl:zhs=qh6:=(cK qh6).2
def zhy:=wq (aD l) fun a=>wq (ib .lss B a) fun c=>zhs O b y d i j k l A B c
def qlt:=oL (zhy O b d i j k l)
def zhz:=qlt O b d i j k l dN
def qih:=zhz O .ok (qto O) i j k l (iN 0) (iN 0)
def qmn:=(cK qih).1
theorem qo2:qmn=qih:=(cK qih).2
def qig(O:Ev.Call)(a:pH)(b:AV):=wI b a
def q9v:=(cK qig).1
theorem qo1:q9v=qig:=(cK qig).2
def qif:=wd j (b (.bool false)) (q9v O c i)
def q9u:=(cK qif).1
theorem qo0:q9u=qif:=(cK qif).2
def qie:=wl (aP 4 i) fun a=>wL (aN · a) fun d=>wl (aG 2 d k) fun e=>wL (dB 2 · e) fun f=>wl (aP 1 j) fun g=>wL (aN · g) fun h=>wl (aG 2 h k) fun l=>wL (dB 2 · l) fun m=>wl (jR true ((⟨E2.f ⟨kU (eqFields [(p1,⟨iA⟩,0),(p1,⟨iA⟩,1)])⟩⟩:E2).f f m)) fun n=>q9u O b c k n
def q9t:=(cK qie).1
theorem qoz:q9t=qie:=(cK qie).2
def qid:=wd l (q9t O b c i j k) (d)
def q9s:=(cK qid).1
theorem qhb:q9s=qid:=(cK qid).2
def qwu:=wF 1 j fun a=>wq (aD a) fun c=>wq (ib .lss A c) fun e=>q9s O b x d i j A e
def qh5:=gG (qwu O b d i j)
def qwv:=qh5 O b d i j dN
def qic:=qwv O .ok (qmn O i j k m) i l (iN 0)
def q9q:=(cK qic).1
theorem qoy:q9q=qic:=(cK qic).2
def qib:=wd n (.ok (.bool false)) (q9q O i j k l m)
def qwt:=(cK qib).1
theorem qox:qwt=qib:=(cK qib).2
def qia:=wz 0 fun a=>wn 0 0 a (aP 0 j) fun b=>wo 1 1 a (aN · b) fun c=>wn 2 0 a (aP 0 l) fun d=>wo 3 4 a (aN · d) fun e=>wn 4 15 a (gN (nC .neq).f c e) fun f=>wn 5 31 a (.val f) fun g=>wr 6 63 a (aP 1 j) (aM false g) fun h=>ws 7 127 a (aN · h) (aM false g) fun o=>wr 8 63 a (aP 1 l) (aM false g) fun q=>ws 9 319 a (aN · q) (aM false g) fun r=>wr 10 1023 a (gN (nC .neq).f o r) (aM false g) fun s=>wn 11 2047 a (dH g (.bool true) s) fun t=>wn 12 4095 a (.val t) fun u=>wr 13 8191 a (aP 2 j) (aM false u) fun v=>ws 14 16383 a (aN · v) (aM false u) fun x=>wr 15 8191 a (.val i) (aM false u) fun y=>wr 16 65535 a (ib .neq x y) (aM false u) fun z=>wn 17 131071 a (dH u (.bool true) z) fun A=>wn 18 262143 a (.val A) fun B=>wr 19 524287 a (aP 3 j) (aM false B) fun C=>ws 20 1048575 a (aN · C) (aM false B) fun D=>ws 21 524287 a (dB 1 · k) (aM false B) fun E=>wr 22 524287 a (aP 0 l) (aM false B) fun F=>ws 23 4718591 a (aN · F) (aM false B) fun G=>wr 24 524287 a (aP 1 l) (aM false B) fun I=>ws 25 17301503 a (aN · I) (aM false B) fun J=>wt 65535999 (O (.f 47) [E,G,J]) (aM false B) fun K=>wr 27 134217727 a (ib .neq D K) (aM false B) fun L=>wn 28 268435455 a (dH B (.bool true) L) fun M=>wn 29 536870911 a (.val M) fun N=>wr 30 1073741823 a (aP 5 j) (aM false N) fun P=>ws 31 2147483647 a (aN · P) (aM false N) fun Q=>wr 32 4294967295 a (aD Q) (aM false N) fun R=>wr 33 1073741823 a (.val n) (aM false N) fun S=>wr 34 9663676415 a (aD S) (aM false N) fun T=>wr 35 34359738367 a (ib .neq R T) (aM false N) fun U=>wn 36 68719476735 a (dH N (.bool true) U) fun V=>wn 37 137438953471 a (.val V) fun W=>wr 38 274877906943 a (aP 5 j) (aM false W) fun X=>ws 39 549755813887 a (aN · X) (aM false W) fun Y=>wr 40 1099511627775 a (dA Y) (aM false W) fun Z=>wr 41 274877906943 a (.val n) (aM false W) fun a164=>wr 42 2473901162495 a (aD a164) (aM false W) fun aHk=>wr 43 8796093022207 a (ib .neq Z aHk) (aM false W) fun aIn=>wn 44 17592186044415 a (dH W (.bool true) aIn) fun a167=>wn 45 35184372088831 a (.val a167) fun a168=>wr 46 70368744177663 a (aP 4 j) (aM false a168) fun aG7=>ws 47 140737488355327 a (aN · aG7) (aM false a168) fun aIc=>wr 48 281474976710655 a (aD aIc) (aM false a168) fun a171=>wr 49 70368744177663 a (aP 1 m) (aM false a168) fun aHq=>ws 50 633318697598975 a (aN · aHq) (aM false a168) fun a173=>wr 51 1759218604441599 a (aD a173) (aM false a168) fun aFk=>wr 52 4503599627370495 a (ib .neq a171 aFk) (aM false a168) fun a175=>wn 53 9007199254740991 a (dH a168 (.bool true) a175) fun aEj=>wn 54 18014398509481983 a (.val aEj) fun uG=>wr 55 36028797018963967 a (aP 4 j) (aM false uG) fun aHN=>ws 56 72057594037927935 a (aN · aHN) (aM false uG) fun bFc=>wr 57 144115188075855871 a (dA bFc) (aM false uG) fun aNA=>wr 58 36028797018963967 a (aP 1 m) (aM false uG) fun aWh=>ws 59 324259173170675711 a (aN · aWh) (aM false uG) fun a182=>wr 60 900719925474099199 a (aD a182) (aM false uG) fun a183=>wr 61 2305843009213693951 a (ib .neq aNA a183) (aM false uG) fun aFc=>wn 62 4611686018427387903 a (dH uG (.bool true) aFc) fun aIs=>wy <| qwt O j k l m n aIs
def qws:=(cK qia).1
theorem qow:qws=qia:=(cK qia).2
def qh9:=wq (aP 2 m) fun a=>wA 4 a fun b=>wc O 20 [b] fun c=>wc O 43 [(.aA),c,(.bool false)] fun d=>qws O i j k l m d
def q9p:=(cK qh9).1
theorem qov:q9p=qh9:=(cK qh9).2
def qh8:=wA 1 k fun a=>wF 0 l fun b=>wF 1 l fun c=>wc O 18 [a,b,c] fun d=>wq (aW 0 d) fun e=>wq (aW 1 d) fun f=>wN [.str 0 0,.aA,.int .u8 (.ofNat 0),.str 0 0,.str 0 0,.aA] fun g=>wT 6 g e <| q9p O i j k l g
def q9o:=(cK qh8).1
theorem qou:q9o=qh8:=(cK qh8).2
def z4r:=wB 6 i fun a=>wB 1 j fun b=>wA 1 b fun c=>wc O 7 [c] fun d=>wq (aG 2 d k) fun e=>wA 2 e fun f=>wN [.str 0 0,.str 0 0] fun g=>wT 2 g f <| q9o O k a b g
def zHa:=z4r O i j k
def xbc:=wc O 13 [i,j,k] fun a=>wq (aW 0 a) fun b=>wq (aW 1 a) fun c=>wN [.str 0 0,.str 0 0,iN 0,iN 0,.aA,.aA] fun d=>wT 6 d b <| wq (ib .eql c (iN 0)) fun e=>.ok e
def zHb:=xbc O i j k
def qwo(O:Ev.Call):pL:=.ok (iN 0)
def q0c:=(cK qwo).1
theorem q0b:q0c=qwo:=(cK qwo).2
def qwn(O:Ev.Call)(a:AV->pH)(b c:AV):=wI c fun d=>a b d
def z0m:=(cK qwn).1
theorem q0a:z0m=qwn:=(cK qwn).2
def qwm:=wd k (b (iN 5)) (z0m O g i j)
def z0l:=(cK qwm).1
theorem qz9:z0l=qwm:=(cK qwm).2
def qmh:=wF 5 j fun a=>wq (ib .neq a k) fun c=>wg (aM false c) (aP 0 j) fun d=>wG (aM false c) (aN · d) fun e=>wg (aM false c) (ib .eql e (.int .u8 (.ofNat 3))) fun f=>wg (aM false c) (aP 3 j) fun h=>wG (aM false c) (aN · h) fun m=>wg (aM false c) (aD m) fun n=>wg (aM false c) (ib .gtr n (iN 0)) fun o=>wg (aM false c) (jR true ((⟨E2.f ⟨xQ⟩⟩:E2).f f o)) fun q=>wq (dH c (.bool true) q) fun r=>wg (aM false r) (aP 0 j) fun s=>wG (aM false r) (aN · s) fun t=>wg (aM false r) (ib .eql t (.int .u8 (.ofNat 3))) fun u=>wg (aM false r) (.val u) fun v=>wg (wv v) (aP 3 j) fun x=>wG (wv v) (aN · x) fun y=>wx (wv v) (O (.f 51) [y]) fun z=>wg (wv v) ((kE .not).f z) fun A=>wg (aM false r) (dH v A (.bool false)) fun B=>wq (dH r (.bool true) B) fun C=>z0l O b g i l C
def q49:=(cK qmh).1
theorem qth:q49=qmh:=(cK qmh).2
def qmg:=wF 0 j fun a=>wq (ib .leq a (.int .u8 (.ofNat 3))) fun c=>wd c (wI i fun d=>q49 O b g d j i k) (q49 O b g i j (.int .i64 (.negSucc 0)) k)
def zhp:=(cK qmg).1
theorem qtg:zhp=qmg:=(cK qmg).2
def qmf:=wq (aG 6 j k) fun a=>wA 6 a fun c=>wN [.int .u8 (.ofNat 0),.str 0 0,.str 0 0,.aA,.aA,iN 0] fun d=>wT 6 d c <| zhp O b g i d k
def zho:=(cK qmf).1
theorem qtf:zho=qmf:=(cK qmf).2
def zhq:=wq (ib .lss B j) fun a=>wd a (zho O b y A i B) (d)
def qz8:=oL (zhq O b d i j)
def zhr:=qz8 O b d i j dN
def qme:=wq (aD i) fun a=>zhr O .ok (q0c O) i a (iN 0) (iN 0)
def zhn:=(cK qme).1
theorem qte:zhn=qme:=(cK qme).2
def qmd:=wd j (.ok (iN 5)) (zhn O i)
def zhm:=(cK qmd).1
theorem qtd:zhm=qmd:=(cK qmd).2
def qmc:=wA 4 k fun a=>wA 4 j fun b=>wc O 50 [a,b] fun c=>wq ((kE .not).f c) fun d=>zhm O i d
def zhl:=(cK qmc).1
theorem qtc:zhl=qmc:=(cK qmc).2
def qmb:=wA 4 j fun a=>wc O 36 [a] fun b=>wq (aW 0 b) fun c=>wq (aW 1 b) fun d=>wN [.int .u8 (.ofNat 0),.str 0 0,.str 0 0,.aA] fun e=>wT 4 e c <| zhl O i j e
def zhk:=(cK qmb).1
theorem qtb:zhk=qmb:=(cK qmb).2
def qma:=wd k (.ok (iN 5)) (zhk O i j)
def zhj:=(cK qma).1
theorem qta:zhj=qma:=(cK qma).2
def ql9:=wq ((kE .not).f l) fun a=>wg (aM false a) (.val k) fun b=>wg (aM false a) (.val i) fun c=>wg (aM false a) (aD c) fun d=>wg (aM false a) (ib .neq b d) fun e=>wq (dH a (.bool true) e) fun f=>wG (aM false f) (dB 4 · j) fun g=>wx (aM false f) (O (.f 49) [g]) fun h=>wg (aM false f) (ib .neq h (iN 0)) fun m=>wq (dH f (.bool true) m) fun n=>zhj O i j n
def zhi:=(cK ql9).1
theorem qs9:zhi=ql9:=(cK ql9).2
def xbb:=wc O 48 [i,(iN 0)] fun a=>wq (aW 0 a) fun b=>wq (aW 1 a) fun c=>wq (aW 2 a) fun d=>wN [.int .u8 (.ofNat 0),.str 0 0,.str 0 0,.aA] fun e=>wT 4 e b <| zhi O i e c d
def zHc:=xbb O i
def z0k:=wc O 48 [i,(iN 0)] fun a=>wq (aW 0 a) fun b=>wq (aW 1 a) fun c=>wq (aW 2 a) fun d=>wN [.int .u8 (.ofNat 0),.str 0 0,.str 0 0,.aA] fun e=>wT 4 e b <| wA 4 e fun f=>wT 4 j f <| fun H=>cO (eT (d9 (rV (dB 4 H j)) (d9 (some (iN 0)) (some [])))) H
def z4q:=wN [.int .u8 (.ofNat 0),.str 0 0,.str 0 0,.aA] fun a=>wc O 16 [i] fun b=>wq (ib .neq b (iN 0)) fun c=>wd c (wq (bY (cB [.int .u8 (.ofNat 0),.str 0 0,.str 0 0,.aA] [])) fun d=>wT 4 a d <| fun H=>cO (eT (d9 (rV (dB 4 H a)) (d9 (some b) (some [])))) H) (z0k O i a)
def zHd:=z4q O i
def zbb(O:Ev.Call)(a:AV):=wq (bY (cB [.str 0 0,.aA,.int .u8 (.ofNat 0),.str 0 0,.str 0 0,.aA] [])) fun b=>wT 6 a b <| fun H=>cO (eT (d9 (rV (dB 6 H a)) (d9 (some (.bool false)) (some [])))) H
def z11(O:Ev.Call)(a:pH)(b:AV):=wI b a
def zlw:=wF 0 j fun a=>wq (aG 2 a l) fun d=>wF 1 d fun e=>wq (aG 6 e m) fun f=>wF 0 f fun g=>wq (gN (nC .eql).f g i) fun h=>wd h (wF 0 j fun n=>wq (aG 2 n l) fun o=>wF 1 o fun q=>wq (aG 6 q m) fun r=>wA 6 r fun s=>wT 6 k s <| b (.bool true)) (z11 O c m)
def q00:=wq (ib .geq l (iN 0)) fun a=>wg (wv a) (.val A) fun c=>wg (wv a) (aP 0 j) fun e=>wG (wv a) (aN · e) fun f=>wg (wv a) (.val l) fun g=>wg (wv a) (aG 2 f g) fun h=>wg (wv a) (aP 1 h) fun m=>wG (wv a) (aN · m) fun n=>wg (wv a) (aD n) fun o=>wg (wv a) (ib .lss c o) fun q=>wq (dH a q (.bool false)) fun r=>wd r (zlw O b x i j k l A) (d)
def q0y:=gG (q00 O b d i j k l)
def z13:=q0y O b d i j k l dN
def z7a:=wB 1 i fun a=>wN [.str 0 0,.aA,.int .u8 (.ofNat 0),.str 0 0,.str 0 0,.aA] fun b=>wA 1 a fun c=>wc O 52 [c,j] fun d=>fun H=>z13 O (fun e H=>cO (eT (d9 (rV (dB 6 H b)) (d9 (some e) (some [])))) H) (zbb O b) k a b d (iN 0) H
def zAy:=z7a O i j k
def qwl(O:Ev.Call)(a b:AV):=wA 4 b fun c=>wT 4 a c <| fun H=>cO (rV (dB 4 H a)) H
def qoq(O:Ev.Call)(a:pH)(b:AV):=wI b a
def q47:=wF 3 i fun a=>wq (aG 4 a k) fun c=>wA 4 c fun d=>wc O 20 [d] fun e=>wN [.int .u8 (.ofNat 0),.str 0 0,.str 0 0,.aA] fun f=>wT 4 f e <| wF 0 i fun g=>wq (ib .eql g (.int .u8 (.ofNat 4))) fun h=>wg (aM false h) (aP 0 i) fun l=>wG (aM false h) (aN · l) fun m=>wg (aM false h) (ib .eql m (.int .u8 (.ofNat 5))) fun n=>wq (dH h (.bool true) n) fun o=>wg (wv o) (aP 0 f) fun q=>wG (wv o) (aN · q) fun r=>wg (wv o) (aP 0 i) fun s=>wG (wv o) (aN · s) fun t=>wg (wv o) (ib .eql r t) fun u=>wq (dH o u (.bool false)) fun v=>wd v (wF 3 j fun x=>wF 3 f fun y=>wP 4 64 x y fun z=>wq (aP 3 j) fun A=>wU A z <| qoq O b k) (wF 3 j fun B=>wA 4 f fun C=>wQ 1 (cB (aZ [.int .u8 (.ofNat 0),.str 0 0,.str 0 0,.aA] 1) [(0,4,C)]) fun D=>wP 4 64 B D fun E=>wq (aP 3 j) fun F=>wU F E <| qoq O b k)
def qor:=wF 3 i fun a=>wq (aD a) fun b=>wq (ib .lss A b) fun c=>wd c (q47 O x i j A) (d)
def qfk:=gG (qor O d i j)
def q48:=qfk O d i j dN
def z4p:=wB 4 i fun a=>wN [.int .u8 (.ofNat 0),.str 0 0,.str 0 0,.aA] fun b=>wF 0 a fun c=>wF 1 a fun d=>wF 2 a fun e=>wq (bY (cB [.int .u8 (.ofNat 0),.str 0 0,.str 0 0,.aA] [(0,1,c),(1,1,d),(2,1,e)])) fun f=>wN [.int .u8 (.ofNat 0),.str 0 0,.str 0 0,.aA] fun g=>wT 4 g f <| q48 O (qwl O b g) a g (iN 0)
def zHe:=z4p O i
def q9k(O:Ev.Call):pL:=.ok (.bool true)
def zhg(O:Ev.Call)(a:pH)(b:AV):=wI b a
def q46:=wz 0 fun a=>wn 0 0 a (aP 3 i) fun d=>wo 1 1 a (aN · d) fun e=>wn 2 0 a (.val k) fun f=>wn 3 7 a (aG 4 e f) fun g=>wo 4 15 a (dB 4 · g) fun h=>wn 5 0 a (aP 3 j) fun l=>wo 6 32 a (aN · l) fun m=>wn 7 0 a (.val k) fun n=>wn 8 224 a (aG 4 m n) fun o=>wo 9 480 a (dB 4 · o) fun q=>wu 1023 (O (.f 19) [h,q]) fun r=>wn 11 2047 a ((kE .not).f r) fun s=>wy <| wd s (b (.bool false)) (zhg O c k)
def qz7:=wF 3 i fun a=>wq (aD a) fun c=>wq (ib .lss A c) fun e=>wd e (q46 O b x i j A) (d)
def qop:=gG (qz7 O b d i j)
def zhh:=qop O b d i j dN
def q45:=zhh O .ok (q9k O) i j (iN 0)
def z4o:=wB 4 i fun a=>wB 4 j fun b=>wF 0 a fun c=>wF 0 b fun d=>wq (ib .neq c d) fun e=>wg (aM false e) (aP 1 a) fun f=>wG (aM false e) (aN · f) fun g=>wg (aM false e) (aP 1 b) fun h=>wG (aM false e) (aN · h) fun k=>wg (aM false e) (gN (nC .neq).f g k) fun l=>wq (dH e (.bool true) l) fun m=>wg (aM false m) (aP 2 a) fun n=>wG (aM false m) (aN · n) fun o=>wg (aM false m) (aP 2 b) fun q=>wG (aM false m) (aN · q) fun r=>wg (aM false m) (gN (nC .neq).f o r) fun s=>wq (dH m (.bool true) s) fun t=>wg (aM false t) (aP 3 a) fun u=>wG (aM false t) (aN · u) fun v=>wg (aM false t) (aD v) fun x=>wg (aM false t) (aP 3 b) fun y=>wG (aM false t) (aN · y) fun z=>wg (aM false t) (aD z) fun A=>wg (aM false t) (ib .neq x A) fun B=>wq (dH t (.bool true) B) fun C=>wd C (.ok (.bool false)) (q45 O a b)
def zHf:=z4o O i j
def zmo(O:Ev.Call):pL:=.ok (.int .i64 (.negSucc 0))
def zmn(O:Ev.Call)(a:pH)(b:AV):=wI b a
def zmp:=wq (aG 2 k l) fun a=>wF 0 a fun d=>wq (gN (nC .eql).f d i) fun e=>wg (wv e) (.val k) fun f=>wg (wv e) (.val l) fun g=>wg (wv e) (aG 2 f g) fun h=>wg (wv e) (aP 1 h) fun m=>wG (wv e) (aN · m) fun n=>wg (wv e) (.val j) fun o=>wg (wv e) (gN (nC .eql).f n o) fun q=>wq (dH e q (.bool false)) fun r=>wd r (b l) (zmn O c l)
def zmq:=wq (aD k) fun a=>wq (ib .lss A a) fun c=>wd c (zmp O b x i j k A) (d)
def q02:=gG (zmq O b d i j k)
def z19:=q02 O b d i j k dN
def z7m:=wB 1 i fun a=>wA 1 a fun b=>wc O 7 [b] fun c=>z19 O .ok (zmo O) j k c (iN 0)
def zAm:=z7m O i j k
def z7l(O:Ev.Call)(a:AV):=wB 1 a fun b=>wF 0 b fun c=>wq (aD c) fun d=>wq (qO oO d [(iN 12)]) fun e=>.ok e
def zAn:=z7l O i
def z7k(O:Ev.Call)(a:AV):=wQ 3 (cB (aZ [.str 0 0] 3) [(0,1,(.str 1 97)),(1,1,(.str 1 98)),(2,1,(.str 1 99))]) fun b=>wq (ib .rem a (iN 3)) fun c=>wq (aG 1 b c) fun d=>w1 d fun e=>.ok e
def zAo:=z7k O i
def qhm:=wA 1 m fun a=>wI k fun b=>wc O 30 [a,i,j,b,l] fun c=>wq (aW 0 c) fun d=>wq (aW 1 c) fun e=>wN [.int .u8 (.ofNat 0),.str 0 0,.str 0 0,.aA] fun f=>wT 4 f d <| wA 1 m fun g=>wI k fun h=>wg (aM false l) (.val o) fun q=>wg (aM false l) (ib .eql q (.int .u8 (.ofNat 6))) fun r=>wq (dH l (.bool true) r) fun s=>wc O 30 [g,i,e,h,s] fun t=>wq (aW 0 t) fun u=>wq (aW 1 t) fun v=>wN [.int .u8 (.ofNat 0),.str 0 0,.str 0 0,.aA] fun x=>wT 4 x u <| wA 4 f fun y=>wA 4 x fun z=>wQ 2 (cB (aZ [.int .u8 (.ofNat 0),.str 0 0,.str 0 0,.aA] 2) [(0,4,y),(4,4,z)]) fun A=>wq (bY (cB [.int .u8 (.ofNat 0),.str 0 0,.str 0 0,.aA] [(0,1,o),(3,1,A)])) fun B=>wT 4 n B <| fun H=>cO (eT (d9 (rV (dB 4 H n)) (d9 (some v) (some [])))) H
def qev:=wd s (wA 1 m fun a=>wq (ib .quo o (.int .u8 (.ofNat 8))) fun b=>wc O 68 [a,i,b,l] fun c=>wT 4 n c <| fun H=>cO (eT (d9 (rV (dB 4 H n)) (d9 (some j) (some [])))) H) (wq (ib .eql r (.int .u8 (.ofNat 4))) fun d=>wd d (wA 1 m fun e=>wq (ib .quo o (.int .u8 (.ofNat 8))) fun f=>wc O 69 [e,i,f,l] fun g=>wT 4 n g <| fun H=>cO (eT (d9 (rV (dB 4 H n)) (d9 (some j) (some [])))) H) (wq (ib .eql r (.int .u8 (.ofNat 6))) fun h=>wd h (qhm O i j k l m n (.int .u8 (.ofNat 5))) (wq (ib .eql r (.int .u8 (.ofNat 7))) fun t=>wd t (wc O 70 [i] fun u=>wq (ib .gtr u (iN 0)) fun v=>wd v (qhm O i j k l m n (.int .u8 (.ofNat 6))) (qhm O i j k l m n q)) (qhm O i j k l m n q))))
def qdp:=wd s (wc O 67 [l] fun a=>wT 4 n a <| fun H=>cO (eT (d9 (rV (dB 4 H n)) (d9 (some j) (some [])))) H) (wq (ib .eql r (.int .u8 (.ofNat 2))) fun b=>wd b (qev O i j k l m n o q r b) (wq (ib .eql r (.int .u8 (.ofNat 3))) fun c=>qev O i j k l m n o q r c))
def zmm:=wF 0 m fun a=>wq (aG 1 a i) fun b=>w1 b fun c=>wq (aG 1 c j) fun d=>w1 d fun e=>wI j fun f=>wq (ib .rem e (.int .u8 (.ofNat 8))) fun g=>wq (ib .eql g (.int .u8 (.ofNat 0))) fun h=>wd h (qdp O i f k l m n e (.int .u8 (.ofNat 4)) g h) (wq (ib .eql g (.int .u8 (.ofNat 1))) fun o=>qdp O i f k l m n e (.int .u8 (.ofNat 4)) g o)
def zwm:=wB 1 i fun a=>wN [.int .u8 (.ofNat 0),.str 0 0,.str 0 0,.aA] fun b=>wF 0 a fun c=>wq (aG 1 c j) fun d=>w1 d fun e=>wq (aD e) fun f=>wq (ib .geq k f) fun g=>wg (aM false g) (.val k) fun h=>wg (aM false g) (ib .geq h (iN 12)) fun n=>wq (dH g (.bool true) n) fun o=>wg (aM false o) (.val l) fun q=>wg (aM false o) (ib .gtr q (iN 6)) fun r=>wq (dH o (.bool true) r) fun s=>wd s (wc O 67 [m] fun t=>wT 4 b t <| fun H=>cO (eT (d9 (rV (dB 4 H b)) (d9 (some k) (some [])))) H) (zmm O j k l m a b)
def zAp:=zwm O i j k l m
def z7j(O:Ev.Call)(a:AV):=wQ 4 (cB (aZ [.str 0 0] 4) [(0,1,(.str 2 12402)),(1,1,(.str 2 12658)),(2,1,(.str 2 12914)),(3,1,(.str 2 13170))]) fun b=>wq (ib .rem a (iN 4)) fun c=>wq (aG 1 b c) fun d=>w1 d fun e=>.ok e
def zAq:=z7j O i
def z18(O:Ev.Call)(a:AV):pL:=.ok a
def q7c:=wA 1 j fun a=>wc O 71 [a,i,(iN 1)] fun b=>wq (ib .quo b (.int .u8 (.ofNat 2))) fun c=>wq (q80 .i64 c) fun d=>wq (aD l) fun e=>wq (ib .rem d e) fun f=>wq (aG 2 l f) fun g=>wA 2 g fun h=>wQ 1 (cB (aZ [.str 0 0,.str 0 0] 1) [(0,2,h)]) fun m=>wP 2 32 k m fun n=>z18 O n
def qyc(O:Ev.Call)(a:AV->pH)(b c:AV):=wI c fun d=>a b d
def z7h:=wc O 70 [k] fun b=>wc O 70 [i] fun c=>wq (ib .leq b c) fun d=>wd d (wq (ib .quo k (iN 4)) fun e=>wc O 29 [e] fun f=>wc O 31 [k] fun g=>wq (bY (cB [.str 0 0,.str 0 0] [(0,1,f),(1,1,g)])) fun h=>wQ 1 (cB (aZ [.str 0 0,.str 0 0] 1) [(0,2,h)]) fun l=>wP 2 32 j l fun m=>qyc O a m k) (qyc O a j k)
def q7e:=wA 1 j fun a=>wc O 28 [a] fun c=>wq (ib .lss B c) fun d=>wd d (z7h O y i A B) (b A)
def qx9:=oL (q7e O b i j)
def zml:=qx9 O b i j dN
def qyb:=wA 1 j fun a=>wc O 71 [a,i,(iN 1)] fun b=>wq (ib .rem b (.int .u8 (.ofNat 2))) fun c=>wq (ib .eql c (.int .u8 (.ofNat 1))) fun d=>wd d (zml O (q7c O i j k) i j (.aA) (iN 0)) (z18 O k)
def qya(O:Ev.Call)(a:AV->pH)(b c:AV):=wI c fun d=>a b d
def zmj:=wA 1 j fun b=>wc O 71 [b,i,(iN 0)] fun c=>wq (q1x (qjt .shr).f c l) fun d=>wq (ib .rem d (.int .u8 (.ofNat 2))) fun e=>wq (ib .eql e (.int .u8 (.ofNat 1))) fun f=>wd f (wc O 29 [l] fun g=>wq (bY (cB [.str 0 0,.str 0 0] [(0,1,g)])) fun h=>wQ 1 (cB (aZ [.str 0 0,.str 0 0] 1) [(0,2,h)]) fun m=>wP 2 32 k m fun n=>qya O a n l) (qya O a k l)
def q7d:=wq (ib .mul (iN 4) B) fun a=>wA 1 j fun c=>wc O 28 [c] fun d=>wq (ib .lss a d) fun e=>wg (wv e) (.val B) fun f=>wg (wv e) (ib .lss f (iN 3)) fun g=>wq (dH e g (.bool false)) fun h=>wd h (zmj O y i j A B) (b A)
def qx8:=oL (q7d O b i j)
def zmk:=qx8 O b i j dN
def z7i:=wB 1 i fun a=>wq (bY (cB [.str 0 0,.str 0 0] [(0,1,(.str 4 1919251317))])) fun b=>wQ 1 (cB (aZ [.str 0 0,.str 0 0] 1) [(0,2,b)]) fun c=>zmk O (qyb O j a) j a c (iN 0)
def zAr:=z7i O i j
def zmg(O:Ev.Call):pL:=.ok (.bool false)
def zmf(O:Ev.Call)(a:pH)(b:AV):=wI b a
def zmh:=wq (aG 5 k l) fun a=>wF 0 a fun d=>wq (ib .eql d i) fun e=>wg (wv e) (.val k) fun f=>wg (wv e) (.val l) fun g=>wg (wv e) (aG 5 f g) fun h=>wg (wv e) (aP 1 h) fun m=>wG (wv e) (aN · m) fun n=>wg (wv e) (.val j) fun o=>wg (wv e) (gN (nC .eql).f n o) fun q=>wq (dH e q (.bool false)) fun r=>wd r (b (.bool true)) (zmf O c l)
def zmi:=wq (aD k) fun a=>wq (ib .lss A a) fun c=>wd c (zmh O b x i j k A) (d)
def zbo:=gG (zmi O b d i j k)
def z16:=zbo O b d i j k dN
def z7g:=wB 4 i fun a=>wA 4 a fun b=>wc O 43 [(.aA),b,(.bool false)] fun c=>z16 O .ok (zmg O) j k c (iN 0)
def zAs:=z7g O i j k
def q7j(O:Ev.Call)(a b:AV):=wA 1 b fun c=>wT 1 a c <| fun H=>cO (eT (d9 (rV (dB 1 H a)) (d9 (some (iN 0)) (some [])))) H
def znh(O:Ev.Call)(a:pH)(b:AV):=wI b a
def zng:=wz 0 fun a=>wn 0 0 a (aP 0 k) fun c=>wo 1 1 a (aN · c) fun d=>wn 2 0 a (.val l) fun e=>wn 3 0 a (aP 0 k) fun f=>wo 4 8 a (aN · f) fun g=>wn 5 0 a (.val l) fun h=>wo 6 0 a (dB 1 · i) fun m=>wn 7 0 a (.val l) fun n=>wu 192 (O (.f 74) [m,n]) fun o=>wn 9 448 a (.val o) fun q=>wn 10 960 a (aW 0 q) fun r=>wn 11 960 a (aW 1 q) fun s=>wn 12 960 a (aW 2 q) fun t=>wn 13 1991 a (aG 3 d e) fun u=>wn 14 10183 a (aP 0 u) fun v=>wu 26567 (jN · v r) fun _=>wn 16 61439 a (aG 3 g h) fun x=>wn 17 126975 a (aP 1 x) fun y=>wu 258047 (jN · y s) fun _=>wy <| wz 0 fun z=>wn 0 0 z (aP 0 k) fun A=>wo 1 1 z (aN · A) fun B=>wn 2 0 z (.val l) fun C=>wn 3 7 z (aG 3 B C) fun D=>wn 4 0 z (.val j) fun E=>wn 5 0 z (.val l) fun F=>wn 6 48 z (aG 1 E F) fun G=>wo 7 112 z (aN · G) fun I=>wu 255 (O (.f 75) [D,I]) fun J=>wy <| znh O b l
def q7k:=wq (ib .lss A l) fun a=>wd a (zng O x i j k A) (d)
def qyh:=gG (q7k O d i j k l)
def zni:=qyh O d i j k l dN
def znf:=wq (aD k) fun a=>wh (fun H=>qer [.str 0 0,.str 0 0,iN 0] 40 H.nx a a) fun b=>wq (bY (cB [.aA] [(0,1,b)])) fun c=>wN [.aA] fun d=>wT 1 d c <| wF 0 d fun e=>wq (aD e) fun f=>zni O (q7j O j d) i k d f (iN 0)
def zne:=wA 2 k fun a=>wc O 73 [a] fun b=>wq (aW 0 b) fun c=>wq (aW 1 b) fun d=>wq (ib .neq d (iN 0)) fun e=>wd e (wq (bY (cB [.aA] [])) fun f=>wT 1 j f <| fun H=>cO (eT (d9 (rV (dB 1 H j)) (d9 (some d) (some [])))) H) (znf O i j c)
def z7s:=wB 1 i fun a=>wN [.aA] fun b=>wA 1 a fun c=>wc O 72 [c] fun d=>wq (aW 0 d) fun e=>wq (aW 1 d) fun f=>wN [iN 0,.aA] fun g=>wT 2 g e <| wq (ib .neq f (iN 0)) fun h=>wd h (wq (bY (cB [.aA] [])) fun j=>wT 1 b j <| fun H=>cO (eT (d9 (rV (dB 1 H b)) (d9 (some f) (some [])))) H) (zne O a b g)
def zAd:=z7s O i
def z2c(O:Ev.Call)(a:AV):pL:=.ok a
def z2a(O:Ev.Call)(a:AV->pH)(b c:AV):=wI c fun d=>a b d
def zmr:=wq (aG 3 j k) fun b=>wA 3 b fun c=>wN [.str 0 0,.str 0 0,iN 0] fun d=>wT 3 d c <| wF 2 d fun e=>wI e fun f=>wQ 2 (cB (aZ [iN 0] 2) [(0,1,i),(1,1,f)]) fun g=>wc O 76 [g] fun h=>z2a O a h k
def zms:=wq (ib .lss B j) fun a=>wd a (zmr O y A i B) (b A)
def zbp:=oL (zms O b i j)
def z2d:=zbp O b i j dN
def z7n:=wB 1 i fun a=>wF 0 a fun b=>wq (aD b) fun c=>z2d O (z2c O) b c (iN 0) (iN 0)
def zAj:=z7n O i
def zhf:=wA 4 i fun a=>wc O 77 [a] fun b=>wT 4 j b <| fun H=>cO (eT (d9 (rV (dB 4 H j)) (d9 (some (iN 0)) (some [])))) H
def z4n:=wB 4 i fun a=>wN [.int .u8 (.ofNat 0),.str 0 0,.str 0 0,.aA] fun b=>wA 4 a fun c=>wc O 49 [c] fun d=>wq (ib .neq d (iN 0)) fun e=>wd e (wq (bY (cB [.int .u8 (.ofNat 0),.str 0 0,.str 0 0,.aA] [])) fun f=>wT 4 b f <| fun H=>cO (eT (d9 (rV (dB 4 H b)) (d9 (some d) (some [])))) H) (zhf O a b)
def zHg:=z4n O i
def zmv(O:Ev.Call):pL:=.ok (.bB [(iN 0),(iN 6)])
def zmt(O:Ev.Call)(a:pH)(b:AV):=wI b a
def zmu:=wq (aG 3 k l) fun c=>wA 3 c fun d=>wN [.str 0 0,.str 0 0,iN 0] fun e=>wT 3 e d <| wF 0 e fun f=>wq (gN (nC .eql).f f i) fun g=>wg (wv g) (aP 1 e) fun h=>wG (wv g) (aN · h) fun m=>wg (wv g) (.val j) fun n=>wg (wv g) (gN (nC .eql).f m n) fun o=>wq (dH g o (.bool false)) fun q=>wd q (wF 2 e fun r=>a r (iN 0)) (zmt O b l)
def zmw:=wq (ib .lss A l) fun b=>wd b (zmu O a x i j k A) (d)
def q03:=gG (zmw O a d i j k l)
def z2e:=q03 O a d i j k l dN
def z7o:=wB 1 i fun a=>wF 0 a fun b=>wq (aD b) fun c=>fun H=>z2e O (fun d e H=>.ok (.bB [d,e]) H) (zmv O) j k b c (iN 0) H
def zAi:=z7o O i j k
def z0j(O:Ev.Call)(a:AV):=wQ 0 (cB (aZ [.str 0 0,.str 0 0] 0) []) fun b=>wP 2 32 b a fun c=>.ok c
def xba:=wq (jR false ((⟨E2.f ⟨qQ⟩⟩:E2).f i (.aA))) fun a=>wd a (.ok (.aA)) (z0j O i)
def zHh:=xba O i
def z4m:=wA 1 k fun a=>wF 0 l fun b=>wc O 41 [a,b,i,j] fun c=>wq (aW 0 c) fun d=>wq (aW 1 c) fun e=>.ok d
def zHi:=z4m O i j k l
def qs8(O:Ev.Call)(a:AV):pL:=.ok a
def qoo(O:Ev.Call)(a:AV->pH)(b c:AV):=wI c fun d=>a b d
def qkk:=wF 0 m fun b=>wq (ib .eql b (.int .u8 (.ofNat 3))) fun c=>wd c (wF 1 m fun d=>wF 2 m fun e=>we (uF O i [d,e]) fun f=>wq (aG 6 j l) fun g=>wq (aP 3 g) fun h=>wU h f <| qoo O a k n) (qoo O a k n)
def qwk:=wq (aG 5 l m) fun b=>wA 5 b fun c=>wN [.int .u8 (.ofNat 0),.str 0 0,.str 0 0,.aA,.bool false] fun d=>wT 5 d c <| wF 0 d fun e=>wF 1 d fun f=>wF 2 d fun g=>wF 3 d fun h=>wq (bY (cB [.int .u8 (.ofNat 0),.str 0 0,.str 0 0,.aA,.aA,iN 0] [(0,1,e),(1,1,f),(2,1,g),(4,1,h),(5,1,(.int .i64 (.negSucc 0)))])) fun n=>wq (aG 6 j m) fun o=>wT 6 o n <| wF 0 d fun q=>wq (ib .leq q (.int .u8 (.ofNat 3))) fun r=>wd r (wq (aG 6 j m) fun s=>wq (aP 5 s) fun t=>wU t k <| wI k fun u=>qkk O a i j u m d m) (qkk O a i j k m d m)
def zhd:=wq (ib .lss B l) fun a=>wd a (qwk O y i j A k B) (d)
def qz6:=oL (zhd O d i j k l)
def zhe:=qz6 O d i j k l dN
def z4l:=wB 4 i fun a=>wA 4 a fun b=>wc O 78 [b] fun c=>wq (aW 0 c) fun d=>wq (aW 1 c) fun e=>wq (aD d) fun f=>wh (fun H=>qer [.int .u8 (.ofNat 0),.str 0 0,.str 0 0,.aA,.aA,iN 0] 96 H.nx f f) fun g=>wq (aD d) fun h=>zhe O (qs8 O g) j g d h (iN 0) (iN 0)
def zHj:=z4l O i j
def z7b(O:Ev.Call)(a:AV):=wN [iN 0,.aA] fun b=>wq (ib .mul a a) fun c=>wh (fun H=>qer [iN 0] 8 H.nx c c) fun d=>wq (bY (cB [iN 0,.aA] [(0,1,a),(1,1,d)])) fun e=>wT 2 b e <| fun H=>cO (rV (dB 2 H b)) H
def zAx:=z7b O i
def qqe(O:Ev.Call)(a b c:AV):=wq (aG 5 a b) fun d=>wq (aP 3 d) fun e=>wU e c <| .ok a
def qhk(O:Ev.Call)(a:AV->AV->pH)(b c d:AV):=wI d fun e=>a b c e
def qxx:=wq (aD i) fun a=>wQ 1 (cB (aZ [iN 0] 1) [(0,1,a)]) fun b=>wP 1 8 l b fun c=>wz 0 fun d=>wn 0 0 d (.val i) fun e=>wn 1 0 d (aP 3 k) fun f=>wo 2 2 d (aN · f) fun g=>wn 3 0 d (.val m) fun n=>wn 4 14 d (aG 4 g n) fun o=>wo 5 30 d (dB 4 · o) fun q=>wn 6 0 d (.val j) fun r=>wn 7 64 d (.val r) fun s=>wr 8 192 d (aP 0 k) (aM false s) fun t=>ws 9 448 d (aN · t) (aM false s) fun u=>wr 10 960 d (ib .eql u (.int .u8 (.ofNat 6))) (aM false s) fun v=>wr 11 1984 d (.val v) (aM false s) fun x=>wr 12 4032 d (.val m) (wv x) fun y=>wr 13 8128 d (ib .eql y (iN 1)) (wv x) fun z=>wr 14 16320 d (dH x z (.bool false)) (aM false s) fun A=>wn 15 32704 d (dH s (.bool true) A) fun B=>wu 65535 (O (.f 43) [e,q,B]) fun C=>wn 17 131071 d (.val C) fun D=>wy <| qhk O h D c m
def qec:=wF 3 j fun b=>wq (aD b) fun c=>wq (ib .lss C c) fun d=>wd d (qxx O z A i j B C) (a A B)
def qft:=lq3 (qec O a i j)
def qxy:=qft O a i j dN
def zlv:=wB 4 j fun a=>wq (aD i) fun b=>wF 0 a fun c=>wF 1 a fun d=>wF 2 a fun e=>wq (bY (cB [.int .u8 (.ofNat 0),.str 0 0,.str 0 0,.aA,.bool false] [(0,1,c),(1,1,d),(2,1,e),(4,1,k)])) fun f=>wQ 1 (cB (aZ [.int .u8 (.ofNat 0),.str 0 0,.str 0 0,.aA,.bool false] 1) [(0,5,f)]) fun g=>wP 5 72 i g fun h=>fun H=>qxy O (fun i l H=>qqe O i b l H) k a h (.aA) (iN 0) H
def zAz:=zlv O i j k
def qxw(O:Ev.Call)(a b c d:AV):=wF 1 c fun e=>wF 0 c fun f=>wq (ib .mul a f) fun g=>wq (ib .add g b) fun h=>wq (aG 1 e h) fun i=>w1 i fun j=>wq (ib .quo j d) fun k=>wq (ib .rem k (iN 2)) fun l=>wq (ib .eql l (iN 0)) fun m=>wd m (wF 1 c fun n=>wF 0 c fun o=>wq (ib .mul a o) fun q=>wq (ib .add q b) fun r=>wq (aG 1 n r) fun s=>w1 s fun t=>wq (ib .add t d) fun u=>wq (aG 1 n r) fun v=>wU v u <| .ok (.bB [])) (.ok (.bB []))
def z6z:=wB 2 i fun a=>wd l (qxw O j k a (iN 2)) (qxw O j k a (iN 1))
def zBa:=z6z O i j k l
def zlr(O:Ev.Call)(a:AV):pL:=.ok a
def qku(O:Ev.Call)(a:AV->pH)(b c:AV):=wI c fun d=>a b d
def qnj:=wz 15 fun b=>wo 0 0 b (dB 1 · j) fun c=>wn 1 0 b (aP 1 l) fun d=>wo 2 2 b (aN · d) fun e=>wn 3 0 b (.val m) fun f=>wn 4 14 b (aG 2 e f) fun g=>wn 5 30 b (aP 0 g) fun h=>wo 6 62 b (aN · h) fun n=>wn 7 0 b (.val i) fun o=>wa 12 0 b (.new (.ptr (b+12) 0) (aB 0 [.str 0 0,.aA,.int .u8 (.ofNat 0),.str 0 0,.str 0 0,.aA])) fun q=>wu 255 (O (.f 18) [c,n,o]) fun r=>wn 9 511 b (.val r) fun s=>wn 10 1023 b (aW 0 s) fun t=>wn 11 1023 b (aW 1 s) fun u=>wu 6143 (qdc 6 · q t) fun _=>wn 14 16383 b (.val u) fun v=>wy <| wF 1 l fun x=>wq (aG 2 x m) fun y=>wF 1 y fun z=>wq (gN (nC .eql).f z (.str 0 0)) fun A=>wg (wv A) (.val v) fun B=>wq (dH A B (.bool false)) fun C=>wd C (wF 1 l fun D=>wq (aG 2 D m) fun E=>wF 0 E fun F=>wQ 1 (cB (aZ [.str 0 0] 1) [(0,1,F)]) fun G=>wP 1 16 k G fun I=>qku O a I m) (qku O a k m)
def zls:=(cK qnj).1
theorem qul:zls=qnj:=(cK qnj).2
def zlt:=wF 1 k fun a=>wq (aD a) fun c=>wq (ib .lss B c) fun d=>wd d (zls O y i j A k B) (b A)
def qqd:=oL (zlt O b i j k)
def zlu:=qqd O b i j k dN
def z6y:=wB 1 i fun a=>wA 1 a fun b=>wc O 18 [b,j,k] fun c=>wq (aW 0 c) fun d=>wq (aW 1 c) fun e=>wN [.str 0 0,.aA,.int .u8 (.ofNat 0),.str 0 0,.str 0 0,.aA] fun f=>wT 6 f d <| zlu O (zlr O) l a f (.aA) (iN 0)
def zBb:=z6y O i j k l
def qwj(O:Ev.Call)(a b:AV):=wA 6 a fun c=>wT 6 b c <| fun H=>cO (rV (dB 6 H b)) H
def q42(O:Ev.Call)(a:pH)(b:AV):=wI b a
def q41:=wF 5 i fun a=>wq (aG 6 a j) fun c=>wz 0 fun d=>wn 0 0 d (.val c) fun e=>wn 1 0 d (.val c) fun f=>wn 2 0 d (.val c) fun g=>wn 3 4 d (aV g) fun h=>wn 4 12 d (aP 3 h) fun k=>wo 5 28 d (aN · k) fun l=>wn 8 0 d (.val c) fun m=>wn 9 256 d (aV m) fun n=>wn 10 768 d (aP 4 n) fun o=>wo 11 1792 d (aN · o) fun q=>wu 60 (O (.f 87) [l]) fun r=>wu 124 (O (.f 86) [r]) fun s=>wu 4092 (O (.f 89) [q]) fun t=>wu 8188 (O (.f 88) [t]) fun u=>wn 14 16381 d (aV e) fun v=>wn 15 32765 d (aP 3 v) fun x=>wu 65533 (jN · x s) fun _=>wn 17 131071 d (aV f) fun y=>wn 18 262143 d (aP 4 y) fun z=>wu 524287 (jN · z u) fun _=>wy <| q42 O b j
def q43:=wq (ib .lss A j) fun a=>wd a (q41 O x i A) (d)
def qkj:=gG (q43 O d i j)
def q44:=qkj O d i j dN
def z4k:=wB 6 i fun a=>wN [.str 0 0,.str 0 0,iN 0,iN 0,.aA,.aA] fun b=>wF 4 a fun c=>wc O 38 [c] fun d=>wc O 83 [d] fun e=>wq (aP 4 a) fun f=>wU f e <| wF 5 a fun g=>wc O 85 [g] fun h=>wc O 84 [h] fun j=>wq (aP 5 a) fun k=>wU k j <| wF 5 a fun l=>wq (aD l) fun m=>q44 O (qwj O a b) a m (iN 0)
def zHk:=z4k O i
def z4j:=wB 1 i fun a=>wA 1 a fun b=>wc O 9 [b] fun c=>wc O 8 [c] fun d=>wq (aW 0 d) fun e=>wq (aW 1 d) fun f=>wA 1 a fun g=>wc O 21 [g,j,k] fun h=>wq (aG 1 e h) fun l=>w1 l fun m=>.ok m
def zHl:=z4j O i j k
def zg9(O:Ev.Call):pL:=.ok (.bool true)
def zg8(O:Ev.Call)(a:pH)(b:AV):=wI b a
def zg7:=wl (aG 1 i k) fun a=>wL (aN · a) fun d=>wl (aG 1 j k) fun e=>wL (aN · e) fun f=>wl (ib .neq d f) fun g=>wd g (b (.bool false)) (zg8 O c k)
def zha:=wq (aD i) fun a=>wq (ib .lss A a) fun c=>wd c (zg7 O b x i j A) (d)
def qs7:=gG (zha O b d i j)
def zhb:=qs7 O b d i j dN
def q40:=zhb O .ok (zg9 O) i j (iN 0)
def z4i:=wq (aD i) fun a=>wq (aD j) fun b=>wq (ib .neq a b) fun c=>wg (aM false c) (.val i) fun d=>wg (aM false c) (dA d) fun e=>wg (aM false c) (.val i) fun f=>wg (aM false c) (aD f) fun g=>wg (aM false c) (ib .neq e g) fun h=>wq (dH c (.bool true) h) fun k=>wd k (.ok (.bool false)) (q40 O i j)
def zHm:=z4i O i j
def zg4(O:Ev.Call):pL:=.ok (.bool true)
def zg3(O:Ev.Call)(a:pH)(b:AV):=wI b a
def zg2:=wl (aG 1 i k) fun a=>wL (aN · a) fun d=>wl (aG 1 j k) fun e=>wL (aN · e) fun f=>wl (gN (nC .neq).f d f) fun g=>wd g (b (.bool false)) (zg3 O c k)
def zg5:=wq (aD i) fun a=>wq (ib .lss A a) fun c=>wd c (zg2 O b x i j A) (d)
def qs6:=gG (zg5 O b d i j)
def zg6:=qs6 O b d i j dN
def q4y:=zg6 O .ok (zg4 O) i j (iN 0)
def z4h:=wq (aD i) fun a=>wq (aD j) fun b=>wq (ib .neq a b) fun c=>wg (aM false c) (.val i) fun d=>wg (aM false c) (dA d) fun e=>wg (aM false c) (.val i) fun f=>wg (aM false c) (aD f) fun g=>wg (aM false c) (ib .neq e g) fun h=>wq (dH c (.bool true) h) fun k=>wd k (.ok (.bool false)) (q4y O i j)
def zHn:=z4h O i j
def qki:=wF 3 i fun a=>wc O 90 [a] fun b=>wq (aP 3 i) fun c=>wU c b <| wA 4 i fun d=>wT 4 i d <| fun H=>cO (eT (d9 (rV (dB 4 H i)) (d9 (some j) (d9 (some (.bool true)) (some []))))) H
def q4w(O:Ev.Call)(a:AV->pH)(b c:AV):=wI c fun d=>a b d
def q4v:=wF 3 i fun b=>wA 4 k fun c=>wQ 1 (cB (aZ [.int .u8 (.ofNat 0),.str 0 0,.str 0 0,.aA] 1) [(0,4,c)]) fun d=>wP 4 64 b d fun e=>wq (aP 3 i) fun f=>wU f e <| q4w O a j l
def q4u:=wN [.int .u8 (.ofNat 0),.str 0 0,.str 0 0,.aA] fun b=>wc O 48 [i,k] fun c=>wq (aW 0 c) fun d=>wq (aW 1 c) fun e=>wq (aW 2 c) fun f=>wT 4 b d <| wq ((kE .not).f f) fun h=>wd h (wA 4 j fun m=>wT 4 j m <| a e (.bool false)) (q4v O g j e b l)
def q4t:=wq (aG 1 l m) fun b=>w1 b fun c=>wq (ib .neq c k) fun d=>wd d (wA 4 j fun e=>wT 4 j e <| a k (.bool false)) (q4u O a g i j c m)
def qon:=wq (ib .lss B l) fun c=>wd c (q4t O a y i j A k B) (b A)
def qkh:=oL (qon O a b i j k l)
def q4x:=qkh O a b i j k l dN
def q4s:=wq (aG 6 i j) fun a=>wA 6 a fun b=>wN [.int .u8 (.ofNat 0),.str 0 0,.str 0 0,.aA,.aA,iN 0] fun c=>wT 6 c b <| wF 0 c fun d=>wF 1 c fun e=>wF 2 c fun f=>wq (bY (cB [.int .u8 (.ofNat 0),.str 0 0,.str 0 0,.aA] [(0,1,d),(1,1,e),(2,1,f)])) fun g=>wT 4 k g <| wI j fun h=>wF 4 c fun l=>wq (aD l) fun m=>fun H=>q4x O (fun n o H=>cO (eT (d9 (rV (dB 4 H k)) (d9 (some n) (d9 (some o) (some []))))) H) (qki O k) i k l m h (iN 0) H
def z4g:=wN [.int .u8 (.ofNat 0),.str 0 0,.str 0 0,.aA] fun a=>wq (aD i) fun b=>wq (ib .geq j b) fun c=>wg (aM false c) (.val i) fun d=>wg (aM false c) (aD d) fun e=>wg (aM false c) (ib .gtr e (iN 32)) fun f=>wq (dH c (.bool true) f) fun g=>wd g (wA 4 a fun h=>wT 4 a h <| fun H=>cO (eT (d9 (rV (dB 4 H a)) (d9 (some j) (d9 (some (.bool false)) (some []))))) H) (q4s O i j a)
def zHo:=z4g O i j
def zus:=wB 4 i fun a=>wc O 91 [a] fun b=>wq (aW 0 b) fun c=>wq (aW 1 b) fun d=>wq (aW 2 b) fun e=>.ok e
def zCx:=zus O i
def z4f:=wB 4 i fun a=>wB 4 j fun b=>wc O 91 [a] fun c=>wq (aW 0 c) fun d=>wq (aW 1 c) fun e=>wq (aW 2 c) fun f=>wc O 91 [b] fun g=>wq (aW 0 g) fun h=>wq (aW 1 g) fun k=>wq (aW 2 g) fun l=>wq (ib .eql f (iN 0)) fun m=>wg (wv m) (.val l) fun n=>wg (wv m) (ib .eql n (iN 0)) fun o=>wq (dH m o (.bool false)) fun q=>wg (wv q) (.val d) fun r=>wg (wv q) (.val h) fun s=>wx (wv q) (O (.f 92) [r,s,(.fn 93 [] [])]) fun t=>wq (dH q t (.bool false)) fun u=>.ok u
def zHp:=z4f O i j
def qs5(O:Ev.Call)(a:AV):=wq (aD a) fun b=>wq (ib .gtr b (iN 0)) fun c=>.ok c
def zgz(O:Ev.Call)(a:pH)(b:AV):=wI b a
def q4q:=wq (aG 1 j k) fun a=>w1 a fun d=>wq (bY (cB [.int .u8 (.ofNat 0),.str 0 0,.str 0 0,.aA] [(0,1,(.int .u8 (.ofNat 2))),(1,1,d)])) fun e=>wc O 49 [e] fun f=>wq (ib .neq f (iN 0)) fun g=>wg (aM false g) (.val i) fun h=>wg (aM false g) (.val k) fun l=>wg (aM false g) (lC 1 h none (some l) none) fun m=>wg (aM false g) (.val d) fun n=>wx (aM false g) (O (.f 94) [m,n]) fun o=>wq (dH g (.bool true) o) fun q=>wd q (b (.bool false)) (zgz O c k)
def zg0:=wq (ib .lss A k) fun a=>wd a (q4q O b x i j A) (d)
def qz4:=gG (zg0 O b d i j k)
def zg1:=qz4 O b d i j k dN
def z4e:=wq (aD i) fun a=>zg1 O .ok (qs5 O i) i i a (iN 0)
def zHq:=z4e O i
def zkx(O:Ev.Call):pL:=.ok (.int .i64 (.negSucc 0))
def z1r(O:Ev.Call)(a:pH)(b:AV):=wI b a
def zkw:=wF 0 j fun a=>wq (aG 2 a k) fun d=>wF 0 d fun e=>wq (gN (nC .eql).f e i) fun f=>wd f (b k) (z1r O c k)
def zky:=wF 0 j fun a=>wq (aD a) fun c=>wq (ib .lss A c) fun e=>wd e (zkw O b x i j A) (d)
def za8:=gG (zky O b d i j)
def z1s:=za8 O b d i j dN
def z6j:=wB 1 i fun a=>z1s O .ok (zkx O) j a (iN 0)
def zBs:=z6j O i j
def z1w(O:Ev.Call)(a:AV):=wq (bY (cB [.int .u8 (.ofNat 0),.str 0 0,.str 0 0,.aA] [(0,1,(.int .u8 (.ofNat 1)))])) fun b=>wT 4 a b <| fun H=>cO (rV (dB 4 H a)) H
def z6w:=wN [.int .u8 (.ofNat 0),.str 0 0,.str 0 0,.aA] fun a=>wd i (wq (bY (cB [.int .u8 (.ofNat 0),.str 0 0,.str 0 0,.aA] [(0,1,(.int .u8 (.ofNat 2))),(1,1,(.str 2 12402))])) fun b=>wT 4 a b <| fun H=>cO (rV (dB 4 H a)) H) (z1w O a)
def zBe:=z6w O i
def zlo(O:Ev.Call)(a b c:AV):=wq (q80 .i64 a) fun d=>wq (aD c) fun e=>wq (ib .rem d e) fun f=>wq (aG 1 c f) fun g=>w1 g fun h=>wq (bY (cB [.int .u8 (.ofNat 0),.str 0 0,.str 0 0,.aA] [(0,1,(.int .u8 (.ofNat 2))),(1,1,h)])) fun i=>wT 4 b i <| fun H=>cO (rV (dB 4 H b)) H
def qxv(O:Ev.Call)(a:AV->pH)(b c:AV):=wI c fun d=>a b d
def z6u:=wc O 103 [i,l,j] fun b=>wd b (wc O 31 [l] fun c=>wQ 1 (cB (aZ [.str 0 0] 1) [(0,1,c)]) fun d=>wP 1 16 k d fun e=>qxv O a e l) (qxv O a k l)
def q60:=wA 1 k fun a=>wc O 28 [a] fun c=>wq (ib .lss B c) fun d=>wg (wv d) (.val B) fun e=>wg (wv d) (.val i) fun f=>wg (wv d) (ib .quo f (iN 4)) fun g=>wg (wv d) (ib .mul g (iN 4)) fun h=>wg (wv d) (ib .add h (iN 4)) fun l=>wg (wv d) (ib .lss e l) fun m=>wq (dH d m (.bool false)) fun n=>wd n (z6u O y i j A B) (b A)
def qxu:=oL (q60 O b i j k)
def zlp:=qxu O b i j k dN
def z6v:=wB 1 i fun a=>wN [.int .u8 (.ofNat 0),.str 0 0,.str 0 0,.aA] fun b=>wq (ib .quo j (iN 4)) fun c=>wq (ib .mul c (iN 4)) fun d=>zlp O (zlo O k b) j l a (.aA) d
def zBf:=z6v O i j k l
def z1u(O:Ev.Call)(a b c:AV):=wq (q80 .i64 a) fun d=>wq (aD c) fun e=>wq (ib .rem d e) fun f=>wq (aG 4 c f) fun g=>wA 4 g fun h=>wT 4 b h <| fun H=>cO (rV (dB 4 H b)) H
def qxt:=wq (aD l) fun a=>wq (ib .eql a (iN 0)) fun b=>wd b (wc O 67 [j] fun c=>wT 4 k c <| fun H=>cO (rV (dB 4 H k)) H) (z1u O i k l)
def q6v(O:Ev.Call)(a:AV->pH)(b c:AV):=wI c fun d=>a b d
def q6u(O:Ev.Call)(a:AV->pH)(b c:AV):=wI c fun d=>a b d
def qkt(O:Ev.Call)(a:AV->pH)(b c:AV):=wI c fun d=>a b d
def zlk:=wz 0 fun b=>wn 0 0 b (.val m) fun c=>wn 1 0 b (.val n) fun d=>wn 2 3 b (aG 2 c d) fun e=>wn 3 7 b (aP 1 e) fun f=>wo 4 15 b (aN · f) fun g=>wn 5 31 b (gN (nC .eql).f g (.str 0 0)) fun h=>wn 6 63 b (.val h) fun q=>wr 7 127 b (.val m) (wv q) fun r=>wr 8 127 b (.val n) (wv q) fun s=>wr 9 511 b (aG 2 r s) (wv q) fun t=>wr 10 1023 b (aP 0 t) (wv q) fun u=>ws 11 2047 b (aN · u) (wv q) fun v=>wr 12 127 b (.val o) (wv q) fun x=>wr 13 4223 b (ib .quo x (iN 4)) (wv q) fun y=>wt 12415 (O (.f 29) [y]) (wv q) fun z=>wr 15 32767 b (gN (nC .eql).f v z) (wv q) fun A=>wn 16 65535 b (dH q A (.bool false)) fun B=>wn 17 131071 b (.val B) fun C=>wr 18 262143 b (.val i) (wv C) fun D=>wr 19 262143 b (.val o) (wv C) fun E=>wr 20 262143 b (.val j) (wv C) fun F=>wt 2097151 (O (.f 103) [D,E,F]) (wv C) fun G=>wn 22 4194303 b (dH C G (.bool false)) fun I=>wy <| wd I (wc O 31 [l] fun J=>wc O 31 [o] fun K=>wq (bY (cB [.int .u8 (.ofNat 0),.str 0 0,.str 0 0,.aA] [(0,1,(.int .u8 (.ofNat 3))),(1,1,J),(2,1,K)])) fun L=>wQ 1 (cB (aZ [.int .u8 (.ofNat 0),.str 0 0,.str 0 0,.aA] 1) [(0,4,L)]) fun M=>wP 4 64 k M fun N=>qkt O a N o) (qkt O a k o)
def q6w:=wA 1 k fun a=>wc O 28 [a] fun c=>wq (ib .lss B c) fun d=>wd d (zlk O y i j A l m n B) (b A)
def qxs:=oL (q6w O b i j k l m n)
def zll:=qxs O b i j k l m n dN
def zlj(a:AV->pH)(b c d e f g h:AV)(H:Hp):R1:=zll O (fun e H=>q6u O a e h H) b c d f g h e (iN 0) H
def q6x:=wq (aD m) fun a=>wq (ib .lss B a) fun c=>wd c (zlj O y i j k A l m B) (b A)
def qqb:=oL (q6x O b i j k l m)
def zlm:=qqb O b i j k l m dN
def zli:=wA 1 k fun b=>wc O 32 [b,m] fun c=>fun H=>zlm O (fun l H=>q6v O a l m H) i j k m c l (iN 0) H
def q6y:=wA 1 k fun a=>wc O 28 [a] fun c=>wq (ib .lss B c) fun d=>wg (wv d) (.val B) fun e=>wg (wv d) (.val i) fun f=>wg (wv d) (ib .quo f (iN 4)) fun g=>wg (wv d) (ib .mul g (iN 4)) fun h=>wg (wv d) (ib .add h (iN 4)) fun l=>wg (wv d) (ib .lss e l) fun m=>wq (dH d m (.bool false)) fun n=>wd n (zli O y i j k A B) (b A)
def qqc:=oL (q6y O b i j k)
def zln:=qqc O b i j k dN
def z6t:=wB 1 i fun a=>wN [.int .u8 (.ofNat 0),.str 0 0,.str 0 0,.aA] fun b=>wq (ib .quo j (iN 4)) fun c=>wq (ib .mul c (iN 4)) fun d=>zln O (qxt O k l b) j l a (.aA) d
def zBg:=z6t O i j k l
def z6s(O:Ev.Call)(a:AV):=wQ 4 (cB (aZ [iN 0] 4) [(0,1,(iN 0)),(1,1,(iN 1)),(2,1,(iN 1)),(3,1,(iN 2))]) fun b=>wq (ib .rem a (iN 4)) fun c=>wq (aG 1 b c) fun d=>w1 d fun e=>.ok e
def zBh:=z6s O i
def xbq(O:Ev.Call):pL:=.ok (.int .u8 (.ofNat 0))
def z6r:=wB 1 i fun a=>wF 0 a fun b=>wq (aG 1 b j) fun c=>w1 c fun d=>wq (aD d) fun e=>wq (ib .lss k e) fun f=>wd f (wF 0 a fun g=>wq (aG 1 g j) fun h=>w1 h fun l=>wq (aG 1 l k) fun m=>w1 m fun n=>.ok n) (xbq O)
def zBi:=z6r O i j k
def qqi:=wF 1 j fun a=>wc O 105 [a] fun b=>wq (aP 1 j) fun c=>wU c b <| wA 2 j fun d=>wT 2 i d <| fun H=>cO (eT (d9 (rV (dB 2 H i)) (d9 (some (iN 0)) (some [])))) H
def qx4(O:Ev.Call)(a:pH)(b:AV):=wI b a
def q66(O:Ev.Call)(a:pH)(b:AV):=wI b a
def qhl(O:Ev.Call)(a:pH)(b:AV):=wI b a
def qx3(O:Ev.Call)(a:pH)(b:AV):=wI b a
def zl9:=wq (aG 2 j k) fun a=>wA 2 a fun c=>wN [.str 0 0,.str 0 0] fun d=>wT 2 d c <| wF 1 d fun e=>wq (gN (nC .neq).f e (.str 0 0)) fun f=>wd f (wF 0 d fun g=>wF 1 d fun h=>we (uF O i [g,h]) fun l=>qx3 O b k) (qx3 O b k)
def q68:=wq (ib .lss A k) fun a=>wd a (zl9 O x i j A) (d)
def qx2:=gG (q68 O d i j k)
def zmb:=qx2 O d i j k dN
def zl8(O:Ev.Call)(a:pH)(b:AV):=wI b a
def zbl:=wq (aG 1 k l) fun a=>w1 a fun c=>wF 2 i fun d=>we (uF O j [c,d]) fun e=>zl8 O b l
def q67:=wq (ib .lss A l) fun a=>wd a (zbl O x i j k A) (d)
def qx1:=gG (q67 O d i j k l)
def zma:=qx1 O d i j k l dN
def zbk:=wq (aG 5 n o) fun a=>wA 5 a fun c=>wN [.int .u8 (.ofNat 0),.str 0 0,.str 0 0,.aA,.bool false] fun d=>wT 5 d c <| wF 0 d fun e=>wq (ib .eql e (.int .u8 (.ofNat 1))) fun f=>wd f (wF 1 m fun g=>wq (aD g) fun h=>zmb O (qhl O b o) (.fn 104 [] [k,j,l,m,d]) g h (iN 0)) (wq (ib .eql e (.int .u8 (.ofNat 2))) fun q=>wd q (wF 0 l fun r=>wF 1 d fun s=>we (uF O (.fn 104 [] [k,j,l,m,d]) [r,s]) fun t=>qhl O b o) (wq (ib .eql e (.int .u8 (.ofNat 3))) fun u=>wd u (wA 1 i fun v=>wF 0 l fun x=>wF 1 d fun y=>wF 2 d fun z=>wc O 41 [v,x,y,z] fun A=>wq (aW 0 A) fun B=>wq (aW 1 A) fun C=>wq (aD B) fun D=>zma O (qhl O b o) d (.fn 104 [] [k,j,l,m,d]) B D (iN 0)) (qhl O b o)))
def q69:=wq (ib .lss A o) fun a=>wd a (zbk O x i j k l m n A) (d)
def qky:=gG (q69 O d i j k l m n o)
def zmc:=qky O d i j k l m n o dN
def zbj:=wq (aG 6 m n) fun a=>wA 6 a fun c=>wN [.str 0 0,.aA,.int .u8 (.ofNat 0),.str 0 0,.str 0 0,.aA] fun d=>wT 6 d c <| wq (aP 2 d) fun e=>wA 4 e fun f=>wc O 78 [f] fun g=>wq (aW 0 g) fun h=>wq (aW 1 g) fun o=>wq (aD h) fun q=>zmc O (q66 O b n) i j k l d h q (iN 0)
def q7a:=wq (ib .lss A n) fun a=>wd a (zbj O x i j k l m A) (d)
def qqh:=gG (q7a O d i j k l m n)
def zmd:=qqh O d i j k l m n dN
def zbi:=wq (aG 2 l m) fun a=>wA 2 a fun c=>wN [.str 0 0,.aA] fun d=>wT 2 d c <| wF 1 d fun e=>wq (aD e) fun f=>zmd O (qx4 O b m) i j k d e f (iN 0)
def q7b:=wq (ib .lss A m) fun a=>wd a (zbi O x i j k l A) (d)
def qkz:=gG (q7b O d i j k l m)
def zme:=qkz O d i j k l m dN
def qno:=w1 k fun a=>wh (aA5 · a) fun b=>wq (bY (cB [iN 0,.aA] [(0,1,b)])) fun c=>wN [iN 0,.aA] fun d=>wT 2 d c <| wF 0 i fun e=>wq (aD e) fun f=>zme O (qqi O j d) i k d e f (iN 0)
def qx5(O:Ev.Call)(a:pH)(b:AV):=wI b a
def zbh(O:Ev.Call)(a:pH)(b:AV):=wI b a
def zbg:=wq (aG 6 k l) fun a=>wA 6 a fun c=>wN [.str 0 0,.aA,.int .u8 (.ofNat 0),.str 0 0,.str 0 0,.aA] fun d=>wT 6 d c <| w1 i fun e=>wF 0 j fun f=>wF 0 d fun g=>wq (bY (cB [.str 0 0,.str 0 0] [(0,1,f),(1,1,g)])) fun h=>w1 i fun m=>wh (aA5 · m) fun n=>we (qK ⟨(⟨kU fun o q=>xH p1 ⟨iA⟩ 1 o q 2 0⟩:E2).f,some 2⟩ · e h n) fun _=>zbh O b l
def qx6:=wq (ib .lss A l) fun a=>wd a (zbg O x i j k A) (d)
def qnn:=gG (qx6 O d i j k l)
def zbm:=qnn O d i j k l dN
def zbf:=wq (aG 2 j k) fun a=>wA 2 a fun c=>wN [.str 0 0,.aA] fun d=>wT 2 d c <| wF 1 d fun e=>wq (aD e) fun f=>zbm O (qx5 O b k) i d e f (iN 0)
def qx7:=wq (ib .lss A k) fun a=>wd a (zbf O x i j A) (d)
def qjg:=gG (qx7 O d i j k)
def zbn:=qjg O d i j k dN
def zbe:=wh (fun H=>.new (.map H.nx) (.map [] 0)) fun a=>wN [.eP] fun b=>wU b a <| wF 0 i fun c=>wq (aD c) fun d=>zbn O (qno O i j b) b c d (iN 0)
def z7f:=wB 1 i fun a=>wN [iN 0,.aA] fun b=>wA 1 a fun c=>wc O 79 [c] fun d=>wq (ib .neq d (iN 0)) fun e=>wd e (wq (bY (cB [iN 0,.aA] [])) fun f=>wT 2 b f <| fun H=>cO (eT (d9 (rV (dB 2 H b)) (d9 (some d) (some [])))) H) (zbe O a b)
def zAt:=z7f O i
def zbc(O:Ev.Call)(a:AV):pL:=.ok (.bB [a,(iN 0)])
def q62(O:Ev.Call)(a:pH)(b:AV):=wI b a
def zl4(O:Ev.Call)(a:pH)(b:AV):=wI b a
def zl3:=wq (aG 1 k l) fun a=>w1 a fun c=>wc O 76 [j] fun d=>wq (aG 1 i c) fun e=>wU e d <| zl4 O b l
def q64:=wq (ib .lss A l) fun a=>wd a (zl3 O x i j k A) (d)
def qxz:=gG (q64 O d i j k l)
def zl7:=qxz O d i j k l dN
def qx0:=wq (aD j) fun a=>zl7 O (q62 O b l) i k j a (iN 0)
def qqf(O:Ev.Call)(a:AV->pH)(b c:AV):=wI c fun d=>a b d
def qnm:=wq (aG 3 m n) fun b=>wA 3 b fun c=>wN [iN 0,iN 0,.bool false] fun d=>wT 3 d c <| wF 1 i fun e=>wF 0 d fun f=>wq (aG 1 e f) fun g=>w1 g fun h=>wq (ib .eql h k) fun o=>wg (wv o) (aP 1 i) fun q=>wG (wv o) (aN · q) fun r=>wg (wv o) (aP 1 d) fun s=>wG (wv o) (aN · s) fun t=>wg (wv o) (aG 1 r t) fun u=>wG (wv o) (aN · u) fun v=>wg (wv o) (.val k) fun x=>wg (wv o) (ib .neq v x) fun y=>wq (dH o y (.bool false)) fun z=>wd z (fun H=>dz 12 H fun A H =>   dn 0 0 A H [] [] (.val l) fun B H p w =>   dn 1 0 A H p w (.val j) fun C H p w =>   dn 2 0 A H p w (aP 1 d) fun D H p w =>   dl 3 4 A H p w (fun H=>aN H D) fun E H p w =>   dn 4 14 A H p w (aG 1 C E) fun F H p w =>   dl 5 30 A H p w (fun H=>aN H F) fun G H p w =>   dl 6 0 A H p w (fun H=>dB 3 H d) fun I H p w =>   de 64 H p w (O (.f 108) [I] (fI 64 p H)) (some true) fun J H p w =>   dn 8 254 A H p w (ib .add G J) fun K H p w =>   da 9 510 A H p w (vT 1 (A+9) (cB (aZ [iN 0] 1) [(0,1,K)])) fun L H p w =>   de 1023 H p w (kJ 1 8 (fI 1023 p H) B (pJ 1 (fI 1023 p H) L)) (some true) fun M H p w =>   dn 11 2047 A H p w (.val M) fun N H p w =>   dz2 p H fun H =>   qqf O a N n H) (qqf O a l n)
def zl2:=(cK qnm).1
theorem qup:zl2=qnm:=(cK qnm).2
def q63:=wq (ib .lss B m) fun a=>wd a (zl2 O y i j k A l B) (b A)
def qkv:=oL (q63 O b i j k l m)
def zl6:=qkv O b i j k l m dN
def zl1:=wq (aG 1 l m) fun a=>w1 a fun c=>wF 1 i fun d=>wq (aD d) fun e=>fun H=>zl6 O (fun f H=>qx0 O b k c f m H) j k m d e (.aA) (iN 0) H
def qqg:=wq (ib .lss A m) fun a=>wd a (zl1 O x i j k l A) (d)
def qkw:=gG (qqg O d i j k l m)
def q65:=qkw O d i j k l m dN
def qjf:=wF 0 j fun a=>wq (aD a) fun b=>q65 O (zbc O k) i j k a b (iN 0)
def q61:=(cK qjf).1
theorem qkx:q61=qjf:=(cK qjf).2
def qnl:=wF 0 i fun a=>wq (ib .gtr a (iN 0)) fun b=>wd b (wF 0 i fun c=>wh (fun H=>qer [iN 0] 8 H.nx c c) fun d=>q61 O i j d) (q61 O i j (.aA))
def zl0:=(cK qnl).1
theorem qun:zl0=qnl:=(cK qnl).2
def qnk:=wA 2 i fun a=>wc O 107 [a] fun b=>wq (aW 0 b) fun c=>wq (aW 1 b) fun d=>wq (aD c) fun e=>wq (ib .gtr e (iN 0)) fun f=>wd f (.ok (.bB [(.aA),(iN 12)])) (zl0 O i j)
def zlz:=(cK qnk).1
theorem qum:zlz=qnk:=(cK qnk).2
def z7e:=wB 2 i fun a=>wA 2 a fun b=>wc O 106 [b] fun c=>wq (aW 0 c) fun d=>wq (aW 1 c) fun e=>wN [.aA,.aA] fun f=>wT 2 f d <| wq (ib .neq e (iN 0)) fun g=>wd g (.ok (.bB [(.aA),e])) (zlz O a f)
def zAu:=z7e O i
def zly(O:Ev.Call)(a b:AV):=wl (aV b) fun c=>wl (aP 4 c) fun d=>wL (aN · d) fun e=>wl (aG 1 e a) fun f=>wL (aN · f) fun g=>wl (aV b) fun h=>wl (aP 3 h) fun i=>wL (aN · i) fun j=>wl (aG 1 j a) fun k=>wL (aN · k) fun l=>wl (aV l) fun m=>wl (aP 0 m) fun n=>wL (aN · n) fun o=>.ok (.bB [g,o,(iN 0)])
def zlx:=wA 1 j fun a=>wc O 80 [a] fun b=>wq (ib .lss i (iN 0)) fun c=>wg (aM false c) (.val i) fun d=>wg (aM false c) (.val b) fun e=>wg (aM false c) (aV e) fun f=>wg (aM false c) (aP 3 f) fun g=>wG (aM false c) (aN · g) fun h=>wg (aM false c) (aD h) fun k=>wg (aM false c) (ib .geq d k) fun l=>wq (dH c (.bool true) l) fun m=>wd m (.ok (.bB [(.str 0 0),(.str 0 0),(iN 4)])) (zly O i b)
def z7d:=wB 1 i fun a=>wA 1 a fun b=>wc O 79 [b] fun c=>wq (ib .neq c (iN 0)) fun d=>wd d (.ok (.bB [(.str 0 0),(.str 0 0),c])) (zlx O j a)
def zAv:=z7d O i j
def z7c(O:Ev.Call)(a b:AV):=wq (aV a) fun c=>wq (aP 2 c) fun d=>wU d b <| .ok (.bB [])
def zAw:=z7c O i j
def z1z(O:Ev.Call)(a:AV):pL:=.ok a
def z1y(O:Ev.Call)(a:AV->pH)(b c:AV):=wI c fun d=>a b d
def z1x:=wq (aG 1 j k) fun b=>w1 b fun c=>wq (qO pZ i [c]) fun d=>z1y O a d k
def zlq:=wq (ib .lss B j) fun a=>wd a (z1x O y A i B) (b A)
def zba:=oL (zlq O b i j)
def z10:=zba O b i j dN
def z6x:=wq (aD i) fun a=>z10 O (z1z O) i a (iN 0) (iN 0)
def zBc:=z6x O i
def zgy:=wc O 90 [k] fun a=>wq (aP 3 i) fun b=>wU b a <| wA 4 i fun c=>wT 4 j c <| fun H=>cO (rV (dB 4 H j)) H
def qol(O:Ev.Call)(a:AV->pH)(b c:AV):=wI c fun d=>a b d
def q4o:=wq (aG 4 k l) fun b=>wA 4 b fun c=>wN [.int .u8 (.ofNat 0),.str 0 0,.str 0 0,.aA] fun d=>wT 4 d c <| wA 4 d fun e=>wc O 77 [e] fun f=>wT 4 d f <| wF 0 d fun g=>wF 0 i fun h=>wq (ib .eql g h) fun m=>wg (wv m) (aP 0 i) fun n=>wG (wv m) (aN · n) fun o=>wg (wv m) (ib .neq o (.int .u8 (.ofNat 6))) fun q=>wq (dH m q (.bool false)) fun r=>wd r (wF 3 d fun s=>wP 4 64 j s fun t=>qol O a t l) (wA 4 d fun u=>wQ 1 (cB (aZ [.int .u8 (.ofNat 0),.str 0 0,.str 0 0,.aA] 1) [(0,4,u)]) fun v=>wP 4 64 j v fun x=>qol O a x l)
def qom:=wq (ib .lss B k) fun a=>wd a (q4o O y i A j B) (b A)
def qfj:=oL (qom O b i j k)
def q4p:=qfj O b i j k dN
def z4d:=wB 4 i fun a=>wN [.int .u8 (.ofNat 0),.str 0 0,.str 0 0,.aA] fun b=>wF 3 a fun c=>wq (aD c) fun d=>q4p O (zgy O a b) a c d (.aA) (iN 0)
def zHr:=z4d O i
def xbp(O:Ev.Call)(a:AV):pL:=.ok (.bB [a,(iN 0)])
def xbo:=wc O 82 [l,i,j,k] fun a=>wq (aD a) fun b=>wq (ib .eql b (iN 0)) fun c=>wd c (.ok (.bB [(.aA),(iN 11)])) (xbp O a)
def zk9:=wA 1 l fun a=>wc O 80 [a] fun b=>wc O 81 [b,i,j] fun c=>wq (jR false ((⟨E2.f ⟨qg3⟩⟩:E2).f c (.bS))) fun d=>wd d (.ok (.bB [(.aA),(iN 6)])) (xbo O i j k b)
def z6o:=wB 1 i fun a=>wA 1 a fun b=>wc O 79 [b] fun c=>wq (ib .neq c (iN 0)) fun d=>wd d (.ok (.bB [(.aA),c])) (zk9 O j k l a)
def zBm:=z6o O i j k l
def zvz:=wB 4 i fun a=>wc O 91 [a] fun b=>wq (aW 0 b) fun c=>wq (aW 1 b) fun d=>wq (aW 2 b) fun e=>.ok (.bB [c,e])
def zBk:=zvz O i
def z4c(O:Ev.Call)(a:AV):=wq (aD a) fun b=>wq (aD a) fun c=>wq (lC 2 a none (some b) (some c)) fun d=>.ok d
def zHs:=z4c O i
def z0h(O:Ev.Call)(a:AV):=wQ 0 (cB (aZ [.int .u8 (.ofNat 0),.str 0 0,.str 0 0,.aA,.aA,iN 0] 0) []) fun b=>wP 6 96 b a fun c=>.ok c
def xa9:=wq (jR false ((⟨E2.f ⟨qQ⟩⟩:E2).f i (.aA))) fun a=>wd a (.ok (.aA)) (z0h O i)
def zHt:=xa9 O i
def z4b(O:Ev.Call)(a:AV):=wq (aD a) fun b=>wq (aD a) fun c=>wq (lC 6 a none (some b) (some c)) fun d=>.ok d
def zHu:=z4b O i
def z0g(O:Ev.Call)(a:AV):=wQ 0 (cB (aZ [.str 0 0] 0) []) fun b=>wP 1 16 b a fun c=>.ok c
def z4a:=wq (jR false ((⟨E2.f ⟨qQ⟩⟩:E2).f i (.aA))) fun a=>wd a (.ok (.aA)) (z0g O i)
def zHv:=z4a O i
def zu0(O:Ev.Call)(a:AV):=wq (aD a) fun b=>wq (aD a) fun c=>wq (lC 1 a none (some b) (some c)) fun d=>.ok d
def zCq:=zu0 O i
def z0f(O:Ev.Call)(a:AV):=wQ 0 (cB (aZ [iN 0] 0) []) fun b=>wP 1 8 b a fun c=>.ok c
def xa8:=wq (jR false ((⟨E2.f ⟨qQ⟩⟩:E2).f i (.aA))) fun a=>wd a (.ok (.aA)) (z0f O i)
def zHw:=xa8 O i
def zv7(O:Ev.Call)(a:AV):=wq (aD a) fun b=>wq (aD a) fun c=>wq (lC 1 a none (some b) (some c)) fun d=>.ok d
def zBd:=zv7 O i
def z3z(O:Ev.Call)(a:AV):=wq (aD a) fun b=>wq (aD a) fun c=>wq (lC 4 a none (some b) (some c)) fun d=>.ok d
def zHx:=z3z O i
def q6d:=wz 0 fun a=>wo 0 0 a (aN · i) fun b=>wo 2 0 a (aN · j) fun c=>wu 1 (O (.f 113) [b]) fun d=>wu 3 (jN · i d) fun _=>wu 15 (jN · j c) fun _=>wn 5 31 a (.val (iN 0)) fun e=>wy <| fun H=>cO (eT (d9 (rV (aN H i)) (d9 (rV (aN H j)) (d9 (some e) (some []))))) H
def q6c:=w1 k fun a=>wq (ib .neq a (iN 0)) fun b=>wd b (wz 0 fun c=>wo 0 0 c (aN · k) fun d=>wu 0 (jN · i (.aA)) fun _=>wu 2 (jN · j (iN 0)) fun _=>wn 3 7 c (.val d) fun e=>wy <| fun H=>cO (eT (d9 (rV (aN H i)) (d9 (rV (aN H j)) (d9 (some e) (some []))))) H) (q6d O i j)
def zvl:=wN [.aA] fun a=>wN [iN 0] fun b=>wN [iN 0] fun c=>wU c (iN 0) <| wN [.jE] fun d=>wU d (.fn 111 [] [a,b,c,d]) <| w1 d fun e=>we (uF O e [i,(iN 1),(.bool false)]) fun f=>wq ((kE .not).f f) fun g=>wd g (wU a (.aA) <| wU b (iN 0) <| fun H=>cO (eT (d9 (rV (aN H a)) (d9 (rV (aN H b)) (d9 (some (iN 3)) (some []))))) H) (q6c O a b c)
def zBw:=zvl O i
def q9e(O:Ev.Call):pL:=.ok (.bool true)
def zgu(O:Ev.Call)(a:pH)(b:AV):=wI b a
def q4n:=wq (aG 5 k l) fun a=>wA 5 a fun d=>wN [.int .u8 (.ofNat 0),.str 0 0,.str 0 0,.aA,.bool false] fun e=>wT 5 e d <| wq (aG 5 i l) fun f=>wA 5 f fun g=>wN [.int .u8 (.ofNat 0),.str 0 0,.str 0 0,.aA,.bool false] fun h=>wT 5 h g <| wA 5 e fun m=>wA 5 h fun n=>we (uF O j [m,n]) fun o=>wq ((kE .not).f o) fun q=>wd q (b (.bool false)) (zgu O c l)
def zgw:=wq (ib .lss A l) fun a=>wd a (q4n O b x i j k A) (d)
def qz3:=gG (zgw O b d i j k l)
def zgx:=qz3 O b d i j k l dN
def q4m:=wq (aD i) fun a=>zgx O .ok (q9e O) j k i a (iN 0)
def z3y:=wq (aD i) fun a=>wq (aD j) fun b=>wq (ib .neq a b) fun c=>wd c (.ok (.bool false)) (q4m O i j k)
def zHy:=z3y O i j k
def z3x(O:Ev.Call)(a b:AV):=wB 5 a fun c=>wB 5 b fun d=>wF 0 c fun e=>wF 0 d fun f=>wq (ib .eql e f) fun g=>wg (wv g) (aP 1 c) fun h=>wG (wv g) (aN · h) fun i=>wg (wv g) (aP 2 c) fun j=>wG (wv g) (aN · j) fun k=>wg (wv g) (bY (cB [.str 0 0,.str 0 0] [(0,1,i),(1,1,k)])) fun l=>wg (wv g) (aP 1 d) fun m=>wG (wv g) (aN · m) fun n=>wg (wv g) (aP 2 d) fun o=>wG (wv g) (aN · o) fun q=>wg (wv g) (bY (cB [.str 0 0,.str 0 0] [(0,1,n),(1,1,q)])) fun r=>wg (wv g) (jR false ((⟨E2.f ⟨kU fun s t=>xH p1 ⟨iA⟩ 1 s t 2 0⟩⟩:E2).f l r)) fun u=>wq (dH g u (.bool false)) fun v=>wg (wv v) (aP 3 c) fun x=>wG (wv v) (aN · x) fun y=>wg (wv v) (aD y) fun z=>wg (wv v) (aP 3 d) fun A=>wG (wv v) (aN · A) fun B=>wg (wv v) (aD B) fun C=>wg (wv v) (ib .eql z C) fun D=>wq (dH v D (.bool false)) fun E=>.ok E
def zHz:=z3x O i j
def z3w:=wc O 114 [i,j] fun a=>wq (ib .geq a (iN 0)) fun b=>.ok b
def zIa:=z3w O i j
def xbl:=wc O 70 [j] fun a=>wc O 70 [i] fun b=>wq (ib .lss a b) fun c=>wg (aM false c) (.val k) fun d=>wg (aM false c) ((kE .not).f d) fun e=>wg (aM false c) (.val e) fun f=>wg (wv f) (.val j) fun g=>wx (wv f) (O (.f 70) [g]) fun h=>wg (wv f) (.val i) fun l=>wx (wv f) (O (.f 70) [l]) fun m=>wg (wv f) (ib .eql h m) fun n=>wg (aM false c) (dH f n (.bool false)) fun o=>wq (dH c (.bool true) o) fun q=>.ok q
def zBt:=xbl O i j k
def za9(O:Ev.Call):pL:=.ok (iN 0)
def q6s(O:Ev.Call)(a:AV->pH)(b c:AV):=wI c fun d=>a b d
def zlf(O:Ev.Call)(a:AV->pH)(b c:AV):=wI c fun d=>a b d
def zle:=wI i fun b=>zlf O a b j
def zld:=wA 2 k fun a=>wc O 110 [i,a,j] fun c=>wq (ib .neq c (iN 0)) fun d=>wd d (b c) (zle O g j l)
def q6t:=wq (ib .lss B k) fun a=>wd a (zld O b y i A j B) (c A)
def qxr:=oL (q6t O b c i j k)
def zlh:=qxr O b c i j k dN
def zlc:=wq (aG 2 k l) fun a=>wA 2 a fun c=>wN [.str 0 0,.aA] fun d=>wT 2 d c <| wF 1 d fun e=>wq (aD e) fun f=>fun H=>zlh O b (fun j H=>q6s O g j l H) i d f j (iN 0) H
def zlg:=wq (ib .lss B k) fun a=>wd a (zlc O b y i A j B) (d)
def q0x:=oL (zlg O b d i j k)
def z1t:=q0x O b d i j k dN
def zlb:=wF 0 i fun a=>wq (aD a) fun b=>z1t O .ok (za9 O) j a b (iN 0) (iN 0)
def zla:=wA 1 i fun a=>wc O 80 [a] fun b=>wl (aV b) fun c=>wl (aP 1 c) fun d=>wL (aN · d) fun e=>wL (aA5 · e) fun f=>wl (aP 0 i) fun g=>wL (aN · g) fun h=>wl (aD h) fun j=>wl (ib .lss f j) fun k=>wd k (.ok (iN 7)) (zlb O i b)
def z6q:=wB 1 i fun a=>wA 1 a fun b=>wc O 109 [b] fun c=>wq (ib .neq c (iN 0)) fun d=>wd d (.ok c) (zla O a)
def zBj:=z6q O i
def z6p(O:Ev.Call)(a b c d e f g:AV)(H:Hp):R1:=dz 21 H fun h H=>dn 0 0 h H [] [] (aP 1 c) fun i H p w=>dl 1 1 h H p w (fun H=>aN H i) fun j H p w=>dl 2 0 h H p w (fun H=>aN H d) fun k H p w=>dn 3 0 h H p w (aP 0 e) fun l H p w=>dl 4 8 h H p w (fun H=>aN H l) fun m H p w=>dn 5 0 h H p w (aP 0 f) fun n H p w=>dl 6 32 h H p w (fun H=>aN H n) fun o H p w=>dn 7 120 h H p w (bY (cB [.str 0 0,.str 0 0] [(0,1,m),(1,1,o)])) fun q H p w=>dl 8 252 h H p w (fun H=>tX ⟨(⟨kU fun r s=>xH p1 ⟨iA⟩ 1 r s 2 0⟩:E2).f,some 2⟩ (iN 0) false H k q) fun t H p w=>dl 9 0 h H p w (fun H=>aN H d) fun u H p w=>dn 10 0 h H p w (.val a) fun v H p w=>dn 11 0 h H p w (.val b) fun x H p w=>dn 12 3072 h H p w (bY (cB [.str 0 0,.str 0 0] [(0,1,v),(1,1,x)])) fun y H p w=>dl 13 7680 h H p w (fun H=>tX ⟨(⟨kU fun r s=>xH p1 ⟨iA⟩ 1 r s 2 0⟩:E2).f,some 2⟩ (iN 0) false H u y) fun z H p w=>dn 14 0 h H p w (aP 4 g) fun A H p w=>dl 15 16384 h H p w (fun H=>aN H A) fun B H p w=>dn 16 65532 h H p w (bY (cB [iN 0,iN 0,.bool false] [(0,1,t),(1,1,z),(2,1,B)])) fun C H p w=>da 17 131068 h H p w (vT 1 (h+17) (cB (aZ [iN 0,iN 0,.bool false] 1) [(0,3,C)])) fun D H p w=>de 262143 H p w (kJ 3 24 (fI 262143 p H) j (pJ 3 (fI 262143 p H) D)) (some true) fun E H p w=>dn 19 524287 h H p w (aP 1 c) fun F H p w=>de 1048575 H p w (jN (fI 1048575 p H) F E) (some true) fun _ H p w=>dz2 p H fun H=>.ok (.bB []) H
def zBl:=z6p O i j k l m n o
def xbn:=wc O 123 [i,(.fn 122 [] [])] fun a=>wc O 125 [i] fun b=>wc O 124 [b] fun c=>.ok c
def zBn:=xbn O i
def zk6:=wc O 130 [i] fun a=>wc O 131 [i] fun b=>wc O 88 [b] fun c=>.ok (.bB [c,(iN 0)])
def qp9(O:Ev.Call)(a:AV->pH)(b c:AV):=wI c fun d=>a b d
def zk5:=wq (aG 3 k l) fun b=>wA 3 b fun c=>wN [iN 0,iN 0,.bool false] fun d=>wT 3 d c <| wl (aP 2 d) fun e=>wL (aN · e) fun f=>wm (wv f) (aP 1 i) fun g=>wM (wv f) (aN · g) fun h=>wm (wv f) (aP 0 d) fun m=>wM (wv f) (aN · m) fun n=>wm (wv f) (aG 1 h n) fun o=>wM (wv f) (aN · o) fun q=>wm (wv f) (aP 1 i) fun r=>wM (wv f) (aN · r) fun s=>wm (wv f) (aP 1 d) fun t=>wM (wv f) (aN · t) fun u=>wm (wv f) (aG 1 s u) fun v=>wM (wv f) (aN · v) fun x=>wm (wv f) (ib .eql q x) fun y=>wl (dH f y (.bool false)) fun z=>wd z (wF 1 i fun A=>wF 0 d fun B=>wq (aG 1 A B) fun C=>w1 C fun D=>wQ 1 (cB (aZ [iN 0] 1) [(0,1,D)]) fun E=>wP 1 8 j E fun F=>qp9 O a F l) (qp9 O a j l)
def q6k:=wq (ib .lss B k) fun a=>wd a (zk5 O y i A j B) (b A)
def qxq:=oL (q6k O b i j k)
def zk7:=qxq O b i j k dN
def qni:=wF 1 i fun a=>wq (aD a) fun b=>zk7 O (zk6 O) j a b (.aA) (iN 0)
def zk4:=(cK qni).1
theorem quk:zk4=qni:=(cK qni).2
def z6m:=wB 2 i fun a=>wA 2 a fun b=>wc O 106 [b] fun c=>wq (aW 0 c) fun d=>wq (aW 1 c) fun e=>wN [.aA,.aA] fun f=>wT 2 f d <| wq (ib .neq e (iN 0)) fun g=>wd g (.ok (.bB [(.aA),e])) (zk4 O a f)
def zBp:=z6m O i
def xbm(O:Ev.Call):pL:=.ok (iN 0)
def z6l:=wB 3 i fun a=>wF 2 a fun b=>wd b (.ok (iN 1)) (xbm O)
def zBq:=z6l O i
def zk0(O:Ev.Call)(a:AV):pL:=.ok a
def q6h(O:Ev.Call)(a:pH)(b:AV):=wI b a
def zk1(O:Ev.Call)(a:pH)(b:AV):=wI b a
def q6g(a:pH)(b c d e:AV)(H:Hp):R1:=dz 23 H fun f H=>dn 0 0 f H [] [] (.val b) fun g H p w=>dn 1 0 f H p w (.val b) fun h H p w=>dn 2 0 f H p w (.val b) fun i H p w=>dn 3 4 f H p w (aV i) fun j H p w=>dn 4 12 f H p w (aP 3 j) fun k H p w=>dl 5 28 f H p w (fun H=>aN H k) fun l H p w=>dn 6 0 f H p w (.val d) fun m H p w=>da 7 64 f H p w (vT 1 (f+7) (cB (aZ [.bS] 1) [(0,1,m)])) fun n H p w=>dn 9 0 f H p w (.val b) fun o H p w=>dn 10 512 f H p w (aV o) fun q H p w=>dn 11 1536 f H p w (aP 4 q) fun r H p w=>dl 12 3584 f H p w (fun H=>aN H r) fun s H p w=>dn 13 0 f H p w (aP 0 c) fun t H p w=>dl 14 8192 f H p w (fun H=>aN H t) fun u H p w=>da 15 24576 f H p w (vT 1 (f+15) (cB (aZ [.str 0 0] 1) [(0,1,u)])) fun v H p w=>de 252 H p w (kJ 1 8 (fI 252 p H) l (pJ 1 (fI 252 p H) n)) (some true) fun x H p w=>de 65532 H p w (kJ 1 16 (fI 65532 p H) s (pJ 1 (fI 65532 p H) v)) (some true) fun y H p w=>dn 17 131069 f H p w (aV g) fun z H p w=>dn 18 262141 f H p w (aP 3 z) fun A H p w=>de 524285 H p w (jN (fI 524285 p H) A x) (some true) fun _ H p w=>dn 20 1048575 f H p w (aV h) fun B H p w=>dn 21 2097151 f H p w (aP 4 B) fun C H p w=>de 4194303 H p w (jN (fI 4194303 p H) C y) (some true) fun _ H p w=>dz2 p H fun H=>zk1 O a e H
def q6f:=wF 1 j fun a=>wq (aG 6 a k) fun c=>wl (aV i) fun d=>wl (aP 2 d) fun e=>wL (aN · e) fun f=>wl (aP 0 j) fun g=>wL (aN · g) fun h=>wl (aV c) fun l=>wl (aP 0 l) fun m=>wL (aN · m) fun n=>wl (bY (cB [.str 0 0,.str 0 0] [(0,1,h),(1,1,n)])) fun o=>wL (tX ⟨(⟨kU (eqFields [(p1,⟨iA⟩,0),(p1,⟨iA⟩,1)])⟩:E2).f,some 2⟩ (iN 0) true · f o) fun q=>wl (aW 0 q) fun r=>wl (aW 1 q) fun s=>wq ((kE .not).f s) fun t=>wd t (wz 0 fun u=>wn 0 0 u (.val i) fun v=>wn 1 1 u (aV v) fun x=>wn 2 3 u (aP 2 x) fun y=>wo 3 7 u (aN · y) fun z=>wn 4 0 u (aP 0 j) fun A=>wo 5 16 u (aN · A) fun B=>wn 6 0 u (.val c) fun C=>wn 7 64 u (aV C) fun D=>wn 8 192 u (aP 0 D) fun E=>wo 9 448 u (aN · E) fun F=>wn 10 1008 u (bY (cB [.str 0 0,.str 0 0] [(0,1,B),(1,1,F)])) fun G=>wn 11 0 u (.val i) fun I=>wn 12 2048 u (aV I) fun J=>wn 13 6144 u (aP 3 J) fun K=>wo 14 14336 u (aN · K) fun L=>wn 15 30720 u (aD L) fun M=>wu 65535 (qK ⟨(⟨kU (eqFields [(p1,⟨iA⟩,0),(p1,⟨iA⟩,1)])⟩:E2).f,some 2⟩ · z G M) fun _=>wy <| q6g O b i j c k) (q6g O b i j c k)
def q6i:=wq (ib .lss A k) fun a=>wd a (q6f O x i j A) (d)
def qxp:=gG (q6i O d i j k)
def zk2:=qxp O d i j k dN
def zkz:=wq (aG 2 j k) fun a=>wA 2 a fun c=>wN [.str 0 0,.aA] fun d=>wT 2 d c <| wz 0 fun e=>wn 0 0 e (.val i) fun f=>wn 1 1 e (aV f) fun g=>wn 2 3 e (aP 1 g) fun h=>wo 3 7 e (aN · h) fun l=>wn 4 0 e (aP 0 d) fun m=>wo 5 16 e (aN · m) fun n=>wo 6 63 e (tX ⟨(⟨iA⟩:E2).f,none⟩ (iN 0) false · l n) fun o=>wn 7 127 e (ib .add o (iN 1)) fun q=>wu 255 (qK ⟨(⟨iA⟩:E2).f,none⟩ · l n q) fun _=>wy <| wF 1 d fun r=>wq (aD r) fun s=>zk2 O (q6h O b k) i d s (iN 0)
def q6j:=wq (ib .lss A k) fun a=>wd a (zkz O x i j A) (d)
def qp8:=gG (q6j O d i j k)
def zk3:=qp8 O d i j k dN
def z6k:=wB 1 i fun a=>wA 1 a fun b=>wh (fun H=>.new (.map H.nx) (.map [] 0)) fun c=>wh (fun H=>.new (.map H.nx) (.map [] 0)) fun d=>wq (bY (cB [.aA,.eP,.eP,.aA,.aA] [(0,1,b),(1,1,c),(2,1,d)])) fun e=>wB 5 e fun f=>wF 0 a fun g=>wq (aD g) fun h=>zk3 O (zk0 O f) f g h (iN 0)
def zBr:=z6k O i
def zkm(O:Ev.Call)(a b:AV):=wq (aV a) fun c=>wF 3 c fun d=>wq (aG 1 d b) fun e=>w1 e fun f=>.ok f
def zvj:=wq (aV i) fun a=>wF 2 a fun b=>wq (bY (cB [.str 0 0,.str 0 0] [(0,1,j),(1,1,k)])) fun c=>wh (tX ⟨(⟨kU (eqFields [(p1,⟨iA⟩,0),(p1,⟨iA⟩,1)])⟩:E2).f,some 2⟩ (iN 0) true · b c) fun d=>wq (aW 0 d) fun e=>wq (aW 1 d) fun f=>wq ((kE .not).f f) fun g=>wd g (.ok (.bS)) (zkm O i e)
def zBx:=zvj O i j k
def za7:=wc O 86 [i] fun a=>.ok a
def qp7(O:Ev.Call)(a:AV->pH)(b c:AV):=wI c fun d=>a b d
def zkk:=wq (aG 2 l m) fun b=>wA 2 b fun c=>wN [.str 0 0,.str 0 0] fun d=>wT 2 d c <| wF 1 d fun e=>wq (gN (nC .eql).f e (.str 0 0)) fun f=>wg (wv f) (.val i) fun g=>wg (wv f) (aP 0 d) fun h=>wG (wv f) (aN · h) fun n=>wg (wv f) (.val j) fun o=>wx (wv f) (O (.f 81) [g,n,o]) fun q=>wg (wv f) (jR true ((⟨E2.f ⟨qg3⟩⟩:E2).f q (.bS))) fun r=>wq (dH f r (.bool false)) fun s=>wd s (wF 0 d fun t=>wQ 1 (cB (aZ [.str 0 0] 1) [(0,1,t)]) fun u=>wP 1 16 k u fun v=>qp7 O a v m) (qp7 O a k m)
def zkl:=wq (ib .lss B l) fun a=>wd a (zkk O y i j A k B) (b A)
def q0v:=oL (zkl O b i j k l)
def z1p:=q0v O b i j k l dN
def z6g:=wc O 81 [i,j,k] fun a=>wq (jR true ((⟨E2.f ⟨qg3⟩⟩:E2).f a (.bS))) fun b=>wd b (wq (aV a) fun c=>wF 1 c fun d=>wq (aD d) fun e=>z1p O (za7 O) i l d e (.aA) (iN 0)) (za7 O (.aA))
def zBy:=z6g O i j k l
def qfs:=wz 0 fun a=>wo 0 0 a (aN · i) fun b=>wn 1 0 a (.val j) fun c=>wn 2 0 a (.val k) fun d=>wu 4 (O (.f 88) [d]) fun e=>wn 4 15 a (aG 5 b c) fun f=>wn 5 31 a (aP 3 f) fun g=>wu 63 (jN · g e) fun _=>wy <| .ok (.bool true)
def qhi(O:Ev.Call)(a:AV->pH)(b c:AV):=wI c fun d=>a b d
def qxi:=w1 l fun a=>wq (aD a) fun c=>wQ 1 (cB (aZ [iN 0] 1) [(0,1,c)]) fun d=>wP 1 8 n d fun e=>wz 0 fun f=>wo 0 0 f (aN · m) fun h=>wn 1 0 f (.val i) fun q=>wn 2 2 f (aV q) fun r=>wn 3 6 f (aP 3 r) fun s=>wo 4 14 f (aN · s) fun t=>wn 5 0 f (.val o) fun u=>wn 6 62 f (aG 4 t u) fun v=>wn 7 0 f (.val j) fun x=>wn 8 128 f (ib .add x (iN 1)) fun y=>wn 9 0 f (.val k) fun z=>wn 10 512 f (.val z) fun A=>wr 11 1536 f (.val i) (aM false A) fun B=>wr 12 3584 f (aV B) (aM false A) fun C=>wr 13 7680 f (aP 0 C) (aM false A) fun D=>ws 14 15872 f (aN · D) (aM false A) fun E=>wr 15 32256 f (ib .eql E (.int .u8 (.ofNat 6))) (aM false A) fun F=>wr 16 65024 f (.val F) (aM false A) fun G=>wr 17 130560 f (.val o) (wv G) fun I=>wr 18 261632 f (ib .eql I (iN 1)) (wv G) fun J=>wr 19 523776 f (dH G J (.bool false)) (aM false A) fun K=>wn 20 1048064 f (dH A (.bool true) K) fun L=>wu 2097151 (uF O h [v,y,L]) fun M=>wn 22 4194303 f ((kE .not).f M) fun N=>wy <| wd N (b (.bool false)) (qhi O g e o)
def qeb:=wq (ib .lss B n) fun a=>wd a (qxi O b y i j k l m A B) (c A)
def qfr:=oL (qeb O b c i j k l m n)
def qkr:=qfr O b c i j k l m n dN
def qxh:=w1 l fun a=>wq (aD a) fun b=>fun H=>dz 18 H fun c H=>dl 0 0 c H [] [] (fun H=>aN H l) fun d H p w=>dn 1 0 c H p w (.val i) fun e H p w=>dn 2 2 c H p w (aV e) fun f H p w=>dn 3 6 c H p w (aP 0 f) fun g H p w=>dl 4 14 c H p w (fun H=>aN H g) fun h H p w=>dn 5 0 c H p w (.val i) fun n H p w=>dn 6 32 c H p w (aV n) fun o H p w=>dn 7 96 c H p w (aP 1 o) fun q H p w=>dl 8 224 c H p w (fun H=>aN H q) fun r H p w=>dn 9 0 c H p w (.val i) fun s H p w=>dn 10 512 c H p w (aV s) fun t H p w=>dn 11 1536 c H p w (aP 2 t) fun u H p w=>dl 12 3584 c H p w (fun H=>aN H u) fun v H p w=>dn 13 0 c H p w (.val k) fun x H p w=>dn 14 16382 c H p w (bY (cB [.int .u8 (.ofNat 0),.str 0 0,.str 0 0,.aA,.bool false] [(0,1,h),(1,1,r),(2,1,v),(4,1,x)])) fun y H p w=>da 15 32766 c H p w (vT 1 (c+15) (cB (aZ [.int .u8 (.ofNat 0),.str 0 0,.str 0 0,.aA,.bool false] 1) [(0,5,y)])) fun z H p w=>de 65535 H p w (kJ 5 72 (fI 65535 p H) d (pJ 5 (fI 65535 p H) z)) (some true) fun A H p w=>de 131071 H p w (jN (fI 131071 p H) l A) (some true) fun _ H p w=>dz2 p H fun H=>vq (aV i) H fun B H=>vF 3 B H fun C H=>vq (aD C) H fun D H=>qkr O .ok (qfs O l b) i j k l m D (.aA) (iN 0) H
def q54:=w1 m fun a=>wq (qO pZ a [j]) fun b=>wU m b <| w1 n fun c=>wq (ib .eql c (iN 0)) fun d=>wd d (wc O 112 [i] fun e=>wU n e <| qxh O i j k l o) (qxh O i j k l o)
def zeh:=w1 l fun a=>wq (aD a) fun b=>wq (ib .eql b (iN 32)) fun c=>wg (aM false c) (.val j) fun d=>wg (aM false c) (ib .gtr d (iN 8)) fun e=>wq (dH c (.bool true) e) fun f=>wd f (.ok (.bool false)) (q54 O i j k l m n o)
def zCo:=zeh O i j k l m n o
def z5s(O:Ev.Call)(a:AV):=wq (aD a) fun b=>wq (aD a) fun c=>wq (lC 5 a none (some b) (some c)) fun d=>.ok d
def zCp:=z5s O i
def q9d(O:Ev.Call):pL:=.ok (.int .i64 (.negSucc 0))
def zgq(O:Ev.Call)(a:pH)(b:AV):=wI b a
def zgp:=wq (aG 1 i k) fun a=>w1 a fun d=>wq (gN (nC .eql).f j d) fun e=>wd e (b k) (zgq O c k)
def zgs:=wq (ib .lss A k) fun a=>wd a (zgp O b x i j A) (d)
def qz2:=gG (zgs O b d i j k)
def zgt:=qz2 O b d i j k dN
def z3v:=wq (aD i) fun a=>zgt O .ok (q9d O) i j a (iN 0)
def zIb:=z3v O i j
def zkt(O:Ev.Call):pL:=.ok (iN 0)
def zkn(O:Ev.Call)(a:pH)(b:AV):=wI b a
def zks(O:Ev.Call)(a:pH)(b:AV):=wI b a
def zkr:=wq (aG 6 i j) fun a=>wA 6 a fun d=>wN [.str 0 0,.aA,.int .u8 (.ofNat 0),.str 0 0,.str 0 0,.aA] fun e=>wT 6 e d <| wA 6 e fun f=>wc O 133 [f] fun g=>wq (ib .neq g (iN 0)) fun h=>wd h (b g) (zks O c j)
def q6e:=wq (ib .lss A j) fun a=>wd a (zkr O b x i A) (d)
def qxo:=gG (q6e O b d i j)
def zkv:=qxo O b d i j dN
def zkq:=wF 1 i fun a=>wq (aD a) fun d=>zkv O b (zkn O c j) a d (iN 0)
def zkp:=wq (aG 2 i j) fun a=>wA 2 a fun d=>wN [.str 0 0,.aA] fun e=>wT 2 e d <| wF 0 e fun f=>wc O 132 [f] fun g=>wq ((kE .not).f g) fun h=>wd h (b (iN 6)) (wF 1 e fun k=>wq (aD k) fun l=>wq (ib .gtr l (iN 16)) fun m=>wd m (b (iN 3)) (zkq O b c e j))
def zku:=wq (ib .lss A j) fun a=>wd a (zkp O b x i A) (d)
def q0w:=gG (zku O b d i j)
def z1q:=q0w O b d i j dN
def zko:=wF 0 i fun a=>wq (aD a) fun b=>z1q O .ok (zkt O) a b (iN 0)
def z6i:=wB 1 i fun a=>wF 0 a fun b=>wq (aD b) fun c=>wq (ib .gtr c (iN 16)) fun d=>wd d (.ok (iN 3)) (zko O a)
def zBu:=z6i O i
def z6h:=wh (fun H=>mX H.nx i) fun a=>wB 2 j fun b=>wh (fun H=>mX H.nx k) fun c=>wz 9 fun d=>wo 0 0 d (aN · a) fun e=>wn 1 1 d (aV e) fun f=>wn 2 3 d (aP 3 f) fun g=>wo 3 7 d (aN · g) fun h=>wo 4 0 d (aN · c) fun l=>wn 5 31 d (aG 1 h l) fun m=>wo 6 63 d (aN · m) fun n=>wa 7 0 d (.new (.ptr (d+7) 0) (aB 0 [.bS])) fun o=>wu 255 (jN · o n) fun _=>wy <| w1 o fun q=>wq (aV q) fun r=>wq (aP 2 r) fun s=>wA 4 s fun t=>wc O 78 [t] fun u=>wq (aW 0 u) fun v=>wq (aW 1 u) fun x=>wN [.aA] fun y=>wU y v <| wN [.bool false] fun z=>wU z (.bool false) <| wQ 4 (cB (aZ [.jE] 4) [(0,1,(.fn 135 [] [a,b,o,c])),(1,1,(.fn 136 [] [a,o])),(2,1,(.fn 138 [] [a,b,y,z])),(3,1,(.fn 140 [] [z,o,b]))]) fun A=>wc O 134 [A] fun B=>.ok B
def zBv:=z6h O i j k
def z6f:=wB 3 i fun a=>wB 3 j fun b=>wz 18 fun c=>wn 0 0 c (aP 0 a) fun d=>wo 1 1 c (aN · d) fun e=>wn 2 0 c (aP 0 b) fun f=>wo 3 4 c (aN · f) fun g=>wn 5 0 c (aP 1 a) fun h=>wo 6 32 c (aN · h) fun k=>wn 7 0 c (aP 1 b) fun l=>wo 8 128 c (aN · l) fun m=>wo 10 0 c (dB 3 · a) fun n=>wo 12 0 c (dB 3 · b) fun o=>wu 15 (O (.f 144) [e,g]) fun q=>wu 511 (O (.f 144) [k,m]) fun r=>wu 2047 (O (.f 145) [n]) fun s=>wu 8191 (O (.f 145) [o]) fun t=>wu 16383 (O (.f 144) [s,t]) fun u=>wa 15 32767 c (vT 3 (c+15) (cB (aZ [iN 0] 3) [(0,1,q),(1,1,r),(2,1,u)])) fun v=>wu 65535 (O (.f 100) [v]) fun x=>wn 17 131071 c (.val x) fun y=>wy <| .ok y
def zBz:=z6f O i j
def z1n(O:Ev.Call)(a:AV):pL:=.ok a
def z1m(O:Ev.Call)(a:pH)(b:AV):=wI b a
def qxn(O:Ev.Call)(a:pH)(b c:AV):=wq (lC 3 b (some c) none none) fun d=>we (qh1 [iN 0,iN 0,.bool false] · d) fun _=>wq (lC 3 b none (some c) none) fun e=>a e
def qxm(O:Ev.Call)(a:AV->pH)(b c:AV):=wI c fun d=>a b d
def zkh:=wl (aG 3 k l) fun b=>wL (dB 3 · b) fun c=>wl (ib .sub l (iN 1)) fun d=>wl (aG 3 k d) fun e=>wL (dB 3 · e) fun f=>wl (jR true ((⟨E2.f ⟨kU (eqFields [(p1,⟨ql7⟩,0),(p1,⟨ql7⟩,1),(p1,⟨xQ⟩,2)])⟩⟩:E2).f c f)) fun g=>wd g (wq (aG 3 k l) fun h=>wA 3 h fun m=>wq (aG 3 i j) fun n=>wT 3 n m <| wI j fun o=>qxm O a o l) (qxm O a j l)
def q6b:=wq (aD j) fun a=>wq (ib .lss B a) fun c=>wd c (zkh O y i A j B) (b A)
def qp6:=oL (q6b O b i j)
def zkj:=qp6 O b i j dN
def zkg:=wl (aG 3 i j) fun a=>wL (dB 3 · a) fun d=>wl (ib .sub j (iN 1)) fun e=>wl (aG 3 i e) fun f=>wL (dB 3 · f) fun g=>wl (jR false ((⟨E2.f ⟨kU (eqFields [(p1,⟨ql7⟩,0),(p1,⟨ql7⟩,1),(p1,⟨xQ⟩,2)])⟩⟩:E2).f d g)) fun h=>wd h (wq (lC 3 i (some j) none none) fun k=>zkj O (qxn O b i) i k j (iN 1)) (z1m O c j)
def zki:=wq (aD i) fun a=>wq (ib .lss A a) fun c=>wd c (zkg O b x i A) (d)
def za6:=gG (zki O b d i)
def z1o:=za6 O b d i dN
def zkf:=z1o O .ok (z1n O i) i (iN 1)
def z6e:=wq (aD i) fun a=>wq (ib .lss a (iN 2)) fun b=>wd b (.ok i) (zkf O i)
def zCb:=z6e O i
def z6d(O:Ev.Call)(a:AV):=wq (aD a) fun b=>wq (aD a) fun c=>wq (lC 3 a none (some b) (some c)) fun d=>.ok d
def zCc:=z6d O i
def z1k(O:Ev.Call):pL:=.ok (iN 0)
def zkb(O:Ev.Call)(a:pH)(b:AV):=wI b a
def xbk:=wF 0 k fun a=>wF 1 k fun d=>wq (qO oO a [d]) fun e=>wq (ib .lss e (iN 0)) fun f=>wg (aM false f) (aP 0 k) fun g=>wG (aM false f) (aN · g) fun h=>wg (aM false f) (aP 1 k) fun m=>wG (aM false f) (aN · m) fun n=>wg (aM false f) (qO pZ h [n]) fun o=>wg (aM false f) (aP 0 i) fun q=>wG (aM false f) (aN · q) fun r=>wg (aM false f) (ib .geq o r) fun s=>wq (dH f (.bool true) s) fun t=>wd t (b (iN 4)) (wz 0 fun u=>wn 0 0 u (.val j) fun v=>wn 1 1 u (ib .gtr v (iN 0)) fun x=>wn 2 3 u (.val x) fun y=>wr 3 7 u (aP 1 i) (wv y) fun z=>ws 4 15 u (aN · z) (wv y) fun A=>wr 5 7 u (.val j) (wv y) fun B=>wr 6 39 u (ib .sub B (iN 1)) (wv y) fun C=>wr 7 127 u (aG 3 A C) (wv y) fun D=>ws 8 255 u (dB 3 · D) (wv y) fun E=>ws 9 7 u (dB 3 · k) (wv y) fun F=>wt 1023 (O (.f 122) [E,F]) (wv y) fun G=>wr 11 2047 u (ib .geq G (iN 0)) (wv y) fun I=>wn 12 4095 u (dH y I (.bool false)) fun J=>wn 13 8191 u (.val J) fun K=>wy <| wd K (b (iN 18)) (zkb O c l))
def zkd:=wq (aG 3 j k) fun a=>wA 3 a fun d=>wN [iN 0,iN 0,.bool false] fun e=>wT 3 e d <| xbk O b c i k e k
def zke:=wq (ib .lss A k) fun a=>wd a (zkd O b x i j A) (d)
def za5:=gG (zke O b d i j k)
def z1l:=za5 O b d i j k dN
def zkc:=wF 1 i fun a=>wq (aD a) fun b=>z1l O .ok (z1k O) i a b (iN 0)
def z6c:=wB 2 i fun a=>wF 0 a fun b=>wq (ib .lss b (iN 0)) fun c=>wg (aM false c) (aP 0 a) fun d=>wG (aM false c) (aN · d) fun e=>wg (aM false c) (ib .gtr e (iN 256)) fun f=>wq (dH c (.bool true) f) fun g=>wd g (.ok (iN 3)) (zkc O a)
def zCd:=z6c O i
def zj6(O:Ev.Call)(a:AV):=wF 1026 a fun b=>.ok b
def qxl(O:Ev.Call)(a:pH)(b:AV):=wI b a
def zj8:=wq (aP 256 i) fun a=>wq (gH 256 1 a j) fun c=>w1 c fun d=>wq (ib .eql d (iN 0)) fun e=>wd e (wc O 151 [i,j] fun f=>qxl O b j) (qxl O b j)
def zj9:=wq (ib .lss A j) fun a=>wd a (zj8 O x i A) (d)
def za4:=gG (zj9 O d i j)
def z1j:=za4 O d i j dN
def q59:=wF 0 i fun a=>z1j O (zj6 O j) j a (iN 0)
def zj7(O:Ev.Call)(a:pH)(b:AV):=wI b a
def zj5:=wq (aG 3 j k) fun a=>wA 3 a fun c=>wN [iN 0,iN 0,.bool false] fun d=>wT 3 d c <| fun H=>dz 14 H fun e H=>dn 0 0 e H [] [] (aP 0 d) fun f H p w=>dl 1 1 e H p w (fun H=>aN H f) fun g H p w=>dn 2 0 e H p w (aP 0 d) fun h H p w=>dl 3 4 e H p w (fun H=>aN H h) fun l H p w=>dn 4 0 e H p w (aP 0 i) fun m H p w=>dn 5 28 e H p w (gH 256 1 m l) fun n H p w=>dl 6 60 e H p w (fun H=>aN H n) fun o H p w=>dn 7 0 e H p w (aP 1 d) fun q H p w=>dl 8 128 e H p w (fun H=>aN H q) fun r H p w=>da 9 384 e H p w (vT 1 (e+9) (cB (aZ [iN 0] 1) [(0,1,r)])) fun s H p w=>dn 11 0 e H p w (aP 0 i) fun t H p w=>de 1020 H p w (kJ 1 8 (fI 1020 p H) o (pJ 1 (fI 1020 p H) s)) (some true) fun u H p w=>dn 12 4095 e H p w (gH 256 1 t g) fun v H p w=>de 8191 H p w (jN (fI 8191 p H) v u) (some true) fun _ H p w=>dz2 p H fun H=>zj7 O b k H
def q6a:=wq (ib .lss A k) fun a=>wd a (zj5 O x i j A) (d)
def qxk:=gG (q6a O d i j k)
def zka:=qxk O d i j k dN
def z6b:=wB 2 i fun a=>wh (fun H=>.new (.ptr H.nx 0) (aB 0 (List.replicate 256 (.aA)++List.replicate 512 (iN 0)++List.replicate 256 (.bool false)++[.aA]++[iN 0]++[.aA]))) fun b=>wF 1 a fun c=>wq (aD c) fun d=>zka O (q59 O a b) b c d (iN 0)
def zCe:=z6b O i
def za3(O:Ev.Call)(a b c:AV):pL:=.ok (.fn 150 [] [b,a,c])
def q56(O:Ev.Call)(a:pH)(b:AV):=wI b a
def zj2(O:Ev.Call)(a:pH)(b:AV):=wI b a
def zj1:=wq (aG 1 k l) fun a=>w1 a fun c=>w1 i fun d=>wq (aG 1 d c) fun e=>wU e j <| zj2 O b l
def q57:=wq (ib .lss A l) fun a=>wd a (zj1 O x i j k A) (d)
def qxj:=gG (q57 O d i j k l)
def zj3:=qxj O d i j k l dN
def zj0:=wq (aG 1 j k) fun a=>w1 a fun c=>wq (aD c) fun d=>zj3 O (q56 O b k) i k c d (iN 0)
def q58:=wq (ib .lss A k) fun a=>wd a (zj0 O x i j A) (d)
def qp5:=gG (q58 O d i j k)
def zj4:=qp5 O d i j k dN
def z6a:=wB 2 i fun a=>wh (fun H=>mX H.nx j) fun b=>w1 b fun c=>wc O 148 [c,(.fn 149 [] [])] fun d=>wF 0 a fun e=>wh (fun H=>qer [iN 0] 8 H.nx e e) fun f=>wN [.aA] fun g=>wU g f <| w1 b fun h=>wq (aD h) fun k=>zj4 O (za3 O a b g) g h k (iN 0)
def zCf:=z6a O i j
def z5z(O:Ev.Call)(a:AV):=wq (aD a) fun b=>wq (aD a) fun c=>wq (lC 1 a none (some b) (some c)) fun d=>.ok d
def zCg:=z5z O i
def qf2(O:Ev.Call)(a:AV):pL:=.ok a
def qly(O:Ev.Call)(a:pH)(b:AV):=wI b a
def qe3(O:Ev.Call)(a:pH)(b c:AV):=wq (lC 1 b (some c) none none) fun d=>we (qh1 [iN 0] · d) fun _=>wq (lC 1 b none (some c) none) fun e=>a e
def qde(O:Ev.Call)(a:AV->pH)(b c:AV):=wI c fun d=>a b d
def qj1:=wl (aG 1 k l) fun b=>wL (aN · b) fun c=>wl (ib .sub l (iN 1)) fun d=>wl (aG 1 k d) fun e=>wL (aN · e) fun f=>wl (ib .neq c f) fun g=>wd g (wq (aG 1 k l) fun h=>w1 h fun m=>wq (aG 1 i j) fun n=>wU n m <| wI j fun o=>qde O a o l) (qde O a j l)
def qe4:=wq (aD j) fun a=>wq (ib .lss B a) fun c=>wd c (qj1 O y i A j B) (b A)
def qdd:=oL (qe4 O b i j)
def qj2:=qdd O b i j dN
def qj0:=wl (aG 1 i j) fun a=>wL (aN · a) fun d=>wl (ib .sub j (iN 1)) fun e=>wl (aG 1 i e) fun f=>wL (aN · f) fun g=>wl (ib .eql d g) fun h=>wd h (wq (lC 1 i (some j) none none) fun k=>qj2 O (qe3 O b i) i k j (iN 1)) (qly O c j)
def qf3:=wq (aD i) fun a=>wq (ib .lss A a) fun c=>wd c (qj0 O b x i A) (d)
def qd3:=gG (qf3 O b d i)
def qlz:=qd3 O b d i dN
def qjz:=qlz O .ok (qf2 O i) i (iN 1)
def qhy:=wq (aD i) fun a=>wq (ib .lss a (iN 2)) fun b=>wd b (.ok i) (qjz O i)
def kG:=qhy O i
def qea(O:Ev.Call):pL:=.ok (iN 0)
def qdo:=wd i (.ok (iN 6)) (qea O)
def qcj:=wq ((kE .not).f l) fun a=>wG (aM false a) (dB 2 · j) fun b=>wG (aM false a) (dB 2 · k) fun c=>wg (aM false a) (jR true ((⟨E2.f ⟨kU fun d e=>xH p1 ⟨xQ⟩ 1 d e 2 0⟩⟩:E2).f b c)) fun f=>wq (dH a (.bool true) f) fun g=>wd g (.ok (iN 5)) (wq (aV i) fun h=>wF 0 h fun m=>wq (ib .eql m (.int .u8 (.ofNat 3))) fun n=>wg (wv n) (.val i) fun o=>wg (wv n) (aV o) fun q=>wg (wv n) (aP 2 q) fun r=>wG (wv n) (aN · r) fun s=>wx (wv n) (O (.f 142) [s]) fun t=>wg (wv n) ((kE .not).f t) fun u=>wq (dH n u (.bool false)) fun v=>wd v (qdo O v) (wq (aV i) fun x=>wF 0 x fun y=>wq (ib .eql y (.int .u8 (.ofNat 2))) fun z=>wg (aM false z) (.val i) fun A=>wg (aM false z) (aV A) fun B=>wg (aM false z) (aP 0 B) fun C=>wG (aM false z) (aN · C) fun D=>wg (aM false z) (ib .eql D (.int .u8 (.ofNat 3))) fun E=>wq (dH z (.bool true) E) fun F=>wg (wv F) (.val i) fun G=>wg (wv F) (aV G) fun I=>wg (wv F) (aP 1 I) fun J=>wG (wv F) (aN · J) fun K=>wx (wv F) (O (.f 142) [K]) fun L=>wg (wv F) ((kE .not).f L) fun M=>wq (dH F M (.bool false)) fun N=>qdo O N))
def qp0:=wd n (wq (ib .geq l (iN 2)) fun a=>qcj O i j k a) (wq (ib .eql m (.int .u8 (.ofNat 6))) fun b=>wd b (wq (ib .eql l (iN 2)) fun c=>qcj O i j k c) (.ok (iN 10)))
def zun:=wz 13 fun a=>wn 0 0 a (.val i) fun b=>wn 1 1 a (aV b) fun c=>wn 2 3 a (aP 1 c) fun d=>wo 3 7 a (aN · d) fun e=>wn 4 15 a (gN (nC .neq).f e (.str 0 0)) fun f=>wn 5 0 a (.val i) fun g=>wn 6 32 a (aV g) fun h=>wn 7 96 a (aP 2 h) fun j=>wo 8 224 a (aN · j) fun k=>wn 9 480 a (gN (nC .neq).f k (.str 0 0)) fun l=>wn 10 1023 a (bY (cB [.bool false,.bool false] [(0,1,f),(1,1,l)])) fun m=>wa 11 0 a (.new (.ptr (a+11) 0) (aB 0 [.bool false,.bool false])) fun n=>wu 4095 (qdc 2 · n m) fun _=>wy <| wq (bY (cB [.bool false,.bool false] [])) fun o=>wN [.bool false,.bool false] fun q=>wT 2 q o <| wq (aV i) fun r=>wF 3 r fun s=>wq (aD s) fun t=>wq (ib .eql t (iN 0)) fun u=>wq (aV i) fun v=>wF 0 v fun x=>wq (ib .eql x (.int .u8 (.ofNat 1))) fun y=>wd y (qcj O i n q u) (wq (ib .eql x (.int .u8 (.ofNat 2))) fun z=>wd z (wq (gH 2 1 n (iN 0)) fun A=>w1 A fun B=>wq (bY (cB [.bool false,.bool false] [(0,1,B),(1,1,(.bool false))])) fun C=>wT 2 q C <| qcj O i n q u) (wq (ib .eql x (.int .u8 (.ofNat 3))) fun D=>wd D (wA 2 n fun E=>wT 2 q E <| qcj O i n q u) (wq (ib .eql x (.int .u8 (.ofNat 4))) fun F=>wd F (qp0 O i n q t x F) (wq (ib .eql x (.int .u8 (.ofNat 5))) fun G=>qp0 O i n q t x G))))
def zDb:=zun O i
def zjw:=wq (aP 2 i) fun a=>wA 4 a fun b=>wc O 49 [b] fun c=>.ok c
def q55(O:Ev.Call)(a:pH)(b:AV):=wI b a
def zjy:=wq (aG 2 i j) fun a=>wA 2 a fun d=>wN [.str 0 0,.str 0 0] fun e=>wT 2 e d <| wF 0 e fun f=>wc O 132 [f] fun g=>wq ((kE .not).f g) fun h=>wg (aM false h) (aP 1 e) fun k=>wG (aM false h) (aN · k) fun l=>wg (aM false h) (gN (nC .neq).f l (.str 0 0)) fun m=>wg (aM false h) (.val m) fun n=>wg (wv n) (aP 1 e) fun o=>wG (wv n) (aN · o) fun q=>wx (wv n) (O (.f 132) [q]) fun r=>wg (wv n) ((kE .not).f r) fun s=>wg (aM false h) (dH n s (.bool false)) fun t=>wq (dH h (.bool true) t) fun u=>wd u (b (iN 6)) (q55 O c j)
def zjz:=wq (ib .lss A j) fun a=>wd a (zjy O b x i A) (d)
def za2:=gG (zjz O b d i j)
def z1i:=za2 O b d i j dN
def zjx:=wF 1 i fun a=>wq (aD a) fun b=>z1i O .ok (zjw O i) a b (iN 0)
def z5y:=wB 6 i fun a=>wF 0 a fun b=>wc O 132 [b] fun c=>wq ((kE .not).f c) fun d=>wd d (.ok (iN 6)) (wF 1 a fun e=>wq (aD e) fun f=>wq (ib .gtr f (iN 8)) fun g=>wd g (.ok (iN 3)) (zjx O a))
def zCi:=z5y O i
def xbj(O:Ev.Call):pL:=.ok (iN 0)
def z5x:=wL (aN · i) fun a=>wl (aV a) fun b=>wl (aP 2 b) fun c=>wL (aN · c) fun d=>wl (aP 0 j) fun e=>wL (aN · e) fun f=>wL (aN · k) fun g=>wl (aV g) fun h=>wl (aP 0 h) fun m=>wL (aN · m) fun n=>wl (bY (cB [.str 0 0,.str 0 0] [(0,1,f),(1,1,n)])) fun o=>wL (tX ⟨(⟨kU (eqFields [(p1,⟨iA⟩,0),(p1,⟨iA⟩,1)])⟩:E2).f,some 2⟩ (iN 0) false · d o) fun q=>wL (aN · l) fun r=>wl (ib .neq q r) fun s=>wd s (.ok (iN 7)) (xbj O)
def zCj:=z5x O i j k l
def z5w:=w1 i fun a=>w1 j fun b=>wc O 137 [a,b] fun c=>.ok c
def zCk:=z5w O i j
def z5v:=w1 i fun a=>wF 0 j fun b=>w1 k fun c=>wc O 139 [a,b,c] fun d=>wq (aW 0 d) fun e=>wq (aW 1 d) fun f=>wU l e <| .ok f
def zCl:=z5v O i j k l
def xbi(O:Ev.Call):pL:=.ok (iN 0)
def z5u:=wz 0 fun a=>wo 0 0 a (aN · i) fun b=>wn 1 1 a (.val b) fun c=>ws 2 3 a (aN · j) (wv c) fun d=>wr 3 7 a (aV d) (wv c) fun e=>wr 4 15 a (aP 1 e) (wv c) fun f=>ws 5 31 a (aN · f) (wv c) fun g=>wr 6 63 a (aD g) (wv c) fun h=>wr 7 127 a (ib .eql h (iN 0)) (wv c) fun l=>wn 8 255 a (dH c l (.bool false)) fun m=>wn 9 511 a (.val m) fun n=>ws 10 1023 a (aN · i) (aM false n) fun o=>wr 11 2047 a ((kE .not).f o) (aM false n) fun q=>wr 12 4095 a (.val q) (aM false n) fun r=>ws 13 8191 a (aN · j) (wv r) fun s=>wr 14 16383 a (aV s) (wv r) fun t=>wr 15 32767 a (aP 1 t) (wv r) fun u=>ws 16 65535 a (aN · u) (wv r) fun v=>wr 17 131071 a (aD v) (wv r) fun x=>wr 18 262143 a (ib .gtr x (iN 0)) (wv r) fun y=>wr 19 524287 a (dH r y (.bool false)) (aM false n) fun z=>wr 20 1048575 a (.val z) (aM false n) fun A=>ws 21 2097151 a (dB 2 · k) (wv A) fun B=>ws 22 2097151 a (aN · j) (wv A) fun C=>wr 23 6291455 a (aV C) (wv A) fun D=>wr 24 14680063 a (aP 0 D) (wv A) fun E=>ws 25 31457279 a (aN · E) (wv A) fun F=>wt 67108863 (O (.f 141) [B,F]) (wv A) fun G=>wr 27 134217727 a ((kE .not).f G) (wv A) fun I=>wr 28 268435455 a (dH A I (.bool false)) (aM false n) fun J=>wn 29 536870911 a (dH n (.bool true) J) fun K=>wy <| wd K (.ok (iN 11)) (xbi O)
def zCm:=z5u O i j k
def z1g(O:Ev.Call):pL:=.ok (iN 0)
def q0u(O:Ev.Call)(a:pH)(b:AV):=wI b a
def qp3:=wq (aG 1 i j) fun a=>w1 a fun d=>we (uF O d []) fun e=>wq (ib .neq e (iN 0)) fun f=>wd f (b e) (q0u O c j)
def qp4:=wq (ib .lss A j) fun a=>wd a (qp3 O b x i A) (d)
def za1:=gG (qp4 O b d i j)
def z1h:=za1 O b d i j dN
def z5t:=wq (aD i) fun a=>z1h O .ok (z1g O) i a (iN 0)
def zCn:=z5t O i
def z1f(O:Ev.Call):pL:=.ok (iN 0)
def z1e:=wq (ib .gtr i j) fun a=>wd a (.ok (iN 1)) (z1f O)
def z1d:=wq (ib .lss i j) fun a=>wd a (.ok (.int .i64 (.negSucc 0))) (z1e O i j)
def z1c:=wd k (.ok (iN 1)) (z1d O i j)
def xbh(O:Ev.Call):pL:=.ok (.int .i64 (.negSucc 0))
def z5r:=wc O 159 [i] fun a=>wc O 159 [j] fun b=>wd a (wd b (.ok (iN 0)) (xbh O)) (z1c O i j b)
def zCr:=z5r O i j
def z1b(O:Ev.Call):pL:=.ok (iN 0)
def z5q:=wB 3 i fun a=>wF 2 a fun b=>wd b (.ok (iN 1)) (z1b O)
def zCs:=z5q O i
def zju(O:Ev.Call)(a:AV):pL:=.ok a
def z09(O:Ev.Call)(a:pH)(b:AV):=wI b a
def z08:=wq (aG 1 j k) fun a=>w1 a fun d=>wq (ib .neq d i) fun e=>wd e (b d) (z09 O c k)
def zjv:=wq (ib .lss A k) fun a=>wd a (z08 O b x i j A) (d)
def za0:=gG (zjv O b d i j k)
def z1a:=za0 O b d i j k dN
def z5p:=wq (aD i) fun a=>z1a O .ok (zju O (iN 0)) (iN 0) i a (iN 0)
def zCt:=z5p O i
def qxg:=wq (aV k) fun a=>wF 0 a fun c=>wc O 172 [i,c] fun d=>wq (aD j) fun e=>wq (ib .sub e (iN 1)) fun f=>wq (lC 2 j none (some f) none) fun g=>wq (aD g) fun h=>wq (ib .gtr h (iN 0)) fun l=>wd l (wq (aD g) fun m=>wq (ib .sub m (iN 1)) fun n=>wq (aG 2 g n) fun o=>wF 0 o fun q=>wz 0 fun r=>wn 0 0 r (.val i) fun s=>wn 1 0 r (.val q) fun t=>wn 2 0 r (.val i) fun u=>wn 3 0 r (.val q) fun v=>wn 4 4 r (aV u) fun x=>wn 5 20 r (aP 512 x) fun y=>wn 6 60 r (gH 256 1 y v) fun z=>wo 7 124 r (aN · z) fun A=>wn 8 0 r (.val i) fun B=>wn 9 0 r (.val c) fun C=>wn 10 256 r (aV B) fun D=>wn 11 1280 r (aP 512 D) fun E=>wn 12 3840 r (gH 256 1 E C) fun F=>wo 13 7936 r (aN · F) fun G=>wn 14 16380 r (qO oO A [G]) fun I=>wn 15 1 r (aV s) fun J=>wn 16 32769 r (aP 512 J) fun K=>wn 17 131071 r (gH 256 1 K t) fun L=>wu 262143 (jN · L I) fun _=>wy <| b g) (b g)
def zjr(O:Ev.Call)(a:pH)(b c d e:AV):=wq (aV b) fun f=>wq (aP 768 f) fun g=>wq (gH 256 1 g e) fun h=>w1 h fun i=>wd i (wz 0 fun j=>wn 0 0 j (.val b) fun k=>wn 1 0 j (.val d) fun l=>wn 2 2 j (aV l) fun m=>wn 3 6 j (aP 0 m) fun n=>wo 4 14 j (aN · n) fun o=>wn 5 0 j (.val b) fun q=>wn 6 0 j (.val d) fun r=>wn 7 64 j (aV r) fun s=>wn 8 192 j (aP 0 s) fun t=>wo 9 448 j (aN · t) fun u=>wn 10 32 j (aV q) fun v=>wn 11 1056 j (aP 512 v) fun x=>wn 12 4064 j (gH 256 1 x u) fun y=>wo 13 8160 j (aN · y) fun z=>wn 14 0 j (.val b) fun A=>wn 15 0 j (.val e) fun B=>wn 16 16384 j (aV A) fun C=>wn 17 81920 j (aP 256 C) fun D=>wn 18 245760 j (gH 256 1 D B) fun E=>wo 19 507904 j (aN · E) fun F=>wn 20 1048544 j (qO oO z [F]) fun G=>wn 21 1 j (aV k) fun I=>wn 22 2097153 j (aP 512 I) fun J=>wn 23 8388607 j (gH 256 1 J o) fun K=>wu 16777215 (jN · K G) fun _=>wy <| a c) (a c)
def zaz:=wl (aV k) fun a=>wl (aP 0 a) fun d=>wL (aN · d) fun e=>wl (aV i) fun f=>wl (aP 0 f) fun g=>wl (gH 256 1 g e) fun h=>wL (aN · h) fun l=>wl (aV k) fun m=>wl (aP 1 m) fun n=>wL (aN · n) fun o=>wl (aG 1 l o) fun q=>wL (aN · q) fun r=>wq (aV k) fun s=>wF 1 s fun t=>wI t fun u=>wq (aV k) fun v=>wq (aP 1 v) fun x=>wU x u <| wq (aV i) fun y=>wq (aP 256 y) fun z=>wq (gH 256 1 z r) fun A=>w1 A fun B=>wq (ib .eql B (iN 0)) fun C=>wd C (wc O 171 [i,r] fun D=>wq (bY (cB [iN 0,iN 0] [(0,1,r),(1,1,(iN 0))])) fun E=>wQ 1 (cB (aZ [iN 0,iN 0] 1) [(0,2,E)]) fun F=>wP 2 16 j F fun G=>b G) (zjr O c i j k r)
def q53:=wl (aV j) fun a=>wl (aP 1 a) fun d=>wL (aN · d) fun e=>wl (aV j) fun f=>wl (aP 0 f) fun g=>wL (aN · g) fun h=>wl (aV i) fun k=>wl (aP 0 k) fun l=>wl (gH 256 1 l h) fun m=>wL (aN · m) fun n=>wl (aD n) fun o=>wl (ib .lss e o) fun q=>wd q (zaz O b x i A j) (c A)
def qxf:=gG (q53 O b c i j)
def zjt:=qxf O b c i j dN
def zay:=wq (aD j) fun a=>wq (ib .sub a (iN 1)) fun c=>wq (aG 2 j c) fun d=>fun H=>zjt O b (fun j H=>qxg O b i j d H) i d j H
def zjs:=wq (aD A) fun a=>wq (ib .gtr a (iN 0)) fun b=>wd b (zay O x i A) (d)
def quj:=gG (zjs O d i)
def z07:=quj O d i dN
def zax:=z07 O (.ok (.bB [])) i j
def xbg:=wc O 171 [i,j] fun a=>wq (bY (cB [iN 0,iN 0] [(0,1,j),(1,1,(iN 0))])) fun b=>wQ 1 (cB (aZ [iN 0,iN 0] 1) [(0,2,b)]) fun c=>zax O i c
def zCu:=xbg O i j
def xbf(O:Ev.Call)(a b:AV):=wl (aG 1 a (iN 0)) fun c=>wL (aN · c) fun d=>wl (aG 1 b (iN 0)) fun e=>wL (aN · e) fun f=>wl (ib .sub d f) fun g=>.ok g
def zCv:=xbf O i j
def zaw(O:Ev.Call)(a:pH)(b:AV):=wI b a
def q50(O:Ev.Call)(a:pH)(b:AV):=wI b a
def zjm:=wq (aG 1 k m) fun a=>w1 a fun b=>wq ((kE .not).f b) fun c=>wg (wv c) (.val l) fun g=>wg (wv c) (.val m) fun h=>wg (wv c) (aG 1 g h) fun n=>wG (wv c) (aN · n) fun o=>wg (wv c) ((kE .not).f o) fun q=>wq (dH c q (.bool false)) fun r=>wd r (wq (aG 1 k m) fun s=>wU s (.bool true) <| w1 j fun t=>wq (aG 1 t m) fun u=>w1 u fun v=>we (uF O i [v]) fun x=>wq ((kE .not).f x) fun y=>wd y (d) (e)) (q50 O f m)
def q52:=wq (ib .lss A m) fun a=>wd a (zjm O d e x i j k l A) (e)
def qp2:=gG (q52 O d e i j k l m)
def zjq:=qp2 O d e i j k l m dN
def q5y:=w1 j fun a=>wq (aD a) fun b=>zjq O d (zaw O f m) i j k l b (iN 0)
def qxe(O:Ev.Call)(a:pH)(b:AV):=wI b a
def zjl:=wq (aG 3 l m) fun a=>wA 3 a fun c=>wN [iN 0,iN 0,.bool false] fun d=>wT 3 d c <| wL (aN · i) fun e=>wl (aP 0 d) fun f=>wL (aN · f) fun g=>wl (aG 1 e g) fun h=>wL (aN · h) fun n=>wL (aN · i) fun o=>wl (aP 1 d) fun q=>wL (aN · q) fun r=>wl (aG 1 o r) fun s=>wL (aN · s) fun t=>wq (ib .neq n t) fun u=>wg (wv u) (.val j) fun v=>wg (wv u) (.val t) fun x=>wg (wv u) (aG 1 v x) fun y=>wG (wv u) (aN · y) fun z=>wg (wv u) ((kE .not).f z) fun A=>wq (dH u A (.bool false)) fun B=>wd B (wq (aG 1 k n) fun C=>wU C (.bool true) <| qxe O b m) (qxe O b m)
def q51:=wq (ib .lss A m) fun a=>wd a (zjl O x i j k l A) (d)
def qp1:=gG (q51 O d i j k l m)
def zjo:=qp1 O d i j k l m dN
def zjk:=w1 j fun a=>wq (aD a) fun b=>wh (fun H=>qer [.bool false] 1 H.nx b b) fun c=>wF 1 k fun e=>wq (aD e) fun g=>zjo O (q5y O d f i j m c n) l m c e g (iN 0)
def zjn:=wq (ib .lss A n) fun a=>wd a (zjk O d x i j k l m A) (e)
def qui:=gG (zjn O d e i j k l m n)
def z06:=qui O d e i j k l m n dN
def z5o:=w1 j fun a=>wq (aD a) fun b=>wh (fun H=>qer [.bool false] 1 H.nx b b) fun c=>w1 j fun d=>wq (aD d) fun e=>z06 O (.ok (.bB [])) (.ok (.bB [])) i j k l c e (iN 0)
def zCw:=z5o O i j k l
def q5x(O:Ev.Call):pL:=.ok (iN 0)
def zav:=(cK q5x).1
theorem q0s:zav=q5x:=(cK q5x).2
def qxd(O:Ev.Call)(a:pH)(b:AV):=wI b a
def zjh:=(cK qxd).1
theorem q0r:zjh=qxd:=(cK qxd).2
def qxc:=wd j (b (iN 7)) (zjh O c i)
def z04:=(cK qxc).1
theorem q0q:z04=qxc:=(cK qxc).2
def qng:=wd m (b (iN 6)) (wz 0 fun a=>wn 0 0 a (.val i) fun d=>wn 1 1 a (aV d) fun e=>wn 2 3 a (aP 1 e) fun f=>wo 3 7 a (aN · f) fun g=>wn 4 0 a (.val j) fun h=>wn 5 31 a (lC 2 g none (some h) none) fun n=>wo 6 0 a (dB 2 · k) fun o=>wu 127 (O (.f 154) [n,o]) fun q=>wn 8 255 a (.val q) fun r=>wy <| z04 O b c l r)
def zjg:=(cK qng).1
theorem quf:zjg=qng:=(cK qng).2
def qnf:=wz 0 fun a=>wn 0 0 a (.val i) fun d=>wn 1 1 a (aV d) fun e=>wn 2 3 a (aP 1 e) fun f=>wo 3 7 a (aN · f) fun g=>wn 4 0 a (aP 0 l) fun h=>wo 5 16 a (aN · h) fun n=>wo 6 63 a (tX ⟨(⟨iA⟩:E2).f,none⟩ (iN 0) false · g n) fun o=>wn 7 127 a (ib .eql o (iN 0)) fun q=>wn 8 255 a (.val q) fun r=>wr 9 511 a (aP 1 l) (aM false r) fun s=>ws 10 1023 a (aN · s) (aM false r) fun t=>wr 11 2047 a (gN (nC .neq).f t (.str 0 0)) (aM false r) fun u=>wr 12 4095 a (.val u) (aM false r) fun v=>wr 13 8191 a (.val i) (wv v) fun x=>wr 14 8191 a (aP 0 l) (wv v) fun y=>ws 15 24575 a (aN · y) (wv v) fun z=>wr 16 8191 a (aP 1 l) (wv v) fun A=>ws 17 73727 a (aN · A) (wv v) fun B=>wt 262143 (O (.f 81) [x,z,B]) (wv v) fun C=>wr 19 524287 a (jR false ((⟨E2.f ⟨qg3⟩⟩:E2).f C (.bS))) (wv v) fun D=>wr 20 1048575 a (dH v D (.bool false)) (aM false r) fun E=>wn 21 2097151 a (dH r (.bool true) E) fun F=>wn 22 4194303 a (.val F) fun G=>wy <| zjg O b c j k l m G
def zjf:=(cK qnf).1
theorem que:zjf=qnf:=(cK qnf).2
def qnh:=wq (aG 2 k l) fun a=>wA 2 a fun d=>wN [.str 0 0,.str 0 0] fun e=>wT 2 e d <| zjf O b c i j l e l
def zji:=(cK qnh).1
theorem quh:zji=qnh:=(cK qnh).2
def zjj:=wq (ib .lss A l) fun a=>wd a (zji O b x i j k A) (d)
def qug:=gG (zjj O b d i j k l)
def z05:=qug O b d i j k l dN
def qne:=z05 O .ok (zav O) i j k l m
def zje:=(cK qne).1
theorem qud:zje=qne:=(cK qne).2
def z5n:=wq (aV j) fun a=>wF 1 a fun b=>wq (aD b) fun c=>zje O i j b c (iN 0)
def zCy:=z5n O i j
def z02(O:Ev.Call)(a:AV):pL:=.ok (.bB [a,(iN 0)])
def zjb(O:Ev.Call)(a:AV->pH)(b c:AV):=wI c fun d=>a b d
def q5w:=wg (aM false i) (aP 0 j) fun b=>wG (aM false i) (aN · b) fun c=>wg (aM false i) (ib .eql c (.int .u8 (.ofNat 1))) fun d=>wq (dH i (.bool true) d) fun e=>zjb O a e k
def zjc:=wq (aG 5 l m) fun b=>wA 5 b fun c=>wN [.int .u8 (.ofNat 0),.str 0 0,.str 0 0,.aA,.bool false] fun d=>wT 5 d c <| wF 0 d fun e=>wq (ib .eql e (.int .u8 (.ofNat 2))) fun f=>wg (aM false f) (aP 0 d) fun h=>wG (aM false f) (aN · h) fun n=>wg (aM false f) (ib .eql n (.int .u8 (.ofNat 3))) fun o=>wq (dH f (.bool true) o) fun q=>wg (wv q) (.val i) fun r=>wg (wv q) (.val j) fun s=>wg (wv q) (aP 1 d) fun t=>wG (wv q) (aN · t) fun u=>wx (wv q) (O (.f 81) [r,s,u]) fun v=>wg (wv q) (jR false ((⟨E2.f ⟨qg3⟩⟩:E2).f v (.bS))) fun x=>wq (dH q x (.bool false)) fun y=>wd y (a k (iN 6)) (wF 0 d fun z=>wq (ib .eql z (.int .u8 (.ofNat 3))) fun A=>wg (wv A) (.val i) fun B=>wg (wv A) (.val j) fun C=>wg (wv A) (aP 1 d) fun D=>wG (wv A) (aN · D) fun E=>wg (wv A) (aP 2 d) fun F=>wG (wv A) (aN · F) fun G=>wx (wv A) (O (.f 82) [B,C,E,G]) fun I=>wg (wv A) (aD I) fun J=>wg (wv A) (ib .eql J (iN 0)) fun K=>wq (dH A K (.bool false)) fun L=>wd L (a k (iN 11)) (q5w O g k d m))
def zjd:=wq (ib .lss B l) fun c=>wd c (zjc O a y i j A k B) (b A)
def q0p:=oL (zjd O a b i j k l)
def z03:=q0p O a b i j k l dN
def z5m:=wq (aD k) fun a=>fun H=>z03 O (fun b c H=>.ok (.bB [b,c]) H) (z02 O) i j k a (.bool false) (iN 0) H
def zCz:=z5m O i j k
def z5l:=wB 2 i fun a=>wh (fun H=>mX H.nx j) fun b=>wF 1 a fun c=>wc O 155 [c,(.fn 156 [] [b])] fun d=>.ok d
def zDa:=z5l O i j
def z5k(O:Ev.Call)(a:AV):=wq (ib .neq a a) fun b=>.ok b
def zDc:=z5k O i
def z5j(O:Ev.Call)(a b:AV):=wq (aV a) fun c=>wF 1025 c fun d=>wI d fun e=>wq (aV a) fun f=>wq (aP 1025 f) fun g=>wU g e <| wz 0 fun h=>wn 0 0 h (.val a) fun i=>wn 1 0 h (.val b) fun j=>wn 2 0 h (.val a) fun k=>wn 3 0 h (.val b) fun l=>wn 4 0 h (.val a) fun m=>wn 5 0 h (.val b) fun n=>wn 6 0 h (.val a) fun o=>wn 7 64 h (aV o) fun q=>wn 8 192 h (aP 1025 q) fun r=>wo 9 448 h (aN · r) fun s=>wn 10 0 h (.val a) fun t=>wn 11 1024 h (aV t) fun u=>wn 12 3072 h (aP 1025 u) fun v=>wo 13 7168 h (aN · v) fun x=>wn 14 1 h (aV i) fun y=>wn 15 16385 h (aP 256 y) fun z=>wn 16 65475 h (gH 256 1 z j) fun A=>wn 18 4 h (aV k) fun B=>wn 19 262148 h (aP 512 B) fun C=>wn 22 16 h (aV m) fun D=>wn 23 4194320 h (aP 768 D) fun E=>wu 131011 (jN · A s) fun _=>wn 20 1048527 h (gH 256 1 C l) fun F=>wu 2097103 (jN · F x) fun _=>wn 24 16777215 h (gH 256 1 E n) fun G=>wu 33554431 (jN · G (.bool true)) fun _=>wy <| wq (aV a) fun I=>wF 1024 I fun J=>wQ 1 (cB (aZ [iN 0] 1) [(0,1,b)]) fun K=>wP 1 8 J K fun L=>wq (aV a) fun M=>wq (aP 1024 M) fun N=>wU N L <| .ok (.bB [])
def zDd:=z5j O i j
def q5u(O:Ev.Call)(a b c:AV):=wq (aV a) fun d=>wF 1024 d fun e=>wq (lC 1 e none (some b) none) fun f=>wq (aV a) fun g=>wq (aP 1024 g) fun h=>wU h f <| wq (aV a) fun i=>wF 1026 i fun j=>wQ 1 (cB (aZ [.aA] 1) [(0,1,c)]) fun k=>wP 1 24 j k fun l=>wq (aV a) fun m=>wq (aP 1026 m) fun n=>wU n l <| .ok (.bB [])
def zi9(O:Ev.Call)(a:pH)(b:AV):=wI b a
def zi8:=wq (aG 1 j k) fun a=>w1 a fun c=>wq (aV i) fun d=>wq (aP 768 d) fun e=>wq (gH 256 1 e c) fun f=>wU f (.bool false) <| zi9 O b k
def q5v:=wq (ib .lss A k) fun a=>wd a (zi8 O x i j A) (d)
def qxb:=gG (q5v O d i j k)
def zja:=qxb O d i j k dN
def zi7:=wq (aV i) fun a=>wF 1024 a fun b=>wc O 199 [b,j] fun c=>wq (aV i) fun d=>wF 1024 d fun e=>wq (lC 1 e (some c) none none) fun f=>wc O 201 [f] fun g=>wc O 200 [g] fun h=>wq (aD h) fun k=>zja O (q5u O i c h) i h k (iN 0)
def zuj:=wl (aV i) fun a=>wl (aP 512 a) fun b=>wl (gH 256 1 b j) fun c=>wL (aN · c) fun d=>wl (aV i) fun e=>wl (aP 256 e) fun f=>wl (gH 256 1 f j) fun g=>wL (aN · g) fun h=>wl (ib .lss d h) fun k=>wd k (.ok (.bB [])) (zi7 O i j)
def zDe:=zuj O i j
def z5i:=wB 2 j fun a=>wA 2 a fun b=>wc O 183 [i,b] fun c=>wq (ib .geq c (iN 0)) fun d=>.ok d
def zDf:=z5i O i j
def z5h:=wB 6 i fun a=>wq (aP 2 a) fun b=>wA 4 b fun c=>wc O 78 [c] fun d=>wq (aW 0 d) fun e=>wq (aW 1 d) fun f=>wc O 157 [e,(.fn 158 [] [j])] fun g=>.ok g
def zDg:=z5h O i j
def z5g:=wc O 184 [i,j] fun a=>wq (ib .geq a (iN 0)) fun b=>.ok b
def zDh:=z5g O i j
def z00(O:Ev.Call):pL:=.ok (.int .i64 (.negSucc 0))
def z0z(O:Ev.Call)(a:pH)(b:AV):=wI b a
def z0y:=wq (aG 1 i k) fun a=>w1 a fun d=>wq (ib .eql j d) fun e=>wd e (b k) (z0z O c k)
def zi6:=wq (ib .lss A k) fun a=>wd a (z0y O b x i j A) (d)
def zau:=gG (zi6 O b d i j k)
def z01:=zau O b d i j k dN
def z5f:=wq (aD i) fun a=>z01 O .ok (z00 O) i j a (iN 0)
def zDj:=z5f O i j
def z5e(O:Ev.Call)(a:AV):=wh (fun H=>mX H.nx a) fun b=>.ok (.fn 214 [] [b])
def zDk:=z5e O i
def xbe:=wc O 213 [i] fun a=>wc O 130 [a] fun b=>.ok a
def zDl:=xbe O i
def zi4(O:Ev.Call):pL:=.ok (.int .i64 (.negSucc 0))
def z0w(O:Ev.Call)(a:pH)(b:AV):=wI b a
def zi3:=wL (dB 2 · j) fun a=>wl (aG 2 i k) fun d=>wL (dB 2 · d) fun e=>wl (jR false ((⟨E2.f ⟨kU (eqFields [(p1,⟨iA⟩,0),(p1,⟨iA⟩,1)])⟩⟩:E2).f a e)) fun f=>wd f (b k) (z0w O c k)
def zi5:=wq (ib .lss A k) fun a=>wd a (zi3 O b x i j A) (d)
def zat:=gG (zi5 O b d i j k)
def z0x:=zat O b d i j k dN
def z5d:=wB 2 j fun a=>wq (aD i) fun b=>z0x O .ok (zi4 O) i a b (iN 0)
def zDm:=z5d O i j
def z5c(O:Ev.Call)(a b:AV):=wB 5 a fun c=>wF 0 c fun d=>wq (ib .eql d (.int .u8 (.ofNat 3))) fun e=>wg (wv e) (aP 1 c) fun f=>wG (wv e) (aN · f) fun g=>wG (wv e) (aN · b) fun h=>wg (wv e) (gN (nC .eql).f g h) fun i=>wq (dH e i (.bool false)) fun j=>.ok j
def zDn:=z5c O i j
def z5b:=wc O 185 [i,j] fun a=>wq (ib .geq a (iN 0)) fun b=>.ok b
def zDo:=z5b O i j
def zi1(O:Ev.Call):pL:=.ok (.int .i64 (.negSucc 0))
def z0u(O:Ev.Call)(a:pH)(b:AV):=wI b a
def z0t:=wq (aG 6 i k) fun a=>wA 6 a fun d=>we (uF O j [d]) fun e=>wd e (b k) (z0u O c k)
def zi2:=wq (ib .lss A k) fun a=>wd a (z0t O b x i j A) (d)
def zas:=gG (zi2 O b d i j k)
def z0v:=zas O b d i j k dN
def z5a:=wq (aD i) fun a=>z0v O .ok (zi1 O) i j a (iN 0)
def zDp:=z5a O i j
def z0r(O:Ev.Call)(a:pH)(b:AV):=wI b a
def ziz:=wq (aG 1 j k) fun a=>w1 a fun b=>we (uF O i [b]) fun c=>wq ((kE .not).f c) fun e=>wd e (d) (z0r O f k)
def zi0:=wq (ib .lss A k) fun a=>wd a (ziz O d x i j A) (e)
def zar:=gG (zi0 O d e i j k)
def z0s:=zar O d e i j k dN
def z4z:=w1 j fun a=>wq (aD a) fun b=>z0s O (.ok (.bB [])) (.ok (.bB [])) i a b (iN 0)
def zDq:=z4z O i j
def xbd:=wc O 218 [(.aA),i] fun a=>.ok a
def zDr:=xbd O i
def zix(O:Ev.Call):pL:=.ok (.int .i64 (.negSucc 0))
def ziw(O:Ev.Call)(a:pH)(b:AV):=wI b a
def z0p:=wq (aG 5 i k) fun a=>wA 5 a fun d=>we (uF O j [d]) fun e=>wd e (b k) (ziw O c k)
def ziy:=wq (ib .lss A k) fun a=>wd a (z0p O b x i j A) (d)
def q0o:=gG (ziy O b d i j k)
def z0q:=q0o O b d i j k dN
def z4y:=wq (aD i) fun a=>z0q O .ok (zix O) i j a (iN 0)
def zDs:=z4y O i j
end
end Go.Di
end
