/-
 For ReachesElse: functions in direct style, their contracts, and the plain mathematics, part 3 of 7. No conditions beyond those that each theorem states.
-/
import Derived.Test.YtfkgaaibbfcaoaaGreatConA
import Derived.Test.YtfkgaaibbfcaoaaGreatConB
import Derived.Test.YtfkgaaibbfcaoaaGreatEv2
set_option linter.all false
noncomputable section
namespace Go.Di
open Go.Ev
structure LP where
 n:Nat
 ps:List Tmp
 aC:Code
 bd:Code
def LP.blk(p:LP)(b:Bool)(L:TT AV 2):cZ:=.loop b none 2 p.n L p.ps p.aC p.bd
def pu(L:TT AV 2):List (Nat×AV)->TT AV 2
 | []=>L
 |p::r=>pu ((ak 2 p.1).f L p.2) r
variable{M h:TT AV 2}
theorem X5{l:Nat}{v:AV}{a:Hp}{p:LP}{i:Nat}{E:TT AV 2->pH}{K:Kt 2}(L:a.get l=p.blk true M):fin (endLoop l (.ok v a) h) (rP i (mz E K))=E h (a.put l .dead):=by unfold endLoop;simp only[L];rfl
theorem zm8{l:Nat}{H:Hp}{p:LP}(L:H.get l=p.blk false M):bc l (.ok .normal h H)=.ok (.bool true) (H.put l (p.blk true M)):=by unfold bc;simp only[zyw,L];rfl
def Kx(O:Ev.Call)(x2 a:AV)(H:Hp):R1:=vq (aL 0 a) H λb H=>vq (aR H b) H λc H=>ve (O (.f 280) [c] H) λd H=>vq (aL 0 a) H λe H=>ve (kL H e d) λ_ H=>vq (bW 2 H a) H λf H=>ve (yI 2 H x2 f) λ_ H=>dJ (dY (dU (rV (bW 2 H x2)) (dU (some (iN 0)) (some [])))) H
def tV(O:Ev.Call)(l:Nat)(L:TT AV 2)(g h:AV)(H:Hp):R1:=dz 8 H λa H=>dn 0 0 a H [] [] (aL 0 g) λb H p w=>dl 1 1 a H p w (λH=>aR H b) λi H p w=>dn 2 0 a H p w (.val h) λj H p w=>de 4 H p w (O (.f 196) [j] (eB 4 p H)) (some true) λc H p w=>da 4 12 a H p w (sQ 1 (a+4) (bK (aU [.aA] 1) [(0,1,c)])) λd H p w=>de 31 H p w (jD 1 24 (eB 31 p H) i (nP 1 (eB 31 p H) d)) (some true) λe H p w=>dn 6 63 a H p w (aL 0 g) λf H p w=>de 127 H p w (kL (eB 127 p H) f e) (some true) λ_ H p w=>zG p H λH=>bc l (.ok .normal L H)
def Kw(O:Ev.Call)(a:pD)(b:AV)(H:Hp):R1:=vq (eP (lT .add).f b (iN 1)) H λc H=>a c H
def Kv(O:Ev.Call)(b:pD)(m c a:AV)(H:Hp):R1:=vq (aG 1 c a) H λd H=>vq (aR H d) H λe H=>vq (aL 1 m) H λf H=>vq (aR H f) H λg H=>vq (aL 0 m) H λh H=>vq (aR H h) H λi H=>vq (aD i) H λj H=>vq (aG 1 g e) H λl H=>ve (kL H l j) λ_ H=>Kw O b a H
def Kz(O:Ev.Call)(b:pH)(g c d:AV)(e:pD)(a:AV)(H:Hp):R1:=vq (eP (lT .lss).f a d) H λf H=>cd f (Kv O e g c a H) (b H)
def yp(O:Ev.Call)(a:pH)(d b c:AV)(n:Nat):pD:=Nat.rec (motive:=λ_=>pD) (λ_ _=>.bad) (λ_ e=>Kz O a d b c e) n
def KA(O:Ev.Call)(a:pH)(d b c:AV):pD:=yp O a d b c bZ
def xC(O:Ev.Call)(l:Nat)(L:TT AV 2)(c a:AV)(H:Hp):R1:=vq (aD a) H λb H=>KA O (λH=>tV O l L c a H) c a b (iN 0) H
def IC(b:LP)(O:Ev.Call)(L:TT AV 2)(a:AV)(H:Hp):R1:=fin (endLoop H.nx (ma O a [.yield H.nx] (aH H (b.blk true L))) L) (rP 0 (mz (λL H=>Kx O (G L 2) (G L 5) H) (vn λL H=>dY (dU (rV (bW 2 H (G L 2))) (dU (some (G L 3)) (some []))))))
def Ce(g:LP)(O:Ev.Call)(L:TT AV 2)(c:AV)(H:Hp):R1:=dz 0 H λa H=>dl 0 0 a H [] [] (λH=>bW 2 H c) λb H p w=>dl 1 0 a H p w (λH=>bW 2 H c) λd H p w=>de 2 H p w (O (.f 279) [d] (eB 2 p H)) (some true) λe H p w=>de 7 H p w (O (.f 278) [b,e] (eB 7 p H)) (some true) λf H p w=>zG p H λH=>IC g O (pu L [(22,b),(23,d),(24,e),(25,f)]) f H
def Ku(j:LP)(O:Ev.Call)(L:TT AV 2)(h x2:AV)(H:Hp):R1:=vq (.new (.ptr H.nx 0) (aB 0 [.aA,.aA])) H λi H=>vq (aL 0 h) H λa H=>vq (aR H a) H λb H=>vq (eP (lT .gtr).f b (iN 0)) H λc H=>cd c (vq (aL 0 h) H λe H=>vq (aR H e) H λd H=>vq (fC [iN 0] 8 H.nx d d) H λf H=>vq (aL 1 i) H λg H=>ve (kL H g f) λ_ H=>Ce j O (pu L [(5,i),(15,a),(16,b),(17,c),(18,e),(19,d),(20,f),(21,g)]) h H) (Ce j O (pu L [(5,i),(15,a),(16,b),(17,c)]) h H)
def PD(g:LP)(O:Ev.Call)(L:TT AV 2)(h:AV)(H:Hp):R1:=vq (pU 2 H.nx h) H λe H=>vq (.new (.ptr H.nx 0) (aB 0 [.aA,.aA])) H λd H=>vq (bW 2 H e) H λb H=>ve (O (.f 277) [b] H) λa H=>vq (eP (lT .neq).f a (iN 0)) H λc H=>cd c (vq (bJ (bK [.aA,.aA] [])) H λf H=>ve (yI 2 H d f) λ_ H=>dJ (dY (dU (rV (bW 2 H d)) (dU (some a) (some [])))) H) (Ku g O (pu L [(1,e),(2,d),(3,iN 0),(9,b),(10,a),(4,a),(11,a),(12,c)]) e d H)
def zBo(b:LP)(O:Ev.Call)(a:AV)(H:Hp):R1:=PD b O (qN [a] 0 (same .undef 2)) a H
def Lz(O:Ev.Call)(x2:AV)(H:Hp):R1:=vq (aR H x2) H λa H=>.ok a H
def fO(O:Ev.Call)(l:Nat)(L:TT AV 2)(x2 a:AV)(H:Hp):R1:=vq (aR H x2) H λb H=>vq (sQ 1 H.nx (bK (aU [iN 0] 1) [(0,1,a)])) H λc H=>ve (jD 1 8 H b (nP 1 H c)) λd H=>ve (kL H x2 d) λ_ H=>bc l (.ok .normal L H)
def LD(a:LP)(O:Ev.Call)(L:TT AV 2)(b:AV)(H:Hp):R1:=fin (endLoop H.nx (ma O b [.yield H.nx] (aH H (a.blk true L))) L) (rP 0 (mz (λL H=>Lz O (G L 2) H) (vn λL _=>some (G L 4))))
def LF(b:LP)(O:Ev.Call)(L:TT AV 2)(c a:AV)(H:Hp):R1:=vq (lM H.nx c) H λd H=>LD b O (pu L [(2,d),(4,.aA),(6,a)]) a H
def kR(c:LP)(O:Ev.Call)(a b:AV)(H:Hp):R1:=LF c O (qN [a,b] 0 (same .undef 2)) a b H
structure bAl(LA LO:LP)(c d:Ev.Call):Prop where
 kR:∀(x0 x1:AV) (H:Hp),c (.f 370) [x0,x1] H=Di.kR LA d x0 x1 H
 fO:∀(L:TT AV 2) (l:Nat) (v:AV) (H:Hp),H.get l=LA.blk true L->c (.y l) [v] H=Di.fO d l L (G L 2) v (H.put l (LA.blk false L))
 zBo:∀(x0:AV) (H:Hp),c (.f 244) [x0] H=Di.zBo LO d x0 H
 xC:∀(L:TT AV 2) (l:Nat) (v:AV) (H:Hp),H.get l=LO.blk true L->c (.y l) [v] H=Di.xC d l L (G L 5) v (H.put l (LO.blk false L))
abbrev pZ(a b:LP)(C:Nat->Ev.Call):Prop:=∀k,bAl a b (C (k+1)) (C k)
variable {P:Program} {d n:Nat} {O:Ev.Call}
theorem pS{α:Type}{c:Code}{K:Kt d}{X Y:α}(e:X=Y)(f:α->TT AV d->pH)(h:Lk P d n O c K (f Y)):Lk P d n O c K (f X):=by rw[e];exact h
theorem T6{f:FuncId}{F:Func}(hf:P.funcs[f]? =some F){args:List AV}(h:(!(F.name == "runtime.NumGoroutine")&&(F.body.isSome&&(dF (bh F)&&(Nat.ble args.length F.ntmps&&Nat.ble (F.ntmps+1) 262144))))=true)
  {D:TT AV (gY (F.ntmps+1))->pH} (l:Lk P (gY (F.ntmps+1)) F.ntmps O (bh F) (vn (ey P (gY (F.ntmps+1)) F.ntmps F.results.toList).f) D) (H:Hp) :
  (aI P f).f O args H=D (qN args 0 (same .undef _)) H:=by
 rw[sA,sA,sA]at h;exact qqk hf (by simpa using h.1) h.2.1 h.2.2.1 h.2.2.2 l H
theorem r7{f:FuncId}{F:Func}(hf:P.funcs[f]? =some F){args:List AV}{D:TT AV (gY (F.ntmps+1))->pH}(l:Lk P (gY (F.ntmps+1)) F.ntmps O (bh F) (vn (ey P (gY (F.ntmps+1)) F.ntmps F.results.toList).f) D){H:Hp}{r}(e:D (qN args 0 (same .undef _)) H=r:=by kernel_rfl)(h:(!(F.name == "runtime.NumGoroutine")&&(F.body.isSome&&(dF (bh F)&&(Nat.ble args.length F.ntmps&&Nat.ble (F.ntmps+1) 262144))))=true:=by kernel_rfl):(aI P f).f O args H=r:=(T6 hf h l H).trans e
instance{d:Nat}:CoeFun (TT AV d) λ_=>Nat->AV:=⟨G⟩
variable {f:FuncId} {F:Func} {x y z w:AV} {H:Hp}
abbrev v0(F:Func)(k:Nat):Bool:= !(F.name == "runtime.NumGoroutine")&&(F.body.isSome&&(dF (bh F)&&(Nat.ble k F.ntmps&&Nat.ble (F.ntmps+1) 262144)))
abbrev Ao(P:Program)(O:Ev.Call)(F:Func)(D:TT AV (gY (F.ntmps+1))->pH):Prop:=Lk P (gY (F.ntmps+1)) F.ntmps O (bh F) (vn (ey P (gY (F.ntmps+1)) F.ntmps F.results.toList).f) D
theorem DJ(b:P.funcs[f]? =some F){a:List AV}(h:v0 F a.length=true){D:TT AV (gY (F.ntmps+1))->pH}(l:Ao P O F D){r:R1}(e:∀L:TT AV (gY (F.ntmps+1)),(∀i,i<a.length->L i=a.getD i .undef)->D L H=r):(aI P f).f O a H=r:=
 (T6 b h l H).trans (e _ λi c=>by
  have:=gj (F.ntmps+1);have k:a.length<=F.ntmps:=by unfold v0 at h;rw[sA,sA,sA,sA]at h;exact eQ h.2.2.2.1
  show(dV _ i).f _=_;rw[oS _ _ _ _ (by omega) (by omega),sB (by omega),um])
theorem fK{g:Ev.Call->pD}(b:P.funcs[f]? =some F)(l:Ao P O F λL H=>g O (L 0) H)(h:v0 F 1=true:=by kernel_rfl):(aI P f).f O [x] H=g O x H:=
 DJ (a:=[x]) b h l λL e=>by rw[e 0 g3];rfl
theorem iH{g:Ev.Call->AV->pD}(b:P.funcs[f]? =some F)(l:Ao P O F λL H=>g O (L 0) (L 1) H)(h:v0 F 2=true:=by kernel_rfl):(aI P f).f O [x,y] H=g O x y H:=
 DJ (a:=[x,y]) b h l λL e=>by rw[e 0 g3,e 1 g3];rfl
theorem xJ{g:Ev.Call->AV->AV->pD}(b:P.funcs[f]? =some F)(l:Ao P O F λL H=>g O (L 0) (L 1) (L 2) H)(h:v0 F 3=true:=by kernel_rfl):(aI P f).f O [x,y,z] H=g O x y z H:=
 DJ (a:=[x,y,z]) b h l λL e=>by rw[e 0 g3,e 1 g3,e 2 g3];rfl
theorem ei{g:Ev.Call->AV->AV->AV->pD}(b:P.funcs[f]? =some F)(l:Ao P O F λL H=>g O (L 0) (L 1) (L 2) (L 3) H)(h:v0 F 4=true:=by kernel_rfl):(aI P f).f O [x,y,z,w] H=g O x y z w H:=
 DJ (a:=[x,y,z,w]) b h l λL e=>by rw[e 0 g3,e 1 g3,e 2 g3,e 3 g3];rfl
end Go.Di
end
noncomputable section
namespace Go.Di.T
inductive Rc(aV:Nat->List Nat):Nat->Nat->Prop where
 |refl (a:Nat):Rc aV a a
 |step {a b c:Nat} (h:Rc aV a b) (e:c∈aV b):Rc aV a c
variable{E F I:Nat}
theorem Rc.trans{aV:Nat->List Nat}(h:Rc aV E F)(k:Rc aV F I):Rc aV E I:=by
 induction k with
 |refl=>exact h
 |step _ e ih=>exact ih.step e
theorem Rc.one{aV:Nat->List Nat}(e:F∈aV E):Rc aV E F:=(Rc.refl E).step e
theorem Rc.closed{aV:Nat->List Nat}{S:Nat->Prop}(h:∀v,S v->∀k∈aV v,S k)(r:Rc aV E F)(c:S E):S F:=by
 induction r with
 |refl=>exact c
 |step _ e ih=>exact h _ ih _ e
def upd{α:Type}(f:Nat->α)(i:Nat)(x:α):Nat->α:=λj=>if j=i then x else f j
theorem ac{α:Type}(f:Nat->α)(i:Nat)(x:α):upd f i x i=x:=sB rfl
theorem aE{α:Type}(f:Nat->α)(x:α)(h:F≠E):upd f E x F=f F:=sy h
structure TS where
 num:Nat->Nat
 low:Nat->Nat
 on:Nat->Bool
 stk:List Nat
 cnt:Nat
 out:List (List Nat)
def TS.enter(s:TS)(k:Nat):TS:=
 {s with cnt:=s.cnt+1,num:=upd s.num k (s.cnt+1),low:=upd s.low k (s.cnt+1),on:=upd s.on k true,stk:=s.stk++[k]}
def qrb(fr:List (Nat×Nat))(p:Nat×Nat)(k:Nat):Prop:=∃j,fr[j]? =some p/\(fr.map Prod.fst)[j+1]? =some k
abbrev dK(fr:List (Nat×Nat)):List Nat:=fr.map Prod.fst
structure TI(n:Nat)(aV:Nat->List Nat)(s:TS)(fr:List (Nat×Nat)):Prop where
 nT:∀v∈s.stk,v<n
 kW:∀v∈s.stk,0<s.num v
 iE:s.stk.Pairwise (λa b=>s.num a<s.num b)
 qK:∀v,s.on v=true↔v∈s.stk
 vis:∀v,0<s.num v->v∈s.stk\/v∈s.out.flatten
 nL:∀v∈s.out.flatten,0<s.num v/\v∉s.stk/\v<n
 kH:∀v∈s.out.flatten,∀k∈aV v,k∈s.out.flatten
 qU:∀c∈s.out,c.Pairwise (· < ·)/\∃r∈c,∀x,x∈c↔Rc aV r x/\Rc aV x r
 qO:s.out.flatten.Nodup
 jT:∀v,s.num v<=s.cnt
 mW:s.cnt=s.stk.length+s.out.flatten.length
 jL:(dK fr).Sublist s.stk
 lK:∀v∈s.stk,s.low v<=s.num v
 mQ:∀v∈s.stk,∃u∈s.stk,s.num u=s.low v/\Rc aV v u
 fin:∀v∈s.stk,v∉dK fr->s.low v<s.num v
 qP:∀v∈s.stk,v∉dK fr->∀k∈aV v,0<s.num k/\(k∈s.stk->s.low v<=s.num k)
 frE:∀p∈fr,p.2<=(aV p.1).length/\∀j,j<p.2->∀k,(aV p.1)[j]? =some k->0<s.num k/\(k∈s.stk->s.low p.1<=s.num k\/qrb fr p k)
 pM:∀v∈dK fr,∀w∈s.stk,s.num v<=s.num w->(∀v'∈dK fr,s.num v<s.num v'->s.num w<s.num v')->s.low v<=s.low w
 frR:∀v∈dK fr,∀w∈s.stk,s.num v<=s.num w->Rc aV v w
 cov:∀w∈s.stk,∃v∈dK fr,s.num v<=s.num w
variable {n:Nat} {aV:Nat->List Nat} {s:TS}
variable{h:List (Nat×Nat)}
theorem TI.nd(b:TI n aV s h):s.stk.Nodup:=b.iE.imp λa e=>by rw[e]at a;exact dC _ a
theorem zyr{f:Nat->Nat}:∀{l:List Nat},l.Pairwise (λa b=>f a<f b)->∀{a b},a∈l->b∈l->f a=f b->a=b
 |x::l,h,a,b,ha,hb,e=>by
  rw[yg]at h;rcases lE4.1 ha with g|c<;>rcases lE4.1 hb with i|d
  ·rw[g,i]
  ·subst g;exact absurd e (Nat.ne_of_lt (h.1 _ d))
  ·subst i;exact absurd e.symm (Nat.ne_of_lt (h.1 _ c))
  ·exact zyr h.2 c d e
theorem TI.inj(c:TI n aV s h)(d:E∈s.stk)(f:F∈s.stk)(e:s.num E=s.num F):E=F:=zyr c.iE d f e
theorem TI.nW(a:TI n aV s h)(b:E∈dK h):E∈s.stk:=a.jL.subset b
theorem TI.empty(h:TI n aV s []):s.stk=[]:=by
 cases c:s.stk with
 |nil=>rfl
 |cons a l=>obtain⟨v,b,_⟩:=h.cov a om;cases b
theorem TI.qR(g:TI n aV s h):s.cnt<=n:=by
 have f:(s.stk++s.out.flatten).Nodup:=lI2.2 ⟨g.nd,g.qO,λa i b j e=>(g.nL b j).2.1 (e▸i)⟩;have d:∀x∈s.stk++s.out.flatten,x∈List.range n:=λx c=>by
  rw[lOF];rcases lAJ.1 c with c|c
  ·exact g.nT x c
  ·exact(g.nL x c).2.2
 have:=f.length_le_of_subset d;rw[nj,yj,<-g.mW]at this
 grind
theorem TI.aA7(a:TI n aV s h):h.length<=s.stk.length:=by have:=a.jL.length_le;simp_all
theorem TI.aGQ(b:TI n aV s h)(c:s.num E=0):E∉s.stk/\E∉s.out.flatten:=
 ⟨λa=>by have:=b.kW E a;omega,λa=>by have:=(b.nL E a).1;omega⟩
theorem ew(l:List (Nat×Nat))(v i:Nat):dK (l++[(v,i)])=dK l++[v]:=om
theorem TI.aJp(a:TI n aV s h):(dK h).Nodup:=a.nd.sublist a.jL
theorem zjh(a:(dK (h++[(n,E)])).Nodup):¬qrb (h++[(n,E)]) (n,E) F:=by
 rintro ⟨j,b,c⟩
 grind
variable{D:List (Nat×Nat)}{M:Nat×Nat}
theorem qrb.bump(l:qrb (h++[(n,E)]) M I):qrb (h++(n,F)::D) M I:=by
 obtain⟨j,b,c⟩:=l;have d:j+1<(dK (h++[(n,E)])).length:=(lAL.1 c).1;refine⟨j,?_,?_⟩
 ·rw[sX om]at b ⊢;exact b
 ·have e:(h++(n,F)::D).map Prod.fst=(dK (h++[(n,E)]))++D.map Prod.fst:=by simp[dK]
  rw[e,sX d];exact c
theorem TI.top(l:TI n aV s (h++[(E,F)]))(a:I∈dK h):s.num I<s.num E:=by have:=l.iE.sublist l.jL;rw[ew,lI8]at this;exact this.2.2 I a E om
theorem TI.xE(l:TI n aV s (h++[(E,F)]))(a:I∈dK (h++[(E,F)])):s.num I<=s.num E:=by
 rw[ew]at a;rcases lAJ.1 a with a|a
 ·exact dE (l.top a)
 ·simp_all
theorem TI.seen(l:TI n aV s (h++[(E,F)])){k:Nat}(a:I<F)(e:(aV E)[I]? =some k):0<s.num k/\(k∈s.stk->s.low E<=s.num k):=by obtain⟨_,c⟩:=l.frE (E,F) om;obtain⟨d,f⟩:=c I a k e;exact⟨d,λb=>(f b).resolve_right (zjh l.aJp)⟩
theorem TI.enter(y:TI n aV s h)(T:s.num E=0)(J:E<n)(R:h=[]/\D=[]\/∃l v i,h=l++[(v,i)]/\(aV v)[i]? =some E/\D=l++[(v,i+1)]):TI n aV (s.enter E) (D++[(E,0)]):=by
 obtain⟨n1,n2⟩:=y.aGQ T;have K:dK (D++[(E,0)])=dK h++[E]:=om;have r:∀{v},v∈s.stk->v≠E:=om;have W:∀{v},v∈s.out.flatten->v≠E:=om;have G:∀{v},0<s.num v->v≠E:=om;have m:∀{v},v≠E->(s.enter E).num v=s.num v:=λc=>aE _ _ c;have A:(s.enter E).num E=s.cnt+1:=ac _ _ _;have lK:∀{v},v≠E->(s.enter E).low v=s.low v:=λc=>aE _ _ c;have mQ:(s.enter E).low E=s.cnt+1:=ac _ _ _;have d:∀{v},v∈(s.enter E).stk↔v∈s.stk\/v=E:=λ{v}=>by show v∈s.stk++[E]↔_;rw[lAJ,lAK]
 have I:∀{v},v∈dK (D++[(E,0)])↔v∈dK h\/v=E:=om;exact{
  nT:=λv c=>by rcases d.1 c with c|rfl;exact y.nT v c;exact J
  kW:=λv c=>by
   rcases d.1 c with c|rfl
   ·rw[m (r c)];exact y.kW v c
   ·omega
  iE:=by show(s.stk++[E]).Pairwise _;rw[lI8];refine⟨y.iE.imp_of_mem om,om,λa K b L=>?_⟩;rw[lAK.1 L,A,m (r K)];have:=y.jT a;omega
  qK:=λv=>by
   rw[d];show upd s.on E true v=true↔_;by_cases e:v=E
   ·rw[e,ac];simp
   ·rw[aE _ _ e,y.qK];simp[e]
  vis:=λv c=>by
   by_cases e:v=E
   ·simp_all
   ·rw[m e]at c;exact(y.vis v c).imp om id
  nL:=λv c=>by obtain⟨o,F,Y⟩:=y.nL v c;simp_all
  kH:=y.kH
  qU:=y.qU
  qO:=y.qO
  jT:=λv=>by
   show _<=s.cnt+1;by_cases e:v=E
   ·simp_all
   ·rw[m e];exact Nat.le_succ_of_le (y.jT v)
  mW:=by show s.cnt+1=(s.stk++[E]).length+s.out.flatten.length;rw[nj,xx,y.mW];omega
  jL:=by rw[K];exact y.jL.append om
  lK:=λv c=>by
   rcases d.1 c with c|rfl
   ·rw[m (r c),lK (r c)];exact y.lK v c
   ·omega
  mQ:=λv c=>by
   rcases d.1 c with c|rfl
   ·obtain⟨u,o,F,Y⟩:=y.mQ v c
    grind
   ·exact⟨v,om,om,Rc.refl _⟩
  fin:=λv c z=>by rw[I,not_or]at z;have c:=(d.1 c).resolve_right z.2;rw[m z.2,lK z.2];exact y.fin v c z.1
  qP:=λv c z x B=>by rw[I,not_or]at z;have c:=(d.1 c).resolve_right z.2;obtain⟨o,F⟩:=y.qP v c z.1 x B;simp_all
  frE:=λp C=>by
   rcases lAJ.1 C with C|C
   ·-- an old frame
    have old:∀{x},0<s.num x->p.1∈dK h->(x∈s.stk->s.low p.1<=s.num x\/qrb (D++[(E,0)]) p x) ->
      0<(s.enter E).num x/\(x∈(s.enter E).stk->(s.enter E).low p.1<=(s.enter E).num x\/qrb (D++[(E,0)]) p x):=λ{x} o M F=>by
     refine⟨by rw[m (G o)];exact o,λB=>?_⟩;rw[lK (r (y.nW M)),m (G o)];simp_all
    rcases R with⟨rfl,rfl⟩|⟨l,v,i,rfl,Q,rfl⟩
    ·cases C
    ·rcases lAJ.1 C with C|C
     ·obtain⟨g1,g2⟩:=y.frE p om;refine⟨g1,λj N x B=>?_⟩;obtain⟨g3,g4⟩:=g2 j N x B;refine old g3 om λO=>(g4 O).imp id λg=>?_;rw[sR];exact g.bump
     ·obtain rfl:=lAK.1 C;refine⟨(lAL.1 Q).1,λj N x B=>?_⟩;rcases lu j i with H|H
      ·obtain⟨g3,g4⟩:=y.seen H B;simp_all
      ·have:j=i:=by have:j<i+1:=N;omega
       subst this;rw[Q]at B;obtain rfl:=Option.some.inj B;refine⟨om,λ_=>Or.inr ⟨l.length,?_,?_⟩⟩
       ·simp
       ·simp
   ·simp_all
  pM:=λv c w f q L=>by
   rcases I.1 c with c|rfl
   ·have k:=r (y.nW c);rcases d.1 f with f|rfl
    ·rw[lK k,lK (r f)];rw[m k,m (r f)]at q;refine y.pM v c w f q λZ U V=>?_
     grind
    ·have:=L w om;rw[m k,A]at this;have S:=y.jT v;omega
   ·rcases d.1 f with f|rfl
    ·rw[A,m (r f)]at q;have:=y.jT w;omega
    ·simp
  frR:=λv P w f q=>by
   rcases I.1 P with c|rfl
   ·rcases d.1 f with f|rfl
    ·rw[m (r (y.nW c)),m (r f)]at q;exact y.frR v c w f q
    ·rcases R with⟨rfl,rfl⟩|⟨l,t,i,rfl,Q,rfl⟩
     ·trivial
     ·have X:t∈dK (l++[(t,i)]):=by rw[ew];simp
      exact(y.frR v c t (y.nW X) (y.xE c)).step om
   ·rcases d.1 f with f|rfl
    ·rw[A,m (r f)]at q;have:=y.jT w;omega
    ·exact Rc.refl _
  cov:=λw f=>by
   rcases d.1 f with f|rfl
   ·obtain⟨v,o,F⟩:=y.cov w f;exact⟨v,om,by rw[m (r (y.nW o)),m (r f)];exact F⟩
   ·exact⟨w,om,om⟩}
theorem TI.aPg(i:TI n aV s h)(D:E∈dK h)(t:F<=s.low E)(y:∃u∈s.stk,s.num u=F/\Rc aV E u):TI n aV {s with low:=upd s.low E F} h:=by
 have le:∀x,upd s.low E F x<=s.low x:=λx=>by
  by_cases e:x=E
  ·rw[e,ac];exact t
  ·rw[aE _ _ e];exact AF _
 exact{
  nT:=i.nT,kW:=i.kW,iE:=i.iE,qK:=i.qK,vis:=i.vis,nL:=i.nL,kH:=i.kH,qU:=i.qU,qO:=i.qO,jT:=i.jT,mW:=i.mW,jL:=i.jL
  lK:=λx b=>AL (le x) (i.lK x b)
  mQ:=λx b=>by
   show ∃u∈s.stk,s.num u=upd s.low E F x/\_;by_cases e:x=E
   ·rw[e,ac];exact y
   ·rw[aE _ _ e];exact i.mQ x b
  fin:=λx b g=>yf (le x) (i.fin x b g)
  qP:=λx b g k d=>⟨(i.qP x b g k d).1,λc=>AL (le x) ((i.qP x b g k d).2 c)⟩
  frE:=λp l=>⟨(i.frE p l).1,λj o k d=>⟨((i.frE p l).2 j o k d).1,λc=>(((i.frE p l).2 j o k d).2 c).imp om id⟩⟩
  pM:=λa q w r f z=>by
   show upd s.low E F a<=upd s.low E F w;by_cases e:w=E
   ·subst e;by_cases C:a=w
    ·simp_all
    ·have B:s.num a<s.num w:=Nat.lt_of_le_of_ne f λA=>C (i.inj (i.nW q) r A);exact absurd om om
   ·rw[aE _ _ e];exact AL (le a) (i.pM a q w r f z)
  frR:=i.frR
  cov:=i.cov}
theorem TI.bump(l:TI n aV s (h++[(E,F)]))(m:(aV E)[F]? =some I)(o:0<s.num I)(q:I∈s.stk->s.low E<=s.num I):TI n aV s (h++[(E,F+1)]):=by
 have c:dK (h++[(E,F+1)])=dK (h++[(E,F)]):=om;exact{
  nT:=l.nT,kW:=l.kW,iE:=l.iE,qK:=l.qK,vis:=l.vis,nL:=l.nL,kH:=l.kH,qU:=l.qU,qO:=l.qO,jT:=l.jT,mW:=l.mW,lK:=l.lK,mQ:=l.mQ
  jL:=by rw[c];exact l.jL
  fin:=by rw[c];exact l.fin
  qP:=by rw[c];exact l.qP
  pM:=by rw[c];exact l.pM
  frR:=by rw[c];exact l.frR
  cov:=by rw[c];exact l.cov
  frE:=λp e=>by
   rcases lAJ.1 e with e|e
   ·obtain⟨g1,g2⟩:=l.frE p om;refine⟨g1,λj f x a=>?_⟩;obtain⟨g3,g4⟩:=g2 j f x a;exact⟨g3,λb=>(g4 b).imp id λg=>g.bump⟩
   ·obtain rfl:=lAK.1 e;refine⟨(lAL.1 m).1,λj f x a=>?_⟩;rcases lu j F with d|d
    ·obtain⟨g3,g4⟩:=l.seen d a;simp_all
    ·have:j=F:=by have:j<F+1:=f;omega
     subst this;have a:(aV E)[j]? =some x:=a;rw[m]at a;obtain rfl:=Option.some.inj a;exact⟨o,λb=>Or.inl (q b)⟩}
def TS.look(s:TS)(v k:Nat):TS:=if s.on k then{s with low:=upd s.low v (min (s.low v) (s.num k))}else s
theorem TI.look(l:TI n aV s (h++[(E,F)]))(c:(aV E)[F]? =some I)(d:0<s.num I):TI n aV (s.look E I) (h++[(E,F+1)]):=by
 unfold TS.look;have e:E∈dK (h++[(E,F)]):=om;cases b:s.on I with
 |false=>
  have g:I∉s.stk:=λf=>by rw[(l.qK I).2 f]at b;cases b
  exact l.bump c d om
 |true=>
  have a:=(l.qK I).1 b;have j:TI n aV {s with low:=upd s.low E (min (s.low E) (s.num I))} (h++[(E,F)]):=by
   refine l.aPg e om ?_;rcases Nat.le_total (s.low E) (s.num I)with hle|hle
   ·rw[lh hle];exact l.mQ E (l.nW e)
   ·rw[Nat.min_eq_right hle];exact⟨I,a,rfl,Rc.one om⟩
  refine TI.bump j c d λ_=>?_;show upd s.low E _ E<=s.num I;rw[ac];exact vT _ _
theorem Qy(f:M∈h)(g:(dK (h++[(n,E)])).Nodup)(l:qrb (h++[(n,E)]) M F):qrb h M F\/(F=n/\h.getLast? =some M):=by
 obtain⟨j,d,b⟩:=l;have a:h[j]? =some M:=by rwa [sX om]at d
 rw[show(h++[(n,E)]).map Prod.fst=dK h++[n]from ew h n E]at b;have c:(dK h).length=h.length:=om;rcases lu (j+1) h.length with l|l
 ·rw[sX om]at b;exact Or.inl ⟨j,a,b⟩
 ·have e:j+1=h.length:=om;refine Or.inr ⟨om,?_⟩;rw[List.getLast?_eq_getElem?,<-e]
  grind
theorem TI.pop(l:TI n aV s ((h++[(F,I)])++[(E,(aV E).length)]))(M:s.low E<s.num E):TI n aV {s with low:=upd s.low F (min (s.low F) (s.low E))} (h++[(F,I)]):=by
 have q:E∈dK ((h++[(F,I)])++[(E,(aV E).length)]):=by rw[ew];simp
 have d:F∈dK (h++[(F,I)]):=by rw[ew];simp
 have D:∀{x},x∈dK ((h++[(F,I)])++[(E,(aV E).length)])↔x∈dK (h++[(F,I)])\/x=E:=om;have r:=l.nW q;have j:s.num F<s.num E:=l.top d;have t:=l.nW (D.2 (Or.inl d));have J:∀{x},x∈dK (h++[(F,I)])->s.num x<=s.num F:=λ{x} b=>by
  have f:=l.iE.sublist ((List.sublist_append_left (dK (h++[(F,I)])) [E]).trans (by rw[<-ew];exact l.jL));rw[ew,lI8]at f;rw[ew]at b;rcases lAJ.1 b with b|b
  ·exact dE (f.2.2 x b F (lAK.2 rfl))
  ·simp_all
 have le:∀x,upd s.low F (min (s.low F) (s.low E)) x<=s.low x:=λx=>by
  by_cases e:x=F
  ·rw[e,ac];exact qi _ _
  ·rw[aE _ _ e];exact AF _
 exact{
  nT:=l.nT,kW:=l.kW,iE:=l.iE,qK:=l.qK,vis:=l.vis,nL:=l.nL,kH:=l.kH,qU:=l.qU,qO:=l.qO,jT:=l.jT,mW:=l.mW
  jL:=(List.sublist_append_left (dK (h++[(F,I)])) [E]).trans (by rw[<-ew];exact l.jL)
  lK:=λx b=>AL (le x) (l.lK x b)
  mQ:=λx b=>by
   show ∃w∈s.stk,s.num w=upd s.low F (min (s.low F) (s.low E)) x/\_;by_cases e:x=F
   ·rw[e,ac];rcases Nat.le_total (s.low F) (s.low E)with c|c
    ·rw[lh c];exact l.mQ F t
    ·rw[Nat.min_eq_right c];obtain⟨w,A,f,R⟩:=l.mQ E r;exact⟨w,A,f,(l.frR F (D.2 (Or.inl d)) E r (dE j)).trans R⟩
   ·rw[aE _ _ e];exact l.mQ x b
  fin:=λx b O=>by
   refine yf (le x) ?_;by_cases e:x=E
   ·simp_all
   ·exact l.fin x b om
  qP:=λx b O k B=>by
   by_cases e:x=E
   ·subst e;obtain⟨i,C⟩:=lOT.1 B;have K:=(lAL.1 C).1;obtain⟨g1,g2⟩:=l.seen K C;exact⟨g1,om⟩
   ·obtain⟨g1,g2⟩:=l.qP x b (om) k B;exact⟨g1,om⟩
  frE:=λp N=>by
   obtain⟨g1,g2⟩:=l.frE p (uw _ N);refine⟨g1,λi C k B=>?_⟩;obtain⟨g3,g4⟩:=g2 i C k B;refine⟨g3,λv=>?_⟩;rcases g4 v with g|g
   ·grind
   ·rcases Qy N l.aJp g with g6|⟨rfl,g6⟩
    ·exact Or.inr g6
    ·rw[List.getLast?_concat]at g6;obtain rfl:=Option.some.inj g6;refine Or.inl ?_;show upd s.low F (min (s.low F) (s.low k)) F<=s.num k;rw[ac];omega
  pM:=λa u w m c P=>by
   show upd s.low F (min (s.low F) (s.low E)) a<=upd s.low F (min (s.low F) (s.low E)) w;have y:=D.2 (Or.inl u:a∈dK (h++[(F,I)])\/a=E);have z:=l.nW y;by_cases e:w=F
   ·subst e;by_cases S:a=w
    ·simp_all
    ·exact absurd (P w d (Nat.lt_of_le_of_ne c λQ=>S (l.inj z m Q))) (dC _)
   ·rw[aE _ _ e];rcases lu (s.num w) (s.num E)with hwv|hwv
    ·refine AL (le a) (l.pM a y w m c λG o H=>?_)
     grind
    ·have L:a=F:=by
      refine l.inj z t (Nat.le_antisymm (J u) ?_)
      grind
     rw[L,ac];refine AL (vT _ _) (l.pM E q w m hwv λG o H=>?_);have:=l.xE o;omega
  frR:=λa u=>l.frR a om
  cov:=λw m=>by
   obtain⟨G,A,f⟩:=l.cov w m;rcases D.1 A with A|rfl
   ·exact⟨G,A,f⟩
   ·exact⟨F,d,by show s.num F<=s.num w;omega⟩}
theorem TI.root(h:TI n aV s [(E,F)]):¬s.low E<s.num E:=λa=>by
 have b:E∈dK [(E,F)]:=om;obtain⟨u,c,d,_⟩:=h.mQ E (h.nW b);obtain⟨f,e,g⟩:=h.cov u c
 grind
theorem TI.leave{v:Nat}(l:TI n aV s (h++[(v,(aV v).length)]))(hlow:¬s.low v<s.num v){pre post comp:List Nat}(Y:s.stk=pre++v::post)(V:comp.Perm (v::post))(T:comp.Pairwise (· < ·))(L:Nat->Bool)(Z:∀x,L x=if x∈comp then false else s.on x):TI n aV {s with stk:=pre,on:=L,out:=s.out++[comp]} h:=by
 have F:v∈dK (h++[(v,(aV v).length)]):=om;have U:∀{x},x∈dK (h++[(v,(aV v).length)])↔x∈dK h\/x=v:=om;have Q:=l.nW F;have D:=l.iE;rw[Y,lI8,yg]at D;obtain⟨s1,⟨s2,s3⟩,s4⟩:=D;have f:∀{x},x∈s.stk↔x∈pre\/x∈v::post:=λ{x}=>by rw[Y,lAJ]
 have I:∀{x},x∈pre->s.num x<s.num v:=λ{x} d=>s4 x d v vA;have J:∀{x},x∈v::post->s.num v<=s.num x:=λ{x} d=>by
  rcases lE4.1 d with rfl|d
  ·simp
  ·exact dE (s2 x d)
 have yT:∀{x},x∈pre->x∉v::post:=λ{x} o t=>by have:=I o;have:=J t;omega
 have aOK:∀{x},x∈s.stk->s.num x<s.num v->x∈pre:=λ{x} o t=>(f.1 o).resolve_right λH=>by have:=J H;omega
 have G:∀{x},x∈s.stk->s.num v<=s.num x->x∈v::post:=λ{x} o t=>(f.1 o).resolve_left λH=>by have:=I H;omega
 have r:∀{x},x∈comp↔x∈v::post:=V.mem_iff;have z:∀{x},x∈(s.out++[comp]).flatten↔x∈s.out.flatten\/x∈v::post:=λ{x}=>by rw[uy,lAJ];simp[r]
 have j:∀{x},x∈v::post->x∈s.stk:=λd=>f.2 (Or.inr d)
 have K:∀m x,s.num x=m->x∈v::post->Rc aV x v:=by
  intro m
  induction m using Nat.strongRecOn with
  |_ m ih=>
   intro x hm d;by_cases e:x=v
   ·rw[e];exact Rc.refl _
   ·have q:=j d;have R:x∉dK (h++[(v,(aV v).length)]):=λM=>by
     have o:=l.xE M;have t:=J d;exact e (l.inj q Q om)
    obtain⟨u,o,t,H⟩:=l.mQ x q;have h4:=l.fin x q R;have h5:s.low v<=s.low x:=l.pM v F x q (J d) λW C N=>by have:=l.xE C;omega
    exact H.trans (ih (s.num u) om u rfl (G o om))
 have A:∀x∈v::post,∀k∈aV x,k∈v::post\/k∈s.out.flatten:=λx d k B=>by
  have q:=j d;have key:0<s.num k/\(k∈s.stk->s.num v<=s.num k):=by
   by_cases e:x=v
   ·subst e;obtain⟨i,hi⟩:=lOT.1 B;obtain⟨g1,g2⟩:=l.seen (lAL.1 hi).1 hi;exact⟨g1,λE=>by have:=g2 E;omega⟩
   ·have R:x∉dK (h++[(v,(aV v).length)]):=λM=>by
     have o:=l.xE M;have t:=J d;exact e (l.inj q Q om)
    obtain⟨g1,g2⟩:=l.qP x q R k B;have h5:s.low v<=s.low x:=l.pM v F x q (J d) λW C N=>by have:=l.xE C;omega
    exact⟨g1,λE=>by have:=g2 E;omega⟩
  rcases l.vis k key.1 with E|hko
  ·simp_all
  ·simp_all
 have bA7:∀{x},x∈s.out.flatten->x∉v::post:=λo t=>(l.nL _ o).2.1 (j t);have bW5:∀{p k},p∈h->k∈pre->qrb (h++[(v,(aV v).length)]) p k->qrb h p k:=λ{p k} V B g=>by
  rcases Qy V l.aJp g with g|⟨rfl,_⟩
  ·exact g
  ·exact absurd vA (yT B)
 exact{
  nT:=λx d=>l.nT x (f.2 (Or.inl d))
  kW:=λx d=>l.kW x (f.2 (Or.inl d))
  iE:=s1
  qK:=λx=>by
   show L x=true↔x∈pre;rw[Z];by_cases d:x∈comp
   ·rw[sB d];exact⟨λe=>(by cases e),λe=>absurd (r.1 d) (yT e)⟩
   ·rw[sy d,l.qK,f];exact⟨λe=>e.resolve_right λg=>d (r.2 g),Or.inl⟩
  vis:=λx d=>by
   rcases l.vis x d with g|g
   ·rcases f.1 g with g|g
    ·exact Or.inl g
    ·simp_all
   ·simp_all
  nL:=λx d=>by
   rcases z.1 d with g|g
   ·obtain⟨o,t,H⟩:=l.nL x g;simp_all
   ·exact⟨l.kW x (j g),λh4=>yT h4 g,l.nT x (j g)⟩
  kH:=λx d k B=>by
   rcases z.1 d with g|g
   ·exact z.2 (Or.inl (l.kH x g k B))
   ·exact z.2 ((A x g k B).symm)
  qU:=λc X=>by
   rcases lAJ.1 X with X|X
   ·exact l.qU c X
   ·obtain rfl:=lAK.1 X;refine⟨T,v,om,λx=>⟨λd=>⟨l.frR v F x (j (r.1 d)) (J (r.1 d)),K _ x rfl (r.1 d)⟩,λ⟨g1,g2⟩=>?_⟩⟩;have hcl:x∈v::post\/x∈s.out.flatten:=Rc.closed (S:=λx=>x∈v::post\/x∈s.out.flatten) (λy hy k B=>hy.elim (λg=>A y g k B) λg=>Or.inr (l.kH y g k B)) g1 (Or.inl vA);rcases hcl with g|g
    ·exact r.2 g
    ·have:=Rc.closed (S:=λx=>x∈s.out.flatten) l.kH g2 g;exact absurd Q (l.nL v this).2.1
  qO:=by
   rw[uy,lI2];refine⟨l.qO,by have e:[comp].flatten=comp:=g3;rw[e];exact T.imp λhab=>Nat.ne_of_lt hab,λa o b t e=>?_⟩
   grind
  jT:=l.jT
  mW:=by rw[l.mW,Y];have:=V.length_eq;simp at this ⊢;omega
  jL:=by
   have o:=l.jL.filter (λx=>decide (s.num x<s.num v));rw[ew,Y,lg,lg]at o;have e1:(dK h).filter (λx=>decide (s.num x<s.num v))=dK h:=List.filter_eq_self.2 λx d=>j7 (l.top d);have e2:pre.filter (λx=>decide (s.num x<s.num v))=pre:=List.filter_eq_self.2 λx d=>j7 (I d);have e3:(v::post).filter (λx=>decide (s.num x<s.num v))=[]:=List.filter_eq_nil_iff.2 λx d=>by simpa using J d
   simp_all
  lK:=λx d=>l.lK x (f.2 (Or.inl d))
  mQ:=λx d=>by obtain⟨u,o,t,H⟩:=l.mQ x (f.2 (Or.inl d));have:=l.lK x (f.2 (Or.inl d));have:=I d;exact⟨u,aOK o om,t,H⟩
  fin:=λx d M=>l.fin x (f.2 (Or.inl d)) λg=>(U.1 g).elim M λe=>by have:=I d;rw[e]at this;exact dC _ this
  qP:=λx d M k B=>by obtain⟨g1,g2⟩:=l.qP x (f.2 (Or.inl d)) (λg=>(U.1 g).elim M λe=>by have:=I d;rw[e]at this;exact dC _ this) k B;simp_all
  frE:=λp V=>by
   obtain⟨g1,g2⟩:=l.frE p om;refine⟨g1,λi hi k B=>?_⟩
   grind
  pM:=λa T w O P hb=>l.pM a (U.2 (Or.inl T)) w (f.2 (Or.inl O)) P λW C N=>by
   rcases U.1 C with g|rfl
   ·exact hb W g N
   ·exact I O
  frR:=λa T w O P=>l.frR a (U.2 (Or.inl T)) w (f.2 (Or.inl O)) P
  cov:=λw O=>by
   obtain⟨W,o,t⟩:=l.cov w (f.2 (Or.inl O));rcases U.1 o with o|rfl
   ·exact⟨W,o,t⟩
   ·have:=I O;omega}
theorem TI.init(n:Nat)(aV:Nat->List Nat):TI n aV ⟨λ_=>0,λ_=>0,λ_=>false,[],0,[]⟩ [] where
 nT:=om
 kW:=om
 iE:=List.Pairwise.nil
 qK:=om
 vis:=om
 nL:=om
 kH:=om
 qU:=om
 qO:=uB
 jT:=om
 mW:=rfl
 jL:=List.Sublist.refl _
 lK:=om
 mQ:=om
 fin:=om
 qP:=om
 frE:=om
 pM:=om
 frR:=om
 cov:=om
open Classical
def qz(n:Nat)(a:Nat->List Nat)(pre:List (List Nat))(i:Nat):Prop:=∀k,k<n->Rc a i k->k∈pre.flatten\/Rc a k i
structure aNd(n:Nat)(aV:Nat->List Nat)(pre:List (List Nat))(i:Nat):Prop where
 lt:i<n
 new:i∉pre.flatten
 rdy:qz n aV pre i
def zze(n:Nat)(a:Nat->List Nat)(i:Nat)(c:List Nat):Prop:=c.Pairwise (· < ·)/\∀x,x∈c↔x<n/\Rc a i x/\Rc a x i
def oD(n:Nat)(aV:Nat->List Nat):List (List Nat)->List (List Nat)->Prop
 |pre,[]=>∀x,x<n->x∈pre.flatten
 |pre,c::R=>(∃i,aNd n aV pre i/\zze n aV i c)/\oD n aV (pre++[c]) R
def cnt(n:Nat)(a:Nat->List Nat)(i:Nat):Nat:=((List.range n).filter λk=>decide (Rc a i k)).length
theorem sg(j:E<n)(h:Rc aV E F)(c:¬Rc aV F E):cnt n aV F<cnt n aV E:=by
 unfold cnt;have b:∀(l:List Nat),(l.filter λx=>decide (Rc aV F x)).length<=(l.filter λx=>decide (Rc aV E x)).length:=λl=>by
  induction l with
  |nil=>exact AF _
  |cons x l ih=>
   rw[dm,dm];by_cases a:Rc aV F x
   ·rw[sB (by simpa using a),sB (by simpa using h.trans a)]
    grind
   ·grind
 have d:∀(l:List Nat),E∈l->(l.filter λx=>decide (Rc aV F x)).length<(l.filter λx=>decide (Rc aV E x)).length:=λl=>by
  induction l with
  |nil=>intro h;cases h
  |cons x l ih=>
   intro g;rw[dm,dm];by_cases e:x=E
   ·subst e;rw[sy (by simpa using c),sB (by simpa using Rc.refl x)]
    grind
   ·have f:E∈l:=(lE4.1 g).resolve_left λh=>e h.symm;by_cases a:Rc aV F x
    ·rw[sB (by simpa using a),sB (by simpa using h.trans a)];simp_all
    ·grind
 simp_all
variable{J:List (List Nat)}
theorem z9s(e:∀u,∀k∈aV u,k<n)(d:E<n)(f:E∉J.flatten):∃i,i<n/\i∉J.flatten/\qz n aV J i:=by
 have g:∀m E,cnt n aV E=m->E<n->E∉J.flatten->∃i,i<n/\i∉J.flatten/\qz n aV J i:=λm=>by
  induction m using Nat.strongRecOn with
  |_ m ih=>
   intro E h d f;by_cases c:qz n aV J E
   ·grind
   ·unfold qz at c;simp only[not_forall]at c;obtain⟨k,j,b,a⟩:=c;rw[not_or]at a;exact ih (cnt n aV k) (by rw[<-h];exact sg d b a.2) k rfl j a.1
 grind
theorem T1:∀{R pre:List (List Nat)},oD n aV pre R->(∀x∈pre.flatten,x<n)->pre.flatten.Nodup->(∀x∈pre.flatten,∀y,y<n->Rc aV x y->Rc aV y x->y∈pre.flatten) -> (pre++R).flatten.Nodup/\(∀x∈(pre++R).flatten,x<n)/\(∀x,x<n->x∈(pre++R).flatten)/\∀o∈R,o≠[]
 | [],pre,h,h1,h2,_=>by rw[DN];exact⟨h2,h1,h,λo f=>by cases f⟩
 |c::R,pre,⟨⟨i,hi,hc⟩,h⟩,h1,h2,h3=>by
  have b:(pre++[c]).flatten=pre.flatten++c:=om;have l:i∈c:=(hc.2 i).2 ⟨hi.lt,Rc.refl _,Rc.refl _⟩;have ih:=T1 h (λx a=>?_) ?_ λx a y d j k=>?_
  ·rw[sR]at ih;obtain⟨m,p,q,r⟩:=ih;exact⟨m,p,q,om⟩
  ·rw[b,lAJ]at a;exact a.elim (h1 x) λg=>((hc.2 x).1 g).1
  ·rw[b,lI2];refine⟨h2,hc.1.imp om,λx a y d e=>?_⟩;subst e;have g:=(hc.2 x).1 d;exact hi.new (h3 x a i hi.lt g.2.2 g.2.1)
  ·rw[b,lAJ]at a ⊢;rcases a with a|a
   ·grind
   ·have g:=(hc.2 x).1 a;exact Or.inr ((hc.2 y).2 ⟨d,g.2.1.trans j,k.trans g.2.2⟩)
theorem oD.all(h:oD n aV [] J):J.flatten.Nodup/\(∀x∈J.flatten,x<n)/\(∀x,x<n->x∈J.flatten)/\(∀o∈J,o≠[])/\J.flatten.length=n:=by
 obtain⟨b,e,c,f⟩:=T1 h om uB om;refine⟨b,e,c,f,Nat.le_antisymm ?_ ?_⟩
 ·have:=b.length_le_of_subset (l₂:=List.range n) λx d=>lOF.2 om;simp_all
 ·have:=(List.nodup_range (n:=n)).length_le_of_subset (l₂:=J.flatten) λx d=>c x om;simp_all
theorem UZ:∀{R pre:List (List Nat)} {j:Nat} {c:List Nat} {a b:Nat},oD n aV pre R->R[j]? =some c->a∈c->b<n->b∈aV a->b∈pre.flatten\/∃e f,e<=j/\R[e]? =some f/\b∈f
 | [],_,_,_,_,_,_,h,_,_,_=>by simp at h
 |d::R,pre,0,c,a,b,⟨⟨i,hi,hc⟩,_⟩,h,ha,hb,he=>by
  simp at h;subst h;have g:=(hc.2 a).1 ha;have l:Rc aV i b:=g.2.1.step he;rcases hi.rdy b hb l with k|k
  ·grind
  ·exact Or.inr ⟨0,d,om,rfl,(hc.2 b).2 ⟨hb,l,k⟩⟩
 |d::R,pre,j+1,c,a,b,⟨_,h'⟩,h,ha,hb,he=>by
  rcases UZ h' (by simpa using h) ha hb he with k|⟨e,f,m,k2,k3⟩
  ·rw[uy,lAJ]at k;rcases k with k|k
   ·grind
   ·exact Or.inr ⟨0,d,om,rfl,om⟩
  ·exact Or.inr ⟨e+1,f,by omega,om,k3⟩
end Go.Di.T
end
