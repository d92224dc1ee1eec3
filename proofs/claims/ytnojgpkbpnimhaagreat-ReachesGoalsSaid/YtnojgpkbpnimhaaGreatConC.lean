/-
 For ReachesGoals: functions in direct style, their contracts, and the plain mathematics, part 3 of 11. No conditions beyond those that each theorem states.
-/
import Derived.Test.YtnojgpkbpnimhaaGreatConA
import Derived.Test.YtnojgpkbpnimhaaGreatConB
import Derived.Test.YtnojgpkbpnimhaaGreatEv3
set_option linter.unusedSimpArgs false
set_option linter.unusedVariables false
noncomputable section
namespace Go.Di
open Go.Ev
structure LP where
 n:Nat
 ps:List Tmp
 aC:Code
 bd:Code
def LP.blk(p:LP)(b:Bool)(L:TT AV 2):bW:=.loop b none 2 p.n L p.ps p.aC p.bd
def pu(L:TT AV 2):List (Nat×AV)->TT AV 2
 | []=>L
 |p::r=>pu ((setter 2 p.1).f L p.2) r
theorem z6z{l:Nat}{v:AV}{a:Hp}{L:TT AV 2}{p:LP}{M:TT AV 2}{i:Nat}{E:TT AV 2->pH}{K:Kt 2}(h:a.get l=p.blk true M):fin (endLoop l (.ok v a) L) (aBp i (thn E K))=E L (a.put l .dead):=by unfold endLoop;simp only[h];rfl
theorem zlx{l:Nat}{H:Hp}{L M:TT AV 2}{p:LP}(h:H.get l=p.blk false M):endRound l (.ok .normal L H)=.ok (.bool true) (H.put l (p.blk true M)):=by unfold endRound;simp only[zxx,h];rfl
def q1v(O:Ev.Call)(x2 x5:AV)(H:Hp):R1:=vq (aN 0 x5) H fun a3 H=>vq (aR H a3) H fun a4 H=>ve (O (.f 224) [a4] H) fun a5 H=>vq (aN 0 x5) H fun a6 H=>ve (j5 H a6 a5) fun _ H=>vq (cO 2 H x5) H fun a8 H=>ve (xA 2 H x2 a8) fun _ H=>dM (gH (fQ (rV (cO 2 H x2)) (fQ (some (iN 0)) (some [])))) H
def qia(O:Ev.Call)(l:Nat)(L:TT AV 2)(x5 x6:AV)(H:Hp):R1:=dz 8 H fun b16 H=>dn 0 0 b16 H [] [] (aN 0 x5) fun a17 H p w=>dl 1 1 b16 H p w (fun H=>aR H a17) fun cZ H p w=>dn 2 0 b16 H p w (.val x6) fun dH H p w=>de 4 H p w (O (.f 185) [dH] (dZ 4 p H)) (some true) fun a20 H p w=>da 4 12 b16 H p w (rJ 1 (b16+4) (bH (aS [.aA] 1) [(0,1,a20)])) fun a21 H p w=>de 31 H p w (iM 1 24 (dZ 31 p H) cZ (lY 1 (dZ 31 p H) a21)) (some true) fun a22 H p w=>dn 6 63 b16 H p w (aN 0 x5) fun a23 H p w=>de 127 H p w (j5 (dZ 127 p H) a23 a22) (some true) fun _ H p w=>xZ p H fun H=>endRound l (.ok .normal L H)
def q1u(O:Ev.Call)(g27:pD)(x29:AV)(H:Hp):R1:=vq (iC (oI .add).f x29 (iN 1)) H fun a29 H=>g27 a29 H
def q1s(O:Ev.Call)(g27:pD)(x5 x27 x29:AV)(H:Hp):R1:=vq (aH 1 x27 x29) H fun a31 H=>vq (aR H a31) H fun a32 H=>vq (aN 1 x5) H fun a33 H=>vq (aR H a33) H fun a34 H=>vq (aN 0 x5) H fun a35 H=>vq (aR H a35) H fun a36 H=>vq (aD a36) H fun a37 H=>vq (aH 1 a34 a32) H fun a38 H=>ve (j5 H a38 a37) fun _ H=>q1u O g27 x29 H
def q1w(O:Ev.Call)(aAn:pH)(x5 x27 x28:AV)(g27:pD)(x29:AV)(H:Hp):R1:=vq (iC (oI .lss).f x29 x28) H fun a28 H=>cd a28 (q1s O g27 x5 x27 x29 H) (aAn H)
def qkf(O:Ev.Call)(aAn:pH)(x5 x27 x28:AV)(n:Nat):pD:=Nat.rec (motive:=fun _=>pD) (fun _ _=>.bad) (fun _ ih=>q1w O aAn x5 x27 x28 ih) n
def q1x(O:Ev.Call)(aAn:pH)(x5 x27 x28:AV):pD:=qkf O aAn x5 x27 x28 dG
def wS(O:Ev.Call)(l:Nat)(L:TT AV 2)(x5 pM:AV)(H:Hp):R1:=vq (aD pM) H fun a26 H=>q1x O (fun H=>qia O l L x5 pM H) x5 pM a26 (iN 0) H
def zqk(LO:LP)(O:Ev.Call)(L:TT AV 2)(x25:AV)(H:Hp):R1:=fin (endLoop H.nx (qj3 O x25 [.yield H.nx] (aI H (LO.blk true L))) L) (aBp 0 (thn (fun L H=>q1v O (G L 2) (G L 5) H) (aF9 fun L H=>gH (fQ (rV (cO 2 H (G L 2))) (fQ (some (G L 3)) (some []))))))
def qn9(LO:LP)(O:Ev.Call)(L:TT AV 2)(x1:AV)(H:Hp):R1:=dz 0 H fun b11 H=>dl 0 0 b11 H [] [] (fun H=>cO 2 H x1) fun a12 H p w=>dl 1 0 b11 H p w (fun H=>cO 2 H x1) fun bU H p w=>de 2 H p w (O (.f 223) [bU] (dZ 2 p H)) (some true) fun bR H p w=>de 7 H p w (O (.f 222) [a12,bR] (dZ 7 p H)) (some true) fun bK H p w=>xZ p H fun H=>zqk LO O (pu L [(22,a12),(23,bU),(24,bR),(25,bK)]) bK H
def q1q(LO:LP)(O:Ev.Call)(L:TT AV 2)(x1 x2:AV)(H:Hp):R1:=vq (.new (.ptr H.nx 0) (aB 0 [.aA,.aA])) H fun a2 H=>vq (aN 0 x1) H fun a42 H=>vq (aR H a42) H fun a43 H=>vq (iC (oI .gtr).f a43 (iN 0)) H fun a44 H=>cd a44 (vq (aN 0 x1) H fun a45 H=>vq (aR H a45) H fun a46 H=>vq (qe9 [iN 0] 8 H.nx a46 a46) H fun a47 H=>vq (aN 1 a2) H fun a48 H=>ve (j5 H a48 a47) fun _ H=>qn9 LO O (pu L [(5,a2),(15,a42),(16,a43),(17,a44),(18,a45),(19,a46),(20,a47),(21,a48)]) x1 H) (qn9 LO O (pu L [(5,a2),(15,a42),(16,a43),(17,a44)]) x1 H)
def z04(LO:LP)(O:Ev.Call)(L:TT AV 2)(x0:AV)(H:Hp):R1:=vq (qI 2 H.nx x0) H fun a0 H=>vq (.new (.ptr H.nx 0) (aB 0 [.aA,.aA])) H fun a1 H=>vq (cO 2 H a0) H fun a51 H=>ve (O (.f 221) [a51] H) fun a52 H=>vq (iC (oI .neq).f a52 (iN 0)) H fun a53 H=>cd a53 (vq (bP (bH [.aA,.aA] [])) H fun a54 H=>ve (xA 2 H a1 a54) fun _ H=>dM (gH (fQ (rV (cO 2 H a1)) (fQ (some a52) (some [])))) H) (q1q LO O (pu L [(1,a0),(2,a1),(3,iN 0),(9,a51),(10,a52),(4,a52),(11,a52),(12,a53)]) a0 a1 H)
def zBo(LO:LP)(O:Ev.Call)(x0:AV)(H:Hp):R1:=z04 LO O (pX [x0] 0 (same .undef 2)) x0 H
def qg4(O:Ev.Call)(x2:AV)(H:Hp):R1:=vq (aR H x2) H fun a1 H=>.ok a1 H
def fI(O:Ev.Call)(l:Nat)(L:TT AV 2)(x2 x7:AV)(H:Hp):R1:=vq (aR H x2) H fun a3 H=>vq (rJ 1 H.nx (bH (aS [iN 0] 1) [(0,1,x7)])) H fun a4 H=>ve (iM 1 8 H a3 (lY 1 H a4)) fun a5 H=>ve (j5 H x2 a5) fun _ H=>endRound l (.ok .normal L H)
def qiv(LA:LP)(O:Ev.Call)(L:TT AV 2)(x1:AV)(H:Hp):R1:=fin (endLoop H.nx (qj3 O x1 [.yield H.nx] (aI H (LA.blk true L))) L) (aBp 0 (thn (fun L H=>qg4 O (G L 2) H) (aF9 fun L _=>some (G L 4))))
def qiw(LA:LP)(O:Ev.Call)(L:TT AV 2)(x0 x1:AV)(H:Hp):R1:=vq (nV H.nx x0) H fun a0 H=>qiv LA O (pu L [(2,a0),(4,.aA),(6,x1)]) x1 H
def kF(LA:LP)(O:Ev.Call)(x0 x1:AV)(H:Hp):R1:=qiw LA O (pX [x0,x1] 0 (same .undef 2)) x0 x1 H
structure aZt(LA LO:LP)(c d:Ev.Call):Prop where
 kF:∀(x0 x1:AV) (H:Hp),c (.f 313) [x0,x1] H=Di.kF LA d x0 x1 H
 fI:∀(L:TT AV 2) (l:Nat) (v:AV) (H:Hp),H.get l=LA.blk true L->c (.y l) [v] H=Di.fI d l L (G L 2) v (H.put l (LA.blk false L))
 zBo:∀(x0:AV) (H:Hp),c (.f 191) [x0] H=Di.zBo LO d x0 H
 wS:∀(L:TT AV 2) (l:Nat) (v:AV) (H:Hp),H.get l=LO.blk true L->c (.y l) [v] H=Di.wS d l L (G L 5) v (H.put l (LO.blk false L))
abbrev oL(LA LO:LP)(C:Nat->Ev.Call):Prop:=∀ k,aZt LA LO (C (k+1)) (C k)
variable {P:Program} {d n:Nat} {O:Ev.Call}
theorem pS{α:Type}{c:Code}{K:Kt d}{X Y:α}(e:X=Y)(f:α->TT AV d->pH)(h:Lk P d n O c K (f Y)):Lk P d n O c K (f X):=by rw[e];exact h
theorem bN{f:FuncId}{F:Func}(hf:P.funcs[f]? =some F){args:List AV}(h:(!(F.name == "runtime.NumGoroutine")&&(F.body.isSome&&(qk6 (codeOf F)&&(Nat.ble args.length F.ntmps&&Nat.ble (F.ntmps+1) 262144))))=true)
  {D:TT AV (iF (F.ntmps+1))->pH} (l:Lk P (iF (F.ntmps+1)) F.ntmps O (codeOf F) (aF9 (qcs P (iF (F.ntmps+1)) F.ntmps F.results.toList).f) D) (H:Hp) :
  (aK P f).f O args H=D (pX args 0 (same .undef _)) H:=by
 rw[qh,qh,qh]at h;exact qd8 hf (by simpa using h.1) h.2.1 h.2.2.1 h.2.2.2 l H
theorem r7{f:FuncId}{F:Func}(hf:P.funcs[f]? =some F){args:List AV}{D:TT AV (iF (F.ntmps+1))->pH}(l:Lk P (iF (F.ntmps+1)) F.ntmps O (codeOf F) (aF9 (qcs P (iF (F.ntmps+1)) F.ntmps F.results.toList).f) D){H:Hp}{r}(e:D (pX args 0 (same .undef _)) H=r:=by kernel_rfl)(h:(!(F.name == "runtime.NumGoroutine")&&(F.body.isSome&&(qk6 (codeOf F)&&(Nat.ble args.length F.ntmps&&Nat.ble (F.ntmps+1) 262144))))=true:=by kernel_rfl):(aK P f).f O args H=r:=(bN hf h l H).trans e
instance{d:Nat}:CoeFun (TT AV d) fun _=>Nat->AV:=⟨G⟩
end Go.Di
end
noncomputable section
namespace Go.Di.T
inductive Rc(aV:Nat->List Nat):Nat->Nat->Prop where
 |refl (a:Nat):Rc aV a a
 |step {a b c:Nat} (h:Rc aV a b) (e:c∈aV b):Rc aV a c
theorem Rc.trans{aV:Nat->List Nat}{a b c:Nat}(h:Rc aV a b)(k:Rc aV b c):Rc aV a c:=by
 induction k with
 |refl=>exact h
 |step _ e ih=>exact ih.step e
theorem Rc.one{aV:Nat->List Nat}{a b:Nat}(e:b∈aV a):Rc aV a b:=(Rc.refl a).step e
theorem Rc.closed{aV:Nat->List Nat}{S:Nat->Prop}(h:∀ v,S v->∀ k∈aV v,S k){a b:Nat}(r:Rc aV a b)(c:S a):S b:=by
 induction r with
 |refl=>exact c
 |step _ e ih=>exact h _ ih _ e
def upd{α:Type}(f:Nat->α)(i:Nat)(x:α):Nat->α:=fun j=>if j=i then x else f j
theorem upd_same{α:Type}(f:Nat->α)(i:Nat)(x:α):upd f i x i=x:=qj rfl
theorem upd_ne{α:Type}(f:Nat->α){i j:Nat}(x:α)(h:j≠i):upd f i x j=f j:=pg h
structure TS where
 num:Nat->Nat
 low:Nat->Nat
 on:Nat->Bool
 stk:List Nat
 cnt:Nat
 out:List (List Nat)
def TS.enter(s:TS)(k:Nat):TS:=
 {s with cnt:=s.cnt+1,num:=upd s.num k (s.cnt+1),low:=upd s.low k (s.cnt+1),on:=upd s.on k true,stk:=s.stk++[k]}
def qqs(fr:List (Nat×Nat))(p:Nat×Nat)(k:Nat):Prop:=∃ j,fr[j]? =some p/\(fr.map Prod.fst)[j+1]? =some k
abbrev eO(fr:List (Nat×Nat)):List Nat:=fr.map Prod.fst
structure TI(n:Nat)(aV:Nat->List Nat)(s:TS)(fr:List (Nat×Nat)):Prop where
 nL:∀ v∈s.stk,v<n
 kK:∀ v∈s.stk,0<s.num v
 gY:s.stk.Pairwise (fun a b=>s.num a<s.num b)
 pQ:∀ v,s.on v=true↔v∈s.stk
 vis:∀ v,0<s.num v->v∈s.stk\/v∈s.out.flatten
 mX:∀ v∈s.out.flatten,0<s.num v/\v∉s.stk/\v<n
 jR:∀ v∈s.out.flatten,∀k∈aV v,k∈s.out.flatten
 qE:∀ c∈s.out,c.Pairwise (· < ·)/\∃ r∈c,∀x,x∈c↔Rc aV r x/\Rc aV x r
 pY:s.out.flatten.Nodup
 jJ:∀ v,s.num v<=s.cnt
 mD:s.cnt=s.stk.length+s.out.flatten.length
 iY:(eO fr).Sublist s.stk
 kI:∀ v∈s.stk,s.low v<=s.num v
 lQ:∀ v∈s.stk,∃u∈s.stk,s.num u=s.low v/\Rc aV v u
 fin:∀ v∈s.stk,v∉eO fr->s.low v<s.num v
 pZ:∀ v∈s.stk,v∉eO fr->∀ k∈aV v,0<s.num k/\(k∈s.stk->s.low v<=s.num k)
 frE:∀ p∈fr,p.2<=(aV p.1).length/\∀ j,j<p.2->∀ k,(aV p.1)[j]? =some k->0<s.num k/\(k∈s.stk->s.low p.1<=s.num k\/qqs fr p k)
 oV:∀ v∈eO fr,∀w∈s.stk,s.num v<=s.num w->(∀v'∈eO fr,s.num v<s.num v'->s.num w<s.num v')->s.low v<=s.low w
 frR:∀ v∈eO fr,∀w∈s.stk,s.num v<=s.num w->Rc aV v w
 cov:∀ w∈s.stk,∃v∈eO fr,s.num v<=s.num w
variable {n:Nat} {aV:Nat->List Nat} {s:TS}
theorem TI.nd{b:List (Nat×Nat)}(h:TI n aV s b):s.stk.Nodup:=h.gY.imp fun a e=>by rw[e]at a;exact xx _ a
theorem zxs{f:Nat->Nat}:∀{l:List Nat},l.Pairwise (fun a b=>f a<f b)->∀{a b},a∈l->b∈l->f a=f b->a=b
 |x::l,h,a,b,ha,hb,e=>by
  rw[lE2]at h;rcases su.1 ha with g|c<;>rcases su.1 hb with i|d
  ·rw[g,i]
  ·subst g;exact absurd e (lEL (h.1 _ d))
  ·subst i;exact absurd e.symm (lEL (h.1 _ c))
  ·exact zxs h.2 c d e
theorem TI.inj{c:List (Nat×Nat)}(h:TI n aV s c){a b:Nat}(d:a∈s.stk)(f:b∈s.stk)(e:s.num a=s.num b):a=b:=zxs h.gY d f e
theorem TI.mU{a:List (Nat×Nat)}(h:TI n aV s a){v:Nat}(b:v∈eO a):v∈s.stk:=h.iY.subset b
theorem TI.empty(h:TI n aV s []):s.stk=[]:=by
 cases c:s.stk with
 |nil=>rfl
 |cons a l=>obtain⟨v,b,_⟩:=h.cov a (by rw[c];exact ug);cases b
theorem TI.qB{g:List (Nat×Nat)}(h:TI n aV s g):s.cnt<=n:=by
 have f:(s.stk++s.out.flatten).Nodup:=yw.2 ⟨h.nd,h.pY,fun a i b j e=>(h.mX b j).2.1 (e▸i)⟩;have d:∀ x∈s.stk++s.out.flatten,x∈List.range n:=fun x c=>by
  rw[xg];rcases qi.1 c with c|c
  ·exact h.nL x c
  ·exact(h.mX x c).2.2
 have:=f.length_le_of_subset d;rw[lL,lAR,<-h.mD]at this;exact this
theorem TI.aBh{a:List (Nat×Nat)}(h:TI n aV s a):a.length<=s.stk.length:=by have:=h.iY.length_le;simp_all
theorem TI.aF6{b:List (Nat×Nat)}(h:TI n aV s b){k:Nat}(c:s.num k=0):k∉s.stk/\k∉s.out.flatten:=
 ⟨fun a=>by have:=h.kK k a;omega,fun a=>by have:=(h.mX k a).1;omega⟩
theorem rT(l:List (Nat×Nat))(v i:Nat):eO (l++[(v,i)])=eO l++[v]:=by simp[eO]
theorem TI.aIP{a:List (Nat×Nat)}(h:TI n aV s a):(eO a).Nodup:=h.nd.sublist h.iY
theorem zie{l:List (Nat×Nat)}{v i k:Nat}(a:(eO (l++[(v,i)])).Nodup):¬ qqs (l++[(v,i)]) (v,i) k:=by
 rintro ⟨j,b,d⟩;have e:j+1<(eO (l++[(v,i)])).length:=(qp.1 d).1;have f:(eO (l++[(v,i)])).length=l.length+1:=by simp[eO]
 have c:v∈eO l:=by rw[uj om]at b;exact uC.2 ⟨_,uz b,rfl⟩
 rw[rT,yw]at a;exact a.2.2 v c v (qf.2 rfl) rfl
theorem qqs.bump{l x:List (Nat×Nat)}{v i a k:Nat}{p:Nat×Nat}(h:qqs (l++[(v,i)]) p k):qqs (l++(v,a)::x) p k:=by
 obtain⟨j,b,c⟩:=h;have d:j+1<(eO (l++[(v,i)])).length:=(qp.1 c).1;have f:(eO (l++[(v,i)])).length=l.length+1:=by simp[eO]
 refine⟨j,?_,?_⟩
 ·rw[uj om]at b ⊢;exact b
 ·have e:(l++(v,a)::x).map Prod.fst=(eO (l++[(v,i)]))++x.map Prod.fst:=by simp[eO]
  rw[e,uj d];exact c
theorem TI.top{l:List (Nat×Nat)}{v i:Nat}(h:TI n aV s (l++[(v,i)])){x:Nat}(a:x∈eO l):s.num x<s.num v:=by have:=h.gY.sublist h.iY;rw[rT,zq]at this;exact this.2.2 x a v (qf.2 rfl)
theorem TI.wW{l:List (Nat×Nat)}{v i:Nat}(h:TI n aV s (l++[(v,i)])){x:Nat}(a:x∈eO (l++[(v,i)])):s.num x<=s.num v:=by
 rw[rT]at a;rcases qi.1 a with a|a
 ·exact zo (h.top a)
 ·simp_all
theorem TI.seen{l:List (Nat×Nat)}{v i:Nat}(h:TI n aV s (l++[(v,i)])){j k:Nat}(a:j<i)(e:(aV v)[j]? =some k):0<s.num k/\(k∈s.stk->s.low v<=s.num k):=by obtain⟨_,c⟩:=h.frE (v,i) (ny _ (qf.2 rfl));obtain⟨d,f⟩:=c j a k e;exact⟨d,fun b=>(f b).resolve_right (zie h.aIP)⟩
theorem TI.enter{r q:List (Nat×Nat)}(h:TI n aV s r){k:Nat}(U:s.num k=0)(N:k<n)(O:r=[]/\q=[]\/∃ l v i,r=l++[(v,i)]/\(aV v)[i]? =some k/\q=l++[(v,i+1)]):TI n aV (s.enter k) (q++[(k,0)]):=by
 obtain⟨n1,n2⟩:=h.aF6 U;have Z:eO q=eO r:=by
  rcases O with⟨rfl,rfl⟩|⟨l,v,i,rfl,_,rfl⟩
  ·rfl
  ·simp
 have G:eO (q++[(k,0)])=eO r++[k]:=by rw[rT,Z]
 have o:∀{v},v∈s.stk->v≠k:=fun c e=>n1 (e▸c);have nko:∀{v},v∈s.out.flatten->v≠k:=fun c e=>n2 (e▸c);have K:∀{v},0<s.num v->v≠k:=fun c e=>by rw[e,U]at c;exact xx _ c
 have f:∀{v},v≠k->(s.enter k).num v=s.num v:=fun c=>upd_ne _ _ c;have z:(s.enter k).num k=s.cnt+1:=upd_same _ _ _;have kI:∀{v},v≠k->(s.enter k).low v=s.low v:=fun c=>upd_ne _ _ c;have lQ:(s.enter k).low k=s.cnt+1:=upd_same _ _ _;have d:∀{v},v∈(s.enter k).stk↔v∈s.stk\/v=k:=fun{v}=>by show v∈s.stk++[k]↔_;rw[qi,qf]
 have F:∀{v},v∈eO (q++[(k,0)])↔v∈eO r\/v=k:=fun{v}=>by rw[G,qi,qf]
 exact{
  nL:=fun v c=>by rcases d.1 c with c|rfl;exact h.nL v c;exact N
  kK:=fun v c=>by
   rcases d.1 c with c|rfl
   ·rw[f (o c)];exact h.kK v c
   ·omega
  gY:=by show(s.stk++[k]).Pairwise _;rw[zq];refine⟨h.gY.imp_of_mem fun G H P=>by rw[f (o G),f (o H)];exact P,bf _ _,fun a G b H=>?_⟩;rw[qf.1 H,z,f (o G)];have:=h.jJ a;omega
  pQ:=fun v=>by
   rw[d];show upd s.on k true v=true↔_;by_cases e:v=k
   ·rw[e,upd_same];simp
   ·rw[upd_ne _ _ e,h.pQ];simp[e]
  vis:=fun v c=>by
   by_cases e:v=k
   ·simp_all
   ·rw[f e]at c;exact(h.vis v c).imp (fun x=>d.2 (Or.inl x)) id
  mX:=fun v c=>by obtain⟨A,I,W⟩:=h.mX v c;simp_all
  jR:=h.jR
  qE:=h.qE
  pY:=h.pY
  jJ:=fun v=>by
   show _<=s.cnt+1;by_cases e:v=k
   ·simp_all
   ·rw[f e];exact Nat.le_succ_of_le (h.jJ v)
  mD:=by show s.cnt+1=(s.stk++[k]).length+s.out.flatten.length;rw[lL,lAN,h.mD];omega
  iY:=by rw[G];exact h.iY.append (List.Sublist.refl _)
  kI:=fun v c=>by
   rcases d.1 c with c|rfl
   ·rw[f (o c),kI (o c)];exact h.kI v c
   ·omega
  lQ:=fun v c=>by
   rcases d.1 c with c|rfl
   ·obtain⟨u,A,I,W⟩:=h.lQ v c;exact⟨u,d.2 (Or.inl A),by rw[f (o A),kI (o c)];exact I,W⟩
   ·exact⟨v,d.2 (Or.inr rfl),by rw[z,lQ],Rc.refl _⟩
  fin:=fun v c D=>by rw[F,not_or]at D;have c:=(d.1 c).resolve_right D.2;rw[f D.2,kI D.2];exact h.fin v c D.1
  pZ:=fun v c D x B=>by rw[F,not_or]at D;have c:=(d.1 c).resolve_right D.2;obtain⟨A,I⟩:=h.pZ v c D.1 x B;simp_all
  frE:=fun p C=>by
   rcases qi.1 C with C|C
   ·-- an old frame
    have old:∀{x},0<s.num x->p.1∈eO r->(x∈s.stk->s.low p.1<=s.num x\/qqs (q++[(k,0)]) p x) ->
      0<(s.enter k).num x/\(x∈(s.enter k).stk->(s.enter k).low p.1<=(s.enter k).num x\/qqs (q++[(k,0)]) p x):=fun{x} A Q I=>by
     refine⟨by rw[f (K A)];exact A,fun B=>?_⟩;rw[kI (o (h.mU Q)),f (K A)];simp_all
    rcases O with⟨rfl,rfl⟩|⟨l,v,i,rfl,M,rfl⟩
    ·cases C
    ·rcases qi.1 C with C|C
     ·obtain⟨g1,g2⟩:=h.frE p (bz _ C);refine⟨g1,fun j R x B=>?_⟩;obtain⟨g3,g4⟩:=g2 j R x B;refine old g3 (uC.2 ⟨p,bz _ C,rfl⟩) fun S=>(g4 S).imp id fun g=>?_;rw[qw];exact g.bump
     ·obtain rfl:=qf.1 C;refine⟨(qp.1 M).1,fun j R x B=>?_⟩;rcases cu j i with L|L
      ·obtain⟨g3,g4⟩:=h.seen L B;simp_all
      ·have:j=i:=by have:j<i+1:=R;omega
       subst this;have B:(aV v)[j]? =some x:=B;rw[M]at B;obtain rfl:=Option.some.inj B;refine⟨by rw[z];omega,fun _=>Or.inr ⟨l.length,?_,?_⟩⟩
       ·simp
       ·simp
   ·simp_all
  oV:=fun v c w m y H=>by
   rcases F.1 c with c|rfl
   ·have E:=o (h.mU c);rcases d.1 m with m|rfl
    ·rw[kI E,kI (o m)];rw[f E,f (o m)]at y;refine h.oV v c w m y fun X J Y=>?_;have:=H X (F.2 (Or.inl J));rw[f E,f (o m),f (o (h.mU J))]at this;omega
    ·have:=H w (F.2 (Or.inr rfl));rw[f E,z]at this;have V:=h.jJ v;omega
   ·rcases d.1 m with m|rfl
    ·rw[z,f (o m)]at y;have:=h.jJ w;omega
    ·simp
  frR:=fun v T w m y=>by
   rcases F.1 T with c|rfl
   ·rcases d.1 m with m|rfl
    ·rw[f (o (h.mU c)),f (o m)]at y;exact h.frR v c w m y
    ·rcases O with⟨rfl,rfl⟩|⟨l,t,i,rfl,M,rfl⟩
     ·trivial
     ·have ht:t∈eO (l++[(t,i)]):=by rw[rT];simp
      exact(h.frR v c t (h.mU ht) (h.wW c)).step (uz M)
   ·rcases d.1 m with m|rfl
    ·rw[z,f (o m)]at y;have:=h.jJ w;omega
    ·exact Rc.refl _
  cov:=fun w m=>by
   rcases d.1 m with m|rfl
   ·obtain⟨v,A,I⟩:=h.cov w m;exact⟨v,F.2 (Or.inl A),by rw[f (o (h.mU A)),f (o m)];exact I⟩
   ·exact⟨w,F.2 (Or.inr rfl),lu _⟩}
theorem TI.aOi{i:List (Nat×Nat)}(h:TI n aV s i){v m:Nat}(z:v∈eO i)(A:m<=s.low v)(B:∃ u∈s.stk,s.num u=m/\Rc aV v u):TI n aV {s with low:=upd s.low v m} i:=by
 have le:∀ x,upd s.low v m x<=s.low x:=fun x=>by
  by_cases e:x=v
  ·rw[e,upd_same];exact A
  ·rw[upd_ne _ _ e];exact lu _
 exact{
  nL:=h.nL,kK:=h.kK,gY:=h.gY,pQ:=h.pQ,vis:=h.vis,mX:=h.mX,jR:=h.jR,qE:=h.qE,pY:=h.pY,jJ:=h.jJ,mD:=h.mD,iY:=h.iY
  kI:=fun x b=>rq (le x) (h.kI x b)
  lQ:=fun x b=>by
   show ∃u∈s.stk,s.num u=upd s.low v m x/\_;by_cases e:x=v
   ·rw[e,upd_same];exact B
   ·rw[upd_ne _ _ e];exact h.lQ x b
  fin:=fun x b g=>lE1 (le x) (h.fin x b g)
  pZ:=fun x b g k d=>⟨(h.pZ x b g k d).1,fun c=>rq (le x) ((h.pZ x b g k d).2 c)⟩
  frE:=fun p l=>⟨(h.frE p l).1,fun j q k d=>⟨((h.frE p l).2 j q k d).1,fun c=>(((h.frE p l).2 j q k d).2 c).imp (rq (le _)) id⟩⟩
  oV:=fun a r w t f y=>by
   show upd s.low v m a<=upd s.low v m w;by_cases e:w=v
   ·subst e;by_cases D:a=w
    ·simp_all
    ·have o:s.num a<s.num w:=Nat.lt_of_le_of_ne f fun C=>D (h.inj (h.mU r) t C);exact absurd (y w z o) (xx _)
   ·rw[upd_ne _ _ e];exact rq (le a) (h.oV a r w t f y)
  frR:=h.frR
  cov:=h.cov}
theorem TI.bump{l:List (Nat×Nat)}{v i k:Nat}(h:TI n aV s (l++[(v,i)]))(m:(aV v)[i]? =some k)(o:0<s.num k)(q:k∈s.stk->s.low v<=s.num k):TI n aV s (l++[(v,i+1)]):=by
 have c:eO (l++[(v,i+1)])=eO (l++[(v,i)]):=by rw[rT,rT]
 exact{
  nL:=h.nL,kK:=h.kK,gY:=h.gY,pQ:=h.pQ,vis:=h.vis,mX:=h.mX,jR:=h.jR,qE:=h.qE,pY:=h.pY,jJ:=h.jJ,mD:=h.mD,kI:=h.kI,lQ:=h.lQ
  iY:=by rw[c];exact h.iY
  fin:=by rw[c];exact h.fin
  pZ:=by rw[c];exact h.pZ
  oV:=by rw[c];exact h.oV
  frR:=by rw[c];exact h.frR
  cov:=by rw[c];exact h.cov
  frE:=fun p d=>by
   rcases qi.1 d with d|d
   ·obtain⟨g1,g2⟩:=h.frE p (bz _ d);refine⟨g1,fun j f x a=>?_⟩;obtain⟨g3,g4⟩:=g2 j f x a;exact⟨g3,fun b=>(g4 b).imp id fun g=>g.bump⟩
   ·obtain rfl:=qf.1 d;refine⟨(qp.1 m).1,fun j f x a=>?_⟩;rcases cu j i with e|e
    ·obtain⟨g3,g4⟩:=h.seen e a;simp_all
    ·have:j=i:=by have:j<i+1:=f;omega
     subst this;have a:(aV v)[j]? =some x:=a;rw[m]at a;obtain rfl:=Option.some.inj a;exact⟨o,fun b=>Or.inl (q b)⟩}
def TS.look(s:TS)(v k:Nat):TS:=if s.on k then{s with low:=upd s.low v (min (s.low v) (s.num k))}else s
theorem TI.look{l:List (Nat×Nat)}{v i k:Nat}(h:TI n aV s (l++[(v,i)]))(a:(aV v)[i]? =some k)(f:0<s.num k):TI n aV (s.look v k) (l++[(v,i+1)]):=by
 unfold TS.look;have g:v∈eO (l++[(v,i)]):=by rw[rT];simp
 cases e:s.on k with
 |false=>
  have c:k∉s.stk:=fun b=>by rw[(h.pQ k).2 b]at e;cases e
  exact h.bump a f fun b=>absurd b c
 |true=>
  have d:=(h.pQ k).1 e;have j:TI n aV {s with low:=upd s.low v (min (s.low v) (s.num k))} (l++[(v,i)]):=by
   refine h.aOi g (iy _ _) ?_;rcases Nat.le_total (s.low v) (s.num k)with hle|hle
   ·rw[yu hle];exact h.lQ v (h.mU g)
   ·rw[Nat.min_eq_right hle];exact⟨k,d,rfl,Rc.one (uz a)⟩
  refine TI.bump j a f fun _=>?_;show upd s.low v _ v<=s.num k;rw[upd_same];exact uy _ _
theorem qzz{l:List (Nat×Nat)}{v i k:Nat}{p:Nat×Nat}(f:p∈l)(g:(eO (l++[(v,i)])).Nodup)(h:qqs (l++[(v,i)]) p k):qqs l p k\/(k=v/\l.getLast? =some p):=by
 obtain⟨j,d,a⟩:=h;have m:j+1<(eO (l++[(v,i)])).length:=(qp.1 a).1;have n:(eO (l++[(v,i)])).length=l.length+1:=by simp[eO]
 have b:l[j]? =some p:=by rwa [uj om]at d
 rw[show(l++[(v,i)]).map Prod.fst=eO l++[v]from rT l v i]at a;have c:(eO l).length=l.length:=by simp[eO]
 rcases cu (j+1) l.length with h|h
 ·rw[uj om]at a;exact Or.inl ⟨j,b,a⟩
 ·have e:j+1=l.length:=om;rw[uh om,c,e,og]at a;refine Or.inr ⟨(Option.some.inj a).symm,?_⟩;rw[List.getLast?_eq_getElem?,<-e];exact b
theorem TI.pop{l:List (Nat×Nat)}{v u j:Nat}(h:TI n aV s ((l++[(u,j)])++[(v,(aV v).length)]))(O:s.low v<s.num v):TI n aV {s with low:=upd s.low u (min (s.low u) (s.low v))} (l++[(u,j)]):=by
 have y:v∈eO ((l++[(u,j)])++[(v,(aV v).length)]):=by rw[rT];simp
 have d:u∈eO (l++[(u,j)]):=by rw[rT];simp
 have o:∀{x},x∈eO ((l++[(u,j)])++[(v,(aV v).length)])↔x∈eO (l++[(u,j)])\/x=v:=fun{x}=>by rw[rT (l++[(u,j)]),qi,qf]
 have z:=h.mU y;have K:s.num u<s.num v:=h.top d;have A:=h.mU (o.2 (Or.inl d));have L:∀{x},x∈eO (l++[(u,j)])->s.num x<=s.num u:=fun{x} b=>by
  have r:=h.gY.sublist ((List.sublist_append_left (eO (l++[(u,j)])) [v]).trans (by rw[<-rT];exact h.iY));rw[rT,zq]at r;rw[rT]at b;rcases qi.1 b with b|b
  ·exact zo (r.2.2 x b u (qf.2 rfl))
  ·simp_all
 -- the old state over fewer frames
 have le:∀ x,upd s.low u (min (s.low u) (s.low v)) x<=s.low x:=fun x=>by
  by_cases e:x=u
  ·rw[e,upd_same];exact iy _ _
  ·rw[upd_ne _ _ e];exact lu _
 exact{
  nL:=h.nL,kK:=h.kK,gY:=h.gY,pQ:=h.pQ,vis:=h.vis,mX:=h.mX,jR:=h.jR,qE:=h.qE,pY:=h.pY,jJ:=h.jJ,mD:=h.mD
  iY:=(List.sublist_append_left (eO (l++[(u,j)])) [v]).trans (by rw[<-rT];exact h.iY)
  kI:=fun x b=>rq (le x) (h.kI x b)
  lQ:=fun x b=>by
   show ∃w∈s.stk,s.num w=upd s.low u (min (s.low u) (s.low v)) x/\_;by_cases e:x=u
   ·rw[e,upd_same];rcases Nat.le_total (s.low u) (s.low v)with c|c
    ·rw[yu c];exact h.lQ u A
    ·rw[Nat.min_eq_right c];obtain⟨w,D,r,S⟩:=h.lQ v z;exact⟨w,D,r,(h.frR u (o.2 (Or.inl d)) v z (zo K)).trans S⟩
   ·rw[upd_ne _ _ e];exact h.lQ x b
  fin:=fun x b H=>by
   refine lE1 (le x) ?_;by_cases e:x=v
   ·simp_all
   ·exact h.fin x b fun q=>(o.1 q).elim H e
  pZ:=fun x b H k E=>by
   by_cases e:x=v
   ·subst e;obtain⟨i,F⟩:=lAO.1 E;have M:=(qp.1 F).1;obtain⟨g1,g2⟩:=h.seen M F;exact⟨g1,fun f=>rq (le x) (g2 f)⟩
   ·obtain⟨g1,g2⟩:=h.pZ x b (fun q=>(o.1 q).elim H e) k E;exact⟨g1,fun f=>rq (le x) (g2 f)⟩
  frE:=fun p P=>by
   obtain⟨g1,g2⟩:=h.frE p (bz _ P);refine⟨g1,fun i F k E=>?_⟩;obtain⟨g3,g4⟩:=g2 i F k E;refine⟨g3,fun f=>?_⟩;rcases g4 f with g|g
   ·exact Or.inl (rq (le _) g)
   ·rcases qzz P h.aIP g with g6|⟨rfl,g6⟩
    ·exact Or.inr g6
    ·rw[List.getLast?_concat]at g6;obtain rfl:=Option.some.inj g6;refine Or.inl ?_;show upd s.low u (min (s.low u) (s.low k)) u<=s.num k;rw[upd_same];omega
  oV:=fun a G w t c Q=>by
   show upd s.low u (min (s.low u) (s.low v)) a<=upd s.low u (min (s.low u) (s.low v)) w;have B:=o.2 (Or.inl G:a∈eO (l++[(u,j)])\/a=v);have C:=h.mU B;by_cases e:w=u
   ·subst e;by_cases T:a=w
    ·simp_all
    ·exact absurd (Q w d (Nat.lt_of_le_of_ne c fun R=>T (h.inj C t R))) (xx _)
   ·rw[upd_ne _ _ e];rcases cu (s.num w) (s.num v)with hwv|hwv
    ·refine rq (le a) (h.oV a B w t c fun I m J=>?_);rcases o.1 m with m|rfl
     ·simp_all
     ·exact hwv
    ·have N:a=u:=by
      refine h.inj C A (Nat.le_antisymm (L G) ?_);rcases cu (s.num a) (s.num u)with g|g
      ·have:=Q u d g;have:s.num w<s.num u:=this;omega
      ·exact g
     rw[N,upd_same];refine rq (uy _ _) (h.oV v y w t hwv fun I m J=>?_);have:=h.wW m;omega
  frR:=fun a G=>h.frR a (o.2 (Or.inl G))
  cov:=fun w t=>by
   obtain⟨I,D,r⟩:=h.cov w t;rcases o.1 D with D|rfl
   ·exact⟨I,D,r⟩
   ·exact⟨u,d,by show s.num u<=s.num w;omega⟩}
theorem TI.root{v i:Nat}(h:TI n aV s [(v,i)]):¬ s.low v<s.num v:=fun a=>by
 have b:v∈eO [(v,i)]:=by simp[eO]
 obtain⟨u,c,e,_⟩:=h.lQ v (h.mU b);obtain⟨f,d,g⟩:=h.cov u c;have:f=v:=by simpa [eO] using d
 subst this;omega
theorem TI.leave{l:List (Nat×Nat)}{v:Nat}(h:TI n aV s (l++[(v,(aV v).length)]))(hlow:¬ s.low v<s.num v){pre f comp:List Nat}(Z:s.stk=pre++v::f)(M:comp.Perm (v::f))(V:comp.Pairwise (· < ·))(N:Nat->Bool)(hon:∀ x,N x=if x∈comp then false else s.on x):TI n aV {s with stk:=pre,on:=N,out:=s.out++[comp]} l:=by
 have F:v∈eO (l++[(v,(aV v).length)]):=by rw[rT];simp
 have W:∀{x},x∈eO (l++[(v,(aV v).length)])↔x∈eO l\/x=v:=fun{x}=>by rw[rT,qi,qf]
 have T:=h.mU F;have E:=h.gY;rw[Z,zq,lE2]at E;obtain⟨s1,⟨s2,s3⟩,s4⟩:=E;have j:∀{x},x∈s.stk↔x∈pre\/x∈v::f:=fun{x}=>by rw[Z,qi]
 have J:∀{x},x∈pre->s.num x<s.num v:=fun{x} d=>s4 x d v ug;have K:∀{x},x∈v::f->s.num v<=s.num x:=fun{x} d=>by
  rcases su.1 d with rfl|d
  ·simp
  ·exact zo (s2 x d)
 have yB:∀{x},x∈pre->x∉v::f:=fun{x} q r=>by have:=J q;have:=K r;omega
 have aNM:∀{x},x∈s.stk->s.num x<s.num v->x∈pre:=fun{x} q r=>(j.1 q).resolve_right fun I=>by have:=K I;omega
 have G:∀{x},x∈s.stk->s.num v<=s.num x->x∈v::f:=fun{x} q r=>(j.1 q).resolve_left fun I=>by have:=J I;omega
 have H:∀{x},x∈comp↔x∈v::f:=M.mem_iff;have B:∀{x},x∈(s.out++[comp]).flatten↔x∈s.out.flatten\/x∈v::f:=fun{x}=>by rw[lAG,qi];simp[H]
 have o:∀{x},x∈v::f->x∈s.stk:=fun d=>j.2 (Or.inr d)
 -- a way L
 have L:∀ m x,s.num x=m->x∈v::f->Rc aV x v:=by
  intro m
  induction m using Nat.strongRecOn with
  |_ m ih=>
   intro x hm d;by_cases e:x=v
   ·rw[e];exact Rc.refl _
   ·have t:=o d;have U:x∉eO (l++[(v,(aV v).length)]):=fun O=>by
     have q:=h.wW O;have r:=K d;exact e (h.inj t T om)
    obtain⟨u,q,r,I⟩:=h.lQ x t;have h4:=h.fin x t U;have h5:s.low v<=s.low x:=h.oV v F x t (K d) fun X D P=>by have:=h.wW D;omega
    exact I.trans (ih (s.num u) om u rfl (G q om))
 have C:∀ x∈v::f,∀k∈aV x,k∈v::f\/k∈s.out.flatten:=fun x d k A=>by
  have t:=o d;have key:0<s.num k/\(k∈s.stk->s.num v<=s.num k):=by
   by_cases e:x=v
   ·subst e;obtain⟨i,hi⟩:=lAO.1 A;obtain⟨g1,g2⟩:=h.seen (qp.1 hi).1 hi;exact⟨g1,fun z=>by have:=g2 z;omega⟩
   ·have U:x∉eO (l++[(v,(aV v).length)]):=fun O=>by
     have q:=h.wW O;have r:=K d;exact e (h.inj t T om)
    obtain⟨g1,g2⟩:=h.pZ x t U k A;have h5:s.low v<=s.low x:=h.oV v F x t (K d) fun X D P=>by have:=h.wW D;omega
    exact⟨g1,fun z=>by have:=g2 z;omega⟩
  rcases h.vis k key.1 with z|hko
  ·simp_all
  ·simp_all
 have aJa:∀{x},x∈s.out.flatten->x∉v::f:=fun q r=>(h.mX _ q).2.1 (o r);have aXx:∀{p k},p∈l->k∈pre->qqs (l++[(v,(aV v).length)]) p k->qqs l p k:=fun{p k} M A g=>by
  rcases qzz M h.aIP g with g|⟨rfl,_⟩
  ·exact g
  ·exact absurd ug (yB A)
 exact{
  nL:=fun x d=>h.nL x (j.2 (Or.inl d))
  kK:=fun x d=>h.kK x (j.2 (Or.inl d))
  gY:=s1
  pQ:=fun x=>by
   show N x=true↔x∈pre;rw[hon];by_cases d:x∈comp
   ·rw[qj d];exact⟨fun e=>(by cases e),fun e=>absurd (H.1 d) (yB e)⟩
   ·rw[pg d,h.pQ,j];exact⟨fun e=>e.resolve_right fun g=>d (H.2 g),Or.inl⟩
  vis:=fun x d=>by
   rcases h.vis x d with g|g
   ·rcases j.1 g with g|g
    ·exact Or.inl g
    ·simp_all
   ·simp_all
  mX:=fun x d=>by
   rcases B.1 d with g|g
   ·obtain⟨q,r,I⟩:=h.mX x g;simp_all
   ·exact⟨h.kK x (o g),fun h4=>yB h4 g,h.nL x (o g)⟩
  jR:=fun x d k A=>by
   rcases B.1 d with g|g
   ·exact B.2 (Or.inl (h.jR x g k A))
   ·exact B.2 ((C x g k A).symm)
  qE:=fun c Y=>by
   rcases qi.1 Y with Y|Y
   ·exact h.qE c Y
   ·obtain rfl:=qf.1 Y;refine⟨V,v,H.2 ug,fun x=>⟨fun d=>⟨h.frR v F x (o (H.1 d)) (K (H.1 d)),L _ x rfl (H.1 d)⟩,fun⟨g1,g2⟩=>?_⟩⟩;have hcl:x∈v::f\/x∈s.out.flatten:=Rc.closed (S:=fun x=>x∈v::f\/x∈s.out.flatten) (fun y hy k A=>hy.elim (fun g=>C y g k A) fun g=>Or.inr (h.jR y g k A)) g1 (Or.inl ug);rcases hcl with g|g
    ·exact H.2 g
    ·have:=Rc.closed (S:=fun x=>x∈s.out.flatten) h.jR g2 g;exact absurd T (h.mX v this).2.1
  pY:=by
   rw[lAG,yw];refine⟨h.pY,by have e:[comp].flatten=comp:=g3;rw[e];exact V.imp fun hab=>lEL hab,fun a q b r e=>?_⟩;have r:b∈comp:=by simpa using r
   exact aJa q (H.1 (e▸r))
  jJ:=h.jJ
  mD:=by rw[h.mD,Z];have:=M.length_eq;simp at this ⊢;omega
  iY:=by
   have q:=h.iY.filter (fun x=>decide (s.num x<s.num v));rw[rT,Z,eQ,eQ]at q;have e1:(eO l).filter (fun x=>decide (s.num x<s.num v))=eO l:=List.filter_eq_self.2 fun x d=>qc (h.top d);have e2:pre.filter (fun x=>decide (s.num x<s.num v))=pre:=List.filter_eq_self.2 fun x d=>qc (J d);have e3:(v::f).filter (fun x=>decide (s.num x<s.num v))=[]:=List.filter_eq_nil_iff.2 fun x d=>by simpa using K d
   simp_all
  kI:=fun x d=>h.kI x (j.2 (Or.inl d))
  lQ:=fun x d=>by obtain⟨u,q,r,I⟩:=h.lQ x (j.2 (Or.inl d));have:=h.kI x (j.2 (Or.inl d));have:=J d;exact⟨u,aNM q om,r,I⟩
  fin:=fun x d O=>h.fin x (j.2 (Or.inl d)) fun g=>(W.1 g).elim O fun e=>by have:=J d;rw[e]at this;exact xx _ this
  pZ:=fun x d O k A=>by obtain⟨g1,g2⟩:=h.pZ x (j.2 (Or.inl d)) (fun g=>(W.1 g).elim O fun e=>by have:=J d;rw[e]at this;exact xx _ this) k A;simp_all
  frE:=fun p M=>by obtain⟨g1,g2⟩:=h.frE p (bz _ M);refine⟨g1,fun i hi k A=>?_⟩;obtain⟨g3,g4⟩:=g2 i hi k A;exact⟨g3,fun z=>(g4 (j.2 (Or.inl z))).imp id (aXx M z)⟩
  oV:=fun a V w Q R hb=>h.oV a (W.2 (Or.inl V)) w (j.2 (Or.inl Q)) R fun X D P=>by
   rcases W.1 D with g|rfl
   ·exact hb X g P
   ·exact J Q
  frR:=fun a V w Q R=>h.frR a (W.2 (Or.inl V)) w (j.2 (Or.inl Q)) R
  cov:=fun w Q=>by
   obtain⟨X,q,r⟩:=h.cov w (j.2 (Or.inl Q));rcases W.1 q with q|rfl
   ·exact⟨X,q,r⟩
   ·have:=J Q;omega}
theorem TI.init(n:Nat)(aV:Nat->List Nat):TI n aV ⟨fun _=>0,fun _=>0,fun _=>false,[],0,[]⟩ [] where
 nL:=fun v a=>by cases a
 kK:=fun v a=>by cases a
 gY:=List.Pairwise.nil
 pQ:=fun v=>g3
 vis:=fun v a=>by cases a
 mX:=fun v a=>by cases a
 jR:=fun v a=>by cases a
 qE:=fun v a=>by cases a
 pY:=List.nodup_nil
 jJ:=fun v=>lu _
 mD:=rfl
 iY:=List.Sublist.refl _
 kI:=fun v a=>by cases a
 lQ:=fun v a=>by cases a
 fin:=fun v a=>by cases a
 pZ:=fun v a=>by cases a
 frE:=fun v a=>by cases a
 oV:=fun v a=>by cases a
 frR:=fun v a=>by cases a
 cov:=fun v a=>by cases a
open Classical
def Rdy(n:Nat)(aV:Nat->List Nat)(pre:List (List Nat))(i:Nat):Prop:=∀ k,k<n->Rc aV i k->k∈pre.flatten\/Rc aV k i
structure aMk(n:Nat)(aV:Nat->List Nat)(pre:List (List Nat))(i:Nat):Prop where
 lt:i<n
 new:i∉pre.flatten
 rdy:Rdy n aV pre i
def zyc(n:Nat)(aV:Nat->List Nat)(i:Nat)(c:List Nat):Prop:=c.Pairwise (· < ·)/\∀ x,x∈c↔x<n/\Rc aV i x/\Rc aV x i
def qJ(n:Nat)(aV:Nat->List Nat):List (List Nat)->List (List Nat)->Prop
 |pre,[]=>∀ x,x<n->x∈pre.flatten
 |pre,c::R=>(∃i,aMk n aV pre i/\zyc n aV i c)/\qJ n aV (pre++[c]) R
def cnt(n:Nat)(aV:Nat->List Nat)(i:Nat):Nat:=((List.range n).filter fun k=>decide (Rc aV i k)).length
theorem cnt_lt{i k:Nat}(j:i<n)(h:Rc aV i k)(d:¬ Rc aV k i):cnt n aV k<cnt n aV i:=by
 unfold cnt;have b:∀(l:List Nat),(l.filter fun x=>decide (Rc aV k x)).length<=(l.filter fun x=>decide (Rc aV i x)).length:=fun l=>by
  induction l with
  |nil=>exact lu _
  |cons x l ih=>
   rw[ik,ik];by_cases a:Rc aV k x
   ·rw[qj (by simpa using a),qj (by simpa using h.trans a)];simpa using ih
   ·rw[pg (by simpa using a)];split
    ·simp only[pq];omega
    ·exact ih
 have f:∀(l:List Nat),i∈l->(l.filter fun x=>decide (Rc aV k x)).length<(l.filter fun x=>decide (Rc aV i x)).length:=fun l=>by
  induction l with
  |nil=>intro h;cases h
  |cons x l ih=>
   intro g;rw[ik,ik];by_cases e:x=i
   ·subst e;rw[pg (by simpa using d),qj (by simpa using Rc.refl x)];have:=b l;simp only[pq];omega
   ·have c:i∈l:=(su.1 g).resolve_left fun h=>e h.symm;have:=ih c;by_cases a:Rc aV k x
    ·rw[qj (by simpa using a),qj (by simpa using h.trans a)];simp_all
    ·rw[pg (by simpa using a)];split
     ·simp only[pq];omega
     ·exact this
 simp_all
theorem z7i{pre:List (List Nat)}(g:∀ u,∀k∈aV u,k<n){x:Nat}(b:x<n)(d:x∉pre.flatten):∃ i,i<n/\i∉pre.flatten/\Rdy n aV pre i:=by
 have e:∀ m x,cnt n aV x=m->x<n->x∉pre.flatten->∃ i,i<n/\i∉pre.flatten/\Rdy n aV pre i:=fun m=>by
  induction m using Nat.strongRecOn with
  |_ m ih=>
   intro x h b d;by_cases c:Rdy n aV pre x
   ·exact⟨x,b,d,c⟩
   ·unfold Rdy at c;simp only[not_forall]at c;obtain⟨k,j,f,a⟩:=c;rw[not_or]at a;exact ih (cnt n aV k) (by rw[<-h];exact cnt_lt b f a.2) k rfl j a.1
 exact e _ x rfl b d
theorem qr9:∀{R pre:List (List Nat)},qJ n aV pre R->(∀x∈pre.flatten,x<n)->pre.flatten.Nodup->(∀x∈pre.flatten,∀y,y<n->Rc aV x y->Rc aV y x->y∈pre.flatten) -> (pre++R).flatten.Nodup/\(∀x∈(pre++R).flatten,x<n)/\(∀x,x<n->x∈(pre++R).flatten)/\∀ o∈R,o≠[]
 | [],pre,h,h1,h2,_=>by rw[uf];exact⟨h2,h1,h,fun o d=>by cases d⟩
 |c::R,pre,⟨⟨i,hi,hc⟩,h⟩,h1,h2,h3=>by
  have b:(pre++[c]).flatten=pre.flatten++c:=by rw[lAG];simp
  have f:i∈c:=(hc.2 i).2 ⟨hi.lt,Rc.refl _,Rc.refl _⟩;have ih:=qr9 h (fun x a=>?_) ?_ fun x a y j k l=>?_
  ·rw[qw]at ih;obtain⟨m,p,q,r⟩:=ih;exact⟨m,p,q,fun o d=>by
    rcases su.1 d with rfl|d
    ·intro e;rw[e]at f;cases f
    ·exact r o d⟩
  ·rw[b,qi]at a;exact a.elim (h1 x) fun g=>((hc.2 x).1 g).1
  ·rw[b,yw];refine⟨h2,hc.1.imp fun g=>lEL g,fun x a y j e=>?_⟩;subst e;have g:=(hc.2 x).1 j;exact hi.new (h3 x a i hi.lt g.2.2 g.2.1)
  ·rw[b,qi]at a ⊢;rcases a with a|a
   ·exact Or.inl (h3 x a y j k l)
   ·have g:=(hc.2 x).1 a;exact Or.inr ((hc.2 y).2 ⟨j,g.2.1.trans k,l.trans g.2.2⟩)
theorem qJ.all{a:List (List Nat)}(h:qJ n aV [] a):a.flatten.Nodup/\(∀x∈a.flatten,x<n)/\(∀x,x<n->x∈a.flatten)/\(∀o∈a,o≠[])/\a.flatten.length=n:=by
 obtain⟨c,d,e,f⟩:=qr9 h (fun x b=>by simp at b) List.nodup_nil fun x b=>by simp at b
 refine⟨c,d,e,f,Nat.le_antisymm ?_ ?_⟩
 ·have:=c.length_le_of_subset (l₂:=List.range n) fun x b=>xg.2 (d x b);simp_all
 ·have:=(List.nodup_range (n:=n)).length_le_of_subset (l₂:=a.flatten) fun x b=>e x (xg.1 b);simp_all
end Go.Di.T
end
