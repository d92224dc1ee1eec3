/-
 For countersign/countersignlaw20.FitsAll: functions in direct style, their contracts, and the plain mathematics, part 9 of 10. No conditions beyond those that each theorem states.
-/
import Derived.Test.YtbfjjkjiokfdgaaGreatConH
import Derived.Test.YtbfjjkjiokfdgaaGreatConC
import Derived.Test.YtbfjjkjiokfdgaaGreatConF
import Derived.Test.YtbfjjkjiokfdgaaGreatConE
import Derived.KernelRfl
import Derived.Test.YtbfjjkjiokfdgaaGreatEv4
set_option linter.unusedSimpArgs false
set_option linter.unusedVariables false
open Nat renaming reduceAdd->rB,reduceMul->rI,reduceSub->rK,reduceLeDiff->rL,reduceEqDiff->rN,reduceShiftRight->rS,reduceAnd->r6
noncomputable section
namespace Go.Di
open Go.Ev Go.Di.T Go.Sort
variable {C:Nat->Ev.Call} {LA LO:LP} {L:List (List Nat)} {X:List aN}
theorem q4x{d:Nat}(c:TT AV d):∀(a o:Nat),(Ev.tF c a o).length=a
 |0,_=>rfl
 |a+1,o=>congrArg (· +1) (q4x c a (o+1))
theorem qe5{B:bO}{o n:Nat}{l:List AV}(h:eB B o n=some l){i k:Nat}(hik:i+k<=n):eB B (o+i) k=some ((l.drop i).take k):=by
 unfold eB at h ⊢;split at h
 ·rename_i m c _ _;simp only[ble_eq]at h ⊢;by_cases hc:o+n<=m
  ·rw[gp hc]at h;rw[gp (by omega)];injection h with h;rw[qy,<-h,show n=i+(k+(n-i-k))by omega,qv8,qv8,List.drop_left' (q4x _ _ _),List.take_left' (q4x _ _ _)]
  ·simp_all
 ·cases h
def oK(o:List (SS×SS))(t:Tu):List (SS×SS):=qV (qV o (t.a,t.b)) (t.x,t.y)
theorem z7t{α:Type}(f:α->Tu->α)(o:α){l:List Tu}{i:Nat}(h:i<l.length):(l.take (i+1)).foldl f o=f ((l.take i).foldl f o) l[i]:=by rw[ku h,List.foldl_append];rfl
theorem zjy(hC:aW C){j:Nat}(hj:2<=j){H0:Hp}{v:AV}{l:List Tu}(hv:Rs 6 Tu.cells H0 v l)(hn:l.length<=20){Q:pL}{q:pD}(hq:∀ w H,Rs 2 pC H w (l.foldl oK [])->Fm No H0 H->Ok (q w H) Q):∀(k i:Nat) (w:AV) (H:Hp),i<=l.length->l.length-i<k->Rs 2 pC H w ((l.take i).foldl oK [])->((l.take i).foldl oK []).length<=2*i->Fm No H0 H -> Ok (qq3 (C j) q v k w (iN i) H) Q
 |0,i,_,_,_,h,_,_,_=>by omega
 |k+1,i,w,H,hi,hk,hw,hwl,hf=>by
  show Ok (zda (C j) _ _ (qq3 (C j) _ _ k) _ _ H) Q;unfold zda;have e0:=hv.len;by_cases hlt:i<l.length
  ·simp only[go_sem,e0,hlt];unfold q08;obtain⟨b1,o1,e1,e2,e3⟩:=(hv.fm hf).qI hlt;have r1:eB (H.get b1) o1 2=some (pC (l[i].a,l[i].b)):=qe5 (i:=0) e3 (by decide);have r2:eB (H.get b1) (o1+3) 2=some (pC (l[i].x,l[i].y)):=qe5 (i:=3) e3 (by decide);simp only[go_sem,e1,r1,r2];refine Ok.mI (zj4 hC hj hw (by omega) (l[i].a,l[i].b)) ?_;rintro u H1 ⟨hu,f1⟩;replace f1:Fm No H H1:=f1;have r3:eB (H1.get b1) (o1+3) 2=some (pC (l[i].x,l[i].y)):=by rw[f1.keep e2];exact r2
   have hul:=qmm ((l.take i).foldl oK []) (l[i].a,l[i].b);simp(disch:=first|omega|exact ti rfl)only[go_sem,r3];refine Ok.mI (zj4 hC hj hu (by omega) (l[i].x,l[i].y)) ?_;rintro u2 H2 ⟨hu2,f2⟩;have bYf:=qmm (qV ((l.take i).foldl oK []) (l[i].a,l[i].b)) (l[i].x,l[i].y);unfold zc9;simp(disch:=omega)only[go_sem];refine zjy hC hj hv hn hq k (i+1) u2 H2 (by omega) (by omega) ?_ ?_ ((hf.trans f1).trans f2)
   ·rw[z7t _ _ hlt];exact hu2
   ·rw[z7t _ _ hlt];show(qV _ _).length<=_;omega
  ·simp only[go_sem,e0,hlt];rw[tu (by omega)]at hw;simp_all
theorem aNP(hC:aW C){k:Nat}(hk:3<=k){H:Hp}{v:AV}{l:List Tu}(hv:Rs 6 Tu.cells H v l)(hn:l.length<=20):Ok (C k (.f 11) [v] H) fun r H'=>Rs 2 pC H' r (l.foldl oK [])/\Fm No H H':=by obtain⟨j,rfl⟩:=aS hk;rw[(hC j).zFc];unfold zFc zxr zdb;rw[dB];refine zjy hC (by omega) hv hn (fun w H' hw hf=>?_) bX 0 .aA H (gq _) (by rw[dI];omega) ⟨rfl,fun i hi=>by simp at hi⟩ (by simp) (Fm.refl _ _);exact Ok.ret ⟨hw,hf⟩
end Go.Di
end
noncomputable section
namespace Go.Di
open Go.Ev
def q6b(O:Ev.Call)(x2:AV)(H:Hp):R1:=vq (aT H x2) H fun a1 H=>.ok a1 H
def qQ(O:Ev.Call)(l:Nat)(L:TT AV 2)(x2 x5:AV)(H:Hp):R1:=vq (aT H x2) H fun a5 H=>vq (dD 2 H x5) H fun a6 H=>vq (sZ 1 H.nx (bK (aV [.str 0 0,.str 0 0] 1) [(0,2,a6)])) H fun a7 H=>ve (j5 2 32 H a5 (oQ 2 H a7)) fun a8 H=>ve (kL H x2 a8) fun _ H=>endRound l (.ok .normal L H)
def znr(LA:LP)(O:Ev.Call)(L:TT AV 2)(x1:AV)(H:Hp):R1:=fin (endLoop H.nx (qgw O x1 [.yield H.nx] (aO H (LA.blk true L))) L) (xA 0 (thn (fun L H=>q6b O (G L 2) H) (aCB fun L _=>some (G L 4))))
def znt(LA:LP)(O:Ev.Call)(L:TT AV 2)(x0 x1:AV)(H:Hp):R1:=vq (jT H.nx x0) H fun a0 H=>znr LA O (pu L [(2,a0),(4,.aA),(6,x1)]) x1 H
def aHc(LA:LP)(O:Ev.Call)(x0 x1:AV)(H:Hp):R1:=znt LA O (nV [x0,x1] 0 (same .undef 2)) x0 x1 H
structure aWw(LQ:LP)(c d:Ev.Call):Prop where
 app:∀(x0 x1:AV) (H:Hp),c (.f 125) [x0,x1] H=Di.aHc LQ d x0 x1 H
 aKY:∀(L:TT AV 2) (l:Nat) (x y:AV) (H:Hp),H.get l=LQ.blk true L->l<H.nx->c (.y l) [.agg [x,y]] H=Di.qQ d l L (G L 2) (.ptr H.nx 0) (((aO H (aB 0 [.str 0 0,.str 0 0])).put H.nx (aB 0 [x,y])).put l (LQ.blk false L))
abbrev qtf(LQ:LP)(C:Nat->Ev.Call):Prop:=∀ k,aWw LQ (C (k+1)) (C k)
end Go.Di
end
noncomputable section
namespace Go.Di
open Go.Ev Go.Di.T Go.Sort
variable {C:Nat->Ev.Call} {LQ:LP} {L:List (List Nat)} {X:List aN}
structure zW(LQ:LP)(H0:Hp)(M:TT AV 2)(l sb:Nat)(m:List (SS×SS))(H:Hp):Prop where
 fm:Fm No H0 H
 lp:H.get l=LQ.blk true M
 hl:H0.nx<=l/\l<H.nx
 hs:H0.nx<=sb/\sb<H.nx
 ne:sb≠l
 vs:∃ v,H.get sb=aB 0 [v]/\Gl 2 H v m.length (m.flatMap pC)/\∀ b,In v b->H0.nx<=b/\b≠l/\b≠sb
theorem zW.no{H0 H G:Hp}{M:TT AV 2}{l sb:Nat}{m:List (SS×SS)}(h:zW LQ H0 M l sb m H)(f:Fm No H G):zW LQ H0 M l sb m G:=by have nx:=f.nx;have h1:=h.hl;have h2:=h.hs;obtain⟨v,g1,g2,g3⟩:=h.vs;exact⟨h.fm.trans f,(f.keep h1.2).trans h.lp,⟨h1.1,by omega⟩,⟨h2.1,by omega⟩,h.ne,v,(f.keep h2.2).trans g1,g2.no f,g3⟩
theorem znq{O:Ev.Call}{H0:Hp}{M:TT AV 2}{l sb:Nat}{m:List (SS×SS)}(hx:m.length<900000){p:SS×SS}{K H:Hp}(hK:zW LQ H0 M l sb m K)(fK:Fm No K H):Ok (qQ O l M (.ptr sb 0) (.ptr H.nx 0) (((aO H (aB 0 [.str 0 0,.str 0 0])).put H.nx (aB 0 [p.1.v,p.2.v])).put l (LQ.blk false M))) fun r H'=>r=.bool true/\zW LQ H0 M l sb (m++[p]) H'/\∀ b,K.nx<=b->b<H.nx->H'.get b=H.get b:=by
 have hI:=hK.no fK;obtain⟨G,hG⟩:∃ G,G=((aO H (aB 0 [.str 0 0,.str 0 0])).put H.nx (aB 0 [p.1.v,p.2.v])):=⟨_,rfl⟩;have fG:Fm No H G:=by rw[hG];exact oJ
 have nG:G.nx=H.nx+1:=by rw[hG];rfl
 have gG:G.get H.nx=aB 0 (pC p):=by rw[hG];exact dS _ _ _
 rw[<-hG];have hI':=hI.no fG;have hlt:=hI.hl.2;have hst:=hI.hs.2;have hsl:=hI.ne;obtain⟨v,g1,g2,g3⟩:=hK.vs;have hvK:=fun b hb=>g2.lt (b:=b) hb;have hlK:=hK.hl.2;have hsK:=hK.hs.2;replace g1:=((fK.trans fG).keep hsK).trans g1;replace g2:=g2.no (fK.trans fG);unfold qQ;have gs:(G.put l (LQ.blk false M)).get sb=aB 0 [v]:=by rw[dG _ _ _ _ hsl];exact g1
 have gn:(G.put l (LQ.blk false M)).get H.nx=aB 0 (pC p):=by rw[dG _ _ _ _ (by omega)];exact gG
 have gv:Gl 2 (G.put l (LQ.blk false M)) v m.length (m.flatMap pC):=g2.keep (lg _) fun b hb _=>dG _ _ _ _ (g3 b hb).2.1;have gv':Gl 2 (aO (G.put l (LQ.blk false M)) (aB 0 (pC p))) v m.length (m.flatMap pC):=gv.no ((Fm.refl _ _).push _);obtain⟨H2,e1,e2,e3,e4,e5⟩:=gv'.append (w:=32) (k:=1) (x:=pC p) (by omega) rfl (by omega) (by omega);have hnx:(aO (G.put l (LQ.blk false M)) (aB 0 (pC p))).nx=G.nx+1:=rfl;have gs2:H2.get sb=aB 0 [v]:=by rw[e4.get sb (by rw[hnx];omega) fun h=>(g3 sb h).2.2 rfl,qbw _ _ _ (by rw[nq];omega)];exact gs
 have gl2:H2.get l=LQ.blk false M:=by rw[e4.get l (by rw[hnx];omega) fun h=>(g3 l h).2.1 rfl,qbw _ _ _ (by rw[nq];omega),dS]
 simp(disch:=go_size)only[go_sem,seval,gs,gn,xW,qet,e1,gs2,pg,uo];have gl3:(H2.put sb (aB 0 [.sl (G.nx+1) 0 (m.length+1) (m.length+1) false])).get l=LQ.blk false M:=by rw[dG _ _ _ _ (Ne.symm hsl)];exact gl2
 rw[q5n gl3];have f1:Fm No H0 (aO (G.put l (LQ.blk false M)) (aB 0 (pC p))):=((hI'.fm.aF l _ hI.hl.1).push _);have f2:Fm No H0 H2:=f1.then e4 fun c hc h=>absurd (g3 c h).1 (by omega);have f3:Fm No H0 ((H2.put sb (aB 0 [.sl (G.nx+1) 0 (m.length+1) (m.length+1) false])).put l (LQ.blk true M)):=(f2.aF sb _ hI.hs.1).aF l _ hI.hl.1;have h0:=hI'.fm.nx;refine Ok.ret ⟨rfl,⟨f3,dS _ _ _,⟨hI.hl.1,?_⟩,⟨hI.hs.1,?_⟩,hsl,.sl (G.nx+1) 0 (m.length+1) (m.length+1) false,?_,?_,?_⟩,fun b hb hb2=>?_⟩
 ·show l<H2.nx;omega
 ·show sb<H2.nx;omega
 ·rw[dG _ _ _ _ hsl,dS]
 ·rw[lq,uA,uB];refine e2.keep (lg _) fun b hb _=>?_;obtain⟨_,_,_,_,hb⟩:=hb;cases hb;rw[dG _ _ _ _ (by omega),dG _ _ _ _ (by omega)]
 ·rintro b ⟨_,_,_,_,hb⟩;cases hb;omega
 ·rw[dG _ _ _ _ (by omega),dG _ _ _ _ (by omega),e4.get b (by rw[hnx];omega) fun h=>by have:=hvK b h;omega,qbw _ _ _ (by rw[nq];omega),dG _ _ _ _ (by omega)];exact fG.keep hb2
def nL(t:Tu):List (SS×SS):=[(t.a,t.b),(t.x,t.y)]
theorem aOa(f:Tu->List (SS×SS)){l:List Tu}{i:Nat}(h:i<l.length):(l.take (i+1)).flatMap f=(l.take i).flatMap f++f l[i]:=by rw[ku h,uA,uB]
theorem q8t{C0:Ev.Call}{v:AV}{l:List Tu}{H0:Hp}(hv:Rs 6 Tu.cells H0 v l)(hn:l.length<=20){y:Nat}{Inv:List (SS×SS)->Hp->Prop}(hf:∀ m H,Inv m H->Fm No H0 H)(hno:∀ m H G,Inv m H->Fm No H G->Inv m G)(hy:∀ m p H G,m.length<100->Inv m H->Fm No H G->Ok (C0 (.y y) [.agg (pC p)] G) fun r H'=>r=.bool true/\Inv (m++[p]) H'/\∀ b,H.nx<=b->b<G.nx->H'.get b=G.get b){bL q2e:pH}{Q:pL}(hq:∀ H,Inv (l.flatMap nL) H->Ok (q2e H) Q):∀(k i:Nat) (H:Hp),l.length-i<k->i<=l.length->((l.take i).flatMap nL).length<=2*i->Inv ((l.take i).flatMap nL) H -> Ok (qqx C0 bL q2e (.yield y) v (iN (l.length)) k (iN i) H) Q
 |0,i,H,h,_,_,_=>by omega
 |k+1,i,H,h,hi,hl,hI=>by
  show Ok (zcv C0 _ _ _ _ _ (qqx C0 _ _ _ _ _ k) _ H) Q;unfold zcv;by_cases hlt:i<l.length
  ·obtain⟨b1,o1,e1,e2,e3⟩:=(hv.fm (hf _ H hI)).qI hlt;have fp:Fm No H ((aO H (aB 0 [.str 0 0,.str 0 0,.str 0 0,.str 0 0,.str 0 0,.str 0 0])).put H.nx (aB 0 l[i].cells)):=by(repeat(first|exact Fm.refl _ _|assumption|refine Fm.push ?_ _|refine Fm.lF ?_ (by first|omega|simp only[np,nq];omega)|refine Fm.aF ?_ _ _ (by first|omega|simp only[np,nq];omega)))
   have et:aB 0 l[i].cells=aB 0 [.str l[i].a.n l[i].a.a,.str l[i].b.n l[i].b.a,.str l[i].c.n l[i].c.a,.str l[i].x.n l[i].x.a,.str l[i].y.n l[i].y.a,.str l[i].z.n l[i].z.a]:=id rfl;have hI1:=hno _ _ _ hI fp;simp(disch:=first|omega|exact ti rfl|simp only[np,nq];first|done|omega)only[go_sem,rB,rI,rK,rL,rN,rS,r6,hlt];unfold q04;simp(disch:=first|omega|exact ti rfl|simp only[np,nq];first|done|omega)only[go_sem,rB,rI,rK,rL,rN,rS,r6,e1,e3,vJ,qdh,et,qxc];rw[<-et];refine Ok.ve (hy _ (l[i].a,l[i].b) _ _ (by omega) hI fp) ?_;rintro _ H1 ⟨rfl,hI2,hk⟩;have g1:H1.get H.nx=aB 0 l[i].cells:=(hk H.nx (lg _) (by first|omega|simp only[np,nq];omega)).trans (dS _ _ _);rw[et]at g1;simp(disch:=first|omega|exact ti rfl|simp only[np,nq];first|done|omega)only[go_sem,rB,rI,rK,rL,rN,rS,r6,g1,qxc];refine Ok.ve (hy _ (l[i].x,l[i].y) _ _ (by rw[lq,lE0];omega) hI2 (Fm.refl _ _)) ?_;rintro _ H2 ⟨rfl,uZ,_⟩;simp(disch:=first|omega|exact ti rfl|simp only[np,nq];first|done|omega)only[go_sem,rB,rI,rK,rL,rN,rS,r6];unfold zcu;simp(disch:=first|omega|exact ti rfl|simp only[np,nq];first|done|omega)only[go_sem,rB,rI,rK,rL,rN,rS,r6];have he:=aOa nL hlt;refine q8t hv hn hf hno hy hq k (i+1) H2 (by omega) (by omega) ?_ ?_
   ·rw[he,lq];show _+2<=_;omega
   ·rw[he];rw[qw]at uZ;exact uZ
  ·have:i=l.length:=by omega
   simp(disch:=first|omega|exact ti rfl|simp only[np,nq];first|done|omega)only[go_sem,rB,rI,rK,rL,rN,rS,r6,hlt];subst this;rw[uj]at hI;exact hq H hI
end Go.Di
end
noncomputable section
namespace Go.Di
open Go.Ev Go.Di.T Go.Sort
variable {C:Nat->Ev.Call}
theorem bDN:CpW 2 pC oZ iF:=⟨xW,by decide,fun neg x y=>by unfold oZ;rw[aO8];rfl,rfl⟩
theorem q59(hC:aW C){k:Nat}(hk:1<=k){H:Hp}{b q:Nat}{A:List AV}{S:List (SS×SS)}{e:Bool}(hb:b<H.nx)(hn:S.length<900000)(h0:0<S.length)(hg:H.get b=aB q (A++S.flatMap pC++[])):Ok (C k (.f 60) [.sl b A.length S.length S.length e] H) fun w H'=>CpO pC H b q A (iG S) w e H':=by obtain⟨j,rfl⟩:=aS hk;rw[(hC j).zFr];exact zw6 bDN hb hn h0 hg
end Go.Di
end
noncomputable section
namespace Go.Di
open Go.Ev Go.Di.T Go.Sort
variable {C:Nat->Ev.Call} {LQ:LP} {L:List (List Nat)} {X:List aN}
variable {H:Hp} {b j k m n o:Nat} {l:List AV}
theorem z5v{B:bO}(h:eB B o l.length=some l)(hj:j<l.length):dK B (o+j)=.val l[j]:=by
 have h1:=qe5 h (i:=j) (k:=1) (by omega);rw[ut hj]at h1;unfold eB at h1;split at h1
 ·rename_i n c _ _;unfold dK;simp only[ble_eq,blt_eq]at h1 ⊢;by_cases hc:o+j+1<=n
  ·rw[gp hc]at h1;rw[gp (by omega)];injection h1 with h1;have h2:[(dJ _ (o+j)).f c]=[l[j]]:=h1;simp_all
  ·simp_all
 ·cases h1
def Gives(C:Nat->Ev.Call)(j:Nat)(fc:FuncId)(vb:Nat)(H:Hp)(o:List (SS×SS)):Prop:=
 ∀(y:Nat) (Inv:List (SS×SS)->Hp->Prop) (G:Hp),Fm No H G->(∀m K,Inv m K->Fm No H K)->(∀m K G,Inv m K->Fm No K G->Inv m G) ->
  (∀m p K G,m.length<100->Inv m K->Fm No K G->Ok (C (j+1) (.y y) [.agg (pC p)] G) fun r H'=>r=.bool true/\Inv (m++[p]) H'/\∀ b,K.nx<=b->b<G.nx->H'.get b=G.get b)->Inv [] G ->
  Ok (C (j+2) (.f fc) [.yield y,.ptr vb 0] G) fun r H'=>r=.aX []/\Inv o H'
theorem zkk(hC:aW C)(j:Nat){v:AV}{l:List Tu}{vb:Nat}(hv:Rs 6 Tu.cells H v l)(hn:l.length<=20)(hb:H.get vb=aB 0 [v])(hbl:vb<H.nx):Gives C j 32 vb H (l.flatMap nL):=by intro y Inv G f hf hno hy h0;rw[(hC (j+1)).zFl];unfold zFl zxl;have e1:=hv.len;have gb:=(f.keep hbl).trans hb;simp only[go_sem,gb,e1];unfold zcw;rw[dB];exact q8t hv hn hf hno hy (fun H' h=>Ok.ret ⟨rfl,h⟩) bX 0 G (by rw[dI];omega) (by omega) (by simp) h0
theorem z3y(hR:qtf LQ C)(j:Nat){fc:FuncId}{vb:Nat}{o:List (SS×SS)}(hfn:Gives C j fc vb H o):Ok (C (j+3) (.f 125) [.aA,.fn fc [] [.ptr vb 0]] H) fun r H'=>Ac 2 pC H H' r o:=by
 rw[(hR (j+2)).app];unfold aHc znt;simp only[go_sem];unfold znr;generalize hL:pu (nV [.aA,.fn fc [] [.ptr vb 0]] 0 (same .undef 2)) [(2,.ptr H.nx 0),(4,.aA),(6,.fn fc [] [.ptr vb 0])]=M;have gL:G M 2=.ptr H.nx 0:=by rw[<-hL];kernel_rfl
 generalize hH1:aO H (aB 0 [.aA])=H1;have n1:H1.nx=H.nx+1:=by rw[<-hH1];rfl
 have f1:Fm No H H1:=by rw[<-hH1];exact(Fm.refl _ _).push _
 have f2:Fm No H (aO H1 (LQ.blk true M)):=f1.push _;have O:qgw (C (j+2)) (.fn fc [] [.ptr vb 0]) [.yield H1.nx] (aO H1 (LQ.blk true M))=C (j+2) (.f fc) [.yield H1.nx,.ptr vb 0] (aO H1 (LQ.blk true M)):=rfl;have h0:zW LQ H M H1.nx H.nx [] (aO H1 (LQ.blk true M)):=by
  refine⟨f2,lC _ _,⟨by omega,by rw[np];omega⟩,⟨lg _,by rw[np];omega⟩,by omega,.aA,?_,?_,?_⟩
  ·rw[qbj _ _ _ (by omega),<-hH1,lC]
  ·exact Gl.nil _ _
  ·rintro b ⟨_,_,_,_,h⟩;cases h
 refine Ok.aCD (hfn H1.nx (fun m K=>zW LQ H M H1.nx H.nx m K) _ f2 (fun m K h=>h.fm) (fun m K G h f=>h.no f) (fun m p K G hm hK f=>?_) h0) ?_
 ·have hI:=hK.no f;have e:(.agg (pC p):AV)=.agg [p.1.v,p.2.v]:=rfl;rw[e,(hR j).aKY M _ _ _ _ hI.lp hI.hl.2,gL];exact znq (by omega) hK f
 ·rintro r H' ⟨rfl,hI⟩;rw[z0z hI.lp];unfold q6b;rw[gL];obtain⟨v',g1,g2,g3⟩:=hI.vs;have g1':(H'.put H1.nx .dead).get H.nx=aB 0 [v']:=by rw[dG _ _ _ _ (by omega)];exact g1
  simp only[go_sem,g1'];exact Ok.ret ⟨g2.keep (lg _) fun b hb _=>dG _ _ _ _ (g3 b hb).2.1,hI.fm.aF _ _ (by omega),fun b hb=>(g3 b hb).1⟩
def Wf(s:SS):Prop:=∃ l:List UInt8,s=⟨l.length,jL l⟩
def nN(p:SS×SS):Prop:=Wf p.1/\Wf p.2
structure aNB(c:Ev.Call):Prop where
 srt:∀(H:Hp) (v:AV) (os:List (SS×SS)),(∀p∈os,nN p)->Gl 2 H v os.length (os.flatMap pC)->os.length<=1000->Ok (c (.f 96) [v,.fn 58 [] []] H) fun r H'=>r=.aX []/\(∃os':List (SS×SS),os'.Perm os/\os'.Pairwise (fun p q=>oN q p=false)/\Gl 2 H' v os.length (os'.flatMap pC))/\Fm (In v) H H'
abbrev qp6(C:Nat->Ev.Call):Prop:=∀ k,aNB (C (k+1))
theorem q98(hC:aW C)(hk:1<=k){e:Bool}(hnm:n<=m):C k (.f 59) [.sl b o n m e] H=.ok (.sl b o n n true) H:=by
 obtain⟨j,rfl⟩:=aS hk;rw[(hC j).zFs];unfold zFs zxj;have e1:kM 2 (.sl b o n m e) none (some (iN n)) (some (iN n))=.val (.sl b o n n true):=by
  show(match bounds n m none (some (iN n)) (some (iN n))with|some bd=>iD b o 2 bd true|none=>R0.bad)=_;have:bounds n m none (some (iN n)) (some (iN n))=some ⟨0,n,n⟩:=by show(match(bif Nat.ble n m then some n else none)with|none=>none|some m'=>match(bif Nat.ble n m' then some n else none)with|none=>none|some h=>match(some 0:Option Nat)with|none=>none|some l=>some (Bd.mk l h m'))=_;rw[ble_eq,gp hnm];simp only[qy,ble_eq,gp (lg n)]
  rw[this];unfold iD;simp only[beq_eq];by_cases hn:n=0
  ·subst hn;rfl
  ·simp_all
 simp only[go_sem,e1]
structure Srt(os l:List (SS×SS)):Prop where
 asc:l.Pairwise fun p q=>oN p q=true
 mem:∀ p,p∈l↔p∈os
theorem z6g(hC:aW C)(hR:qtf LQ C)(hO:qp6 C){fc:FuncId}{vb:Nat}{o:List (SS×SS)}(hfn:Gives C j fc vb H o)(hw:∀ p∈o,nN p)(hn:o.length<=1000)(hs:∀ os':List (SS×SS),os'.Perm o->os'.Pairwise (fun p q=>oN q p=false)->Srt o (iG os')):Ok (C (j+6) (.f 31) [.fn fc [] [.ptr vb 0]] H) fun w H'=>∃ l,Srt o l/\Rs 2 pC H' w l/\gW w=.val (iN (l.length))/\l.length<=o.length/\Fm No H H':=by
 rw[(hC (j+5)).zFm];have sf:Ok (C (j+5) (.f 61) [.fn fc [] [.ptr vb 0],.fn 58 [] []] H) fun w H'=>(∃os':List (SS×SS),os'.Perm o/\os'.Pairwise (fun p q=>oN q p=false)/\Gl 2 H' w o.length (os'.flatMap pC))/\(∀b,In w b->H.nx<=b)/\Fm No H H':=by
  rw[(hC (j+4)).zFq];have cl:Ok (C (j+4) (.f 95) [.fn fc [] [.ptr vb 0]] H) fun r H'=>Ac 2 pC H H' r o:=by rw[(hC (j+3)).zFv];exact Ok.ve (z3y hR j hfn) fun r H' h=>Ok.ret h
  refine Ok.ve cl ?_;intro w H1 ha;refine Ok.ve ((hO (j+3)).srt H1 w o hw ha.gl hn) ?_;rintro _ H2 ⟨rfl,h2,f2⟩;exact Ok.ret ⟨h2,ha.nw,ha.fm.then f2 fun c hc hi=>by have:=ha.nw c hi;omega⟩
 refine Ok.ve sf ?_;rintro w H1 ⟨⟨os',hp,hpw,hg⟩,hnw,f1⟩;have hS:=hs os' hp hpw;have hlen:=hp.length_eq;rcases hg.is with⟨rfl,h0⟩|⟨b,o',e,q,Lb,rfl,h1,h2,h3,h4,h5⟩
 ·have ho:os'=[]:=ry.1 (by omega);subst ho;have hcp:C (j+5) (.f 60) [.aA] H1=.ok .aA H1:=by
   rw[(hC (j+4)).zFr];rfl
  have hcl:C (j+5) (.f 59) [.aA] H1=.ok .aA H1:=by rw[(hC (j+4)).zFs];rfl
  simp only[go_sem,hcp,hcl];exact Ok.ret ⟨_,hS,⟨rfl,fun i hi=>by simp[iG,lK]at hi⟩,rfl,gq _,f1⟩
 ·have dl:(iG os').length<=os'.length:=by
   have:=List.length_filterMap_le (fun i=>if qju os' i then os'[i]? else none) (List.range os'.length);rw[lAF]at this;exact this
  by_cases h0:0<o.length
  ·have hA:Lb=Lb.take o'++os'.flatMap pC++[]:=by
    rw[<-h3,bg,uh]
   have hAl:(Lb.take o').length=o':=by rw[qo];omega
   have hcp:=q59 hC (k:=j+5) (by omega) (H:=H1) (b:=b) (q:=q) (A:=Lb.take o') (S:=os') (e:=e) h5 (by omega) (by omega) (by rw[<-hA];exact h1);rw[hAl,hlen]at hcp;refine Ok.ve hcp ?_;rintro w H2 hw2;obtain⟨m,Z,rfl,hm,hm0,hg2⟩:=hw2.is;have hcl:=q98 hC (k:=j+5) (by omega) (H:=H2) (b:=b) (o:=(Lb.take o').length) (e:=e) hm;simp only[go_sem,hcl];have hx:=hw2.nx;refine Ok.ret ⟨_,hS,⟨rfl,fun i hi=>⟨b,(Lb.take o').length+i*2,sV _ _ _ _ _ _ _ _ hi,by omega,⟨_,_,_,_,rfl⟩,?_,fun t ht=>?_⟩⟩,rfl,by omega,f1.then hw2.fm fun c hc h=>by subst h;have:=hnw c ⟨_,_,_,_,rfl⟩;omega⟩
   ·rw[hg2];exact qp0 xW q _ _ _ hi
   ·have h6:eB (H2.get b) ((Lb.take o').length+i*2) 2=some (pC (iG os')[i]):=by rw[hg2];exact qp0 xW q _ _ _ hi
    exact z5v h6 ht
  ·have ho:os'=[]:=ry.1 (by omega);have ho2:o.length=0:=by omega
   subst ho;rw[ho2];have hcp:C (j+5) (.f 60) [.sl b o' 0 0 e] H1=.ok (.sl b o' 0 0 e) H1:=by rw[(hC (j+4)).zFr];rfl
   have hcl:=q98 hC (k:=j+5) (by omega) (H:=H1) (b:=b) (o:=o') (n:=0) (m:=0) (e:=e) (lg _);simp only[go_sem,hcp,hcl];exact Ok.ret ⟨_,hS,⟨rfl,fun i hi=>by simp[iG,lK]at hi⟩,rfl,gq _,f1⟩
end Go.Di
end
noncomputable section
namespace Go.Di
open Go.Ev Go.Di.T Go.Sort
def ssB(l:List UInt8):SS:=⟨l.length,jL l⟩
theorem z0q{l m:List UInt8}:ssB l=ssB m↔l=m:=by
 constructor
 ·intro h;injection h with h1 h2;exact pack_inj h1 h2
 ·rintro rfl;rfl
theorem zsx(x u y v:List UInt8):oN (ssB x,ssB u) (ssB y,ssB v)=true↔rR x u y v:=by
 have h:∀ l m:List UInt8,ltS (ssB l) (ssB m)=decide (l<m):=fun l m=>by unfold ltS ssB;rw[q5c,qxe]
 unfold oN;rw[h,h,af,pq,vz,vz,vz,z0q];rfl
theorem q4c{p:SS×SS}(h:nN p):∃ x u,p=(ssB x,ssB u):=by obtain⟨⟨x,hx⟩,u,hu⟩:=h;exact⟨x,u,by cases p;simp only at hx hu;rw[hx,hu];rfl⟩
theorem qx0{p:SS×SS}(h:nN p):¬ oN p p=true:=by obtain⟨x,u,rfl⟩:=q4c h;rw[zsx];exact rR.irr x u
theorem q7h{p q r:SS×SS}(hp:nN p)(hq:nN q)(hr:nN r)(h:oN p q=true)(k:oN q r=true):oN p r=true:=by obtain⟨x,u,rfl⟩:=q4c hp;obtain⟨y,v,rfl⟩:=q4c hq;obtain⟨z,w,rfl⟩:=q4c hr;rw[zsx]at h k ⊢;exact rR.trans h k
theorem z0e{p q:SS×SS}(hp:nN p)(hq:nN q)(h:oN p q=true):¬ oN q p=true:=fun k=>qx0 hp (q7h hp hq hp h k)
theorem zwh{p q:SS×SS}(hp:nN p)(hq:nN q)(h:¬ oN p q=true)(k:¬ oN q p=true):p=q:=by obtain⟨x,u,rfl⟩:=q4c hp;obtain⟨y,v,rfl⟩:=q4c hq;rw[zsx]at h k;obtain⟨rfl,rfl⟩:=rR.tri h k;rfl
theorem z5d{o os':List (SS×SS)}(hw:∀ p∈o,nN p)(hp:os'.Perm o)(hs:os'.Pairwise fun p q=>oN q p=false):Srt o (iG os'):=by have hw':∀ p∈os',nN p:=fun p h=>hw p (hp.mem_iff.1 h);exact⟨zmm (R:=fun p q=>oN p q=true) (fun p h=>qx0 (hw' p h)) (fun p h q k=>zwh (hw' p h) (hw' q k)) (hs.imp fun h=>by rw[h];decide),fun p=>q5p.trans hp.mem_iff⟩
theorem q7s:∀{l m:List (SS×SS)},(∀p∈l,nN p)->(∀p∈m,nN p)->l.Pairwise (fun p q=>oN p q=true)->m.Pairwise (fun p q=>oN p q=true)->(∀p,p∈l↔p∈m)->l=m
 | [],[],_,_,_,_,_=>rfl
 | [],b::m,_,_,_,_,h=>absurd ((h b).2 ql) oh
 |a::l,[],_,_,_,_,h=>absurd ((h a).1 ql) oh
 |a::l,b::m,wl,wm,hl,hm,h=>by
  have ha:=wl a ql;have hb:=wm b ql;obtain⟨l1,l2⟩:=yl.1 hl;obtain⟨m1,m2⟩:=yl.1 hm;have e:a=b:=by
   rcases qg.1 ((h a).1 ql)with e|e
   ·exact e
   ·rcases qg.1 ((h b).2 ql)with e'|e'
    ·exact e'.symm
    ·exact absurd (m1 a e) (z0e ha hb (l1 b e'))
  subst e;rw[q7s (fun p k=>wl p (qx _ k)) (fun p k=>wm p (qx _ k)) l2 m2 fun p=>?_];have hx:∀ p,p∈l->p≠a:=fun p hp e=>by subst e;exact qx0 ha (l1 p hp)
  have hy:∀ p,p∈m->p≠a:=fun p hp e=>by subst e;exact qx0 ha (m1 p hp)
  constructor
  ·intro hp;rcases qg.1 ((h p).1 (qx _ hp))with e|e
   ·exact absurd e (hx p hp)
   ·exact e
  ·intro hp;rcases qg.1 ((h p).2 (qx _ hp))with e|e
   ·exact absurd e (hy p hp)
   ·exact e
theorem qwt(x p:SS×SS):∀ l,p∈nO x l↔p=x\/p∈l
 | []=>by unfold nO;simp
 |y::l=>by
  rw[qpf];split
  ·simp
  ·rw[qg,qwt x p l,qg];constructor
   ·rintro (h|h|h)<;>simp[h]
   ·rintro (h|h|h)<;>simp[h]
theorem q81{x:SS×SS}(hx:nN x):∀{l:List (SS×SS)},(∀p∈l,nN p)->x∉l->l.Pairwise (fun p q=>oN p q=true)->(nO x l).Pairwise (fun p q=>oN p q=true)
 | [],_,_,_=>by unfold nO;exact zq _ _
 |y::l,hw,hn,h=>by
  have hy:=hw y ql;obtain⟨l1,l2⟩:=yl.1 h;rw[qpf];split
  ·rename_i hc;refine yl.2 ⟨fun q hq=>?_,h⟩;rcases qg.1 hq with rfl|hq
   ·exact hc
   ·exact q7h hx hy (hw q (qx _ hq)) hc (l1 q hq)
  ·rename_i hc;refine yl.2 ⟨fun q hq=>?_,q81 hx (fun p k=>hw p (qx _ k)) (fun k=>hn (qx _ k)) l2⟩;rcases(qwt x q l).1 hq with rfl|hq
   ·by_cases hd:oN y q=true
    ·exact hd
    ·exact absurd (zwh hx hy hc hd) fun e=>hn (by rw[e];exact ql)
   ·exact l1 q hq
theorem q8h{o l:List (SS×SS)}{x:SS×SS}(hx:nN x)(hw:∀ p∈o,nN p)(h:Srt o l):Srt (o++[x]) (qV l x):=by
 have hl:∀ p∈l,nN p:=fun p k=>hw p ((h.mem p).1 k);unfold qV;split
 ·rename_i hm;refine⟨h.asc,fun p=>?_⟩;rw[h.mem,gz,gy];constructor
  ·exact .inl
  ·rintro (k|rfl)
   ·exact k
   ·exact(h.mem _).1 hm
 ·rename_i hm;refine⟨q81 hx hl hm h.asc,fun p=>?_⟩;rw[qwt,h.mem,gz,gy];exact Or.comm
theorem q9a{st:List (SS×SS)->Tu->List (SS×SS)}{f:Tu->List (SS×SS)}(hst:∀ o l t,(∀p∈o,nN p)->(∀p∈f t,nN p)->Srt o l->Srt (o++f t) (st l t)):∀(l:List Tu) (o r:List (SS×SS)),(∀p∈o,nN p)->(∀t∈l,∀p∈f t,nN p)->Srt o r->Srt (o++l.flatMap f) (l.foldl st r)
 | [],o,r,_,_,h=>by simpa using h
 |t::l,o,r,hw,hf,h=>by rw[ug,<-qw];have ht:=hf t ql;exact q9a hst l _ _ (fun p k=>(gz.1 k).elim (hw p) (ht p)) (fun u k=>hf u (qx _ k)) (hst o r t hw ht h)
def WfT(t:Tu):Prop:=nN (t.a,t.b)/\nN (t.x,t.y)
theorem q4j{l:List Tu}(hw:∀ t∈l,WfT t):Srt (l.flatMap nL) (l.foldl oK []):=by
 have:=q9a (st:=oK) (f:=nL) (fun o r t ho ht h=>?_) l [] [] (fun p k=>by cases k) (fun t k p hp=>?_) ⟨List.Pairwise.nil,fun p=>Iff.rfl⟩
 ·trivial
 ·have h1:=ht (t.a,t.b) (by simp[nL]);have h2:=ht (t.x,t.y) (by simp[nL]);have:=q8h h2 (fun p k=>(gz.1 k).elim (ho p) fun k=>by rw[gy.1 k];exact h1) (q8h h1 ho h);rw[qw]at this;exact this
 ·obtain⟨h1,h2⟩:=hw t k;simp only[nL,qg,oh,or_false]at hp;rcases hp with rfl|rfl
  ·exact h1
  ·exact h2
theorem z5e{o l m:List (SS×SS)}(hw:∀ p∈o,nN p)(h:Srt o l)(k:Srt o m):l=m:=
 q7s (fun p x=>hw p ((h.mem p).1 x)) (fun p x=>hw p ((k.mem p).1 x)) h.asc k.asc fun p=>(h.mem p).trans (k.mem p).symm
end Go.Di
end
noncomputable section
namespace Go.Di
open Go.Ev
def toP(e:Ob):SS×SS:=(ssB e.1.data.toList,ssB e.2.data.toList)
theorem qx6(es:List Ob):(es.map toP).flatMap pC=es.flatMap uV:=by rw[lAN];rfl
theorem zwj:∀{os:List (SS×SS)},(∀p∈os,nN p)->∃ es:List Ob,os=es.map toP
 | [],_=>⟨[],rfl⟩
 |p::os,h=>by obtain⟨es,e⟩:=zwj fun q k=>h q (qx _ k);obtain⟨x,u,rfl⟩:=q4c (h p ql);exact⟨(⟨⟨x⟩⟩,⟨⟨u⟩⟩)::es,by rw[e];rfl⟩
theorem q4l(f fc:FuncId)(e:Ext){H:Hp}{v:AV}{os:List (SS×SS)}(hw:∀ p∈os,nN p)(h:Gl 2 H v os.length (os.flatMap pC))(hl:os.length<=1000):∃r,qg4 f fc e f [v,.fn fc [] []] H=some r/\Ok r fun r H'=>r=.aX []/\(∃os':List (SS×SS),os'.Perm os/\os'.Pairwise (fun p q=>oN q p=false)/\Gl 2 H' v os.length (os'.flatMap pC))/\Fm (In v) H H':=by
 have hb:∀ n:Nat,Nat.beq n n=true:=fun n=>lAW n;rcases h.is with⟨rfl,h0⟩|⟨b,o,x,q,L,rfl,h1,h2,h3,h4,h5⟩
 ·have:os=[]:=ry.1 h0;subst this;refine⟨.ok (.aX []) H,?_,?_⟩
  ·unfold qg4;simp only[hb,qy]
  ·exact Ok.ret ⟨rfl,⟨[],.refl _,.nil,h⟩,Fm.refl _ _⟩
 ·obtain⟨es,rfl⟩:=zwj hw;rw[qx6]at h3;rw[qc]at hl ⊢;have hLl:o+es.length*2=L.length:=by
   have:=congrArg List.length h3;rw[xg,qjm]at this;omega
  have hsl:((qe2 es).flatMap uV).length=es.length*2:=by rw[qjm,qse]
  have hs:qye H b o es.length=some (.ok (.aX []) (H.put b (aB q (bD L o ((qe2 es).flatMap uV))))):=by
   unfold qye;rw[h1,qca,pz (by omega),h3,tu (by rw[qjm];omega)];simp only[zsp];rw[qch H b o _ _ q L h1 (by omega)];have:Nat.blt es.length 4611686018427387904=true:=by rw[Nat.blt_eq];omega
   simp only[this,qy]
  obtain⟨p1,p2⟩:=zao es;refine⟨_,by unfold qg4;simp only[hb,qy];exact hs,Ok.ret ⟨rfl,⟨(qe2 es).map toP,p1.map _,?_,?_⟩,(Fm.refl _ _).put b _ fun _=>⟨_,_,_,_,rfl⟩⟩⟩
  ·rw[lAU];refine p2.imp fun{a c} h=>?_;cases hc:oN (toP c) (toP a)with
   |false=>rfl
   |true=>exact absurd ((zsx _ _ _ _).1 hc) h
  ·rw[qx6];refine⟨by rw[hsl],.inr ⟨b,o,x,q,bD L o ((qe2 es).flatMap uV),rfl,dS _ _ _,?_,?_,h4,h5⟩⟩
   ·rw[qd2 _ _ _ (by omega)];exact h2
   ·unfold bD;simp_all
end Go.Di
end
noncomputable section
namespace Go.Di
open Go.Ev Go.Di.T Go.Sort
variable {C:Nat->Ev.Call} {LA LO:LP} {L:List (List Nat)} {X:List aN}
variable {H H' H0:Hp} {b i k n:Nat} {l:List AV} {sv:AV}
theorem zkn(n:Nat):sZ 0 n (some [])=.new (.sl n 0 0 0 true) (aB 0 []):=id rfl
theorem z01(l:List AV):aV l 0=[]:=id rfl
structure OfM(H0 H:Hp)(mb:Nat)(rs:List (SS×aR)):Prop where
 m:mY H mb rs
 o:H0.nx<=mb/\mb<H.nx
 fm:Fm No H0 H
theorem qzb{O:Ev.Call}{H0:Hp}{sv:AV}{mb pb:Nat}(hX:bS H0 sv X)(hN:(aJ X).Nodup)(hP:vG X){s:Nat}(hs:s<X.length){Q:pL}{q:pH}(hq:∀ H,OfM H0 H mb (dA X s++X[s].gs.map fun x=>(X[s].name,x))->Ok (q H) Q):∀(k i:Nat) (H:Hp),i<=X[s].gs.length->X[s].gs.length-i<k->OfM H0 H mb (dA X s++(X[s].gs.take i).map fun x=>(X[s].name,x))->H.get pb=aB 0 [.str X[s].name.n X[s].name.a,X[s].rv]->mb<pb->pb<H.nx -> Ok (qj6 O q (.map mb) (.ptr pb 0) X[s].rv (iN (X[s].gs.length)) k (iN i) H) Q
 |0,i,_,_,h,_,_,_,_=>by omega
 |k+1,i,H,hi,hk,hI,hp,hpn,hpl=>by
  show Ok (q1p O _ _ _ _ _ (qj6 O _ _ _ _ _ k) _ H) Q;unfold q1p;obtain⟨o1,o3⟩:=hI.o;by_cases hlt:i<X[s].gs.length
  ·simp only[go_sem,hlt];unfold q1n;have h1:=hX.fm hI.fm;have hsp:=h1.sp _ (lu hs);obtain⟨b1,o1',e1,e2,_,_,_,e6⟩:=hsp.at' i hlt;have hR:=hsp.rel _ (lu hlt);obtain⟨c0,c1,c2,c3,_,hrc⟩:=qfm hR;rw[hrc]at e6;have aBJ:=(hP.r _ (lu hs)).1;have htl:=(hP.x _ (lu hs) _ (lu hlt)).1;simp(disch:=go_size)only[go_sem,rB,rI,rK,rL,rN,rS,r6,e1,e6,hp,zkn,z01];obtain⟨H1,hH1⟩:∃ H1,H1=(Hp.mk ((aO H (aB 0 [.str 0 0,.aA,.int .u8 (.ofNat 0),.str 0 0,.str 0 0,.aA])).put H.nx (aB 0 [.str X[s].gs[i].r.name.n X[s].gs[i].r.name.a,X[s].gs[i].tv,c0,c1,c2,c3])).t (H.nx+1+11)).put (H.nx+1+6) (aB 0 []):=⟨_,rfl⟩;have fp:Fm No H H1:=by
    rw[hH1];exact(((Fm.refl No H).push _).aF _ _ (lg _) |>.lF (by omega)).aF _ _ (by omega)
   have n1:H1.nx=H.nx+12:=by rw[hH1];rfl
   have k0:H1.get H.nx=aB 0 [.str X[s].gs[i].r.name.n X[s].gs[i].r.name.a,X[s].gs[i].tv,c0,c1,c2,c3]:=by rw[hH1,dG _ _ _ _ (by omega)];exact dS _ _ _
   have k6:H1.get (H.nx+1+6)=aB 0 []:=by rw[hH1];exact dS _ _ _
   have hsrc:=(hR.fm fp).ty.src qgg hR.nl;rw[<-hH1,hsrc];refine Ok.mI (cpG qgg k6 (by omega) (by omega) (by omega)) ?_;rintro w H2 ⟨hw,f2,_⟩;have n2:=f2.nx;have p2:H2.get pb=aB 0 [.str X[s].name.n X[s].name.a,X[s].rv]:=(f2.get pb (by omega) (by omega)).trans ((fp.keep hpl).trans hp);have p0:=(f2.get H.nx (by omega) (by omega)).trans k0;have pQ:Fm No H H2:=fp.then f2 fun c hc h=>by omega
   obtain⟨kk,eu,mu⟩:=(hI.m.fm o3 pQ).put (X[s].name,X[s].gs[i]) (qwd hN hs hlt) (hw.rs qgg);simp only[go_sem,seval,p2,p0,eu];unfold q1o;simp(disch:=go_size)only[go_sem,rB,rI,rK,rL,rN,rS,r6];refine qzb hX hN hP hs hq k (i+1) (H2.put mb kk) (by omega) (by omega) ⟨?_,⟨o1,by show mb<H2.nx;omega⟩,(hI.fm.trans pQ).aF _ _ o1⟩ ?_ hpn (by show pb<H2.nx;omega)
   ·rw[ku hlt,ui,zx,<-qw];exact mu
   ·rw[dG _ _ _ _ (by omega)];exact p2
  ·simp only[go_sem,hlt];have he:i=X[s].gs.length:=by omega
   simp_all
theorem q8s{O:Ev.Call}{H0:Hp}{sv:AV}{mb:Nat}(hX:bS H0 sv X)(hN:(aJ X).Nodup)(hP:vG X){Q:pL}{q:pH}(hq:∀ H,OfM H0 H mb (fD X)->Ok (q H) Q):∀(k s:Nat) (H:Hp),s<=X.length->X.length-s<k->OfM H0 H mb (dA X s) -> Ok (qhs O q (.map mb) sv (iN (X.length)) k (iN s) H) Q
 |0,i,_,_,h,_=>by omega
 |k+1,s,H,hi,hk,hI=>by
  show Ok (zdy O _ _ _ _ (qhs O _ _ _ _ k) _ H) Q;unfold zdy;obtain⟨o1,o3⟩:=hI.o;have hn:=hP.n;by_cases hlt:s<X.length
  ·simp only[go_sem,hlt];unfold q1m;have h1:=hX.fm hI.fm;obtain⟨b1,o1',e1,e2,_,e3,_⟩:=h1.rs.at' s hlt;unfold pX SS.v at e3;have hl:=(h1.sp _ (lu hlt)).len;have aBJ:=(hP.r _ (lu hlt)).1;have fp:Fm No H ((aO H (aB 0 [.str 0 0,.aA])).put H.nx (aB 0 [.str X[s].name.n X[s].name.a,X[s].rv])):=by exact oJ
   simp(disch:=first|omega|exact ti rfl)only[go_sem,seval,e1,e3,hl];unfold q1q;rw[dB];refine qzb hX hN hP hlt (pb:=H.nx) (fun H2 hI2=>?_) bX 0 _ (gq _) (by rw[dI];omega) ⟨?_,⟨o1,by simp only[np,nq];omega⟩,hI.fm.trans fp⟩ (dS _ _ _) o3 (by simp only[np,nq];omega)
   ·unfold qnf;simp(disch:=omega)only[go_sem];refine q8s hX hN hP hq k (s+1) H2 (by omega) (by omega) ?_;have hx:dA X (s+1)=dA X s++X[s].gs.map fun x=>(X[s].name,x):=by
     unfold dA fD;rw[ku hlt,uA,uB]
    simp_all
   ·rw[dE,lA8,uh];exact hI.m.fm o3 fp
  ·simp only[go_sem,hlt];have he:s=X.length:=by omega
   refine hq H ?_;have:dA X X.length=fD X:=by unfold dA;rw[uj]
   simp_all
theorem q5b(hC:aW C)(hk:1<=k)(hX:bS H sv X)(hV:dO X):Ok (C k (.f 36) [.agg [sv]] H) fun r H'=>∃ b,r=.map b/\mY H' b (fD X)/\b<H'.nx/\Fm No H H':=by
 obtain⟨j,rfl⟩:=aS hk;rw[(hC j).zEf];unfold zEf zx9;have f:Fm No H (aO (aO H (aB 0 [sv])) (.map [] 0)):=by exact pU
 have hX1:=hX.fm f;have hls:=hX1.rs.len;have hn16:=hV.pr.n;simp(disch:=first|go_size|omega)only[go_sem,hls];unfold zdz;rw[dB];refine q8s (H0:=aO H (aB 0 [sv])) (sv:=sv) (mb:=H.nx+1) (hX.fm (by exact jY)) hV.al hV.pr (fun H2 hI=>?_) bX 0 _ (gq _) (by rw[dI];omega) ⟨⟨[],0,by simp(disch:=first|go_size|omega)only[go_sem],?_,fun i e p h=>by cases h⟩,⟨by simp only[np,nq];omega,by simp only[np,nq];omega⟩,by exact jY⟩
 ·unfold qgb;exact Ok.ret ⟨_,rfl,hI.m,hI.o.2,Fm.trans (by exact jY) hI.fm⟩
 ·rfl
def tyF(t:Tu)(y:iQ):Bool:=decide (y.sp.n=t.x.n/\y.sp.a=t.x.a)&&decide (y.rl.n=t.z.n/\y.rl.a=t.z.a)
def tX(X:List aN)(t:Tu):Nat:=bif t.ok then(match kI X t.a t.c with|none=>6|some g=>bif g.r.types.any (tyF t)then 0 else 11)else 6
theorem zxa(t:Tu)(ts:List iQ):ts.any (tyF t)=decide ((⟨t.x,t.z⟩:iQ)∈ts):=by
 rw[lAQ,vz,ag];have h:∀ y:iQ,tyF t y=true↔y=⟨t.x,t.z⟩:=fun y=>by
  unfold tyF;rw[pq,vz,vz,<-sJ,<-sJ];constructor
  ·rintro ⟨h1,h2⟩;cases y;simp only at h1 h2;rw[h1,h2]
  ·simp_all
 simp_all
theorem zk7(hC:aW C)(hk:6<=k)(hV:dO X)(hM:mY H b (fD X))(hb:b<H.nx)(t:Tu):Ok (C k (.f 37) [.map b,.agg t.cells] H) fun r H'=>r=iN ((tX X t))/\Fm No H H':=by
 obtain⟨j,rfl⟩:=aS hk;rw[(hC j).zEg];unfold zEg zx8;have eb:pK 6 H.nx (.agg t.cells)=.new (.ptr H.nx 0) (aB 0 t.cells):=id rfl;have et:aB 0 t.cells=aB 0 [.str t.a.n t.a.a,.str t.b.n t.b.a,.str t.c.n t.c.a,.str t.x.n t.x.a,.str t.y.n t.y.a,.str t.z.n t.z.a]:=id rfl;have ec:AV.agg [.str t.a.n t.a.a,.str t.b.n t.b.a,.str t.c.n t.c.a,.str t.x.n t.x.a,.str t.y.n t.y.a,.str t.z.n t.z.a]=.agg t.cells:=id rfl;simp(disch:=omega)only[go_sem,eb,et];refine Ok.ve (zix hC (k:=j) (by omega) t _) ?_;rintro _ H1 ⟨rfl,f1⟩;have jZ:Fm No H H1:=Fm.trans (by exact jY) f1;unfold tX;cases t.ok with
 |false=>exact Ok.ret ⟨rfl,jZ⟩
 |true=>
  unfold q1l;have g1:H1.get H.nx=aB 0 [.str t.a.n t.a.a,.str t.b.n t.b.a,.str t.c.n t.c.a,.str t.x.n t.x.a,.str t.y.n t.y.a,.str t.z.n t.z.a]:=(f1.keep (by simp only[np,nq];omega)).trans (by simp(disch:=omega)only[go_sem]);have hM1:=hM.fm hb jZ;by_cases hm:(t.a,t.c)∈(fD X).map kq
  ·obtain⟨v,ev,hv⟩:=hM1.find .aA hm;rw[yA]at hm hv;obtain⟨x,hx,hn⟩:=qfb hV.al hV.sp hm;have hT:=hv _ hn;simp only[go_sem,seval,g1,ev];refine Ok.ve (qlp hC (k:=j) (by omega) hT (by have:=qzv hV.pr.sml hx;show x.r.types.length<=1000;omega) ⟨t.x,t.z⟩) ?_;rintro _ H2 ⟨rfl,f2⟩;rw[hx];simp only;rw[zxa];by_cases hc:(⟨t.x,t.z⟩:iQ)∈x.r.types
   ·rw[gp hc];exact Ok.ret ⟨rfl,jZ.trans f2⟩
   ·rw[qi hc];exact Ok.ret ⟨rfl,jZ.trans f2⟩
  ·have ev:=hM1.miss .aA hm;rw[yA]at hm;have hf:kI X t.a t.c=none:=by
    have:=qhf hV.al hV.sp t.a t.c;rw[qi hm]at this;cases h:kI X t.a t.c with
    |none=>rfl
    |some g=>rw[h]at this;cases this
   rw[hf];simp only[go_sem,seval,g1,ev];exact Ok.ret ⟨rfl,jZ⟩
theorem zl4(hC:aW C)(hN:mG C)(hE:qf5 C)(hO:pV C)(hS:oO C)(hR:oP LA LO C)(hk:1004<=k)(hX:bS H sv X)(h:SOK X)(t:Tu):Ok (C k (.f 19) [.agg [sv],.agg t.cells] H) fun r H'=>r=iN ((tX X t))/\Fm No H H':=by
 obtain⟨j,rfl⟩:=aS hk;rw[(hC j).zDy];unfold zDy zyf;have eb:∀ n,pK 6 n (.agg t.cells)=.new (.ptr n 0) (aB 0 t.cells):=fun _=>id rfl;simp(disch:=first|go_size|omega)only[go_sem,seval,eb];have f:Fm No H (aO (aO H (aB 0 [sv])) (aB 0 t.cells)):=by exact pU
 refine Ok.ve (q96 hC hN hE hO hS hR (k:=j) (by omega) (hX.fm f) h) ?_;rintro _ H1 ⟨rfl,f1⟩;have jZ:=f.trans f1;have g0:H1.get H.nx=aB 0 [sv]:=(f1.keep (by(first|go_size|omega))).trans (by simp(disch:=first|go_size|omega)only[go_sem,seval]);have g1:H1.get (H.nx+1)=aB 0 t.cells:=(f1.keep (by go_size)).trans (by simp(disch:=go_size)only[go_sem,seval]);have n1:=f1.nx;simp only[np]at n1;unfold zeb;simp only[go_sem,seval,g0,g1,vJ,qdh];refine Ok.mI (q5b hC (k:=j) (by omega) (hX.fm jZ) h.val) ?_;rintro _ H2 ⟨b,rfl,hM,hb,f2⟩;replace f2:Fm No H1 H2:=f2;have g2:H2.get (H.nx+1)=aB 0 t.cells:=(f2.keep (by omega)).trans g1;have g3:H2.get H.nx=aB 0 [sv]:=(f2.keep (by omega)).trans g0;simp(disch:=first|omega|exact ti rfl)only[go_sem,seval,g2,g3,vJ,qdh];refine Ok.mI (zk7 hC (k:=j) (by omega) h.val hM hb t) ?_;rintro _ H3 ⟨rfl,f3⟩;simp only[go_sem];exact Ok.ret ⟨rfl,(jZ.trans f2).trans f3⟩
theorem q0f(hC:aW C){j:Nat}(hj:6<=j){H0:Hp}{b:Nat}{v:AV}{l:List Tu}(hV:dO X)(hM:mY H0 b (fD X))(hb:b<H0.nx)(hl:Rs 6 Tu.cells H0 v l)(hn:l.length<=20){Q:pL}{qr:AV->pD}{q:pH}(hr:∀(i:Nat) (h:i<l.length) H,tX X l[i]≠0->(∀t∈l.take i,tX X t=0)->Fm No H0 H->Ok (qr (iN i) (iN ((tX X l[i]))) H) Q)(hq:∀ H,(∀t∈l,tX X t=0)->Fm No H0 H->Ok (q H) Q):∀(k i:Nat) (H:Hp),i<=l.length->l.length-i<k->(∀t∈l.take i,tX X t=0)->Fm No H0 H -> Ok (qrd (C j) qr q (.map b) v (iN (l.length)) k (iN i) H) Q
 |0,i,_,_,h,_,_=>by omega
 |k+1,i,H,hi,hk,ha,hf=>by
  show Ok (zd9 (C j) _ _ _ _ _ (qrd (C j) _ _ _ _ _ k) _ H) Q;unfold zd9;by_cases hlt:i<l.length
  ·simp only[go_sem,hlt];unfold q15;obtain⟨b1,o1,e1,e2,e3⟩:=(hl.fm hf).qI hlt;have fp:Fm No H ((aO H (aB 0 [.str 0 0,.str 0 0,.str 0 0,.str 0 0,.str 0 0,.str 0 0])).put H.nx (aB 0 l[i].cells)):=by exact oJ
   simp(disch:=first|go_size|omega)only[go_sem,rB,rI,rK,rL,rN,rS,r6,e1,e3,vJ,qdh];refine Ok.ve (zk7 hC hj hV ((hM.fm hb hf).fm (lL hb hf.nx) fp) (by have:=hf.nx;simp only[np,nq];omega) l[i]) ?_;rintro _ H1 ⟨rfl,f1⟩;have hf1:=(hf.trans fp).trans f1;by_cases hz:tX X l[i]=0
   ·rw[hz];unfold zd8;simp(disch:=omega)only[go_sem];refine q0f hC hj hV hM hb hl hn hr hq k (i+1) H1 (by omega) (by omega) (fun t ht=>?_) hf1;rw[ku hlt,gz,gy]at ht;rcases ht with ht|rfl
    ·exact ha t ht
    ·exact hz
   ·simp only[go_sem,hz];simp_all
  ·simp only[go_sem,hlt];exact hq H (by rw[tu (by omega)]at ha;exact ha) hf
def fb(X:List aN):List Tu->Nat×Nat
 | []=>(0,0)
 |t::l=>if tX X t=0 then((fb X l).1+1,(fb X l).2)else(0,tX X t)
theorem q9m:∀{l:List Tu},(∀t∈l,tX X t=0)->fb X l=(l.length,0)
 | [],_=>rfl
 |t::l,h=>by unfold fb;rw[pz (h t ql),q9m fun u hu=>h u (qx _ hu)];rfl
theorem z7y:∀{l:List Tu} {i:Nat} (h:i<l.length),tX X l[i]≠0->(∀t∈l.take i,tX X t=0)->fb X l=(i,tX X l[i])
 | [],_,h,_,_=>by simp at h
 |t::l,0,_,h0,_=>by unfold fb;simp_all
 |t::l,i+1,h,h0,ha=>by unfold fb;rw[pz (ha t (by simp)),z7y (l:=l) (i:=i) (by simpa using h) (by simpa using h0) fun u hu=>ha u (by rw[dm];exact qx _ hu)];rfl
theorem zl5(hC:aW C)(hN:mG C)(hE:qf5 C)(hO:pV C)(hS:oO C)(hR:oP LA LO C)(hk:1004<=k){sv v:AV}{l:List Tu}(hX:bS H sv X)(h:SOK X)(hl:Rs 6 Tu.cells H v l)(hn:l.length<=20):Ok (C k (.f 16) [.agg [sv],v] H) fun r H'=>r=.aX [iN ((fb X l).1),iN ((fb X l).2)]/\Fm No H H':=by
 obtain⟨j,rfl⟩:=aS hk;rw[(hC j).zDz];unfold zDz zye;simp(disch:=omega)only[go_sem,seval];have f:Fm No H (aO H (aB 0 [sv])):=by exact jY
 refine Ok.ve (q96 hC hN hE hO hS hR (k:=j) (by omega) (hX.fm f) h) ?_;rintro _ H1 ⟨rfl,f1⟩;have jZ:=f.trans f1;have g0:H1.get H.nx=aB 0 [sv]:=(f1.keep (by go_size)).trans (by simp(disch:=omega)only[go_sem,seval]);unfold q14;simp only[go_sem,g0];refine Ok.ve (q5b hC (k:=j) (by omega) (hX.fm jZ) h.val) ?_;rintro _ H2 ⟨b,rfl,hM,hb,f2⟩;have pQ:=jZ.trans f2;have e0:=hl.len;simp only[go_sem,e0];unfold zea;rw[dB];refine q0f hC (by omega) h.val hM hb (hl.fm pQ) hn (fun i hi H3 h0 ha f3=>?_) (fun H3 ha f3=>?_) bX 0 H2 (gq _) (by rw[dI];omega) (fun t ht=>by simp at ht) (Fm.refl _ _)
 ·rw[z7y hi h0 ha];exact Ok.ret ⟨rfl,pQ.trans f3⟩
 ·rw[q9m ha];unfold qnj;simp only[go_sem,e0];exact Ok.ret ⟨rfl,pQ.trans f3⟩
structure Two(H0 H:Hp)(w w2:AV)(m m2:List Tu):Prop where
 a:Ac 6 Tu.cells H0 H w m
 b:Ac 6 Tu.cells H0 H w2 m2
 dj:∀ c,In w c->¬ In w2 c
theorem Two.no{w w2:AV}{m m2:List Tu}(h:Two H0 H w w2 m m2)(f:Fm No H H'):Two H0 H' w w2 m m2:=⟨h.a.no f,h.b.no f,h.dj⟩
theorem Two.sw{w w2:AV}{m m2:List Tu}(h:Two H0 H w w2 m m2):Two H0 H w2 w m2 m:=⟨h.b,h.a,fun c h1 h2=>h.dj c h2 h1⟩
theorem Two.nil(f:Fm No H0 H):Two H0 H .aA .aA [] []:=⟨Ac.nil _ _ f,Ac.nil _ _ f,fun c h=>by obtain⟨_,_,_,_,h⟩:=h;cases h⟩
theorem Two.add{w w2:AV}{m m2:List Tu}(h:Two H0 H w w2 m m2)(t:Tu)(hb:m.length<100):Ok (j5 6 96 H w (some ⟨1,t.cells⟩)) fun w' H'=>Two H0 H' w' w2 (m++[t]) m2:=by
 refine(h.a.start.add t 96 rfl (by omega) (by omega)).mono fun w' H' ha=>?_;refine⟨h.a.fin ha,⟨h.b.gl.fm ha.fm fun c hc hi=>h.dj c hi hc,h.a.old ha.fm,h.b.nw⟩,fun c hc h2=>?_⟩;rcases ha.nw c hc with h3|h3
 ·exact h.dj c h3 h2
 ·have:=h.b.gl.lt h2;omega
def uQ(X:List aN)(t:Tu):Bool:=decide (tX X t=0)
def qo7(X:List aN)(t:Tu):Bool:= !decide (tX X t=0)
theorem zlr(p:Tu->Bool)(l:List Tu)(hn:l.length<=20)(i:Nat):((l.take i).filter p).length<100:=by
 have h1:=yt p (l.take i);have:(l.take i).length<=l.length:=by rw[qo];exact um _ _
 omega
theorem q9g(p:Tu->Bool){l:List Tu}(h:i<l.length):(l.take (i+1)).filter p=(l.take i).filter p++if p l[i]then[l[i]]else[]:=by rw[ku h,yj];congr 1;cases hp:p l[i]<;>simp[hp]
theorem qof(hC:aW C){j:Nat}(hj:6<=j){H0:Hp}{b:Nat}{v:AV}{l:List Tu}(hV:dO X)(hM:mY H0 b (fD X))(hb:b<H0.nx)(hl:Rs 6 Tu.cells H0 v l)(hn:l.length<=20){Q:pL}{q:AV->pD}(hq:∀ w w2 H,Two H0 H w w2 (l.filter (uQ X)) (l.filter (qo7 X))->Ok (q w w2 H) Q):∀(k i:Nat) (w w2:AV) (H:Hp),i<=l.length->l.length-i<k->Two H0 H w w2 ((l.take i).filter (uQ X)) ((l.take i).filter (qo7 X)) -> Ok (qrc (C j) q (.map b) v (iN (l.length)) k w w2 (iN i) H) Q
 |0,i,_,_,_,_,h,_=>by omega
 |k+1,i,w,w2,H,hi,hk,ht=>by
  show Ok (zd6 (C j) _ _ _ _ (qrc (C j) _ _ _ _ k) _ _ _ H) Q;unfold zd6;have hf:=ht.a.fm;by_cases hlt:i<l.length
  ·simp only[go_sem,hlt];unfold q13;obtain⟨b1,o1,e1,e2,e3⟩:=(hl.fm hf).qI hlt;have fp:Fm No H ((aO H (aB 0 [.str 0 0,.str 0 0,.str 0 0,.str 0 0,.str 0 0,.str 0 0])).put H.nx (aB 0 l[i].cells)):=by exact oJ
   simp(disch:=first|go_size|omega)only[go_sem,rB,rI,rK,rL,rN,rS,r6,e1,e3,vJ,qdh];refine Ok.ve (zk7 hC hj hV ((hM.fm hb hf).fm (lL hb hf.nx) fp) (by have:=hf.nx;simp only[np,nq];omega) l[i]) ?_;rintro _ H1 ⟨rfl,f1⟩;have g1:H1.get H.nx=aB 0 l[i].cells:=(f1.keep (by simp only[np,nq];omega)).trans (dS _ _ _);have ht1:=(ht.no fp).no f1;have s1:=q9g (uQ X) hlt;have s2:=q9g (qo7 X) hlt;by_cases hz:tX X l[i]=0
   ·rw[show uQ X l[i]=true from gp hz,pz rfl]at s1;rw[show qo7 X l[i]=false by unfold qo7;rw[gp hz];rfl,kz (by decide),uh]at s2;rw[hz];simp(disch:=omega)only[go_sem,seval,g1,vJ,qdh];refine Ok.ve ((ht1.no ((Fm.refl No H1).push (aB 0 l[i].cells))).add l[i] (zlr _ _ hn _)) ?_;intro w' H2 h2;unfold qni;simp(disch:=omega)only[go_sem];refine qof hC hj hV hM hb hl hn hq k (i+1) w' w2 H2 (by omega) (by omega) ?_;simp_all
   ·rw[show uQ X l[i]=false from qi hz,kz (by decide),uh]at s1;rw[show qo7 X l[i]=true by unfold qo7;rw[qi hz];rfl,pz rfl]at s2;simp(disch:=go_size)only[go_sem,rB,rI,rK,rL,rN,rS,r6,hz,g1,vJ,qdh];refine Ok.ve ((ht1.no ((Fm.refl No H1).push (aB 0 l[i].cells))).sw.add l[i] (zlr _ _ hn _)) ?_;intro w' H2 h2;unfold qni;simp(disch:=omega)only[go_sem];refine qof hC hj hV hM hb hl hn hq k (i+1) w w' H2 (by omega) (by omega) ?_;rw[s1,s2];exact h2.sw
  ·simp only[go_sem,hlt];rw[tu (by omega)]at ht;simp_all
theorem q97(hC:aW C)(hk:1<=k){v:AV}(h:Gl 6 H v n l):∃w,C k (.f 38) [v] H=.ok w H/\Gl 6 H w n l/\gW w=.val (iN n):=by obtain⟨j,rfl⟩:=aS hk;obtain⟨w,e,h1,h2,h3⟩:=h.clip;refine⟨w,?_,h1,h2⟩;rw[(hC j).zEh];unfold zEh zx7;simp only[go_sem,h.cO,e]
theorem zl2(hC:aW C)(hN:mG C)(hE:qf5 C)(hO:pV C)(hS:oO C)(hR:oP LA LO C)(hk:1004<=k){sv v:AV}{l:List Tu}(hX:bS H sv X)(h:SOK X)(hl:Rs 6 Tu.cells H v l)(hn:l.length<=20):Ok (C k (.f 17) [.agg [sv],v] H) fun r H'=>∃ w w2,r=.aX [w,w2,iN 0]/\Rs 6 Tu.cells H' w (l.filter (uQ X))/\gW w=.val (iN ((l.filter (uQ X)).length))/\Rs 6 Tu.cells H' w2 (l.filter (qo7 X))/\gW w2=.val (iN ((l.filter (qo7 X)).length))/\Fm No H H':=by
 obtain⟨j,rfl⟩:=aS hk;rw[(hC j).zEa];unfold zEa zyd;simp(disch:=omega)only[go_sem,seval];have f:Fm No H (aO H (aB 0 [sv])):=by exact jY
 refine Ok.ve (q96 hC hN hE hO hS hR (k:=j) (by omega) (hX.fm f) h) ?_;rintro _ H1 ⟨rfl,f1⟩;have jZ:=f.trans f1;have g0:H1.get H.nx=aB 0 [sv]:=(f1.keep (by go_size)).trans (by simp(disch:=omega)only[go_sem,seval]);unfold q12;simp only[go_sem,g0];refine Ok.ve (q5b hC (k:=j) (by omega) (hX.fm jZ) h.val) ?_;rintro _ H2 ⟨b,rfl,hM,hb,f2⟩;have pQ:=jZ.trans f2;have e0:=hl.len;simp only[go_sem,e0];unfold zd7;rw[dB];refine qof hC (by omega) h.val hM hb (hl.fm pQ) hn (fun w w2 H3 ht=>?_) bX 0 .aA .aA H2 (gq _) (by rw[dI];omega) (Two.nil (Fm.refl _ _));unfold qnh;obtain⟨u,c1,c2,c3⟩:=q97 hC (k:=j) (by omega) ht.a.gl;obtain⟨u2,d1,d2,d3⟩:=q97 hC (k:=j) (by omega) ht.b.gl;simp only[go_sem,c1,d1];exact Ok.ret ⟨_,_,rfl,c2.rs vJ,c3,d2.rs vJ,d3,pQ.trans ht.a.fm⟩
end Go.Di
end
noncomputable section
namespace Go.Di
open Go.Ev Go.Di.T Go.Sort
variable {C:Nat->Ev.Call} {L:List (List Nat)} {X:List aN}
abbrev G3:=(SS×SS)×SS
def gC(g:G3):List AV:=[g.1.1.v,g.1.2.v,g.2.v]
theorem zwz(g:G3):(gC g).length=3:=id rfl
def lQ(A:List (SS×SS))(p:SS×SS):List G3:=(A.filter fun q=>decide (q.1=p.1)).map fun q=>(p,q.2)
def iL(A o:List (SS×SS)):List G3:=o.flatMap (lQ A)
theorem zjj(A:List (SS×SS))(p:SS×SS){k:Nat}(h:k<A.length):lQ (A.take (k+1)) p=lQ (A.take k) p++if A[k].1=p.1 then[(p,A[k].2)]else[]:=by unfold lQ;rw[ku h,yj,ui];congr 1;by_cases hc:A[k].1=p.1<;>simp[hc]
theorem q75(A:List (SS×SS))(p:SS×SS):(lQ A p).length<=A.length:=by unfold lQ;rw[qc];exact yt _ _
theorem qml(A:List (SS×SS)):∀ o,(iL A o).length<=o.length*A.length
 | []=>by simp[iL]
 |p::o=>by have h1:=q75 A p;have h2:=qml A o;unfold iL at *;rw[ug,lq,pg,xh];omega
theorem qyw(A:List (SS×SS)){o:List (SS×SS)}{i:Nat}(h:i<o.length):iL A (o.take (i+1))=iL A (o.take i)++lQ A o[i]:=by unfold iL;rw[ku h,uA,uB]
theorem qwa{O:Ev.Call}{H0:Hp}{ov av:AV}{o A:List (SS×SS)}{i:Nat}(ho:Rs 2 pC H0 ov o)(hA:Rs 2 pC H0 av A)(hi:i<o.length)(hol:o.length<=100)(hAl:A.length<=10000){Q:pL}{q:pD}{m0:List G3}(hm0:m0.length<=1000000)(hq:∀ w H,Ac 3 gC H0 H w (m0++lQ A o[i])->Ok (q w H) Q):∀(k a:Nat) (w:AV) (H:Hp),a<=A.length->A.length-a<k->Ac 3 gC H0 H w (m0++lQ (A.take a) o[i]) -> Ok (qq2 O q ov av (iN i) k w (iN a) H) Q
 |0,a,_,_,_,h,_=>by omega
 |k+1,a,w,H,ha,hk,hw=>by
  show Ok (zc5 O _ _ _ _ (qq2 O _ _ _ _ k) _ _ H) Q;unfold zc5;have e0:=hA.len;by_cases hlt:a<A.length
  ·simp only[go_sem,e0,hlt];unfold q07;have hf:=hw.fm;obtain⟨b1,o1,d1,d2,_,d3,d4⟩:=(hA.fm hf).at' a hlt;obtain⟨b2,o2,f1,f2,_,f3,f4⟩:=(ho.fm hf).at' i hi;have r1:dK (H.get b1) o1=.val (.str A[a].1.n A[a].1.a):=d4 0 (by show 0<2;decide);have r2:dK (H.get b1) (o1+1)=.val (.str A[a].2.n A[a].2.a):=d4 1 (by show 1<2;decide);have r3:dK (H.get b2) o2=.val (.str o[i].1.n o[i].1.a):=f4 0 (by show 0<2;decide);have es:=qvv A[a].1 o[i].1;have hr:=zjj A o[i] hlt;have hrl:=q75 (A.take a) o[i];have htl:(A.take a).length<=A.length:=by rw[qo];exact um _ _
   by_cases hc:A[a].1=o[i].1
   ·rw[gp hc]at es;rw[pz hc]at hr;have f3':eB (H.get b2) o2 2=some [.str o[i].1.n o[i].1.a,.str o[i].2.n o[i].2.a]:=f3;simp only[go_sem,seval,d1,f1,r1,r3,es,f3',r2];have hN:Fm No H ((Hp.mk H.t (H.nx+14)).put (H.nx+11) (aB 0 [.str o[i].1.n o[i].1.a,.str o[i].2.n o[i].2.a,.str A[a].2.n A[a].2.a])):=((Fm.refl No H).up 14).aF _ _ (by omega);refine Ok.mI ((hw.no hN).add (o[i],A[a].2) 48 rfl (by rw[lq];omega) (by rw[lq];omega)) ?_;intro w2 H2 h2;unfold qm9;simp(disch:=omega)only[go_sem];refine qwa ho hA hi hol hAl hm0 hq k (a+1) w2 H2 (by omega) (by omega) ?_;simp_all
   ·rw[qi hc]at es;rw[kz hc,uh]at hr;simp only[go_sem,d1,f1,r1,r3,es];unfold qm9;simp(disch:=omega)only[go_sem];refine qwa ho hA hi hol hAl hm0 hq k (a+1) w H (by omega) (by omega) ?_;simp_all
  ·simp only[go_sem,e0,hlt];rw[tu (by omega)]at hw;exact hq w H hw
theorem q8e{O:Ev.Call}{H0:Hp}{ov av:AV}{o A:List (SS×SS)}(ho:Rs 2 pC H0 ov o)(hA:Rs 2 pC H0 av A)(hol:o.length<=100)(hAl:A.length<=10000){Q:pL}{q:pD}(hq:∀ w H,Ac 3 gC H0 H w (iL A o)->Ok (q w H) Q):∀(k i:Nat) (w:AV) (H:Hp),i<=o.length->o.length-i<k->Ac 3 gC H0 H w (iL A (o.take i)) -> Ok (qhq O q ov av k w (iN i) H) Q
 |0,i,_,_,_,h,_=>by omega
 |k+1,i,w,H,hi,hk,hw=>by
  show Ok (zc6 O _ _ _ (qhq O _ _ _ k) _ _ H) Q;unfold zc6;have e0:=ho.len;by_cases hlt:i<o.length
  ·simp only[go_sem,e0,hlt];unfold q06 zc7;rw[dB];have hl:=qml A (o.take i);have htl:(o.take i).length<=o.length:=by rw[qo];exact um _ _
   have hm:(o.take i).length*A.length<=100*10000:=Nat.mul_le_mul (by omega) hAl;refine qwa ho hA hlt hol hAl (m0:=iL A (o.take i)) (by omega) (fun w2 H2 h2=>?_) bX 0 w H (gq _) (by rw[dI];omega) ?_
   ·unfold qm8;simp(disch:=omega)only[go_sem];refine q8e ho hA hol hAl hq k (i+1) w2 H2 (by omega) (by omega) ?_;rw[qyw A hlt];exact h2
   ·have:lQ (A.take 0) o[i]=[]:=by simp[lQ]
    simp_all
  ·simp only[go_sem,e0,hlt];rw[tu (by omega)]at hw;exact hq w H hw
theorem aNG(hC:aW C){k:Nat}(hk:4<=k){H:Hp}{sv v:AV}{l:List Tu}(hX:bS H sv X)(hS:yD X)(hv:Rs 6 Tu.cells H v l)(hn:l.length<=20)(hol:(l.foldl oK []).length<=100):Ok (C k (.f 15) [.agg [sv],v] H) fun r H'=>Rs 3 gC H' r (iL (aJ X) (l.foldl oK []))/\Fm No H H':=by
 obtain⟨j,rfl⟩:=aS hk;rw[(hC j).zFg];unfold zFg zxq;have f0:Fm No H (aO H (aB 0 [sv])):=by exact jY
 refine Ok.ve (aNP hC (k:=j) (by omega) (hv.fm f0) hn) ?_;rintro w H1 ⟨hw,f1⟩;have g1:H1.get H.nx=aB 0 [sv]:=(f1.keep (by simp only[np,nq];omega)).trans (by simp(disch:=omega)only[go_sem]);simp only[go_sem,g1];refine Ok.ve (zxf hC (k:=j) (by omega) (hX.fm (f0.trans f1)) hS) ?_;intro w2 H2 ha;have hal:=hS.all X.length;rw[uj]at hal;unfold zc8;rw[dB];refine q8e (hw.fm ha.fm) (ha.rs xW) hol hal (fun w3 H3 h3=>?_) bX 0 .aA H2 (gq _) (by rw[dI];omega) (by simp only[dE];exact Ac.nil 3 _ (Fm.refl _ _));exact Ok.ret ⟨h3.rs zwz,((f0.trans f1).trans ha.fm).trans h3.fm⟩
end Go.Di
end
noncomputable section
namespace Go.Di
open Go.Ev Go.Di.T Go.Sort
variable {C:Nat->Ev.Call} {LA LO LQ:LP} {L:List (List Nat)} {X:List aN}
variable {H:Hp} {k:Nat}
theorem z3i{v z:AV}(n:Nat)(h:aD v=.val z):jT n v=.new (.ptr n 0) (aB 0 [v]):=by cases v<;>first|rfl|cases h
theorem zki:∀ l:List Tu,(l.flatMap nL).length=2*l.length
 | []=>rfl
 |t::l=>by rw[ug,lq,zki l];show 2+_=_;rw[pg];omega
theorem zwu{l:List Tu}(hw:∀ t∈l,WfT t):∀ p∈l.flatMap nL,nN p:=fun p hp=>by
 obtain⟨t,ht,hp⟩:=yx.1 hp;obtain⟨h1,h2⟩:=hw t ht;simp only[nL,qg,oh,or_false]at hp;rcases hp with rfl|rfl
 ·exact h1
 ·exact h2
structure IsO(H:Hp)(w:AV)(l:List (SS×SS)):Prop where
 rs:Rs 2 pC H w l
 cp:gW w=.val (iN (l.length))
theorem aMq(hC:aW C)(hR:qtf LQ C)(hO:qp6 C)(hk:7<=k){v:AV}{l:List Tu}(hv:Rs 6 Tu.cells H v l)(hn:l.length<=20)(hw:∀ t∈l,WfT t):Ok (C k (.f 10) [v] H) fun w H'=>IsO H' w (l.foldl oK [])/\(l.foldl oK []).length<=40/\Fm No H H':=by
 obtain⟨j,rfl⟩:∃ j,k=j+7:=⟨k-7,by omega⟩;rw[(hC (j+6)).zFb];unfold zFb zxs;have f:Fm No H (aO H (aB 0 [v])):=by exact jY
 have hwf:=zwu hw;have hl:=zki l;have eb:jT H.nx v=.new (.ptr H.nx 0) (aB 0 [v]):=z3i _ hv.len;simp only[go_sem,eb];refine Ok.ve (z6g hC hR hO (zkk hC j (hv.fm f) hn (lC _ _) (by simp only[np,nq];omega)) hwf (by omega) fun os' h1 h2=>z5d hwf h1 h2) ?_;rintro w H1 ⟨m,hs,h1,h2,h3,f1⟩;have e:=z5e hwf hs (q4j hw);subst e;exact Ok.ret ⟨⟨h1,h2⟩,by omega,f.trans f1⟩
theorem aL4(hC:aW C)(hk:1<=k){ob:Nat}{p:SS×SS}(hb:H.get ob=aB 0 [.str p.1.n p.1.a,.str p.2.n p.2.a])(hbl:ob<H.nx)(s:SS)(rv:AV):Ok (C k (.f 29) [.agg [.str s.n s.a,rv],.ptr ob 0] H) fun r H'=>r=.bool (decide (s=p.1))/\Fm No H H':=by obtain⟨j,rfl⟩:=aS hk;rw[(hC j).zFi];unfold zFi zxo;have es:=qvv s p.1;simp(disch:=omega)only[go_sem,hb,es];exact Ok.ret ⟨rfl,by exact jY⟩
theorem q80(hC:aW C){j:Nat}(hj:1<=j){H0:Hp}{sv:AV}{ob:Nat}{p:SS×SS}(hX:bS H0 sv X)(hn:X.length<=100)(hb:H0.get ob=aB 0 [.str p.1.n p.1.a,.str p.2.n p.2.a])(hbl:ob<H0.nx){Q:pL}{qr:pD}{q:pH}(hr:∀ s (h:s<X.length) H,X[s].name=p.1->Fm No H0 H->Ok (qr (iN s) H) Q)(hq:∀ H,(∀g∈X,g.name≠p.1)->Fm No H0 H->Ok (q H) Q):∀(k s:Nat) (H:Hp),s<=X.length->X.length-s<k->(∀g∈X.take s,g.name≠p.1)->Fm No H0 H->Ok (qqy (C j) qr q sv (.fn 29 [] [.ptr ob 0]) (iN (X.length)) k (iN s) H) Q
 |0,s,_,_,h,_,_=>by omega
 |k+1,s,H,hs,hk,hm,hf=>by
  show Ok (zcz (C j) _ _ _ _ _ (qqy (C j) _ _ _ _ _ k) _ H) Q;unfold zcz;by_cases hlt:s<X.length
  ·simp only[go_sem,hlt];unfold zcx;obtain⟨b1,o1,e1,e2,_,e3,_⟩:=(hX.fm hf).rs.at' s hlt;simp only[go_sem,e1,e3,qz4,nz,ae];refine Ok.ve (aL4 hC hj (p:=p) ((hf.keep hbl).trans hb) (lL hbl hf.nx) X[s].name X[s].rv) ?_;rintro _ H1 ⟨rfl,f1⟩;by_cases h:X[s].name=p.1
   ·rw[gp h];exact hr s hlt H1 h (hf.trans f1)
   ·rw[qi h];unfold zcy;simp(disch:=omega)only[go_sem];refine q80 hC hj hX hn hb hbl hr hq k (s+1) H1 (by omega) (by omega) (fun g hg=>?_) (hf.trans f1);rw[ku hlt,gz,gy]at hg;rcases hg with hg|rfl
    ·exact hm g hg
    ·exact h
  ·simp only[go_sem,hlt];exact hq H (by rw[tu (by omega)]at hm;exact hm) hf
theorem q9f{α β:Type}(f:α->List β):∀(l:List α) (s:Nat) (hs:s<l.length),(∀i (h:i<l.length),i≠s->f l[i]=[])->l.flatMap f=f l[s]
 | [],s,hs,_=>by simp at hs
 |a::l,0,_,h=>by
  rw[ug];have:l.flatMap f=[]:=List.flatMap_eq_nil_iff.2 fun x hx=>by obtain⟨i,hi,rfl⟩:=ay hx;exact h (i+1) (by simpa using hi) (by omega)
  simp_all
 |a::l,s+1,hs,h=>by have h0:f a=[]:=h 0 (by simp) (by omega);rw[ug,h0,ae,q9f f l s (by simpa using hs) fun i hi hn=>h (i+1) (by simpa using hi) (by omega)];rfl
theorem q76(p:SS×SS):lQ (aJ X) p=X.flatMap fun g=>if g.name=p.1 then g.gs.map fun x=>(p,x.r.name)else[]:=by
 unfold lQ aJ;rw[List.filter_flatMap,List.map_flatMap];congr 1;funext g;by_cases h:g.name=p.1
 ·rw[pz h,List.filter_eq_self.2 (fun q hq=>by obtain⟨x,_,rfl⟩:=qp.1 hq;exact gp h),bu];rfl
 ·simp_all
theorem z0x{p:SS×SS}(h:∀ g∈X,g.name≠p.1):lQ (aJ X) p=[]:=by rw[q76,List.flatMap_eq_nil_iff];simp_all
theorem z0y(hsp:(X.map aN.name).Nodup){p:SS×SS}{s:Nat}(hs:s<X.length)(hn:X[s].name=p.1):lQ (aJ X) p=X[s].gs.map fun x=>(p,x.r.name):=by
 have hu:=uw.1 (lAU.1 hsp);rw[q76,q9f (fun g:aN=>if g.name=p.1 then g.gs.map fun x=>(p,x.r.name)else[]) X s hs fun i hi hne=>kz fun h=>by
  rcases Nat.lt_or_gt_of_ne hne with h1|h1
  ·exact hu i s hi hs h1 (h.trans hn.symm)
  ·exact hu s i hs hi h1 (hn.trans h.symm)]
 exact pz hn
theorem qzt{O:Ev.Call}{H0 K0:Hp}{sv w0:AV}{ob:Nat}{p:SS×SS}{m0:List G3}(hX:bS H0 sv X)(hP:vG X)(ha0:Ac 3 gC H0 K0 w0 m0)(hm0:m0.length<=1000000)(hb:K0.get ob=aB 0 [.str p.1.n p.1.a,.str p.2.n p.2.a])(hbl:ob<K0.nx)(hnb:¬ In w0 ob){s:Nat}(hs:s<X.length){Q:pL}{q:pD}(hq:∀ w H,nU 3 gC (In w0) K0 H w (m0++X[s].gs.map fun x=>(p,x.r.name))->Ok (q w H) Q):∀(k i:Nat) (w:AV) (H:Hp),i<=X[s].gs.length->X[s].gs.length-i<k->nU 3 gC (In w0) K0 H w (m0++(X[s].gs.take i).map fun x=>(p,x.r.name)) -> Ok (qj5 O q (.ptr ob 0) X[s].rv (iN (X[s].gs.length)) k w (iN i) H) Q
 |0,i,_,_,_,h,_=>by omega
 |k+1,i,w,H,hi,hk,hw=>by
  show Ok (q1d O _ _ _ _ (qj5 O _ _ _ _ k) _ _ H) Q;unfold q1d;by_cases hlt:i<X[s].gs.length
  ·simp only[go_sem,hlt];unfold q1b;have hsp:=(hX.fm (ha0.old hw.fm)).sp _ (lu hs);obtain⟨b1,o1,e1,e2,_,_,_,e6⟩:=hsp.at' i hlt;obtain⟨c0,c1,c2,c3,_,hrc⟩:=qfm (hsp.rel _ (lu hlt));rw[hrc]at e6;have aBJ:=(hP.r _ (lu hs)).1;have go:=(hw.fm.get ob hbl hnb).trans hb;have nx:=hw.fm.nx;have fp:Fm No H ((aO H (aB 0 [.str 0 0,.aA,.int .u8 (.ofNat 0),.str 0 0,.str 0 0,.aA])).put H.nx (aB 0 [.str X[s].gs[i].r.name.n X[s].gs[i].r.name.a,X[s].gs[i].tv,c0,c1,c2,c3])):=by exact oJ
   simp(disch:=go_size)only[go_sem,seval,e1,e6,go];have hml:(m0++(X[s].gs.take i).map fun x=>(p,x.r.name)).length<=1000100:=by rw[lq,qc,qo];omega
   refine Ok.ve ((hw.no (fp.push (aB 0 (gC (p,X[s].gs[i].r.name))))).add (p,X[s].gs[i].r.name) 48 rfl (by omega) (by omega)) ?_;intro w2 H2 h2;unfold q1c;simp(disch:=omega)only[go_sem];refine qzt hX hP ha0 hm0 hb hbl hnb hs hq k (i+1) w2 H2 (by omega) (by omega) ?_;rw[ku hlt,ui,zx,<-qw];exact h2
  ·simp only[go_sem,hlt];rw[tu (by omega)]at hw;exact hq w H hw
theorem q88(hC:aW C){j:Nat}(hj:2<=j){H0:Hp}{sv ov:AV}{sb:Nat}{o:List (SS×SS)}(hX:bS H0 sv X)(hV:dO X)(hb:H0.get sb=aB 0 [sv])(hbl:sb<H0.nx)(ho:Rs 2 pC H0 ov o)(hol:o.length<=100)(hAl:(aJ X).length<=10000){Q:pL}{q:pD}(hq:∀ w H,Ac 3 gC H0 H w (iL (aJ X) o)->Ok (q w H) Q):∀(k i:Nat) (w:AV) (H:Hp),i<=o.length->o.length-i<k->Ac 3 gC H0 H w (iL (aJ X) (o.take i)) -> Ok (qf3 (C j) q (.ptr sb 0) ov (iN (o.length)) k w (iN i) H) Q
 |0,i,_,_,_,h,_=>by omega
 |k+1,i,w,H,hi,hk,hw=>by
  show Ok (zdd (C j) _ _ _ _ (qf3 (C j) _ _ _ _ k) _ _ H) Q;unfold zdd;by_cases hlt:i<o.length
  ·simp only[go_sem,hlt];unfold q09;have hf:=hw.fm;have nx:=hf.nx;obtain⟨b1,o1,e1,e2,e3⟩:=(ho.fm hf).qI hlt;have e3':eB (H.get b1) o1 2=some [.str o[i].1.n o[i].1.a,.str o[i].2.n o[i].2.a]:=e3;have gs:=(hf.keep hbl).trans hb;obtain⟨K,hK⟩:∃ K,K=((aO H (aB 0 [.str 0 0,.str 0 0])).put H.nx (aB 0 [.str o[i].1.n o[i].1.a,.str o[i].2.n o[i].2.a])):=⟨_,rfl⟩;have fK:Fm No H K:=by rw[hK];exact oJ
   have nK:K.nx=H.nx+1:=by rw[hK];rfl
   have gK:K.get H.nx=aB 0 [.str o[i].1.n o[i].1.a,.str o[i].2.n o[i].2.a]:=by rw[hK];exact dS _ _ _
   have gsK:=(fK.keep (by omega)).trans gs;rw[hK]at gsK;simp(disch:=first|omega|exact ti rfl)only[go_sem,seval,e1,e3',gsK];rw[<-hK];rw[<-hK]at gsK;have hl:=qml (aJ X) (o.take i);have htl:(o.take i).length<=o.length:=by rw[qo];exact um _ _
   have hm:(o.take i).length*(aJ X).length<=100*10000:=Nat.mul_le_mul (by omega) hAl;have hsucc:=qyw (aJ X) hlt;have hn:=hV.pr.n;have zD:∀ w H,Ac 3 gC H0 H w (iL (aJ X) (o.take (i+1)))->Ok (qi5 (C j) (qf3 (C j) q (.ptr sb 0) ov (iN (o.length)) k) w (iN i) H) Q:=fun w H h=>by unfold qi5;simp(disch:=omega)only[go_sem];exact q88 hC hj hX hV hb hbl ho hol hAl hq k (i+1) w H (by omega) (by omega) h
   have hXK:=(hX.fm hf).fm fK;have hlen:=hXK.rs.len;have ix:Ok (C j (.f 28) [sv,.fn 29 [] [.ptr H.nx 0]] K) fun r H'=>((∃s,∃hs:s<X.length,X[s].name=o[i].1/\r=iN s)\/((∀g∈X,g.name≠o[i].1)/\r=.int .i64 (.negSucc 0)))/\Fm No K H':=by obtain⟨j',rfl⟩:∃ j',j=j'+1:=⟨j-1,by omega⟩;rw[(hC j').zFj];unfold zFj zxn;simp only[go_sem,hlen];unfold zc0;rw[dB];refine q80 hC (by omega) hXK (by omega) gK (by omega) (fun s hs H' hn f=>Ok.ret ⟨.inl ⟨s,hs,hn,rfl⟩,f⟩) (fun H' hn f=>?_) bX 0 K (gq _) (by rw[dI];omega) (fun g hg=>by simp at hg) (Fm.refl _ _);exact Ok.ret ⟨.inr ⟨hn,rfl⟩,f⟩
   refine Ok.ve ix ?_;rintro _ H1 ⟨⟨s,hs,hn1,rfl⟩|⟨hno,rfl⟩,f1⟩
   ·simp only[go_sem];unfold q1a;have gs1:=(f1.keep (by omega)).trans gsK;have hX1:=hXK.fm f1;obtain⟨b2,o2,d1,d2,_,d3,d4⟩:=hX1.rs.at' s hs;have r1:dK (H1.get b2) (o2+1)=.val X[s].rv:=d4 1 (by show 1<2;decide);have hl2:=(hX1.sp _ (lu hs)).len;simp only[go_sem,gs1,d1,r1,hl2];unfold q1e;rw[dB];have ha1:=(hw.no fK).no f1;have aBJ:=(hV.pr.r _ (lu hs)).1;have n1:=f1.nx;refine qzt (H0:=H0) (sv:=sv) (p:=o[i]) hX hV.pr ha1 (by omega) ((f1.keep (by omega)).trans gK) (by omega) (fun h=>by have:=hw.gl.lt h;omega) hs (fun w2 H2 h2=>?_) bX 0 w H1 (gq _) (by rw[dI];omega) ?_
    ·refine zD w2 H2 ?_;rw[hsucc,z0y hV.sp hs hn1];exact ha1.fin h2
    ·simp only[dE,lA8,uh];exact ha1.start
   ·simp only[go_sem];refine zD w H1 ?_;rw[hsucc,z0x hno,uh];exact(hw.no fK).no f1
  ·simp only[go_sem,hlt];rw[tu (by omega)]at hw;exact hq w H hw
theorem zl3(hC:aW C)(hN:mG C)(hE:qf5 C)(hO:pV C)(hS:oO C)(hR:oP LA LO C)(hQ:qtf LQ C)(hT:qp6 C)(hk:1004<=k){sv v:AV}{l:List Tu}(hX:bS H sv X)(h:SOK X)(hv:Rs 6 Tu.cells H v l)(hn:l.length<=20)(hw:∀ t∈l,WfT t):Ok (C k (.f 8) [.agg [sv],v] H) fun r H'=>∃ w,r=.aX [w,iN 0]/\Rs 3 gC H' w (iL (aJ X) (l.foldl oK []))/\gW w=.val (iN ((iL (aJ X) (l.foldl oK [])).length))/\Fm No H H':=by
 obtain⟨j,rfl⟩:=aS hk;rw[(hC j).zFa];unfold zFa zxt;simp(disch:=omega)only[go_sem,seval];have f:Fm No H (aO H (aB 0 [sv])):=by exact jY
 refine Ok.ve (q96 hC hN hE hO hS hR (k:=j) (by omega) (hX.fm f) h) ?_;rintro _ H1 ⟨rfl,f1⟩;have jZ:=f.trans f1;have g0:H1.get H.nx=aB 0 [sv]:=(f1.keep (by go_size)).trans (by simp(disch:=omega)only[go_sem,seval]);have n1:=f1.nx;simp only[np]at n1;simp only[go_sem];refine Ok.ve (aMq hC hQ hT (k:=j) (by omega) (hv.fm jZ) hn hw) ?_;rintro ov H2 ⟨ho,hol,f2⟩;have e0:=ho.rs.len;simp only[go_sem,e0];unfold zde;rw[dB];have hal:=h.val.pr.sml.all X.length;rw[uj]at hal;refine q88 hC (by omega) ((hX.fm jZ).fm f2) h.val ((f2.keep (by omega)).trans g0) (by have:=f2.nx;omega) ho.rs (by omega) hal (fun w H3 ha=>?_) bX 0 .aA H2 (gq _) (by rw[dI];omega) (by simp only[dE];exact Ac.nil 3 _ (Fm.refl _ _));unfold qf4;obtain⟨j',rfl⟩:∃ j',j=j'+1:=⟨j-1,by omega⟩;obtain⟨u,c1,c2,c3,_⟩:=ha.gl.clip;have hcl:C (j'+1) (.f 30) [w] H3=.ok u H3:=by rw[(hC j').zFk];unfold zFk zxm;simp only[go_sem,ha.gl.cO,c1]
 simp only[go_sem,hcl];exact Ok.ret ⟨_,rfl,c2.rs zwz,c3,(jZ.trans f2).trans ha.fm⟩
theorem aO7(g:G3):dQ (eqFields [((pA 2),⟨dQ (eqFields [(p1,⟨bH⟩,0),(p1,⟨bH⟩,1)])⟩,0),(p1,⟨bH⟩,2)]) (.agg (gC g)) (.agg (gC g))=some true:=by show andThen (andThen (bH g.1.1.v g.1.1.v) (andThen (bH g.1.2.v g.1.2.v) (some true))) (andThen (bH g.2.v g.2.v) (some true))=_;rw[tN,tN,tN,gp rfl,gp rfl,gp rfl];rfl
theorem q86{O:Ev.Call}{H:Hp}{v w:AV}{l:List G3}(hv:Rs 3 gC H v l)(hw:Rs 3 gC H w l)(hn:l.length<=900000){Q:pL}{qr:pD}{q:pH}(hq:Ok (q H) Q):∀(k i:Nat),i<=l.length->l.length-i<k->Ok (qq0 O qr q v w k (iN i) H) Q
 |0,i,_,h=>by omega
 |k+1,i,hi,hk=>by
  show Ok (zc3 O _ _ _ _ (qq0 O _ _ _ _ k) _ H) Q;unfold zc3;have e0:=hw.len;by_cases hlt:i<l.length
  ·simp only[go_sem,e0,hlt];unfold zc1;obtain⟨b1,o1,e1,_,e3⟩:=hv.qI hlt;obtain⟨b2,o2,d1,_,d3⟩:=hw.qI hlt;have e4:=aO7 l[i];simp only[go_sem,e1,e3,d1,d3,e4];unfold zc2;simp(disch:=omega)only[go_sem];exact q86 hv hw hn hq k (i+1) (by omega) (by omega)
  ·simp only[go_sem,e0,hlt];exact hq
theorem ztf(hC:aW C)(hk:1<=k){v w:AV}{l:List G3}(hv:Rs 3 gC H v l)(hc:gW v=.val (iN (l.length)))(hw:Rs 3 gC H w l)(hn:l.length<=900000):C k (.f 14) [v,w] H=.ok (.bool true) H:=by
 obtain⟨j,rfl⟩:=aS hk;have:Ok (C (j+1) (.f 14) [v,w] H) fun r H'=>r=.bool true/\H'=H:=by rw[(hC j).zFh];unfold zFh zxp;have e0:=hv.len;have e1:=hw.len;simp only[go_sem,e0,e1,hc];unfold q05 zc4;rw[dB];refine q86 hv hw hn ?_ bX 0 (gq _) (by rw[dI];omega);exact Ok.ret ⟨rfl,rfl⟩
 obtain⟨_,_,e,rfl,rfl⟩:=this;exact e
theorem z7p:∀ s∈idL,qK s=true:=by decide
theorem zss:∀ s∈nmL,qK s=true:=by decide
def zw8(s:SS):List UInt8:=(List.range s.n).map fun i=>UInt8.ofNat (vC s.a i)
theorem aKF:∀ s∈idL++nmL,s=⟨(zw8 s).length,jL (zw8 s)⟩:=by decide +kernel
theorem z4r{s:SS}(h:s∈idL):Wf s:=⟨_,aKF s (zu _ h)⟩
theorem z4q{s:SS}(h:Nm s):Wf s:=⟨_,aKF s (ah _ h)⟩
theorem kF.nm{t:Tu}(hV:dO X)(h:kF X t):Nm t.a/\Nm t.c/\Nm t.x/\(t.z=sE\/Nm t.z):=by obtain⟨_,_,_,g,hg,ht⟩:=h;obtain⟨p,hp,hgp,e1,e2⟩:=qft hg;have h1:=(hV.pr.r p hp).2;obtain⟨_,h2,_,h3⟩:=hV.pr.x p hp g hgp;have h4:=h3 _ ht;simp_all
theorem kF.zero{t:Tu}(hV:dO X)(h:kF X t):tX X t=0:=by
 obtain⟨h1,h2,h3,h4⟩:=h.nm hV;obtain⟨hb,hy,_,g,hg,ht⟩:=h;have ok:t.ok=true:=by
  unfold Tu.ok sbB;rw[zss _ h1,zss _ h2,zss _ h3,z7p _ hb,z7p _ hy];rcases h4 with e|e
  ·rw[e];rfl
  ·rw[zss _ e];simp
 unfold tX;rw[ok,hg,qy];simp only[zxa,gp ht,qy]
theorem kF.wf{t:Tu}(hV:dO X)(h:kF X t):WfT t:=by obtain⟨h1,h2,h3,h4⟩:=h.nm hV;exact⟨⟨z4q h1,z4r h.1⟩,z4q h3,z4r h.2.1⟩
theorem qwn{A o:List (SS×SS)}{p:SS×SS}{r:SS}:(p,r)∈iL A o↔p∈o/\(p.1,r)∈A:=by
 unfold iL lQ;rw[yx];constructor
 ·rintro ⟨q,hq,h⟩;rw[qp]at h;obtain⟨y,hy,e⟩:=h;injection e with e1 e2;subst e1;subst e2;rw[uy,vz]at hy;exact⟨hq,by rw[<-hy.2];exact hy.1⟩
 ·simp
theorem qsh{A:List (SS×SS)}(hA:A.Nodup):∀{o:List (SS×SS)},o.Nodup->(iL A o).Nodup
 | [],_=>List.nodup_nil
 |p::o,h=>by
  rw[ou]at h;show(lQ A p++iL A o).Nodup;rw[xf];refine⟨qjr (List.Pairwise.filter _ hA) fun x hx y hy e=>?_,qsh hA h.2,fun a ha b hb e=>?_⟩
  ·rw[uy,vz]at hx hy;injection e with _ e;exact Prod.ext (hx.2.trans hy.2.symm) e
  ·subst e;obtain⟨y,_,rfl⟩:=qp.1 ha;exact h.1 (qwn.1 hb).1
theorem zi6{l:List Tu}(hw:∀ t∈l,WfT t):(l.foldl oK []).Nodup:=by have hs:=q4j hw;have hwf:∀ p∈l.foldl oK [],nN p:=fun p hp=>zwu hw p ((hs.mem p).1 hp);refine List.Pairwise.imp_of_mem (fun{a b} ha _ h e=>?_) hs.asc;subst e;exact qx0 (hwf _ ha) h
theorem z0o{l:List Tu}(hw:∀ t∈l,WfT t){t:Tu}(h:t∈l):(t.a,t.b)∈l.foldl oK []/\(t.x,t.y)∈l.foldl oK []:=by have hs:=q4j hw;exact⟨(hs.mem _).2 (yx.2 ⟨t,h,by simp[nL]⟩),(hs.mem _).2 (yx.2 ⟨t,h,by simp[nL]⟩)⟩
def cnt(g s:G3)(z:Bool):List G3->Nat
 | []=>0
 |x::l=>((if x=g then 1 else 0)+(if z=true/\x=s/\x≠g then 1 else 0))+cnt g s z l
theorem zmu{g s:G3}{z:Bool}:∀{l:List G3},l.Nodup->cnt g s z l=(if g∈l then 1 else 0)+(if z=true/\s∈l/\s≠g then 1 else 0)
 | [],_=>by simp[cnt]
 |x::l,h=>by
  rw[ou]at h;unfold cnt;rw[zmu h.2];by_cases h1:x=g
  ·subst h1;by_cases h2:s=x
   ·simp_all
   ·simp[h.1,h2]
  ·have h1':¬ g=x:=fun e=>h1 e.symm;by_cases h2:x=s
   ·subst h2;by_cases hz:z=true<;>simp[h.1,h1,h1',hz];omega
   ·have h2':¬ s=x:=fun e=>h2 e.symm;simp_all
theorem zmv(g s:G3)(z:Bool):∀(l:List G3) (x:G3),cnt g s z (l++[x])=cnt g s z l+((if x=g then 1 else 0)+(if z=true/\x=s/\x≠g then 1 else 0))
 | [],x=>by simp[cnt]
 |y::l,x=>by rw[nz];unfold cnt;rw[zmv g s z l x];omega
def goT(t:Tu):G3:=((t.a,t.b),t.c)
def zH(t:Tu):G3:=((t.x,t.y),t.z)
def need(t:Tu):Nat:=1+(if t.z=sE then 0 else if goT t=zH t then 0 else 1)
theorem found{l:List Tu}(hV:dO X)(hf:∀ t∈l,kF X t){t:Tu}(h:t∈l):cnt (goT t) (zH t) (!decide (t.z=sE)) (iL (aJ X) (l.foldl oK []))=need t:=by
 have hw:∀ t∈l,WfT t:=fun t ht=>(hf t ht).wf hV;rw[zmu (qsh hV.al (zi6 hw))];obtain⟨m1,m2⟩:=z0o hw h;obtain⟨_,_,h3,g,hg,ht⟩:=hf t h;have e1:goT t∈iL (aJ X) (l.foldl oK []):=qwn.2 ⟨m1,h3⟩;rw[pz e1];unfold need;by_cases hz:t.z=sE
 ·simp[hz]
 ·have e2:zH t∈iL (aJ X) (l.foldl oK []):=by
   refine qwn.2 ⟨m2,?_⟩;obtain⟨p,hp,hgp,_,_⟩:=qft hg;rcases((hV.ty p hp g hgp).2 _ ht).2 with e|e
   ·trivial
   ·exact e
  by_cases hg:goT t=zH t
  ·simp[hz,hg]
  ·have hg':¬ zH t=goT t:=fun e=>hg e.symm;simp_all
end Go.Di
end
noncomputable section
namespace Go.Di
open Go.Ev Go.Di.T Go.Sort
variable {L:List (List Nat)} {X X':List aN}
inductive F2{α:Type}(R:α->α->Prop):List α->List α->Prop where
 |nil:F2 R [] []
 |cons {a b:α} {l m:List α} (h:R a b) (t:F2 R l m):F2 R (a::l) (b::m)
theorem F2.refl{α:Type}{R:α->α->Prop}(h:∀ a,R a a):∀ l,F2 R l l
 | []=>.nil
 |a::l=>.cons (h a) (F2.refl h l)
theorem F2.snoc{α:Type}{R:α->α->Prop}{a b:α}{l m:List α}(h:F2 R l m)(r:R a b):F2 R (l++[a]) (m++[b]):=by
 induction h with
 |nil=>exact .cons r .nil
 |cons h _ ih=>exact .cons h ih
theorem F2.len{α:Type}{R:α->α->Prop}{l m:List α}(h:F2 R l m):l.length=m.length:=by
 induction h with
 |nil=>rfl
 |cons _ _ ih=>simp[ih]
theorem F2.mem{α:Type}{R:α->α->Prop}{l m:List α}(h:F2 R l m){b:α}(hb:b∈m):∃ a∈l,R a b:=by
 induction h with
 |nil=>cases hb
 |cons r _ ih=>
  rcases qg.1 hb with rfl|h
  ·simp_all
  ·simp_all
theorem F2.flat{α β:Type}{R:α->α->Prop}{f f':α->List β}{l m:List α}(h:F2 R l m)(hf:∀ a b,R a b->f a=f' b):l.flatMap f=m.flatMap f':=by
 induction h with
 |nil=>rfl
 |cons r _ ih=>rw[ug,ug,ih,hf _ _ r]
theorem F2.map{α β:Type}{R:α->α->Prop}{f f':α->β}{l m:List α}(h:F2 R l m)(hf:∀ a b,R a b->f a=f' b):l.map f=m.map f':=by
 induction h with
 |nil=>rfl
 |cons r _ ih=>rw[zy,zy,ih,hf _ _ r]
theorem F2.find{α:Type}{R:α->α->Prop}{p:α->Bool}{l m:List α}(h:F2 R l m)(hp:∀ a b,R a b->p a=p b):(l.find? p=none/\m.find? p=none)\/∃ a b,l.find? p=some a/\m.find? p=some b/\R a b:=by
 induction h with
 |nil=>exact .inl ⟨rfl,rfl⟩
 |@cons a b _ _ r _ ih=>
  rw[List.find?_cons,List.find?_cons,<-hp _ _ r];cases p a with
  |true=>exact .inr ⟨_,_,rfl,rfl,r⟩
  |false=>exact ih
theorem F2.set1{α:Type}{R:α->α->Prop}{l:List α}(hr:∀ a,R a a){b:α}(i:Nat)(h:i<l.length)(r:R l[i] b):F2 R l (l.set i b):=by
 induction l generalizing i with
 |nil=>cases h
 |cons a l ih=>
  cases i with
  |zero=>exact .cons r (F2.refl hr l)
  |succ i=>exact .cons (hr a) (ih i (by simpa using h) r)
def sM:SS:=⟨4,1701998445⟩
def tM:iQ:=⟨sM,sE⟩
def kH(x y:aR):Prop:=y.r.name=x.r.name/\y.r.rule=x.r.rule/\(y.r.types=x.r.types\/x.r.types≠[]/\y.r.types=x.r.types++[tM])
theorem kH.refl(x:aR):kH x x:=⟨rfl,rfl,.inl rfl⟩
def SpX(g h:aN):Prop:=h.name=g.name/\F2 kH g.gs h.gs
theorem SpX.refl(g:aN):SpX g g:=⟨rfl,F2.refl kH.refl _⟩
structure mM(X X':List aN):Prop where
 ex:∃ Y m,X'=Y++[m]/\F2 SpX X Y/\m.name=sM/\m.gs=[]
 no:sM∉X.map aN.name
 n:X.length<=15
 t:∀ g∈X,∀x∈g.gs,x.r.types.length<=7
theorem mM.names(h:mM X X'):X'.map aN.name=X.map aN.name++[sM]:=by obtain⟨Y,m,rfl,h2,h3,_⟩:=h.ex;rw[ui,<-h2.map fun a b (r:SpX a b)=>r.1.symm,zx,h3]
theorem mM.all(h:mM X X'):aJ X'=aJ X:=by obtain⟨Y,m,rfl,h2,h3,h4⟩:=h.ex;unfold aJ;rw[uA,uB,h4,lA8,uh];exact(h2.flat fun a b r=>by rw[r.1];exact r.2.map fun x y q=>by rw[q.1]).symm
theorem mM.find(h:mM X X')(a b:SS):(kI X a b=none/\kI X' a b=none)\/∃ x y,kI X a b=some x/\kI X' a b=some y/\kH x y:=by
 obtain⟨Y,m,rfl,h2,h3,h4⟩:=h.ex;unfold kI;rw[List.find?_append];rcases h2.find (p:=fun g=>decide (g.name=a)) fun a b r=>by simp only[r.1]with⟨e1,e2⟩|⟨g,g',e1,e2,r⟩
 ·refine .inl ?_;rw[e1,e2,Option.none_or,List.find?_cons];cases decide (m.name=a)with
  |true=>exact⟨rfl,by simp only[h4];rfl⟩
  |false=>exact⟨rfl,rfl⟩
 ·rw[e1,e2];exact r.2.find fun a b q=>by simp only[q.1]
theorem mM.sM(h:mM X X')(b:SS):kI X sM b=none:=by
 cases hf:kI X Di.sM b with
 |none=>rfl
 |some g=>obtain⟨p,hp,_,e,_⟩:=qft hf;exact absurd (qp.2 ⟨p,hp,e⟩) h.no
theorem mM.tgP(h:mM X X')(to:SS):tgP X' to=tgP X to:=by funext t;unfold Di.tgP;rcases h.find t.sp to with⟨e1,e2⟩|⟨x,y,e1,e2,_⟩<;>rw[e1,e2];rfl
theorem mM.aNC(h:mM X X')(a rel to:SS):sG X' a rel to=sG X a rel to:=by
 unfold sG;rcases h.find a rel with⟨e1,e2⟩|⟨x,y,e1,e2,r⟩<;>rw[e1,e2];simp only;unfold tgL;rw[h.tgP];rcases r.2.2 with e|⟨_,e⟩
 ·rw[e]
 ·rw[e,yj];have:Di.tgP X to tM=false:=by
   show(_&&(kI X Di.sM to).isSome)=false;rw[h.sM];simp
  simp_all
theorem kH.ty{x y:aR}(r:kH x y):y9 y.r.types=y9 x.r.types:=by rcases r.2.2 with e|⟨_,e⟩<;>rw[e];unfold y9;simp[tM]
theorem mM.relE(h:mM X X'){g g':aN}{x y:aR}(e:SpX g g')(r:kH x y):relE X' g' y=relE X g x:=by
 unfold Di.relE;rw[r.2.1];congr 1;funext z;unfold zL ndT;rw[e.1,r.1,r.ty];simp only[h.aNC];have:∀ a b,bW X' a b=bW X a b:=fun a b=>by unfold bW;rw[h.all]
 congr 1
 ·unfold eE;funext p;simp only[this]
theorem mM.rG(h:mM X X'):rG X' X'=rG X X:=by
 obtain⟨Y,m,e,h2,h3,h4⟩:=h.ex;have:Di.rG X' (Y++[m])=Di.rG X X:=by unfold Di.rG;rw[uA,uB,h4,List.flatMap_nil,uh];exact(h2.flat fun a b r=>r.2.flat fun x y q=>(h.relE r q).symm).symm
 rw[<-this,<-e]
theorem mM.es(h:mM X X'):yL X'=yL X:=by unfold yL;rw[h.rG]
theorem kH.nil{x y:aR}(r:kH x y):y.r.types≠[]↔x.r.types≠[]:=by rcases r.2.2 with e|⟨h,e⟩<;>rw[e];simp[h]
theorem mM.mem(h:mM X X'){g':aN}(hg:g'∈X'):(∃g∈X,SpX g g')\/g'.name=Di.sM/\g'.gs=[]:=by
 obtain⟨Y,m,rfl,h2,h3,h4⟩:=h.ex;rcases gz.1 hg with h|h
 ·exact .inl (h2.mem h)
 ·simp_all
theorem mM.aDN(h:mM X X'){g':aN}(hg:g'∈X'){y:aR}(hy:y∈g'.gs):∃ g∈X,SpX g g'/\∃ x∈g.gs,kH x y:=by
 rcases h.mem hg with⟨g,h1,h2⟩|⟨_,h2⟩
 ·obtain⟨x,h3,h4⟩:=h2.2.mem hy;exact⟨g,h1,h2,x,h3,h4⟩
 ·simp_all
theorem kH.mem{x y:aR}(r:kH x y){t:iQ}(h:t∈y.r.types):t∈x.r.types\/t=tM:=by
 rcases r.2.2 with e|⟨_,e⟩<;>rw[e]at h
 ·exact .inl h
 ·simp_all
theorem mM.val(h:mM X X')(hV:dO X):dO X':=by
 have hP:=hV.pr;have nM:Nm Di.sM:=by unfold Nm nmL;decide
 refine⟨⟨?_,fun g' hg'=>?_,fun g' hg' y hy=>?_⟩,?_,?_,fun g' hg' y hy=>?_,fun g' hg' y hy z hz=>?_,fun g' hg' y hy=>?_⟩
 ·have:=congrArg List.length h.names;have:=h.n;simp_all
 ·rcases h.mem hg' with⟨g,h1,h2⟩|⟨h1,h2⟩
  ·rw[<-h2.2.len,h2.1];exact hP.r g h1
  ·simp_all
 ·obtain⟨g,h1,h2,x,h3,r⟩:=h.aDN hg' hy;obtain⟨_,p2,p3,p4⟩:=hP.x g h1 x h3;have p1:=h.t g h1 x h3;refine⟨?_,by rw[r.1];exact p2,by rw[r.2.1];exact p3,fun t ht=>?_⟩
  ·rcases r.2.2 with e|⟨_,e⟩<;>rw[e]
   ·omega
   ·simp_all
  ·rcases r.mem ht with ht|rfl
   ·exact p4 t ht
   ·exact⟨nM,.inl rfl⟩
 ·rw[h.all];exact hV.al
 ·rw[h.names,xf];exact⟨hV.sp,by simp,fun a ha b hb e=>by rw[gy]at hb;subst hb;subst e;exact h.no ha⟩
 ·obtain⟨g,h1,h2,x,h3,r⟩:=h.aDN hg' hy;obtain⟨q1,q2⟩:=hV.ty g h1 x h3;constructor
  ·rcases r.2.2 with e|⟨_,e⟩<;>rw[e]
   ·exact q1
   ·rw[xf];refine⟨q1,by simp,fun a ha b hb e=>?_⟩;rw[gy]at hb;subst hb;subst e;exact h.no (q2 _ ha).1
  ·intro t ht;rw[h.all,h.names];rcases r.mem ht with ht|rfl
   ·simp_all
   ·exact⟨ah _ (gy.2 rfl),.inl rfl⟩
 ·obtain⟨g,h1,h2,x,h3,r⟩:=h.aDN hg' hy;rw[r.2.1]at hz;rw[h.all,h.aNC,h2.1];exact hV.nd g h1 x h3 z hz
 ·obtain⟨g,h1,h2,x,h3,r⟩:=h.aDN hg' hy;rw[r.2.1,r.nil,r.1];have:=hV.us g h1 x h3;refine⟨this.1,fun e1 e2=>?_⟩;have h5:=this.2 e1 e2;rw[ag]at h5 ⊢;obtain⟨w,hw,e⟩:=h5;have:∀{l m:List aR},F2 kH l m->w∈l->∃ w'∈m,kH w w':=fun hF=>by
   induction hF with
   |nil=>intro h;cases h
   |cons q _ ih=>
    intro h;rcases qg.1 h with rfl|h
    ·simp_all
    ·simp_all
  obtain⟨w',hw',q⟩:=this h2.2 hw;exact⟨w',hw',by rw[q.2.1];exact e⟩
theorem mM.sok(h:mM X X')(hS:SOK X):SOK X':=⟨h.val hS.val,by rw[h.all,h.es];exact hS.es,by rw[h.all];exact hS.len,by rw[h.es];exact hS.nb⟩
theorem mM.fit(h:mM X X'){t:Tu}(hf:kF X t):kF X' t:=by
 obtain⟨h1,h2,h3,g,h4,h5⟩:=hf;refine⟨h1,h2,by rw[h.all];exact h3,?_⟩;rcases h.find t.a t.c with⟨e,_⟩|⟨x,y,e1,e2,r⟩
 ·simp_all
 ·rw[e1]at h4;injection h4 with e;subst e;refine⟨y,e2,?_⟩;rcases r.2.2 with e|⟨_,e⟩<;>rw[e]
  ·exact h5
  ·simp_all
end Go.Di
end
noncomputable section
namespace Go.Di
open Go.Ev Go.Di.T Go.Sort
variable {C:Nat->Ev.Call} {LA LO LQ:LP} {L:List (List Nat)} {X X':List aN}
variable {H H' H0 Hb:Hp} {S:Nat->Prop} {b i j m n o sb z:Nat} {O:Ev.Call} {g:aN} {l:List AV} {qr:pD}
theorem eqH(g h:G3):dQ (eqFields [((pA 2),⟨dQ (eqFields [(p1,⟨bH⟩,0),(p1,⟨bH⟩,1)])⟩,0),(p1,⟨bH⟩,2)]) (.agg (gC g)) (.agg (gC h))=some (decide (g=h)):=by show andThen (andThen (bH g.1.1.v h.1.1.v) (andThen (bH g.1.2.v h.1.2.v) (some true))) (andThen (bH g.2.v h.2.v) (some true))=_;rw[tN,tN,tN];obtain⟨⟨a,b⟩,c⟩:=g;obtain⟨⟨a',b'⟩,c'⟩:=h;by_cases h1:a=a'<;>by_cases h2:b=b'<;>by_cases h3:c=c'<;>simp[h1,h2,h3,andThen]
theorem eqS(g:G3)(t:Tu):dQ (eqFields [((pA 2),⟨dQ (eqFields [(p1,⟨bH⟩,0),(p1,⟨bH⟩,1)])⟩,0),(p1,⟨bH⟩,2)]) (.agg (gC g)) (.agg [.str t.x.n t.x.a,.str t.y.n t.y.a,.str t.z.n t.z.a])=some (decide (g=zH t)):=eqH g (zH t)
theorem neE(s:SS):fO (mJ .neq).f (.str s.n s.a) (.str 0 0)=.val (.bool (!decide (s=sE))):=by have:=tN s sE;have e:fO (mJ .neq).f (.str s.n s.a) (.str 0 0)=.val (.bool (!(Nat.beq s.n 0&&Nat.beq s.a 0))):=rfl;have e':bH s.v sE.v=some (Nat.beq s.n 0&&Nat.beq s.a 0):=rfl;simp_all
structure TuA(H:Hp)(v:AV)(i:Nat)(t:Tu)(b o:Nat):Prop where
 ix:aH 6 v (iN i)=.val (.ptr b o)
 go:eB (H.get b) o 3=some (gC (goT t))
 su:eB (H.get b) (o+3) 2=some [.str t.x.n t.x.a,.str t.y.n t.y.a]
 z:dK (H.get b) (o+5)=.val (.str t.z.n t.z.a)
theorem TuA.of{v:AV}{l:List Tu}(h:Rs 6 Tu.cells H v l)(hi:i<l.length):∃ b o,TuA H v i l[i] b o:=by obtain⟨b,o,e1,_,_,e3,e4⟩:=h.at' i hi;exact⟨b,o,e1,qe5 (i:=0) e3 (by decide),qe5 (i:=3) e3 (by decide),e4 5 (by show 5<6;decide)⟩
theorem znd{v w:AV}{t:Tu}{i n m b o b' o':Nat}{g:G3}(ht:TuA H v i t b o)(e1:aH 3 w (iN m)=.val (.ptr b' o'))(e2:eB (H.get b') o' 3=some (gC g))(hn:n<2000000)(hm:m<1000000){Q:pL}{f:AV->pD}(hq:Ok (f (iN ((n+if(!decide (t.z=sE))=true/\g=zH t/\g≠goT t then 1 else 0))) (iN ((m+1))) H) Q):Ok (qi2 O f v w (iN i) (iN n) (iN m) H) Q:=by
 rw[qm4];unfold qi1;have z0:=neE t.z;obtain⟨x1,x2,x3,x4⟩:=ht;by_cases z:t.z=sE
 ·rw[gp z]at z0;rw[z]at hq;simp only[go_sem,x1,x4,z0];rw[qdx];unfold qdw;rw[qdz];unfold qdy;simp(disch:=go_size)only[go_sem,rB,rI,rK,rL,rN,rS,r6];simpa using hq
 ·rw[qi z]at z0;have s0:=eqS g t;by_cases c:g=zH t
  ·rw[gp c]at s0;have s1:=eqH g (goT t);by_cases d:g=goT t
   ·rw[gp d]at s1;simp only[go_sem,seval,x1,x2,x3,x4,z0,e1,e2,s0,s1];rw[qdx];unfold qdw;rw[qdz];unfold qdy;simp(disch:=go_size)only[go_sem,rB,rI,rK,rL,rN,rS,r6];simp_all
   ·rw[qi d]at s1;simp only[go_sem,seval,x1,x2,x3,x4,z0,e1,e2,s0,s1];rw[qdx];unfold qdw;rw[qdz];unfold qdy;simp(disch:=go_size)only[go_sem,rB,rI,rK,rL,rN,rS,r6];simp_all
  ·rw[qi c]at s0;simp only[go_sem,seval,x1,x2,x3,x4,z0,e1,e2,s0];rw[qdx];unfold qdw;rw[qdz];unfold qdy;simp(disch:=go_size)only[go_sem,rB,rI,rK,rL,rN,rS,r6];simp_all
theorem kJ(g s:G3)(z:Bool):∀ l,cnt g s z l<=2*l.length
 | []=>lg _
 |x::l=>by have:=kJ g s z l;unfold cnt;rw[pg];split<;>split<;>omega
theorem q0i{O:Ev.Call}{H:Hp}{v w:AV}{t:Tu}{i b o:Nat}{G:List G3}(ht:TuA H v i t b o)(hw:Rs 3 gC H w G)(hn:G.length<=900000){Q:pL}{q:pD}(hq:Ok (q (iN ((cnt (goT t) (zH t) (!decide (t.z=sE)) G))) H) Q):∀(k m:Nat),m<=G.length->G.length-m<k->Ok (yC O q v w (iN i) k (iN ((cnt (goT t) (zH t) (!decide (t.z=sE)) (G.take m)))) (iN m) H) Q
 |0,m,_,h=>by omega
 |k+1,m,hm,hk=>by
  show Ok (qty O _ _ _ _ (yC O _ _ _ _ k) _ _ H) Q;unfold qty;have e0:=hw.len;by_cases hlt:m<G.length
  ·simp only[go_sem,e0,hlt];rw[qh1];unfold qf9;rw[qm3];unfold qi0;obtain⟨b',o',e1,_,_,e3,_⟩:=hw.at' m hlt;have s1:=eqH G[m] (goT t);have hc:=zmv (goT t) (zH t) (!decide (t.z=sE)) (G.take m) G[m];rw[<-ku hlt]at hc;have hl:=kJ (goT t) (zH t) (!decide (t.z=sE)) (G.take m);have htl:(G.take m).length<=G.length:=by rw[qo];exact um _ _
   have ih:=q0i (O:=O) ht hw hn hq k (m+1) (by omega) (by omega);rw[hc]at ih;generalize cnt (goT t) (zH t) (!decide (t.z=sE)) (G.take m)=n at *;by_cases d:G[m]=goT t
   ·rw[gp d]at s1;rw[pz d]at ih;simp only[go_sem,e1,e3,ht.ix,ht.go,s1];rw[qh2];unfold qga;simp(disch:=go_size)only[go_sem,rB,rI,rK,rL,rN,rS,r6];refine znd ht e1 e3 (by omega) (by omega) ?_;simp_all
   ·rw[qi d]at s1;rw[kz d,qf]at ih;simp only[go_sem,e1,e3,ht.ix,ht.go,s1];rw[qh2];unfold qga;exact znd ht e1 e3 (by omega) (by omega) ih
  ·simp only[go_sem,e0,hlt];rw[qh1];unfold qf9;rw[tu (by omega)];exact hq
theorem z3r(hC:aW C)(hN:mG C)(hE:qf5 C)(hO:pV C)(hS:oO C)(hR:oP LA LO C)(hj:1004<=j){sv v:AV}{l:List Tu}(hX:bS H sv X)(h:SOK X)(hs:H.get sb=aB 0 [sv])(hsb:sb<H.nx)(hl:Rs 6 Tu.cells H v l)(hi:i<l.length)(hn:l.length<=20)(hf:kF X l[i]){Q:pL}{g:pD}(hn2:n<1000)(hg:∀ H',Fm No H H'->Ok (g (iN ((i+1))) H') Q):Ok (qg0 (C j) qr g (.ptr sb 0) v (iN i) (iN n) (iN n) H) Q:=by rw[qm6];unfold qi4;obtain⟨b,o,e1,e2,_,e3,_⟩:=hl.at' i hi;simp only[go_sem,seval,hs,e1,e3];refine Ok.mI (zl4 hC hN hE hO hS hR (k:=j) (by omega) hX h l[i]) ?_;rintro _ H1 ⟨rfl,f1⟩;rw[hf.zero h.val];rw[qqj];unfold qlu;rw[qqk];unfold qlv;simp(disch:=go_size)only[go_sem,rB,rI,rK,rL,rN,rS,r6];exact hg _ f1
theorem z3q{v sp:AV}{t:Tu}(ht:TuA H v i t b o){Q:pL}{qr g:pD}(hq:Ok (qg0 O qr g sp v (iN i) (iN n) (iN ((need t))) H) Q):Ok (tH O qr g sp v (iN i) (iN n) (iN ((if t.z=sE then 1 else 2))) H) Q:=by
 rw[qm5];unfold qi3;have z0:=neE t.z;obtain⟨x1,x2,x3,x4⟩:=ht;unfold need at hq;by_cases z:t.z=sE
 ·rw[gp z]at z0;rw[pz z]at hq ⊢;simp only[go_sem,x1,x4,z0];rw[qfe];unfold qey;trivial
 ·rw[qi z]at z0;rw[kz z]at hq ⊢;have s0:=eqS (goT t) t;by_cases c:goT t=zH t
  ·rw[gp c]at s0;rw[pz c]at hq;simp only[go_sem,seval,x1,x2,x3,x4,z0,s0];rw[qfe];unfold qey;trivial
  ·rw[qi c]at s0;rw[kz c]at hq;simp only[go_sem,seval,x1,x2,x3,x4,z0,s0];rw[qfe];unfold qey;trivial
theorem q93(hC:aW C)(hN:mG C)(hE:qf5 C)(hO:pV C)(hS:oO C)(hR:oP LA LO C){j:Nat}(hj:1004<=j){Hb:Hp}{sv v w:AV}{l:List Tu}{sb:Nat}(hX:bS Hb sv X)(h:SOK X)(hs:Hb.get sb=aB 0 [sv])(hsb:sb<Hb.nx)(hl:Rs 6 Tu.cells Hb v l)(hn:l.length<=20)(hf:∀ t∈l,kF X t)(hw:Rs 3 gC Hb w (iL (aJ X) (l.foldl oK [])))(hwn:(iL (aJ X) (l.foldl oK [])).length<=900000){Q:pL}{qr:pD}{q:pH}(hq:∀ H,Fm No Hb H->Ok (q H) Q):∀(k i:Nat) (H:Hp),i<=l.length->l.length-i<k->Fm No Hb H->Ok (kK (C j) qr q (.ptr sb 0) v w k (iN i) H) Q
 |0,i,_,_,h,_=>by omega
 |k+1,i,H,hi,hk,hfm=>by
  show Ok (q0w (C j) _ _ _ _ _ (kK (C j) _ _ _ _ _ k) _ H) Q;unfold q0w;have hl':=hl.fm hfm;have e0:=hl'.len;by_cases hlt:i<l.length
  ·simp only[go_sem,e0,hlt];rw[qhz];unfold qf7;rw[qm1];unfold qix;obtain⟨b,o,ht⟩:=TuA.of hl' hlt;have hd:Ok (qiz (C j) qr (kK (C j) qr q (.ptr sb 0) v w k) (.ptr sb 0) v w (iN i) (iN 0) (iN ((if l[i].z=sE then 1 else 2))) H) Q:=by
    rw[qm2];unfold qiy qtz;rw[dB];refine q0i ht (hw.fm hfm) hwn ?_ bX 0 (gq _) (by rw[dI];omega);refine z3q ht ?_;rw[found h.val hf (lu hlt)];refine z3r hC hN hE hO hS hR hj (hX.fm hfm) h ((hfm.keep hsb).trans hs) (lL hsb hfm.nx) hl' hlt hn (hf _ (lu hlt)) (by unfold need;split<;>(try split)<;>omega) fun H' f=>?_;exact q93 hC hN hE hO hS hR hj hX h hs hsb hl hn hf hw hwn hq k (i+1) H' (by omega) (by omega) (hfm.trans f)
   have z0:=neE l[i].z;obtain⟨x1,x2,x3,x4⟩:=ht;by_cases z:l[i].z=sE
   ·rw[gp z]at z0;rw[pz z]at hd;simp only[go_sem,x1,x4,z0];rw[qh0];unfold qf8;trivial
   ·rw[qi z]at z0;rw[kz z]at hd;simp only[go_sem,x1,x4,z0];rw[qh0];unfold qf8;trivial
  ·simp only[go_sem,e0,hlt];rw[qhz];unfold qf7;exact hq H hfm
structure aA1(S:Nat->Prop)(H0 Hb H:Hp)(y:aR):Prop where
 ty:Rs 2 tC H y.tv y.r.types
 tc:y.tv=.aA\/∃ b o n m e,y.tv=.sl b o n m e/\n<=m/\0<n
 nw:∀ b,In y.tv b->b<H.nx/\(b<H0.nx\/Hb.nx<=b)/\¬ S b
 ru:jN (fun _=>True) H0 y.r.rule y.cs
theorem kR.inT{g:aR}(h:kR H g)(hb:In g.tv b):b<H.nx:=by
 by_cases e:g.r.types=[]
 ·rw[h.nl e]at hb;obtain⟨_,_,_,_,hb⟩:=hb;cases hb
 ·obtain⟨b',_,_,h2,h3,_⟩:=h.ty.at' 0 (zk.2 e);obtain⟨_,_,_,_,e1⟩:=hb;obtain⟨_,_,_,_,e2⟩:=h3;simp_all
theorem z9g{H0 Hs H:Hp}{rb i:Nat}{x:aR}{pv:AV}(hR:kR H0 x)(f0:Fm No H0 Hs)(f:Fm No Hs H)(hr:H.get rb=aB 0 (fI x))(hb:Hs.nx<=rb/\rb<H.nx)(hl:x.r.types.length<=7){Q:pL}{g:pD}(hq:∀ H' y,Fm No Hs H'->kH x y->H'.get rb=aB 0 (fI y)->rb<H'.nx->y.cs=x.cs->aA1 No H0 Hs H' y->Ok (qmu O g pv (iN i) (.ptr rb 0) H') Q):Ok (qtj O g pv (iN i) (.ptr rb 0) H) Q:=by
 rw[qqp];unfold ql0;have uK:=(hR.fm f0).fm f;obtain⟨c0,c1,c2,c3,hcs,hrc⟩:=qfm hR;rw[hrc]at hr;have e0:=uK.ty.len;by_cases hn:x.r.types=[]
 ·simp only[go_sem,hr,e0,hn];rw[qj4];unfold qiq;refine hq H x f (kH.refl _) (by rw[hrc];exact hr) hb.2 rfl ⟨uK.ty,uK.tc,fun b hb=>?_,hR.ru⟩;have:=hR.inT hb;exact⟨by have:=f0.nx;have:=f.nx;omega,.inl this,id⟩
 ·have hp:=zk.2 hn;simp only[go_sem,hr,e0,hp];rw[qj4];unfold qiq;simp(disch:=omega)only[go_sem,rB,rI,rK,rL,rN,rS,r6,hr,zkn,z01];rw[((uK.fm (Fm.push (Fm.refl _ _) _)).ty).src qgg uK.nl];refine Ok.ve (cpG qgg (lC _ _) (by simp only[np,nq];omega) (by omega) (by omega)) ?_;rintro w H1 ⟨g1,f1,w1⟩;have n1:=f1.nx;simp only[np]at n1 w1;simp(disch:=first|go_size|omega)only[go_sem,rB,rI,rK,rL,rN,rS,r6];refine Ok.ve ((g1.no (Fm.push (Fm.refl _ _) _)).uW (x:=[.str 4 1701998445,.str 0 0]) rfl (by omega) (by omega)) ?_;rintro _ H2 ⟨rfl,g2,f2,n2⟩;simp only[np]at g2 n2;have hw:∀ b,In w b->H.nx<=b:=fun b hb=>by rcases w1 b hb with h|h<;>omega
  have r1:=(f1.get rb (by simp only[np,nq];omega) (by omega)).trans ((qbj _ _ _ hb.2).trans hr);have r2:=(f2.get rb (by simp only[np,nq];omega) (fun h=>by have:=hw _ h;omega)).trans ((qbj _ _ _ (by omega)).trans r1);have fA:Fm No Hs H2:=((((f.push _).then f1 fun c hc h=>by have:=f.nx;omega).push _).then f2 fun c hc h=>by have:=hw _ h;have:=f.nx;omega);simp only[go_sem,r2];have ge:∀ q,Gl 2 (H2.put rb q) (.sl (H1.nx+1) 0 (x.r.types.length+1) (x.r.types.length+1) false) (x.r.types++[tM]).length ((x.r.types++[tM]).flatMap tC):=fun q=>by rw[lq,uA];exact g2.fm ((Fm.refl _ _).put (S:=(· =rb)) _ _ fun _=>rfl) fun b hb h=>by obtain⟨_,_,_,_,hb⟩:=hb;cases hb;omega
  refine hq _ ⟨⟨x.r.name,x.r.types++[tM],x.r.rule⟩,.sl (H1.nx+1) 0 (x.r.types.length+1) (x.r.types.length+1) false,x.cs⟩ (fA.aF _ _ hb.1) ⟨rfl,rfl,.inr ⟨hn,rfl⟩⟩ ?_ (by show rb<H2.nx;omega) rfl ⟨(ge _).rs qgg,.inr ⟨_,_,_,_,_,rfl,lg _,by omega⟩,fun b hb=>?_,hR.ru⟩
  ·rw[dS];rw[hcs];rfl
  ·obtain⟨_,_,_,_,hb⟩:=hb;cases hb;exact⟨by show H1.nx+1<H2.nx;omega,.inr (by omega),id⟩
structure PsI(H0 Hb H:Hp)(pb:Nat)(nm:SS)(gs gs':List aR)(rv:AV):Prop where
 gl:Gl 6 H rv gs'.length (gs'.flatMap fI)
 fm:Fm No Hb H
 rn:∀ b,In rv b->pb<b
 p:H.get pb=aB 0 [.str nm.n nm.a,rv]
 pl:H0.nx<=Hb.nx/\Hb.nx<=pb/\pb<H.nx
 f2:F2 kH gs gs'
 ty:∀ y∈gs',aA1 (fun b=>b=pb\/In rv b) H0 Hb H y
theorem aA1.fm{y:aR}(h:aA1 S H0 Hb H y)(f:Fm No H H'):aA1 S H0 Hb H' y:=⟨h.ty.fm f,h.tc,fun b hb=>⟨lL (h.nw b hb).1 f.nx,(h.nw b hb).2⟩,h.ru⟩
theorem PsI.add{H0 Hb H H1 H2:Hp}{pb:Nat}{nm:SS}{gs gs':List aR}{rv:AV}(h:PsI H0 Hb H pb nm gs gs' rv){x y:aR}(f1:Fm No H H1)(hx:kH x y)(hy:aA1 No H0 H H1 y)(f2:Fm (In rv) H1 H2)(e:H2.nx=H1.nx+1)(gl:Gl 6 H2 (.sl H1.nx 0 (gs'.length+1) (gs'.length+1) false) (gs'.length+1) (gs'.flatMap fI++fI y)):PsI H0 Hb (H2.put pb (aB 0 [.str nm.n nm.a,.sl H1.nx 0 (gs'.length+1) (gs'.length+1) false])) pb nm (gs++[x]) (gs'++[y]) (.sl H1.nx 0 (gs'.length+1) (gs'.length+1) false):=by
 obtain⟨p1,p2,p3⟩:=h.pl;have n1:=f1.nx;have inR:∀ b,In (.sl H1.nx 0 (gs'.length+1) (gs'.length+1) false) b->b=H1.nx:=fun b hb=>by obtain⟨_,_,_,_,hb⟩:=hb;cases hb;rfl
 have f12:Fm (fun b=>b=pb\/In rv b) H1 H2:=f2.mono fun b _ hb=>.inr hb;have f13:Fm (fun b=>b=pb\/In rv b) H1 (H2.put pb (aB 0 [.str nm.n nm.a,.sl H1.nx 0 (gs'.length+1) (gs'.length+1) false])):=f12.put _ _ fun _=>.inl rfl;have f03:Fm (fun b=>b=pb\/In rv b) H (H2.put pb (aB 0 [.str nm.n nm.a,.sl H1.nx 0 (gs'.length+1) (gs'.length+1) false])):=(f1.mono fun _ _ h=>h.elim).then f13 fun _ _ h=>h;refine⟨?_,h.fm.then f03 fun c hc hs=>?_,fun b hb=>?_,dS _ _ _,⟨p1,p2,by show pb<H2.nx;omega⟩,h.f2.snoc hx,fun z hz=>?_⟩
 ·rw[lq,uA,uB];exact gl.fm ((Fm.refl _ _).put (S:=(· =pb)) _ _ fun _=>rfl) fun b hb h=>by have:=inR b hb;omega
 ·rcases hs with h1|h1
  ·omega
  ·have:=h.rn c h1;omega
 ·have:=inR b hb;omega
 ·rcases gz.1 hz with hz|hz
  ·obtain⟨t1,t2,t3,t4⟩:=h.ty z hz;refine⟨t1.iH f03 fun b hb=>(t3 b hb).2.2,t2,fun b hb=>?_,t4⟩;obtain⟨u1,u2,u3⟩:=t3 b hb;refine⟨by show b<H2.nx;omega,u2,fun hs=>?_⟩;rcases hs with hs|hs
   ·omega
   ·have:=inR b hs;omega
  ·rw[gy]at hz;subst hz;obtain⟨t1,t2,t3,t4⟩:=hy;refine⟨t1.iH f13 fun b hb hs=>?_,t2,fun b hb=>?_,t4⟩
   ·obtain⟨u1,u2,_⟩:=t3 b hb;rcases hs with hs|hs
    ·omega
    ·have:=h.rn b hs;have:=h.gl.lt hs;omega
   ·obtain⟨u1,u2,_⟩:=t3 b hb;refine⟨by show b<H2.nx;omega,by omega,fun hs=>?_⟩;rcases hs with hs|hs
    ·omega
    ·have:=inR b hs;omega
structure NwR(Hb:Hp)(nb wb:Nat)(w rv:AV):Prop where
 n:Hb.get nb=aB 0 [w]
 nl:nb<Hb.nx
 ix:aH 2 w (iN 1)=.val (.ptr wb 2)
 wl:wb<Hb.nx
 rv:dK (Hb.get wb) 3=.val rv
theorem q94{O:Ev.Call}{H0 Hb:Hp}{nb pb wb:Nat}{w:AV}{g:aN}(hg:xZ H0 g)(f0:Fm No H0 Hb)(hw:NwR Hb nb wb w g.rv)(hn:g.gs.length<=16)(ht:∀ x∈g.gs,x.r.types.length<=7){Q:pL}{q:pH}(hq:∀ H gs' rv,PsI H0 Hb H pb g.name g.gs gs' rv->Ok (q H) Q):∀(k i:Nat) (H:Hp) (gs':List aR) (rv:AV),i<=g.gs.length->g.gs.length-i<k->PsI H0 Hb H pb g.name (g.gs.take i) gs' rv -> Ok (xR O q (.ptr nb 0) (.ptr pb 0) k (iN i) H) Q
 |0,i,_,_,_,_,h,_=>by omega
 |k+1,i,H,gs',rv,hi,hk,hI=>by
  show Ok (q0x O _ _ _ (xR O _ _ _ k) _ H) Q;unfold q0x;have f0H:=f0.trans hI.fm;have a0:=(hI.fm.keep hw.nl).trans hw.n;have a1:dK (H.get wb) 3=.val g.rv:=by rw[hI.fm.keep hw.wl];exact hw.rv
  have a2:=hw.ix;have hgH:=hg.fm f0H;have e0:=hgH.len;obtain⟨p1,p2,p3⟩:=hI.pl;by_cases hlt:i<g.gs.length
  ·simp only[go_sem,a0,a1,a2,e0,hlt];rw[qj3];unfold qip;rw[qqo];unfold qlz;obtain⟨b1,o1,e1,_,_,_,_,e6⟩:=hgH.at' i hlt;have hx:=lu hlt;obtain⟨c0,c1,c2,c3,hcs,hrc⟩:=qfm (hg.rel _ hx);simp(disch:=first|omega|exact ti rfl|simp only[np,nq];first|done|omega)only[go_sem,rB,rI,rK,rL,rN,rS,r6,a0,a1,a2,e1,e6];refine z9g (hg.rel _ hx) f0H (Hs:=H) (by(repeat(first|exact Fm.refl _ _|assumption|refine Fm.push ?_ _|refine Fm.lF ?_ (by first|omega|simp only[np,nq];omega)|refine Fm.aF ?_ _ _ (by first|omega|simp only[np,nq];omega)))) (x:=g.gs[i]) ((dS _ _ _).trans (by rw[hrc])) ⟨lg _,by first|omega|simp only[np,nq];omega⟩ (ht _ hx) fun H1 y f1 hxy r1 n1 hcy hy=>?_;rw[qqq];unfold ql1;have r1':H1.get H.nx=aB 0 [.str y.r.name.n y.r.name.a,y.tv,c0,c1,c2,c3]:=by
    rw[r1];unfold fI;rw[hcy,hcs];rfl
   have p0:=(f1.keep p3).trans hI.p;simp(disch:=omega)only[go_sem,seval,p0,r1'];have hyc:fI y=[.str y.r.name.n y.r.name.a,y.tv,c0,c1,c2,c3]:=by unfold fI;rw[hcy,hcs];rfl
   have hgl:gs'.length<=16:=by have:=hI.f2.len;rw[qo]at this;omega
   have fP:Fm No H1 (aO H1 (aB 0 [.str y.r.name.n y.r.name.a,y.tv,c0,c1,c2,c3])):=Fm.push (Fm.refl _ _) _;refine Ok.ve ((hI.gl.no (f1.trans fP)).uW (x:=[.str y.r.name.n y.r.name.a,y.tv,c0,c1,c2,c3]) rfl (by omega) (by omega)) ?_;rintro _ H2 ⟨rfl,g2,f2,n2⟩;have p2:=(f2.get pb (by simp only[np,nq];omega) (fun h=>by have:=hI.rn _ h;omega)).trans ((fP.keep (by omega)).trans p0);simp only[go_sem,p2];rw[qqr];unfold ql2;simp(disch:=first|omega|exact ti rfl|simp only[np,nq];first|done|omega)only[go_sem,rB,rI,rK,rL,rN,rS,r6];refine q94 hg f0 hw hn ht hq k (i+1) _ (gs'++[y]) (.sl (H1.nx+1) 0 (gs'.length+1) (gs'.length+1) false) (by omega) (by omega) ?_;rw[ku hlt];exact hI.add (f1.trans fP) hxy (hy.fm fP) f2 n2 (by rw[hyc];exact g2)
  ·simp only[go_sem,a0,a1,a2,e0,hlt];rw[qj3];unfold qip;rw[tu (by omega)]at hI;exact hq H gs' rv hI
theorem Gl.mk0(h:H.get b=aB z l)(hl:l.length=n*z)(hb:b<H.nx):Gl z H (.sl b 0 n n false) n l:=⟨hl,.inr ⟨b,0,false,z,l,rfl,h,gq _,oq,.inr rfl,hb⟩⟩
theorem xZ.of(gl:Gl 6 H g.rv g.gs.length (g.gs.flatMap fI))(hr:∀ x∈g.gs,kR H x):xZ H g:=by refine⟨gl.cO,gl.flat,fun i hi=>?_,hr⟩;obtain⟨b,o,h1,h2,h3,h4⟩:=gl.sub hi;obtain⟨b',o',g1,_,_,g4,g5⟩:=(gl.rs qdm).at' i hi;rw[h1]at g1;injection g1 with g1;injection g1 with g1 g2;subst g1 g2;refine⟨b,o,h1,h2,g5 0 (by rw[qdm];omega),g5 1 (by rw[qdm];omega),?_,g4⟩;rw[h4 2 4 (by omega),qgr qdm g.gs i hi];obtain⟨c0,c1,c2,c3,hc,hrc⟩:=qfm (hr _ (lu hi));simp_all
def spM:aN:=⟨sM,[],.aA,0,0⟩
theorem aLW(H:Hp):xZ H spM:=xZ.of (Gl.nil 6 H) fun _ h=>by cases h
theorem q9e(X:List aN):(X.flatMap pX).length=X.length*2:=by
 induction X with
 |nil=>rfl
 |cons a X ih=>rw[ug,lq,ih,pg,qco];omega
structure Nw(H0 H:Hp)(nb wb:Nat)(X:List aN):Prop where
 sp:∀ g∈X,xZ H0 g
 fm:Fm No H0 H
 w:H.get wb=aB 2 (X.flatMap pX)
 wl:H0.nx<=wb/\wb<H.nx
 n:H.get nb=aB 0 [.sl wb 0 X.length X.length false]
 nl:H0.nx<=nb/\nb<H.nx/\nb≠wb
theorem Nw.gl{nb wb:Nat}(h:Nw H0 H nb wb X):Gl 2 H (.sl wb 0 X.length X.length false) X.length (X.flatMap pX):=Gl.mk0 h.w (q9e X) h.wl.2
theorem Nw.sr{nb wb:Nat}(h:Nw H0 H nb wb X):bS H (.sl wb 0 X.length X.length false) X:=⟨h.gl.rs qco,rfl,fun g hg=>(h.sp g hg).fm h.fm⟩
theorem z9f{nb wb:Nat}{a b:aN}{R:List aN}{x6:AV}(hN:Nw H0 H nb wb (a::b::R))(hg:b.gs.length<=16)(ht:∀ x∈b.gs,x.r.types.length<=7){Q:pL}(hq:∀ H' b',SpX b b'->bS H' (.sl wb 0 (R.length+2) (R.length+2) false) (a::b'::R)->Fm No H0 H'->H'.get nb=aB 0 [.sl wb 0 (R.length+2) (R.length+2) false]->nb<H'.nx->Ok (qfd O x6 (.ptr nb 0) H') Q):Ok (qmt O x6 (.ptr nb 0) (.bool true) H) Q:=by
 rw[qj2];unfold qio;obtain⟨wl1,wl2⟩:=hN.wl;obtain⟨nl1,nl2,nw⟩:=hN.nl;have hn:H.get nb=aB 0 [.sl wb 0 (R.length+2) (R.length+2) false]:=hN.n;have hL:(a::b::R).flatMap pX=a.name.v::a.rv::b.name.v::b.rv::R.flatMap pX:=rfl;have hw:=hN.w;rw[hL]at hw;have hix:aH 2 (.sl wb 0 (R.length+2) (R.length+2) false) (iN 1)=.val (.ptr wb 2):=sV _ _ _ _ _ _ _ _ (by omega);have c2:dK (H.get wb) 2=.val (.str b.name.n b.name.a):=by rw[hw,qb0];rfl
 have c3:dK (H.get wb) 3=.val b.rv:=by rw[hw,qb0];rfl
 simp(disch:=go_size)only[go_sem,rB,rI,rK,rL,rN,rS,r6,hn,hix,c2];rw[qqn];unfold qly q00;rw[dB];have hb:=hN.sp b (by simp);refine q94 (Hb:=H) (pb:=H.nx) (nb:=nb) (wb:=wb) (w:=.sl wb 0 (R.length+2) (R.length+2) false) hb hN.fm ⟨hn,nl2,hix,wl2,c3⟩ hg ht (fun H5 gs' rv hI=>?_) bX 0 _ [] .aA (gq _) (by rw[dI];omega) ⟨Gl.nil 6 _,(by(repeat(first|exact Fm.refl _ _|assumption|refine Fm.push ?_ _|refine Fm.lF ?_ (by go_size)|refine Fm.aF ?_ _ _ (by go_size)))),(fun _ h=>by obtain⟨_,_,_,_,h⟩:=h;cases h),dS _ _ _,⟨hN.fm.nx,lg _,(by go_size)⟩,.nil,(fun _ h=>by cases h)⟩;rw[qqs];unfold ql3;have e1:=(hI.fm.keep nl2).trans hn;have e2:=(hI.fm.keep wl2).trans hw;have e3:=hI.p;have est:wH (H5.get wb) 2 [.str b.name.n b.name.a,rv]=some (aB 2 (bD (a.name.v::a.rv::b.name.v::b.rv::R.flatMap pX) 2 [.str b.name.n b.name.a,rv])):=by rw[e2,qg1,pz (by simp)]
 simp(disch:=go_size)only[go_sem,rB,rI,rK,rL,rN,rS,r6,e1,e3,hix,est];have n5:=hI.fm.nx;have f56:Fm (· =wb) H5 (H5.put wb (aB 2 (bD (a.name.v::a.rv::b.name.v::b.rv::R.flatMap pX) 2 [.str b.name.n b.name.a,rv]))):=(Fm.refl _ _).put _ _ fun _=>rfl;have f06:=(hN.fm.trans hI.fm).aF wb (aB 2 (bD (a.name.v::a.rv::b.name.v::b.rv::R.flatMap pX) 2 [.str b.name.n b.name.a,rv])) wl1;refine hq _ ⟨b.name,gs',rv,0,0⟩ ⟨rfl,hI.f2⟩ ⟨?_,rfl,fun g hg=>?_⟩ f06 ((dG _ _ _ _ nw).trans e1) (by show nb<H5.nx;omega)
 ·exact(Gl.mk0 (n:=R.length+2) (dS _ _ _) (q9e (a::⟨b.name,gs',rv,0,0⟩::R)) (by show wb<H5.nx;omega)).rs (l:=a::⟨b.name,gs',rv,0,0⟩::R) qco
 ·rcases qg.1 hg with rfl|hg
  ·exact(hN.sp _ (by simp)).fm f06
  rcases qg.1 hg with rfl|hg
  ·refine xZ.of (hI.gl.fm f56 fun c hc h=>?_) fun y hy=>?_
   ·have:=hI.rn c hc;omega
   ·obtain⟨t1,t2,t3,t4⟩:=hI.ty y hy;exact⟨t1.iH f56 fun c hc h=>by have:=(t3 c hc).2.1;omega,t2,t4.fm f06⟩
  ·exact(hN.sp _ (qx _ (qx _ hg))).fm f06
theorem Gl.aEv{z w n:Nat}{v:AV}{l x:List AV}(h:Gl z H v n l)(hx:x.length=z)(hb:(n+1)*w<=1099511627776)(hb2:n+1<=1099511627776):Ok (j5 z w H v (some ⟨1,x⟩)) fun v' H'=>v'=.sl H.nx 0 (n+1) (n+1) false/\H'.get H.nx=aB z (l++x)/\Fm (In v) H H'/\H'.nx=H.nx+1:=by obtain⟨H',e1,_,e3,e4,e5⟩:=h.append (w:=w) (k:=1) (x:=x) (by omega) (by omega) hb hb2;exact⟨_,H',e1,rfl,e3,e4,e5⟩
structure Sc(X:List aN):Prop where
 ne:X≠[]
 no:sM∉X.map aN.name
 n:X.length<=15
 g:∀ g∈X,g.gs.length<=16
 t:∀ g∈X,∀x∈g.gs,x.r.types.length<=7
theorem aN7:sM≠sU/\∀ i,i<3->sM≠bZ i:=by decide
theorem mP.sc(h:mP L X):Sc X:=by
 have hm:=qg8 L;have hl:=congrArg List.length h.names;simp at hl;refine⟨fun e=>?_,?_,by omega,fun g hg=>(h.val.pr.r g hg).1,fun g hg x hx=>?_⟩
 ·simp_all
 ·rw[h.names,qg,qp];rintro (e|⟨i,hi,e⟩)
  ·trivial
  ·exact aN7.2 i (by have:=uu.1 hi;omega) e.symm
 ·obtain⟨i,n,hi,h1,h2,hni,hn,hr⟩:=h.x hg hx;have:x.r.types.length<=(kG L n).length:=by
   rw[hr];unfold qM;split
   ·exact lg _
   ·simp
  have:=qe0 L n;omega
theorem Sc.bA8(h:Sc X):mM X (X++[spM]):=⟨⟨X,spM,rfl,F2.refl SpX.refl X,rfl,rfl⟩,h.no,h.n,h.t⟩
theorem Sc.ext1{a b b':aN}{R:List aN}(h:Sc (a::b::R))(e:SpX b b'):mM (a::b::R) (a::b'::(R++[spM])):=⟨⟨a::b'::R,spM,rfl,.cons (SpX.refl _) (.cons e (F2.refl SpX.refl R)),rfl,rfl⟩,h.no,h.n,h.t⟩
theorem z9e{nb wb m:Nat}{x6:AV}(hS:Sc X)(hN:Nw H0 H nb wb (X++[spM])){Q:pL}(hq:∀ H' X' w,mM X X'->bS H' w X'->Fm No H0 H'->H'.get nb=aB 0 [w]->nb<H'.nx->Ok (qfd O x6 (.ptr nb 0) H') Q):Ok (qti O (.int .u8 (.ofNat m)) x6 (.ptr nb 0) H) Q:=by
 rw[qqm];unfold qlx;have hn:=hN.n;have hd:Ok (qfd O x6 (.ptr nb 0) H) Q:=hq H _ _ hS.bA8 hN.sr hN.fm hn hN.nl.2.1;have h0:Ok (qmt O x6 (.ptr nb 0) (.bool false) H) Q:=by rw[qj2];unfold qio;trivial
 by_cases hr:m%2=1
 ·by_cases hl:2<(X++[spM]).length
  ·simp(disch:=go_size)only[go_sem,rB,rI,rK,rL,rN,rS,r6,hn,hr,hl]
   match X,hS,hN,hl,hq with
   |a::b::R,hS,hN,_,hq=>exact z9f (R:=R++[spM]) hN (hS.g b (by simp)) (hS.t b (by simp)) fun H' b' e hs f n1 n2=>hq H' _ _ (hS.ext1 e) hs f n1 n2
  ·simp(disch:=go_size)only[go_sem,rB,rI,rK,rL,rN,rS,r6,hn,hr,hl];exact h0
 ·simp(disch:=go_size)only[go_sem,rB,rI,rK,rL,rN,rS,r6,hn,hr];exact h0
theorem z9d{sv x6:AV}(hS:Sc X)(hX:bS H sv X)(hs:H.get sb=aB 0 [sv])(hsb:sb<H.nx){Q:pL}(hq:∀ H' X' w nb,mM X X'->bS H' w X'->Fm No H H'->H'.get nb=aB 0 [w]->nb<H'.nx->Ok (qfd O x6 (.ptr nb 0) H') Q):Ok (jM O (.int .u8 (.ofNat m)) (.ptr sb 0) x6 H) Q:=by
 rw[qql];unfold qlw;have hn:=hS.n;simp(disch:=first|go_size|omega)only[go_sem,rB,rI,rK,rL,rN,rS,r6,hs,zkn,z01];rw[((hX.fm (Fm.push (Fm.aF (Fm.push (Fm.refl _ _) _) _ _ (lg _)) _)).rs).src qco fun e=>absurd e hS.ne];refine Ok.ve (cpG qco (lC _ _) (by simp only[np,nq];omega) (by omega) (by omega)) ?_;rintro w H1 ⟨g1,f1,w1⟩;have n1:=f1.nx;simp only[np,nq]at n1 w1;simp(disch:=first|go_size|omega)only[go_sem,rB,rI,rK,rL,rN,rS,r6];refine Ok.ve ((g1.no (Fm.push (Fm.refl _ _) _)).aEv (x:=[.str 4 1701998445,.aA]) rfl (by omega) (by omega)) ?_;rintro _ H2 ⟨rfl,b2,f2,n2⟩;simp only[np,nq]at b2 n2;have hw:∀ b,In w b->H.nx+1<=b:=fun b hb=>by rcases w1 b hb with h|h<;>omega
 have nP:((aO H (aB 0 [.aA])).put H.nx (aB 0 [sv])).nx=H.nx+1:=rfl;have r1:H1.get H.nx=aB 0 [sv]:=(f1.get H.nx (by go_size) (by omega)).trans (by simp(disch:=omega)only[go_sem,seval]);have r2:=(f2.get H.nx (by simp only[np,nq];omega) (fun h=>by have:=hw _ h;omega)).trans ((qbj _ _ _ (by omega)).trans r1);have fA:Fm No H H2:=(((Fm.push (Fm.aF (Fm.push (Fm.refl _ _) _) _ _ (lg _)) _).then f1 fun c hc h=>by omega).push _).then f2 fun c hc h=>by have:=hw _ h;omega
 simp only[go_sem,r2];refine z9e (H0:=H) (nb:=H.nx) (wb:=H1.nx+1) hS ⟨fun g hg=>?_,fA.aF _ _ (lg _),?_,⟨by omega,by show H1.nx+1<H2.nx;omega⟩,?_,⟨lg _,by show H.nx<H2.nx;omega,by omega⟩⟩ fun H' X' w=>hq H' X' w _
 ·rcases gz.1 hg with h|h
  ·exact hX.sp g h
  ·rw[gy]at h;subst h;exact aLW H
 ·rw[dG _ _ _ _ (by omega),b2,uA,uB];rfl
 ·rw[dS,lq];rfl
end Go.Di
end
noncomputable section
namespace Go.Di
open Go.Ev Go.Di.T Go.Sort
variable {C:Nat->Ev.Call} {LA LO:LP} {L:List (List Nat)} {X:List aN}
theorem ztl(t:Tu):dQ (eqFields [((pA 3),⟨dQ (eqFields [((pA 2),⟨dQ (eqFields [(p1,⟨bH⟩,0),(p1,⟨bH⟩,1)])⟩,0),(p1,⟨bH⟩,2)])⟩,0),((pA 3),⟨dQ (eqFields [((pA 2),⟨dQ (eqFields [(p1,⟨bH⟩,0),(p1,⟨bH⟩,1)])⟩,0),(p1,⟨bH⟩,2)])⟩,3)]) (.agg t.cells) (.agg t.cells)=some true:=by rw[wC];unfold gG;simp
theorem qsw{O:Ev.Call}{H:Hp}{v w:AV}{l:List Tu}(hv:Rs 6 Tu.cells H v l)(hw:Rs 6 Tu.cells H w l)(hn:l.length<=20){Q:pL}{qr:pD}{q:pH}(hq:Ok (q H) Q):∀(k i:Nat),i<=l.length->l.length-i<k->Ok (qra O qr q v w k (iN i) H) Q
 |0,i,_,h=>by omega
 |k+1,i,hi,hk=>by
  show Ok (zd4 O _ _ _ _ (qra O _ _ _ _ k) _ H) Q;unfold zd4;have e0:=hw.len;by_cases hlt:i<l.length
  ·simp only[go_sem,e0,hlt];unfold zd2;obtain⟨b1,o1,e1,_,e3⟩:=hv.qI hlt;obtain⟨b2,o2,d1,_,d3⟩:=hw.qI hlt;have e4:=ztl l[i];simp only[go_sem,e1,e3,d1,d3,e4];unfold zd3;simp(disch:=omega)only[go_sem];exact qsw hv hw hn hq k (i+1) (by omega) (by omega)
  ·simp only[go_sem,e0,hlt];exact hq
theorem zk8(hC:aW C){k:Nat}(hk:1<=k){H:Hp}{v w:AV}{l:List Tu}(hv:Rs 6 Tu.cells H v l)(hc:gW v=.val (iN (l.length)))(hw:Rs 6 Tu.cells H w l)(hn:l.length<=20):C k (.f 18) [v,w] H=.ok (.bool true) H:=by
 obtain⟨j,rfl⟩:=aS hk;have:Ok (C (j+1) (.f 18) [v,w] H) fun r H'=>r=.bool true/\H'=H:=by rw[(hC j).zEb];unfold zEb zyc;have e0:=hv.len;have e1:=hw.len;simp only[go_sem,e0,e1,hc];unfold q11 zd5;rw[dB];refine qsw hv hw hn ?_ bX 0 (gq _) (by rw[dI];omega);exact Ok.ret ⟨rfl,rfl⟩
 obtain⟨_,_,e,rfl,rfl⟩:=this;exact e
end Go.Di
end
noncomputable section
namespace Go.Di
open Go.Ev Go.Di.T Go.Sort
variable {C:Nat->Ev.Call} {LA LO LQ:LP} {L:List (List Nat)} {X X':List aN}
theorem z9h(hC:aW C)(hN:mG C)(hE:qf5 C)(hO:pV C)(hS:oO C)(hR:oP LA LO C){k:Nat}(hk:1100<=k)(hlive:∀ k H,1<=k->C k (.f 6) [] H=.ok (.bool true) H){H:Hp}{nb:Nat}{w v:AV}{l:List Tu}(hX:bS H w X)(h:SOK X)(hn:H.get nb=aB 0 [w])(hl:Rs 6 Tu.cells H v l)(h20:l.length<=20)(hf:∀ t∈l,kF X t):Ok (qfd (C k) v (.ptr nb 0) H) fun r _=>r=.bool true:=by rw[qqt];unfold ql4;simp only[go_sem,hn];refine Ok.ve (zl5 hC hN hE hO hS hR (k:=k) (by omega) hX h hl h20) ?_;rintro _ H1 ⟨rfl,_⟩;rw[q9m fun t ht=>(hf t ht).zero h.val];rw[qqu];unfold ql6;have e0:=hl.len;have q4:=hlive k H1 (by omega);simp only[go_sem,e0,q4];exact Ok.ret rfl
theorem zwl:∀(l:List Tu) (o:List (SS×SS)),(l.foldl oK o).length<=o.length+2*l.length
 | [],_=>lg _
 |t::l,o=>by rw[lE7,pg];have h1:=zwl l (oK o t);have h2:=qmm o (t.a,t.b);have h3:(oK o t).length<=_:=qmm (qV o (t.a,t.b)) (t.x,t.y);omega
theorem zls{l:List Tu}(hV:dO X)(hf:∀ t∈l,kF X t):l.filter (uQ X)=l/\l.filter (qo7 X)=[]:=by
 refine⟨List.filter_eq_self.2 fun t ht=>?_,List.filter_eq_nil_iff.2 fun t ht=>?_⟩
 ·unfold uQ;rw[(hf t ht).zero hV];rfl
 ·unfold qo7;rw[(hf t ht).zero hV];simp
theorem zci(hC:aW C)(hN:mG C)(hE:qf5 C)(hO:pV C)(hS:oO C)(hR:oP LA LO C)(hQ:qtf LQ C)(hT:qp6 C){k:Nat}(hk:1100<=k)(hlive:∀ k H,1<=k->C k (.f 6) [] H=.ok (.bool true) H){cv lv:AV}{ls:List Q4}{m:Nat}{H:Hp}(hv:gV H cv L)(hq:Rs 4 Q4.cells H lv ls):Ok (zFy (C k) (.agg [cv,lv]) (.int .u8 (.ofNat m)) H) fun r _=>r=.bool true:=by
 unfold zFy zxg;simp(disch:=omega)only[go_sem,seval];have f0:Fm No H (aO H (aB 0 [cv,lv])):=by exact jY
 refine Ok.ve (z7u hC (k:=k) (by omega) (hv.fm f0) (hq.fm f0) fun X hX=>⟨(mP.val (L:=L) ⟨hX⟩).pr.sml,mP.lo ⟨hX⟩⟩) ?_;rintro _ H1 ⟨sv,X,v,l,rfl,hs,hmp,hl,h20,hlf,f1⟩;have h:mP L X:=⟨hmp⟩;have hk':=h.sok;have hV:=h.val;have hf:∀ t∈l,kF X t:=fun t ht=>(hlf t ht).2;have hw:∀ t∈l,WfT t:=fun t ht=>(hf t ht).wf hV;obtain⟨G,hG⟩:∃ G,G=((aO H1 (aB 0 [.aA])).put H1.nx (aB 0 [sv])):=⟨_,rfl⟩;have fG:Fm No H1 G:=by rw[hG];exact oJ
 have nG:G.nx=H1.nx+1:=by rw[hG];rfl
 have gG:G.get H1.nx=aB 0 [sv]:=by rw[hG];exact dS _ _ _
 simp(disch:=first|omega|exact ti rfl)only[go_sem,seval];rw[<-hG,qmv];unfold qir;have hlG:=hl.fm fG;have hX:=hs.fm fG;have e0:=hl.len;simp only[go_sem,seval,gG];refine Ok.ve (zl5 hC hN hE hO hS hR (k:=k) (by omega) hX hk' hlG h20) ?_;rintro _ H2 ⟨rfl,f2⟩;rw[q9m fun t ht=>(hf t ht).zero hV];have g2:=(f2.keep (by omega)).trans gG;have hl2:=hlG.fm f2;rw[qmw];unfold qis;simp(disch:=go_size)only[go_sem,rB,rI,rK,rL,rN,rS,r6,g2];refine Ok.ve (zl2 hC hN hE hO hS hR (k:=k) (by omega) (hX.fm f2) hk' hl2 h20) ?_;rintro _ H3 ⟨w1,w2,rfl,s1,s2,s3,_,f3⟩;rw[(zls hV hf).1]at s1 s2;rw[(zls hV hf).2]at s3;have f23:=f2.trans f3;have g3:=(f23.keep (by omega)).trans gG;rw[qmx];unfold qit;simp(disch:=go_size)only[go_sem,rB,rI,rK,rL,rN,rS,r6,g3];refine Ok.ve (zl3 hC hN hE hO hS hR hQ hT (k:=k) (by omega) (hX.fm f23) hk' (hlG.fm f23) h20 hw) ?_;rintro _ H4 ⟨gw,rfl,hg,cg,f4⟩;have f24:=f23.trans f4;have g4:=(f24.keep (by omega)).trans gG;have q1:=zk8 hC (k:=k) (by omega) (s1.fm f4) s2 (hlG.fm f24) h20;have e3:aD w2=.val (iN 0):=s3.len;rw[qmy];unfold qiu;simp(disch:=go_size)only[go_sem,rB,rI,rK,rL,rN,rS,r6,e0,q1,e3,g4];have hol:(l.foldl oK []).length<=40:=by have:=zwl l [];simp only[uo]at this;omega
 refine Ok.ve (aNG hC (k:=k) (by omega) (hX.fm f24) hV.pr.sml (hlG.fm f24) h20 (by omega)) ?_;rintro rv3 H5 ⟨hr3,f5⟩;have hln:=qml (aJ X) (l.foldl oK []);have hA:(aJ X).length<=12:=by rw[h.len];exact um _ _
 have hm2:(l.foldl oK []).length*(aJ X).length<=40*12:=Nat.mul_le_mul hol hA;have q3:=ztf hC (k:=k) (by omega) (hg.fm f5) cg hr3 (by omega);have f25:=f24.trans f5;have g5:=(f25.keep (by omega)).trans gG;simp only[go_sem,q3];rw[qmz];unfold qiv;rw[qm0];unfold qiw q0y;rw[dB];refine q93 hC hN hE hO hS hR (j:=k) (by omega) (hX.fm f25) hk' g5 (by have:=f25.nx;omega) (hlG.fm f25) h20 hf (hg.fm f5) (by omega) (fun H6 f6=>?_) bX 0 H5 (gq _) (by rw[dI];omega) (Fm.refl _ _);have f26:=f25.trans f6;refine z9d h.sc (hX.fm f26) ((f26.keep (by omega)).trans gG) (by have:=f26.nx;omega) fun H7 X' w nb hE' hX' f7 hn _=>?_;exact z9h hC hN hE hO hS hR hk hlive hX' (hE'.sok hk') hn (hlG.fm (f26.trans f7)) h20 fun t ht=>hE'.fit (hf t ht)
end Go.Di
end
noncomputable section
namespace Go.Di
open Go.Ev
def egO(e:Edge):Eg:=⟨.ofNat e.f,.ofNat e.t,e.s⟩
theorem z3e(es:List Edge):(es.map egO).flatMap egV=ceE es:=by
 induction es with
 |nil=>rfl
 |cons a l ih=>rw[zy,ug,ih];rfl
theorem zmc:∀ es:List Edge,qps (ceE es)=some (es.map egO)
 | []=>rfl
 |a::l=>by show qps (iN (a.f)::iN (a.t):: .bool a.s::ceE l)=_;rw[qps,zmc l];rfl
theorem z8q(x y:Edge):jJ (egO x) (egO y)=sI x y:=by unfold jJ sI or3 egO xU sgn cI;simp only[orI,iT];by_cases h:iT (.ofNat x.f) (.ofNat y.f)=0<;>by_cases h2:iT (.ofNat x.t) (.ofNat y.t)=0<;>unfold iT at h h2<;>simp only[h,h2,ik,lA4]<;>(try split)<;>simp_all
theorem zjb(es:List Edge):qlg (es.map egO)=(sortE es).map egO:=
 (List.map_mergeSort fun a _ b _=>by show(!decide (sI b a<0))=_;rw[z8q]).symm
theorem q4p(f fc:FuncId)(e:Ext){H:Hp}{v:AV}{es:List Edge}(h:Gl 3 H v es.length (ceE es))(hl:es.length<=1000000):∃r,qfi f fc e f [v,.fn fc [] []] H=some r/\Ok r fun r H'=>r=.aX []/\Gl 3 H' v es.length (ceE (sortE es))/\Fm (In v) H H':=by
 have hb:∀ n:Nat,Nat.beq n n=true:=fun n=>lAW n;rcases h.is with⟨rfl,h0⟩|⟨b,o,x,q,L,rfl,h1,h2,h3,h4,h5⟩
 ·have:es=[]:=ry.1 h0;subst this;refine⟨.ok (.aX []) H,?_,?_⟩
  ·unfold qfi;simp only[hb,qy]
  ·have hz:sortE []=[]:=by simp[sortE]
   rw[hz];exact Ok.ret ⟨rfl,h,Fm.refl _ _⟩
 ·have hLl:o+es.length*3=L.length:=by
   have:=congrArg List.length h3;rw[xg,q51]at this;omega
  have hsl:(ceE (sortE es)).length=es.length*3:=by rw[q51,qyg]
  have hs:qyh H b o es.length=some (.ok (.aX []) (H.put b (aB q (bD L o (ceE (sortE es)))))):=by
   unfold qyh;rw[h1,qca,pz (by omega),h3,tu (by rw[q51];omega)];simp only[zmc,zjb,z3e];rw[qch H b o _ _ q L h1 (by omega)];have:Nat.blt es.length 4611686018427387904=true:=by rw[Nat.blt_eq];omega
   simp only[this,qy]
  refine⟨_,by unfold qfi;simp only[hb,qy];exact hs,Ok.ret ⟨rfl,⟨by rw[hsl],.inr ⟨b,o,x,q,bD L o (ceE (sortE es)),rfl,dS _ _ _,?_,?_,h4,h5⟩⟩,(Fm.refl _ _).put b _ fun _=>⟨_,_,_,_,rfl⟩⟩⟩
  ·rw[qd2 _ _ _ (by omega)];exact h2
  ·unfold bD;rw[List.drop_of_length_le (l:=L) (by omega),uh,xu (by rw[qo];omega),List.drop_of_length_le (by rw[qo];omega),ae]
end Go.Di
end
