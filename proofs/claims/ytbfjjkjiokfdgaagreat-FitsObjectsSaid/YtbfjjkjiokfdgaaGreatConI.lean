/-
 For FitsObjects: functions in direct style, their contracts, and the plain mathematics, part 9 of 9. No conditions beyond those that each theorem states.
-/
import Derived.Test.YtbfjjkjiokfdgaaGreatConH
import Derived.KernelRfl
import Derived.Test.YtbfjjkjiokfdgaaGreatEv4
import Derived.Test.YtbfjjkjiokfdgaaGreatConF
import Derived.Test.YtbfjjkjiokfdgaaGreatConE
import Derived.ChangeArms
import Derived.DataReads
set_option linter.unusedSimpArgs false
set_option linter.unusedVariables false
noncomputable section
namespace Go.Di
open Go.Ev Go.Di.T Go.Sort
variable {C:Nat->Ev.Call} {LQ:LP} {L:List (List Nat)} {X:List aR}
variable {H:Hp} {j k:Nat} {l:List AV}
theorem zzu{B:bM}{o:Nat}(h:fU B o l.length=some l)(hj:j<l.length):dI B (o+j)=.val l[j]:=by
 have h1:=qgg h (i:=j) (k:=1) (by omega);rw[List.drop_eq_getElem_cons hj]at h1;unfold fU at h1;split at h1
 ·rename_i n c _ _;unfold dI;simp only[ble_eq,blt_eq]at h1 ⊢;by_cases hc:o+j+1<=n
  ·rw[decide_eq_true hc]at h1;rw[decide_eq_true (by omega)];injection h1 with h1;have h2:[(dG _ (o+j)).f c]=[l[j]]:=h1;simp_all
  ·simp_all
 ·cases h1
def Gives(C:Nat->Ev.Call)(j:Nat)(fc:FuncId)(vb:Nat)(H:Hp)(o:List (SS×SS)):Prop:=
 ∀(y:Nat) (Inv:List (SS×SS)->Hp->Prop) (G:Hp),Fm No H G->(∀m K,Inv m K->Fm No H K)->(∀m K G,Inv m K->Fm No K G->Inv m G) ->
  (∀m p K G,m.length<100->Inv m K->Fm No K G->Ok (C (j+1) (.y y) [.agg (pC p)] G) fun r H'=>r=.bool true/\Inv (m++[p]) H'/\∀ b,K.nx<=b->b<G.nx->H'.get b=G.get b)->Inv [] G ->
  Ok (C (j+2) (.f fc) [.yield y,.ptr vb 0] G) fun r H'=>r=.aY []/\Inv o H'
theorem zf4(hC:bA C)(j:Nat){v:AV}{l:List Tu}{vb:Nat}(hv:Rs 6 Tu.cells H v l)(hn:l.length<=20)(hb:H.get vb=aB 0 [v])(hbl:vb<H.nx):Gives C j 32 vb H (l.flatMap nM):=by intro y Inv G f hf hno hy h0;rw[(hC (j+1)).zFl];unfold zFl zsr;have e1:=hv.len;have gb:=(f.keep hbl).trans hb;simp only[go_sem,gb,e1];unfold q8t;rw[dH];exact q4w hv hn hf hno hy (fun H' h=>Ok.ret ⟨rfl,h⟩) cK 0 G (by rw[dM];omega) (by omega) (by simp) h0
theorem zed(hC:bA C)(j:Nat){v:AV}{l:List Tu}{vb:Nat}(hv:Rs 6 Tu.cells H v l)(hn:l.length<=20)(hb:H.get vb=aB 0 [v])(hbl:vb<H.nx):Gives C j 34 vb H (l.flatMap lM):=by intro y Inv G f hf hno hy h0;rw[(hC (j+1)).zFo];unfold zFo zso;have e1:=hv.len;have gb:=(f.keep hbl).trans hb;simp only[go_sem,gb,e1];unfold q8l;rw[dH];exact qsp hv hn hf hno hy (fun H' h=>Ok.ret ⟨rfl,h⟩) cK 0 G (by rw[dM];omega) (by omega) (by simp) h0
theorem zyn(hR:qnt LQ C)(j:Nat){fc:FuncId}{vb:Nat}{o:List (SS×SS)}(hfn:Gives C j fc vb H o):Ok (C (j+3) (.f 125) [.aA,.fn fc [] [.ptr vb 0]] H) fun r H'=>Ac 2 pC H H' r o:=by
 rw[(hR (j+2)).app];unfold aF6 zja;simp only[go_sem];unfold zi8;generalize hL:pu (mU [.aA,.fn fc [] [.ptr vb 0]] 0 (same .undef 2)) [(2,.ptr H.nx 0),(4,.aA),(6,.fn fc [] [.ptr vb 0])]=M;have gL:G M 2=.ptr H.nx 0:=by rw[<-hL];kernel_rfl
 generalize hH1:aS H (aB 0 [.aA])=H1;have n1:H1.nx=H.nx+1:=by rw[<-hH1];rfl
 have f1:Fm No H H1:=by rw[<-hH1];exact(Fm.refl _ _).push _
 have f2:Fm No H (aS H1 (LQ.blk true M)):=f1.push _;have call:qf4 (C (j+2)) (.fn fc [] [.ptr vb 0]) [.yield H1.nx] (aS H1 (LQ.blk true M))=C (j+2) (.f fc) [.yield H1.nx,.ptr vb 0] (aS H1 (LQ.blk true M)):=rfl;have h0:wP LQ H M H1.nx H.nx [] (aS H1 (LQ.blk true M)):=by
  refine⟨f2,lI _ _,⟨by omega,by rw[np];omega⟩,⟨Nat.le_refl _,by rw[np];omega⟩,by omega,.aA,?_,?_,?_⟩
  ·rw[qbt _ _ _ (by omega),<-hH1,lI]
  ·exact Gl.nil _ _
  ·rintro b ⟨_,_,_,_,h⟩;cases h
 refine Ok.aA7 (hfn H1.nx (fun m K=>wP LQ H M H1.nx H.nx m K) _ f2 (fun m K h=>h.fm) (fun m K G h f=>h.no f) (fun m p K G hm hK f=>?_) h0) ?_
 ·have hI:=hK.no f;have e:(.agg (pC p):AV)=.agg [p.1.v,p.2.v]:=rfl;rw[e,(hR j).aIs M _ _ _ _ hI.lp hI.hl.2,gL];exact zi7 (by omega) hK f
 ·rintro r H' ⟨rfl,hI⟩;rw[zv3 hI.lp];unfold q18;rw[gL];obtain⟨v',g1,g2,g3⟩:=hI.vs;have g1':(H'.put H1.nx .dead).get H.nx=aB 0 [v']:=by rw[dJ _ _ _ _ (by omega)];exact g1
  simp only[go_sem,g1'];exact Ok.ret ⟨g2.keep (Nat.le_refl _) fun b hb _=>dJ _ _ _ _ (g3 b hb).2.1,hI.fm.aG _ _ (by omega),fun b hb=>(g3 b hb).1⟩
def Wf(s:SS):Prop:=∃ l:List UInt8,s=⟨l.length,jI l⟩
def l7(p:SS×SS):Prop:=Wf p.1/\Wf p.2
structure aMq(c:Ev.Call):Prop where
 srt:∀(H:Hp) (v:AV) (os:List (SS×SS)),(∀p∈os,l7 p)->Gl 2 H v os.length (os.flatMap pC)->os.length<=1000->Ok (c (.f 96) [v,.fn 58 [] []] H) fun r H'=>r=.aY []/\(∃os':List (SS×SS),os'.Perm os/\os'.Pairwise (fun p q=>nL q p=false)/\Gl 2 H' v os.length (os'.flatMap pC))/\Fm (In v) H H'
abbrev qjx(C:Nat->Ev.Call):Prop:=∀ k,aMq (C (k+1))
theorem q56(hC:bA C)(hk:1<=k){b o n m:Nat}{e:Bool}(hnm:n<=m):C k (.f 59) [.sl b o n m e] H=.ok (.sl b o n n true) H:=by
 obtain⟨j,rfl⟩:=aX hk;rw[(hC j).zFs];unfold zFs zjf;have e1:jX 2 (.sl b o n m e) none (some (iN n)) (some (iN n))=.val (.sl b o n n true):=by
  show(match bounds n m none (some (iN n)) (some (iN n))with|some bd=>gZ b o 2 bd true|none=>R0.bad)=_;have:bounds n m none (some (iN n)) (some (iN n))=some ⟨0,n,n⟩:=by show(match(bif Nat.ble n m then some n else none)with|none=>none|some m'=>match(bif Nat.ble n m' then some n else none)with|none=>none|some h=>match(some 0:Option Nat)with|none=>none|some l=>some (Bd.mk l h m'))=_;rw[ble_eq,decide_eq_true hnm];simp only[cond_true,ble_eq,decide_eq_true (Nat.le_refl n)]
  rw[this];unfold gZ;simp only[beq_eq];by_cases hn:n=0
  ·subst hn;rfl
  ·simp_all
 simp only[go_sem,e1]
structure Srt(os l:List (SS×SS)):Prop where
 asc:l.Pairwise fun p q=>nL p q=true
 mem:∀ p,p∈l↔p∈os
theorem zrz(hC:bA C)(hR:qnt LQ C)(hO:qjx C){fc:FuncId}{vb:Nat}{o:List (SS×SS)}(hfn:Gives C j fc vb H o)(hw:∀ p∈o,l7 p)(hn:o.length<=1000)(hs:∀ os':List (SS×SS),os'.Perm o->os'.Pairwise (fun p q=>nL q p=false)->Srt o (iE os')):Ok (C (j+6) (.f 31) [.fn fc [] [.ptr vb 0]] H) fun w H'=>∃ l,Srt o l/\Rs 2 pC H' w l/\iC w=.val (iN (l.length))/\l.length<=o.length/\Fm No H H':=by
 rw[(hC (j+5)).zFm];unfold zFm zsq;have sf:Ok (C (j+5) (.f 61) [.fn fc [] [.ptr vb 0],.fn 58 [] []] H) fun w H'=>(∃os':List (SS×SS),os'.Perm o/\os'.Pairwise (fun p q=>nL q p=false)/\Gl 2 H' w o.length (os'.flatMap pC))/\(∀b,In w b->H.nx<=b)/\Fm No H H':=by
  rw[(hC (j+4)).zFq];unfold zFq zsn;have cl:Ok (C (j+4) (.f 95) [.fn fc [] [.ptr vb 0]] H) fun r H'=>Ac 2 pC H H' r o:=by rw[(hC (j+3)).zFv];unfold zFv zsk;exact Ok.ve (zyn hR j hfn) fun r H' h=>Ok.ret h
  refine Ok.ve cl ?_;intro w H1 ha;refine Ok.ve ((hO (j+3)).srt H1 w o hw ha.gl hn) ?_;rintro _ H2 ⟨rfl,h2,f2⟩;exact Ok.ret ⟨h2,ha.nw,ha.fm.then f2 fun c hc hi=>by have:=ha.nw c hi;omega⟩
 refine Ok.ve sf ?_;rintro w H1 ⟨⟨os',hp,hpw,hg⟩,hnw,f1⟩;have hS:=hs os' hp hpw;have hlen:=hp.length_eq;rcases hg.is with⟨rfl,h0⟩|⟨b,o',e,q,Lb,rfl,h1,h2,h3,h4,h5⟩
 ·have ho:os'=[]:=List.length_eq_zero_iff.1 (by omega);subst ho;have hcp:C (j+5) (.f 60) [.aA] H1=.ok .aA H1:=by
   rw[(hC (j+4)).zFr];unfold zFr qn2;have h02:=eq_true (show(0:Nat)<2 by decide);simp only[go_sem,h02]
  have hcl:C (j+5) (.f 59) [.aA] H1=.ok .aA H1:=by rw[(hC (j+4)).zFs];unfold zFs zjf;have e1:jX 2 .aA none (some (iN 0)) (some (iN 0))=.val .aA:=rfl;simp only[go_sem,e1]
  simp only[go_sem,hcp,hcl];exact Ok.ret ⟨_,hS,⟨rfl,fun i hi=>by simp[iE,kK]at hi⟩,rfl,Nat.zero_le _,f1⟩
 ·have dl:(iE os').length<=os'.length:=by
   have:=List.length_filterMap_le (fun i=>if yL os' i then os'[i]? else none) (List.range os'.length);rw[List.length_range]at this;exact this
  by_cases h0:0<o.length
  ·have hA:Lb=Lb.take o'++os'.flatMap pC++[]:=by
    show Lb=Lb.take o'++os'.flatMap pC++[];rw[<-h3,List.take_append_drop,List.append_nil]
   have yN:(Lb.take o').length=o':=by rw[List.length_take];omega
   have hcp:=q15 hC (k:=j+5) (by omega) (H:=H1) (b:=b) (q:=q) (A:=Lb.take o') (S:=os') (e:=e) h5 (by omega) (by omega) (by rw[<-hA];exact h1);rw[yN,hlen]at hcp;refine Ok.ve hcp ?_;rintro w H2 hw2;obtain⟨m,Z,rfl,hm,hm0,hg2⟩:=hw2.is;have hcl:=q56 hC (k:=j+5) (by omega) (H:=H2) (b:=b) (o:=(Lb.take o').length) (e:=e) hm;simp only[go_sem,hcl];have hx:=hw2.nx;refine Ok.ret ⟨_,hS,⟨rfl,fun i hi=>⟨b,(Lb.take o').length+i*2,sP _ _ _ _ _ _ _ _ hi,by omega,⟨_,_,_,_,rfl⟩,?_,fun t ht=>?_⟩⟩,rfl,by omega,f1.then hw2.fm fun c hc h=>by subst h;have:=hnw c ⟨_,_,_,_,rfl⟩;omega⟩
   ·rw[hg2];exact qnn wG q _ _ _ hi
   ·have h6:fU (H2.get b) ((Lb.take o').length+i*2) 2=some (pC (iE os')[i]):=by rw[hg2];exact qnn wG q _ _ _ hi
    exact zzu h6 ht
  ·have ho:os'=[]:=List.length_eq_zero_iff.1 (by omega);have ho2:o.length=0:=by omega
   subst ho;rw[ho2];have hcp:C (j+5) (.f 60) [.sl b o' 0 0 e] H1=.ok (.sl b o' 0 0 e) H1:=by rw[(hC (j+4)).zFr];unfold zFr qn2;have h02:=eq_true (show(0:Nat)<2 by decide);simp only[go_sem,h02]
   have hcl:=q56 hC (k:=j+5) (by omega) (H:=H1) (b:=b) (o:=o') (n:=0) (m:=0) (e:=e) (Nat.le_refl _);simp only[go_sem,hcp,hcl];exact Ok.ret ⟨_,hS,⟨rfl,fun i hi=>by simp[iE,kK]at hi⟩,rfl,Nat.zero_le _,f1⟩
end Go.Di
end
noncomputable section
namespace Go.Di
open Go.Ev Go.Di.T Go.Sort
def ssB(l:List UInt8):SS:=⟨l.length,jI l⟩
theorem zvu{l m:List UInt8}:ssB l=ssB m↔l=m:=by
 constructor
 ·intro h;injection h with h1 h2;exact pack_inj h1 h2
 ·rintro rfl;rfl
theorem zn6(x u y v:List UInt8):nL (ssB x,ssB u) (ssB y,ssB v)=true↔qM x u y v:=by
 have h:∀ l m:List UInt8,ltS (ssB l) (ssB m)=decide (l<m):=fun l m=>by unfold ltS ssB;rw[q08,quc]
 unfold nL;rw[h,h,Bool.or_eq_true,Bool.and_eq_true,decide_eq_true_iff,decide_eq_true_iff,decide_eq_true_iff,zvu];rfl
theorem qz8{p:SS×SS}(h:l7 p):∃ x u,p=(ssB x,ssB u):=by obtain⟨⟨x,hx⟩,u,hu⟩:=h;exact⟨x,u,by cases p;simp only at hx hu;rw[hx,hu];rfl⟩
theorem q3j{p:SS×SS}(h:l7 p):¬ nL p p=true:=by obtain⟨x,u,rfl⟩:=qz8 h;rw[zn6];exact qM.irr x u
theorem q3i{p q r:SS×SS}(hp:l7 p)(hq:l7 q)(hr:l7 r)(h:nL p q=true)(k:nL q r=true):nL p r=true:=by obtain⟨x,u,rfl⟩:=qz8 hp;obtain⟨y,v,rfl⟩:=qz8 hq;obtain⟨z,w,rfl⟩:=qz8 hr;rw[zn6]at h k ⊢;exact qM.trans h k
theorem zvh{p q:SS×SS}(hp:l7 p)(hq:l7 q)(h:nL p q=true):¬ nL q p=true:=fun k=>q3j hp (q3i hp hq hp h k)
theorem zrk{p q:SS×SS}(hp:l7 p)(hq:l7 q)(h:¬ nL p q=true)(k:¬ nL q p=true):p=q:=by obtain⟨x,u,rfl⟩:=qz8 hp;obtain⟨y,v,rfl⟩:=qz8 hq;rw[zn6]at h k;obtain⟨rfl,rfl⟩:=qM.tri h k;rfl
theorem zrp{o os':List (SS×SS)}(hw:∀ p∈o,l7 p)(hp:os'.Perm o)(hs:os'.Pairwise fun p q=>nL q p=false):Srt o (iE os'):=by have hw':∀ p∈os',l7 p:=fun p h=>hw p (hp.mem_iff.1 h);exact⟨zhy (R:=fun p q=>nL p q=true) (fun p h=>q3j (hw' p h)) (fun p h q k=>zrk (hw' p h) (hw' q k)) (hs.imp fun h=>by rw[h];decide),fun p=>q1k.trans hp.mem_iff⟩
theorem q3v:∀{l m:List (SS×SS)},(∀p∈l,l7 p)->(∀p∈m,l7 p)->l.Pairwise (fun p q=>nL p q=true)->m.Pairwise (fun p q=>nL p q=true)->(∀p,p∈l↔p∈m)->l=m
 | [],[],_,_,_,_,_=>rfl
 | [],b::m,_,_,_,_,h=>absurd ((h b).2 List.mem_cons_self) List.not_mem_nil
 |a::l,[],_,_,_,_,h=>absurd ((h a).1 List.mem_cons_self) List.not_mem_nil
 |a::l,b::m,wl,wm,hl,hm,h=>by
  have ha:=wl a List.mem_cons_self;have hb:=wm b List.mem_cons_self;obtain⟨l1,l2⟩:=List.pairwise_cons.1 hl;obtain⟨m1,m2⟩:=List.pairwise_cons.1 hm;have e:a=b:=by
   rcases List.mem_cons.1 ((h a).1 List.mem_cons_self)with e|e
   ·exact e
   ·rcases List.mem_cons.1 ((h b).2 List.mem_cons_self)with e'|e'
    ·exact e'.symm
    ·exact absurd (m1 a e) (zvh ha hb (l1 b e'))
  subst e;rw[q3v (fun p k=>wl p (List.mem_cons_of_mem _ k)) (fun p k=>wm p (List.mem_cons_of_mem _ k)) l2 m2 fun p=>?_];have hx:∀ p,p∈l->p≠a:=fun p hp e=>by subst e;exact q3j ha (l1 p hp)
  have hy:∀ p,p∈m->p≠a:=fun p hp e=>by subst e;exact q3j ha (m1 p hp)
  constructor
  ·intro hp;rcases List.mem_cons.1 ((h p).1 (List.mem_cons_of_mem _ hp))with e|e
   ·exact absurd e (hx p hp)
   ·exact e
  ·intro hp;rcases List.mem_cons.1 ((h p).2 (List.mem_cons_of_mem _ hp))with e|e
   ·exact absurd e (hy p hp)
   ·exact e
theorem qtp(x p:SS×SS):∀ l,p∈mD x l↔p=x\/p∈l
 | []=>by unfold mD;simp
 |y::l=>by
  rw[qm4];split
  ·simp
  ·rw[List.mem_cons,qtp x p l,List.mem_cons];constructor
   ·rintro (h|h|h)<;>simp[h]
   ·rintro (h|h|h)<;>simp[h]
theorem q45{x:SS×SS}(hx:l7 x):∀{l:List (SS×SS)},(∀p∈l,l7 p)->x∉l->l.Pairwise (fun p q=>nL p q=true)->(mD x l).Pairwise (fun p q=>nL p q=true)
 | [],_,_,_=>by unfold mD;exact List.pairwise_singleton _ _
 |y::l,hw,hn,h=>by
  have hy:=hw y List.mem_cons_self;obtain⟨l1,l2⟩:=List.pairwise_cons.1 h;rw[qm4];split
  ·rename_i hc;refine List.pairwise_cons.2 ⟨fun q hq=>?_,h⟩;rcases List.mem_cons.1 hq with rfl|hq
   ·exact hc
   ·exact q3i hx hy (hw q (List.mem_cons_of_mem _ hq)) hc (l1 q hq)
  ·rename_i hc;refine List.pairwise_cons.2 ⟨fun q hq=>?_,q45 hx (fun p k=>hw p (List.mem_cons_of_mem _ k)) (fun k=>hn (List.mem_cons_of_mem _ k)) l2⟩;rcases(qtp x q l).1 hq with rfl|hq
   ·by_cases hd:nL y q=true
    ·exact hd
    ·exact absurd (zrk hx hy hc hd) fun e=>hn (by rw[e];exact List.mem_cons_self)
   ·exact l1 q hq
theorem qs8{o l:List (SS×SS)}{x:SS×SS}(hx:l7 x)(hw:∀ p∈o,l7 p)(h:Srt o l):Srt (o++[x]) (pO l x):=by
 have hl:∀ p∈l,l7 p:=fun p k=>hw p ((h.mem p).1 k);unfold pO;split
 ·rename_i hm;refine⟨h.asc,fun p=>?_⟩;rw[h.mem,List.mem_append,List.mem_singleton];constructor
  ·exact .inl
  ·rintro (k|rfl)
   ·exact k
   ·exact(h.mem _).1 hm
 ·rename_i hm;refine⟨q45 hx hl hm h.asc,fun p=>?_⟩;rw[qtp,h.mem,List.mem_append,List.mem_singleton];exact Or.comm
theorem qtw{st:List (SS×SS)->Tu->List (SS×SS)}{f:Tu->List (SS×SS)}(hst:∀ o l t,(∀p∈o,l7 p)->(∀p∈f t,l7 p)->Srt o l->Srt (o++f t) (st l t)):∀(l:List Tu) (o r:List (SS×SS)),(∀p∈o,l7 p)->(∀t∈l,∀p∈f t,l7 p)->Srt o r->Srt (o++l.flatMap f) (l.foldl st r)
 | [],o,r,_,_,h=>by simpa using h
 |t::l,o,r,hw,hf,h=>by rw[List.flatMap_cons,<-List.append_assoc];have ht:=hf t List.mem_cons_self;exact qtw hst l _ _ (fun p k=>(List.mem_append.1 k).elim (hw p) (ht p)) (fun u k=>hf u (List.mem_cons_of_mem _ k)) (hst o r t hw ht h)
def WfT(t:Tu):Prop:=l7 (t.a,t.b)/\l7 (t.x,t.y)
theorem zvs{l:List Tu}(hw:∀ t∈l,WfT t):Srt (l.flatMap nM) (l.foldl vY []):=by
 have:=qtw (st:=vY) (f:=nM) (fun o r t ho ht h=>?_) l [] [] (fun p k=>by cases k) (fun t k p hp=>?_) ⟨List.Pairwise.nil,fun p=>Iff.rfl⟩
 ·trivial
 ·have h1:=ht (t.a,t.b) (by simp[nM]);have h2:=ht (t.x,t.y) (by simp[nM]);have:=qs8 h2 (fun p k=>(List.mem_append.1 k).elim (ho p) fun k=>by rw[List.mem_singleton.1 k];exact h1) (qs8 h1 ho h);rw[List.append_assoc]at this;exact this
 ·obtain⟨h1,h2⟩:=hw t k;simp only[nM,List.mem_cons,List.not_mem_nil,or_false]at hp;rcases hp with rfl|rfl
  ·exact h1
  ·exact h2
theorem zvr{l:List Tu}(hw:∀ t∈l,WfT t):Srt (l.flatMap lM) (l.foldl wD []):=by
 have:=qtw (st:=wD) (f:=lM) (fun o r t ho ht h=>?_) l [] [] (fun p k=>by cases k) (fun t k p hp=>?_) ⟨List.Pairwise.nil,fun p=>Iff.rfl⟩
 ·trivial
 ·unfold wD lM at *;split
  ·rename_i hz;rw[if_pos hz]at ht;exact qs8 (ht (t.x,t.y) (by simp)) ho h
  ·simpa using h
 ·unfold lM at hp;split at hp
  ·rw[List.mem_singleton.1 hp];exact(hw t k).2
  ·cases hp
theorem zrq{o l m:List (SS×SS)}(hw:∀ p∈o,l7 p)(h:Srt o l)(k:Srt o m):l=m:=
 q3v (fun p x=>hw p ((h.mem p).1 x)) (fun p x=>hw p ((k.mem p).1 x)) h.asc k.asc fun p=>(h.mem p).trans (k.mem p).symm
end Go.Di
end
noncomputable section
namespace Go.Di
open Go.Ev
def toP(e:Ob):SS×SS:=(ssB e.1.data.toList,ssB e.2.data.toList)
theorem qu5(es:List Ob):(es.map toP).flatMap pC=es.flatMap sM:=by rw[List.flatMap_map];rfl
theorem zrm:∀{os:List (SS×SS)},(∀p∈os,l7 p)->∃ es:List Ob,os=es.map toP
 | [],_=>⟨[],rfl⟩
 |p::os,h=>by obtain⟨es,e⟩:=zrm fun q k=>h q (List.mem_cons_of_mem _ k);obtain⟨x,u,rfl⟩:=qz8 (h p List.mem_cons_self);exact⟨(⟨⟨x⟩⟩,⟨⟨u⟩⟩)::es,by rw[e];rfl⟩
theorem q0g(f fc:FuncId)(e:Ext){H:Hp}{v:AV}{os:List (SS×SS)}(hw:∀ p∈os,l7 p)(h:Gl 2 H v os.length (os.flatMap pC))(hl:os.length<=1000):∃r,qgb f fc e f [v,.fn fc [] []] H=some r/\Ok r fun r H'=>r=.aY []/\(∃os':List (SS×SS),os'.Perm os/\os'.Pairwise (fun p q=>nL q p=false)/\Gl 2 H' v os.length (os'.flatMap pC))/\Fm (In v) H H':=by
 have hb:∀ n:Nat,Nat.beq n n=true:=fun n=>Nat.beq_refl n;rcases h.is with⟨rfl,h0⟩|⟨b,o,x,q,L,rfl,h1,h2,h3,h4,h5⟩
 ·have:os=[]:=List.length_eq_zero_iff.1 h0;subst this;refine⟨.ok (.aY []) H,?_,?_⟩
  ·unfold qgb;simp only[hb,cond_true]
  ·exact Ok.ret ⟨rfl,⟨[],.refl _,.nil,h⟩,Fm.refl _ _⟩
 ·obtain⟨es,rfl⟩:=zrm hw;rw[qu5]at h3;rw[List.length_map]at hl ⊢;have hLl:o+es.length*2=L.length:=by
   have:=congrArg List.length h3;rw[List.length_drop,qh9]at this;omega
  have hsl:((z8 es).flatMap sM).length=es.length*2:=by rw[qh9,qpv]
  have hs:qvd H b o es.length=some (.ok (.aY []) (H.put b (aB q (bH L o ((z8 es).flatMap sM))))):=by
   unfold qvd;rw[h1,qb2,if_pos (by omega),h3,List.take_of_length_le (by rw[qh9];omega)];simp only[znz];rw[qb9 H b o _ _ q L h1 (by omega)];have:Nat.blt es.length 4611686018427387904=true:=by rw[Nat.blt_eq];omega
   simp only[this,cond_true]
  obtain⟨p1,p2⟩:=q6l es;refine⟨_,by unfold qgb;simp only[hb,cond_true];exact hs,Ok.ret ⟨rfl,⟨(z8 es).map toP,p1.map _,?_,?_⟩,(Fm.refl _ _).put b _ fun _=>⟨_,_,_,_,rfl⟩⟩⟩
  ·rw[List.pairwise_map];refine p2.imp fun{a c} h=>?_;cases hc:nL (toP c) (toP a)with
   |false=>rfl
   |true=>exact absurd ((zn6 _ _ _ _).1 hc) h
  ·rw[qu5];refine⟨by rw[hsl],.inr ⟨b,o,x,q,bH L o ((z8 es).flatMap sM),rfl,eD _ _ _,?_,?_,h4,h5⟩⟩
   ·rw[qdm _ _ _ (by omega)];exact h2
   ·unfold bH;simp_all
end Go.Di
end
noncomputable section
namespace Go.Di
open Go.Ev Go.Di.T Go.Sort
variable {C:Nat->Ev.Call} {L:List (List Nat)} {X:List aR}
abbrev G3:=(SS×SS)×SS
def gC(g:G3):List AV:=[g.1.1.v,g.1.2.v,g.2.v]
theorem zr5(g:G3):(gC g).length=3:=id rfl
def mK(A:List (SS×SS))(p:SS×SS):List G3:=(A.filter fun q=>decide (q.1=p.1)).map fun q=>(p,q.2)
def mH(A o:List (SS×SS)):List G3:=o.flatMap (mK A)
theorem ze5(A:List (SS×SS))(p:SS×SS){k:Nat}(h:k<A.length):mK (A.take (k+1)) p=mK (A.take k) p++if A[k].1=p.1 then[(p,A[k].2)]else[]:=by unfold mK;rw[List.take_succ_eq_append_getElem h,List.filter_append,List.map_append];congr 1;by_cases hc:A[k].1=p.1<;>simp[hc]
theorem q4a(A:List (SS×SS))(p:SS×SS):(mK A p).length<=A.length:=by unfold mK;rw[List.length_map];exact List.length_filter_le _ _
theorem qkx(A:List (SS×SS)):∀ o,(mH A o).length<=o.length*A.length
 | []=>by simp[mH]
 |p::o=>by have h1:=q4a A p;have h2:=qkx A o;unfold mH at *;rw[List.flatMap_cons,List.length_append,List.length_cons,Nat.add_mul];omega
theorem qvu(A:List (SS×SS)){o:List (SS×SS)}{i:Nat}(h:i<o.length):mH A (o.take (i+1))=mH A (o.take i)++mK A o[i]:=by unfold mH;rw[List.take_succ_eq_append_getElem h,List.flatMap_append,List.flatMap_singleton]
theorem qs6{call:Ev.Call}{H0:Hp}{ov av:AV}{o A:List (SS×SS)}{i:Nat}(ho:Rs 2 pC H0 ov o)(hA:Rs 2 pC H0 av A)(hi:i<o.length)(hol:o.length<=100)(yN:A.length<=10000){Q:pL}{q:pD}{m0:List G3}(hm0:m0.length<=1000000)(hq:∀ w H,Ac 3 gC H0 H w (m0++mK A o[i])->Ok (q w H) Q):∀(k a:Nat) (w:AV) (H:Hp),a<=A.length->A.length-a<k->Ac 3 gC H0 H w (m0++mK (A.take a) o[i]) -> Ok (qof call q ov av (iN i) k w (iN a) H) Q
 |0,a,_,_,_,h,_=>by omega
 |k+1,a,w,H,ha,hk,hw=>by
  show Ok (q82 call _ _ _ _ (qof call _ _ _ _ k) _ _ H) Q;unfold q82;have e0:=hA.len;by_cases hlt:a<A.length
  ·simp only[go_sem,e0,hlt];unfold qxq;have hf:=hw.fm;obtain⟨b1,o1,d1,d2,_,d3,d4⟩:=(hA.fm hf).at' a hlt;obtain⟨b2,o2,f1,f2,_,f3,f4⟩:=(ho.fm hf).at' i hi;have r1:dI (H.get b1) o1=.val (.str A[a].1.n A[a].1.a):=d4 0 (by show 0<2;decide);have r2:dI (H.get b1) (o1+1)=.val (.str A[a].2.n A[a].2.a):=d4 1 (by show 1<2;decide);have r3:dI (H.get b2) o2=.val (.str o[i].1.n o[i].1.a):=f4 0 (by show 0<2;decide);have es:=qkp A[a].1 o[i].1;have hr:=ze5 A o[i] hlt;have hrl:=q4a (A.take a) o[i];have htl:(A.take a).length<=A.length:=by rw[List.length_take];exact Nat.min_le_right _ _
   by_cases hc:A[a].1=o[i].1
   ·rw[decide_eq_true hc]at es;rw[if_pos hc]at hr;have f3':fU (H.get b2) o2 2=some [.str o[i].1.n o[i].1.a,.str o[i].2.n o[i].2.a]:=f3;simp only[go_sem,seval,d1,f1,r1,r3,es,f3',r2];have hN:Fm No H ((Hp.mk H.t (H.nx+14)).put (H.nx+11) (aB 0 [.str o[i].1.n o[i].1.a,.str o[i].2.n o[i].2.a,.str A[a].2.n A[a].2.a])):=((Fm.refl No H).up 14).aG _ _ (by omega);refine Ok.mY ((hw.no hN).add (o[i],A[a].2) 48 rfl (by rw[List.length_append];omega) (by rw[List.length_append];omega)) ?_;intro w2 H2 h2;unfold qk7;simp(disch:=omega)only[go_sem];refine qs6 ho hA hi hol yN hm0 hq k (a+1) w2 H2 (by omega) (by omega) ?_;simp_all
   ·rw[decide_eq_false hc]at es;rw[if_neg hc,List.append_nil]at hr;simp only[go_sem,d1,f1,r1,r3,es];unfold qk7;simp(disch:=omega)only[go_sem];refine qs6 ho hA hi hol yN hm0 hq k (a+1) w H (by omega) (by omega) ?_;simp_all
  ·simp only[go_sem,e0,hlt];rw[List.take_of_length_le (by omega)]at hw;exact hq w H hw
theorem q4j{call:Ev.Call}{H0:Hp}{ov av:AV}{o A:List (SS×SS)}(ho:Rs 2 pC H0 ov o)(hA:Rs 2 pC H0 av A)(hol:o.length<=100)(yN:A.length<=10000){Q:pL}{q:pD}(hq:∀ w H,Ac 3 gC H0 H w (mH A o)->Ok (q w H) Q):∀(k i:Nat) (w:AV) (H:Hp),i<=o.length->o.length-i<k->Ac 3 gC H0 H w (mH A (o.take i)) -> Ok (qgu call q ov av k w (iN i) H) Q
 |0,i,_,_,_,h,_=>by omega
 |k+1,i,w,H,hi,hk,hw=>by
  show Ok (q83 call _ _ _ (qgu call _ _ _ k) _ _ H) Q;unfold q83;have e0:=ho.len;by_cases hlt:i<o.length
  ·simp only[go_sem,e0,hlt];unfold qxp q84;rw[dH];have hl:=qkx A (o.take i);have htl:(o.take i).length<=o.length:=by rw[List.length_take];exact Nat.min_le_right _ _
   have hm:(o.take i).length*A.length<=100*10000:=Nat.mul_le_mul (by omega) yN;refine qs6 ho hA hlt hol yN (m0:=mH A (o.take i)) (by omega) (fun w2 H2 h2=>?_) cK 0 w H (Nat.zero_le _) (by rw[dM];omega) ?_
   ·unfold qk6;simp(disch:=omega)only[go_sem];refine q4j ho hA hol yN hq k (i+1) w2 H2 (by omega) (by omega) ?_;rw[qvu A hlt];exact h2
   ·have:mK (A.take 0) o[i]=[]:=by simp[mK]
    simp_all
  ·simp only[go_sem,e0,hlt];rw[List.take_of_length_le (by omega)]at hw;exact hq w H hw
theorem aMc(hC:bA C){k:Nat}(hk:4<=k){H:Hp}{sv v:AV}{l:List Tu}(hX:dK H sv X)(hS:wI X)(hv:Rs 6 Tu.cells H v l)(hn:l.length<=20)(hol:(l.foldl vY []).length<=100):Ok (C k (.f 15) [.agg [sv],v] H) fun r H'=>Rs 3 gC H' r (mH (aN X) (l.foldl vY []))/\Fm No H H':=by
 obtain⟨j,rfl⟩:=aX hk;rw[(hC j).zFg];unfold zFg zsw;have f0:Fm No H (aS H (aB 0 [sv])):=by exact lT
 refine Ok.ve (zzw hC (k:=j) (by omega) (hv.fm f0) hn) ?_;rintro w H1 ⟨hw,f1⟩;have g1:H1.get H.nx=aB 0 [sv]:=(f1.keep (by simp only[np,nq];omega)).trans (by simp(disch:=omega)only[go_sem]);simp only[go_sem,g1];refine Ok.ve (zsj hC (k:=j) (by omega) (hX.fm (f0.trans f1)) hS) ?_;intro w2 H2 ha;have hal:=hS.all X.length;rw[List.take_length]at hal;unfold q85;rw[dH];refine q4j (hw.fm ha.fm) (ha.rs wG) hol hal (fun w3 H3 h3=>?_) cK 0 .aA H2 (Nat.zero_le _) (by rw[dM];omega) (by simp only[List.take_zero];exact Ac.nil 3 _ (Fm.refl _ _));exact Ok.ret ⟨h3.rs zr5,((f0.trans f1).trans ha.fm).trans h3.fm⟩
end Go.Di
end
noncomputable section
namespace Go.Di
open Go.Ev Go.Di.T Go.Sort
variable {C:Nat->Ev.Call} {LA LO LQ:LP} {L:List (List Nat)} {X:List aR}
variable {H:Hp} {k:Nat}
theorem zii{v z:AV}(n:Nat)(h:aF v=.val z):iY n v=.new (.ptr n 0) (aB 0 [v]):=by cases v<;>first|rfl|cases h
theorem zf2:∀ l:List Tu,(l.flatMap nM).length=2*l.length
 | []=>rfl
 |t::l=>by rw[List.flatMap_cons,List.length_append,zf2 l];show 2+_=_;rw[List.length_cons];omega
theorem zec:∀ l:List Tu,(l.flatMap lM).length<=l.length
 | []=>Nat.le_refl _
 |t::l=>by
  rw[List.flatMap_cons,List.length_append,List.length_cons];have:=zec l;have h2:(lM t).length<=1:=by unfold lM;split<;>simp
  omega
theorem zz8{l:List Tu}(hw:∀ t∈l,WfT t):∀ p∈l.flatMap nM,l7 p:=fun p hp=>by
 obtain⟨t,ht,hp⟩:=List.mem_flatMap.1 hp;obtain⟨h1,h2⟩:=hw t ht;simp only[nM,List.mem_cons,List.not_mem_nil,or_false]at hp;rcases hp with rfl|rfl
 ·exact h1
 ·exact h2
theorem zy7{l:List Tu}(hw:∀ t∈l,WfT t):∀ p∈l.flatMap lM,l7 p:=fun p hp=>by
 obtain⟨t,ht,hp⟩:=List.mem_flatMap.1 hp;unfold lM at hp;split at hp
 ·rw[List.mem_singleton.1 hp];exact(hw t ht).2
 ·cases hp
structure IsO(H:Hp)(w:AV)(l:List (SS×SS)):Prop where
 rs:Rs 2 pC H w l
 cp:iC w=.val (iN (l.length))
theorem z1c(hC:bA C)(hR:qnt LQ C)(hO:qjx C)(hk:7<=k){v:AV}{l:List Tu}(hv:Rs 6 Tu.cells H v l)(hn:l.length<=20)(hw:∀ t∈l,WfT t):Ok (C k (.f 10) [v] H) fun w H'=>IsO H' w (l.foldl vY [])/\(l.foldl vY []).length<=40/\Fm No H H':=by
 obtain⟨j,rfl⟩:∃ j,k=j+7:=⟨k-7,by omega⟩;rw[(hC (j+6)).zFb];unfold zFb zs2;have f:Fm No H (aS H (aB 0 [v])):=by exact lT
 have hwf:=zz8 hw;have hl:=zf2 l;have eb:iY H.nx v=.new (.ptr H.nx 0) (aB 0 [v]):=zii _ hv.len;simp only[go_sem,eb];refine Ok.ve (zrz hC hR hO (zf4 hC j (hv.fm f) hn (lI _ _) (by simp only[np,nq];omega)) hwf (by omega) fun os' h1 h2=>zrp hwf h1 h2) ?_;rintro w H1 ⟨m,hs,h1,h2,h3,f1⟩;have e:=zrq hwf hs (zvs hw);subst e;exact Ok.ret ⟨⟨h1,h2⟩,by omega,f.trans f1⟩
theorem aIl(hC:bA C)(hR:qnt LQ C)(hO:qjx C)(hk:7<=k){v:AV}{l:List Tu}(hv:Rs 6 Tu.cells H v l)(hn:l.length<=20)(hw:∀ t∈l,WfT t):Ok (C k (.f 12) [v] H) fun w H'=>IsO H' w (l.foldl wD [])/\(l.foldl wD []).length<=40/\Fm No H H':=by
 obtain⟨j,rfl⟩:∃ j,k=j+7:=⟨k-7,by omega⟩;rw[(hC (j+6)).zFe];unfold zFe zsy;have f:Fm No H (aS H (aB 0 [v])):=by exact lT
 have hwf:=zy7 hw;have hl:=zec l;have eb:iY H.nx v=.new (.ptr H.nx 0) (aB 0 [v]):=zii _ hv.len;simp only[go_sem,eb];refine Ok.ve (zrz hC hR hO (zed hC j (hv.fm f) hn (lI _ _) (by simp only[np,nq];omega)) hwf (by omega) fun os' h1 h2=>zrp hwf h1 h2) ?_;rintro w H1 ⟨m,hs,h1,h2,h3,f1⟩;have e:=zrq hwf hs (zvr hw);subst e;exact Ok.ret ⟨⟨h1,h2⟩,by omega,f.trans f1⟩
theorem aJf(hC:bA C)(hk:1<=k){ob:Nat}{p:SS×SS}(hb:H.get ob=aB 0 [.str p.1.n p.1.a,.str p.2.n p.2.a])(hbl:ob<H.nx)(s:SS)(rv:AV):Ok (C k (.f 29) [.agg [.str s.n s.a,rv],.ptr ob 0] H) fun r H'=>r=.bool (decide (s=p.1))/\Fm No H H':=by obtain⟨j,rfl⟩:=aX hk;rw[(hC j).zFi];unfold zFi zsu;have es:=qkp s p.1;simp(disch:=omega)only[go_sem,hb,es];exact Ok.ret ⟨rfl,by exact lT⟩
theorem q44(hC:bA C){j:Nat}(hj:1<=j){H0:Hp}{sv:AV}{ob:Nat}{p:SS×SS}(hX:dK H0 sv X)(hn:X.length<=100)(hb:H0.get ob=aB 0 [.str p.1.n p.1.a,.str p.2.n p.2.a])(hbl:ob<H0.nx){Q:pL}{qr:pD}{q:pH}(hr:∀ s (h:s<X.length) H,X[s].name=p.1->Fm No H0 H->Ok (qr (iN s) H) Q)(hq:∀ H,(∀g∈X,g.name≠p.1)->Fm No H0 H->Ok (q H) Q):∀(k s:Nat) (H:Hp),s<=X.length->X.length-s<k->(∀g∈X.take s,g.name≠p.1)->Fm No H0 H->Ok (qob (C j) qr q sv (.fn 29 [] [.ptr ob 0]) (iN (X.length)) k (iN s) H) Q
 |0,s,_,_,h,_,_=>by omega
 |k+1,s,H,hs,hk,hm,hf=>by
  show Ok (q8w (C j) _ _ _ _ _ (qob (C j) _ _ _ _ _ k) _ H) Q;unfold q8w;by_cases hlt:s<X.length
  ·simp only[go_sem,hlt];unfold q8u;obtain⟨b1,o1,e1,e2,_,e3,_⟩:=(hX.fm hf).rs.at' s hlt;simp only[go_sem,e1,e3,qw1,List.cons_append,List.nil_append];refine Ok.ve (aJf hC hj (p:=p) ((hf.keep hbl).trans hb) (Nat.lt_of_lt_of_le hbl hf.nx) X[s].name X[s].rv) ?_;rintro _ H1 ⟨rfl,f1⟩;by_cases h:X[s].name=p.1
   ·rw[decide_eq_true h];exact hr s hlt H1 h (hf.trans f1)
   ·rw[decide_eq_false h];unfold q8v;simp(disch:=omega)only[go_sem];refine q44 hC hj hX hn hb hbl hr hq k (s+1) H1 (by omega) (by omega) (fun g hg=>?_) (hf.trans f1);rw[List.take_succ_eq_append_getElem hlt,List.mem_append,List.mem_singleton]at hg;rcases hg with hg|rfl
    ·exact hm g hg
    ·exact h
  ·simp only[go_sem,hlt];exact hq H (by rw[List.take_of_length_le (by omega)]at hm;exact hm) hf
theorem q5i{α β:Type}(f:α->List β):∀(l:List α) (s:Nat) (hs:s<l.length),(∀i (h:i<l.length),i≠s->f l[i]=[])->l.flatMap f=f l[s]
 | [],s,hs,_=>by simp at hs
 |a::l,0,_,h=>by
  rw[List.flatMap_cons];have:l.flatMap f=[]:=List.flatMap_eq_nil_iff.2 fun x hx=>by obtain⟨i,hi,rfl⟩:=List.getElem_of_mem hx;exact h (i+1) (by simpa using hi) (by omega)
  simp_all
 |a::l,s+1,hs,h=>by have h0:f a=[]:=h 0 (by simp) (by omega);rw[List.flatMap_cons,h0,List.nil_append,q5i f l s (by simpa using hs) fun i hi hn=>h (i+1) (by simpa using hi) (by omega)];rfl
theorem q4b(p:SS×SS):mK (aN X) p=X.flatMap fun g=>if g.name=p.1 then g.gs.map fun x=>(p,x.r.name)else[]:=by
 unfold mK aN;rw[List.filter_flatMap,List.map_flatMap];congr 1;funext g;by_cases h:g.name=p.1
 ·rw[if_pos h,List.filter_eq_self.2 (fun q hq=>by obtain⟨x,_,rfl⟩:=List.mem_map.1 hq;exact decide_eq_true h),List.map_map];rfl
 ·simp_all
theorem zv1{p:SS×SS}(h:∀ g∈X,g.name≠p.1):mK (aN X) p=[]:=by rw[q4b,List.flatMap_eq_nil_iff];simp_all
theorem zv2(hsp:(X.map aR.name).Nodup){p:SS×SS}{s:Nat}(hs:s<X.length)(hn:X[s].name=p.1):mK (aN X) p=X[s].gs.map fun x=>(p,x.r.name):=by
 have hu:=List.pairwise_iff_getElem.1 (List.pairwise_map.1 hsp);rw[q4b,q5i (fun g:aR=>if g.name=p.1 then g.gs.map fun x=>(p,x.r.name)else[]) X s hs fun i hi hne=>if_neg fun h=>by
  rcases Nat.lt_or_gt_of_ne hne with h1|h1
  ·exact hu i s hi hs h1 (h.trans hn.symm)
  ·exact hu s i hs hi h1 (hn.trans h.symm)]
 exact if_pos hn
theorem qwr{call:Ev.Call}{H0 K0:Hp}{sv w0:AV}{ob:Nat}{p:SS×SS}{m0:List G3}(hX:dK H0 sv X)(hP:wF X)(ha0:Ac 3 gC H0 K0 w0 m0)(hm0:m0.length<=1000000)(hb:K0.get ob=aB 0 [.str p.1.n p.1.a,.str p.2.n p.2.a])(hbl:ob<K0.nx)(hnb:¬ In w0 ob){s:Nat}(hs:s<X.length){Q:pL}{q:pD}(hq:∀ w H,mR 3 gC (In w0) K0 H w (m0++X[s].gs.map fun x=>(p,x.r.name))->Ok (q w H) Q):∀(k i:Nat) (w:AV) (H:Hp),i<=X[s].gs.length->X[s].gs.length-i<k->mR 3 gC (In w0) K0 H w (m0++(X[s].gs.take i).map fun x=>(p,x.r.name)) -> Ok (qip call q (.ptr ob 0) X[s].rv (iN (X[s].gs.length)) k w (iN i) H) Q
 |0,i,_,_,_,h,_=>by omega
 |k+1,i,w,H,hi,hk,hw=>by
  show Ok (qxy call _ _ _ _ (qip call _ _ _ _ k) _ _ H) Q;unfold qxy;by_cases hlt:i<X[s].gs.length
  ·simp only[go_sem,hlt];unfold qxw;have hsp:=(hX.fm (ha0.old hw.fm)).sp _ (List.getElem_mem hs);obtain⟨b1,o1,e1,e2,_,_,_,e6⟩:=hsp.at' i hlt;obtain⟨c0,c1,c2,c3,_,hrc⟩:=qmh (hsp.rel _ (List.getElem_mem hlt));rw[hrc]at e6;have aFd:=(hP.r _ (List.getElem_mem hs)).1;have go:=(hw.fm.get ob hbl hnb).trans hb;have nx:=hw.fm.nx;have fp:Fm No H ((aS H (aB 0 [.str 0 0,.aA,.int .u8 (.ofNat 0),.str 0 0,.str 0 0,.aA])).put H.nx (aB 0 [.str X[s].gs[i].r.name.n X[s].gs[i].r.name.a,X[s].gs[i].tv,c0,c1,c2,c3])):=by exact mO
   simp(disch:=first|omega|exact ti rfl|simp only[np,nq];first|done|omega)only[go_sem,seval,e1,e6,go];have hml:(m0++(X[s].gs.take i).map fun x=>(p,x.r.name)).length<=1000100:=by rw[List.length_append,List.length_map,List.length_take];omega
   refine Ok.ve ((hw.no (fp.push (aB 0 (gC (p,X[s].gs[i].r.name))))).add (p,X[s].gs[i].r.name) 48 rfl (by omega) (by omega)) ?_;intro w2 H2 h2;unfold qxx;simp(disch:=omega)only[go_sem];refine qwr hX hP ha0 hm0 hb hbl hnb hs hq k (i+1) w2 H2 (by omega) (by omega) ?_;rw[List.take_succ_eq_append_getElem hlt,List.map_append,List.map_singleton,<-List.append_assoc];exact h2
  ·simp only[go_sem,hlt];rw[List.take_of_length_le (by omega)]at hw;exact hq w H hw
theorem q5c(hC:bA C){j:Nat}(hj:2<=j){H0:Hp}{sv ov:AV}{sb:Nat}{o:List (SS×SS)}(hX:dK H0 sv X)(hV:gQ X)(hb:H0.get sb=aB 0 [sv])(hbl:sb<H0.nx)(ho:Rs 2 pC H0 ov o)(hol:o.length<=100)(yN:(aN X).length<=10000){Q:pL}{q:pD}(hq:∀ w H,Ac 3 gC H0 H w (mH (aN X) o)->Ok (q w H) Q):∀(k i:Nat) (w:AV) (H:Hp),i<=o.length->o.length-i<k->Ac 3 gC H0 H w (mH (aN X) (o.take i)) -> Ok (qff (C j) q (.ptr sb 0) ov (iN (o.length)) k w (iN i) H) Q
 |0,i,_,_,_,h,_=>by omega
 |k+1,i,w,H,hi,hk,hw=>by
  show Ok (q9g (C j) _ _ _ _ (qff (C j) _ _ _ _ k) _ _ H) Q;unfold q9g;by_cases hlt:i<o.length
  ·simp only[go_sem,hlt];unfold qxu;have hf:=hw.fm;have nx:=hf.nx;obtain⟨b1,o1,e1,e2,e3⟩:=(ho.fm hf).qJ hlt;have e3':fU (H.get b1) o1 2=some [.str o[i].1.n o[i].1.a,.str o[i].2.n o[i].2.a]:=e3;have gs:=(hf.keep hbl).trans hb;obtain⟨K,hK⟩:∃ K,K=((aS H (aB 0 [.str 0 0,.str 0 0])).put H.nx (aB 0 [.str o[i].1.n o[i].1.a,.str o[i].2.n o[i].2.a])):=⟨_,rfl⟩;have fK:Fm No H K:=by rw[hK];exact mO
   have nK:K.nx=H.nx+1:=by rw[hK];rfl
   have gK:K.get H.nx=aB 0 [.str o[i].1.n o[i].1.a,.str o[i].2.n o[i].2.a]:=by rw[hK];exact eD _ _ _
   have gsK:=(fK.keep (by omega)).trans gs;rw[hK]at gsK;simp(disch:=first|omega|exact ti rfl)only[go_sem,seval,e1,e3',gsK];rw[<-hK];rw[<-hK]at gsK;have hl:=qkx (aN X) (o.take i);have htl:(o.take i).length<=o.length:=by rw[List.length_take];exact Nat.min_le_right _ _
   have hm:(o.take i).length*(aN X).length<=100*10000:=Nat.mul_le_mul (by omega) yN;have hsucc:=qvu (aN X) hlt;have hn:=hV.pr.n;have yI:∀ w H,Ac 3 gC H0 H w (mH (aN X) (o.take (i+1)))->Ok (qhq (C j) (qff (C j) q (.ptr sb 0) ov (iN (o.length)) k) w (iN i) H) Q:=fun w H h=>by unfold qhq;simp(disch:=omega)only[go_sem];exact q5c hC hj hX hV hb hbl ho hol yN hq k (i+1) w H (by omega) (by omega) h
   have hXK:=(hX.fm hf).fm fK;have hlen:=hXK.rs.len;have ix:Ok (C j (.f 28) [sv,.fn 29 [] [.ptr H.nx 0]] K) fun r H'=>((∃s,∃hs:s<X.length,X[s].name=o[i].1/\r=iN s)\/((∀g∈X,g.name≠o[i].1)/\r=.int .i64 (.negSucc 0)))/\Fm No K H':=by obtain⟨j',rfl⟩:∃ j',j=j'+1:=⟨j-1,by omega⟩;rw[(hC j').zFj];unfold zFj zst;simp only[go_sem,hlen];unfold q8x;rw[dH];refine q44 hC (by omega) hXK (by omega) gK (by omega) (fun s hs H' hn f=>Ok.ret ⟨.inl ⟨s,hs,hn,rfl⟩,f⟩) (fun H' hn f=>?_) cK 0 K (Nat.zero_le _) (by rw[dM];omega) (fun g hg=>by simp at hg) (Fm.refl _ _);exact Ok.ret ⟨.inr ⟨hn,rfl⟩,f⟩
   refine Ok.ve ix ?_;rintro _ H1 ⟨⟨s,hs,hn1,rfl⟩|⟨hno,rfl⟩,f1⟩
   ·simp only[go_sem];unfold qxv;have gs1:=(f1.keep (by omega)).trans gsK;have hX1:=hXK.fm f1;obtain⟨b2,o2,d1,d2,_,d3,d4⟩:=hX1.rs.at' s hs;have r1:dI (H1.get b2) (o2+1)=.val X[s].rv:=d4 1 (by show 1<2;decide);have hl2:=(hX1.sp _ (List.getElem_mem hs)).len;simp only[go_sem,gs1,d1,r1,hl2];unfold qxz;rw[dH];have ha1:=(hw.no fK).no f1;have aFd:=(hV.pr.r _ (List.getElem_mem hs)).1;have n1:=f1.nx;refine qwr (H0:=H0) (sv:=sv) (p:=o[i]) hX hV.pr ha1 (by omega) ((f1.keep (by omega)).trans gK) (by omega) (fun h=>by have:=hw.gl.lt h;omega) hs (fun w2 H2 h2=>?_) cK 0 w H1 (Nat.zero_le _) (by rw[dM];omega) ?_
    ·refine yI w2 H2 ?_;rw[hsucc,zv2 hV.sp hs hn1];exact ha1.fin h2
    ·simp only[List.take_zero,List.map_nil,List.append_nil];exact ha1.start
   ·simp only[go_sem];refine yI w H1 ?_;rw[hsucc,zv1 hno,List.append_nil];exact(hw.no fK).no f1
  ·simp only[go_sem,hlt];rw[List.take_of_length_le (by omega)]at hw;exact hq w H hw
theorem zhh(hC:bA C)(hN:qbv C)(hE:qqt C)(hO:r9 C)(hS:qR C)(hR:rM LA LO C)(hQ:qnt LQ C)(hT:qjx C)(hk:1004<=k){sv v:AV}{l:List Tu}(hX:dK H sv X)(h:mM L X)(hv:Rs 6 Tu.cells H v l)(hn:l.length<=20)(hw:∀ t∈l,WfT t):Ok (C k (.f 8) [.agg [sv],v] H) fun r H'=>∃ w,r=.aY [w,iN 0]/\Rs 3 gC H' w (mH (aN X) (l.foldl vY []))/\iC w=.val (iN ((mH (aN X) (l.foldl vY [])).length))/\Fm No H H':=by
 obtain⟨j,rfl⟩:=aX hk;rw[(hC j).zFa];unfold zFa zs3;simp(disch:=omega)only[go_sem];have f:Fm No H (aS H (aB 0 [sv])):=by exact lT
 refine Ok.ve (z2d hC hN hE hO hS hR (k:=j) (by omega) (hX.fm f) h) ?_;rintro _ H1 ⟨rfl,f1⟩;have o7:=f.trans f1;have g0:H1.get H.nx=aB 0 [sv]:=(f1.keep (by simp only[np,nq];omega)).trans (by simp(disch:=omega)only[go_sem]);have n1:=f1.nx;simp only[np]at n1;simp only[go_sem];refine Ok.ve (z1c hC hQ hT (k:=j) (by omega) (hv.fm o7) hn hw) ?_;rintro ov H2 ⟨ho,hol,f2⟩;have e0:=ho.rs.len;simp only[go_sem,e0];unfold q9h;rw[dH];have hal:=h.val.pr.sml.all X.length;rw[List.take_length]at hal;refine q5c hC (by omega) ((hX.fm o7).fm f2) h.val ((f2.keep (by omega)).trans g0) (by have:=f2.nx;omega) ho.rs (by omega) hal (fun w H3 ha=>?_) cK 0 .aA H2 (Nat.zero_le _) (by rw[dM];omega) (by simp only[List.take_zero];exact Ac.nil 3 _ (Fm.refl _ _));unfold qfg;obtain⟨j',rfl⟩:∃ j',j=j'+1:=⟨j-1,by omega⟩;obtain⟨u,c1,c2,c3,_⟩:=ha.gl.clip;have hcl:C (j'+1) (.f 30) [w] H3=.ok u H3:=by rw[(hC j').zFk];unfold zFk zss;simp only[go_sem,ha.gl.dA,c1]
 simp only[go_sem,hcl];exact Ok.ret ⟨_,rfl,c2.rs zr5,c3,(o7.trans f2).trans ha.fm⟩
theorem z1h(p:SS×SS):gW (eqFields [(p1,⟨bZ⟩,0),(p1,⟨bZ⟩,1)]) (.agg (pC p)) (.agg (pC p))=some true:=by rw[aET,decide_eq_true rfl]
theorem aK8(g:G3):gW (eqFields [((pA 2),⟨gW (eqFields [(p1,⟨bZ⟩,0),(p1,⟨bZ⟩,1)])⟩,0),(p1,⟨bZ⟩,2)]) (.agg (gC g)) (.agg (gC g))=some true:=by show andThen (andThen (bZ g.1.1.v g.1.1.v) (andThen (bZ g.1.2.v g.1.2.v) (some true))) (andThen (bZ g.2.v g.2.v) (some true))=_;rw[wJ,wJ,wJ,decide_eq_true rfl,decide_eq_true rfl,decide_eq_true rfl];rfl
theorem q4x{call:Ev.Call}{H:Hp}{v w:AV}{l:List (SS×SS)}(hv:Rs 2 pC H v l)(hw:Rs 2 pC H w l)(hn:l.length<=100000){Q:pL}{qr:pD}{q:pH}(hq:Ok (q H) Q):∀(k i:Nat),i<=l.length->l.length-i<k->Ok (qoi call qr q v w k (iN i) H) Q
 |0,i,_,h=>by omega
 |k+1,i,hi,hk=>by
  show Ok (q9a call _ _ _ _ (qoi call _ _ _ _ k) _ H) Q;unfold q9a;have e0:=hw.len;by_cases hlt:i<l.length
  ·simp only[go_sem,e0,hlt];unfold q88;obtain⟨b1,o1,e1,_,e3⟩:=hv.qJ hlt;obtain⟨b2,o2,d1,_,d3⟩:=hw.qJ hlt;have e4:=z1h l[i];simp only[go_sem,e1,e3,d1,d3,e4];unfold q89;simp(disch:=omega)only[go_sem];exact q4x hv hw hn hq k (i+1) (by omega) (by omega)
  ·simp only[go_sem,e0,hlt];exact hq
theorem zf7(hC:bA C)(hk:1<=k){v w:AV}{l:List (SS×SS)}(hv:IsO H v l)(hw:Rs 2 pC H w l)(hn:l.length<=100000):C k (.f 9) [v,w] H=.ok (.bool true) H:=by
 obtain⟨j,rfl⟩:=aX hk;have:Ok (C (j+1) (.f 9) [v,w] H) fun r H'=>r=.bool true/\H'=H:=by rw[(hC j).zFd];unfold zFd zsz;have e0:=hv.rs.len;have e1:=hw.len;have e2:=hv.cp;simp only[go_sem,e0,e1,e2];unfold qxs q9b;rw[dH];refine q4x hv.rs hw hn ?_ cK 0 (Nat.zero_le _) (by rw[dM];omega);exact Ok.ret ⟨rfl,rfl⟩
 obtain⟨_,_,e,rfl,rfl⟩:=this;exact e
theorem q5a{call:Ev.Call}{H:Hp}{v w:AV}{l:List G3}(hv:Rs 3 gC H v l)(hw:Rs 3 gC H w l)(hn:l.length<=900000){Q:pL}{qr:pD}{q:pH}(hq:Ok (q H) Q):∀(k i:Nat),i<=l.length->l.length-i<k->Ok (qod call qr q v w k (iN i) H) Q
 |0,i,_,h=>by omega
 |k+1,i,hi,hk=>by
  show Ok (q80 call _ _ _ _ (qod call _ _ _ _ k) _ H) Q;unfold q80;have e0:=hw.len;by_cases hlt:i<l.length
  ·simp only[go_sem,e0,hlt];unfold q8y;obtain⟨b1,o1,e1,_,e3⟩:=hv.qJ hlt;obtain⟨b2,o2,d1,_,d3⟩:=hw.qJ hlt;have e4:=aK8 l[i];simp only[go_sem,e1,e3,d1,d3,e4];unfold q8z;simp(disch:=omega)only[go_sem];exact q5a hv hw hn hq k (i+1) (by omega) (by omega)
  ·simp only[go_sem,e0,hlt];exact hq
theorem zon(hC:bA C)(hk:1<=k){v w:AV}{l:List G3}(hv:Rs 3 gC H v l)(hc:iC v=.val (iN (l.length)))(hw:Rs 3 gC H w l)(hn:l.length<=900000):C k (.f 14) [v,w] H=.ok (.bool true) H:=by
 obtain⟨j,rfl⟩:=aX hk;have:Ok (C (j+1) (.f 14) [v,w] H) fun r H'=>r=.bool true/\H'=H:=by rw[(hC j).zFh];unfold zFh zsv;have e0:=hv.len;have e1:=hw.len;simp only[go_sem,e0,e1,hc];unfold qxo q81;rw[dH];refine q5a hv hw hn ?_ cK 0 (Nat.zero_le _) (by rw[dM];omega);exact Ok.ret ⟨rfl,rfl⟩
 obtain⟨_,_,e,rfl,rfl⟩:=this;exact e
theorem qn4(hC:bA C)(hN:qbv C)(hE:qqt C)(hO:r9 C)(hS:qR C)(hR:rM LA LO C)(hQ:qnt LQ C)(hT:qjx C)(hk:1100<=k)(hlive:∀ k H,1<=k->C k (.f 6) [] H=.ok (.bool true) H){cv lv v:AV}{ls:List Q4}{l:List Tu}(hv:gN H cv L)(hq:Rs 4 Q4.cells H lv ls)(hl:Rs 6 Tu.cells H v l)(hw:∀ t∈l,WfT t):Ok (zEz (C k) (.agg [cv,lv]) v H) fun r _=>r=.bool true:=by
 unfold zEz zs4;have e0:=hl.len;by_cases c:20<l.length
 ·simp only[go_sem,e0,c];rw[hlive k _ (by omega)];exact Ok.ret rfl
 simp only[go_sem,e0,c];rw[qom];unfold qkg;simp(disch:=omega)only[go_sem];have hn:l.length<=20:=by omega
 have f0:Fm No H (aS H (aB 0 [cv,lv])):=by exact lT
 refine Ok.ve (z08 hC (k:=k) (by omega) (hv.fm f0) (hq.fm f0) fun X hX=>⟨(mM.val (L:=L) ⟨hX⟩).pr.sml,mM.lo ⟨hX⟩⟩) ?_;rintro _ H1 ⟨sv,X,w,m,rfl,hs,hm,_,_,_,f1⟩;have h:mM L X:=⟨hm⟩;obtain⟨G,hG⟩:∃ G,G=((aS H1 (aB 0 [.aA])).put H1.nx (aB 0 [sv])):=⟨_,rfl⟩;have fG:Fm No H1 G:=by rw[hG];exact mO
 have nG:G.nx=H1.nx+1:=by rw[hG];rfl
 have gG:G.get H1.nx=aB 0 [sv]:=by rw[hG];exact eD _ _ _
 simp(disch:=first|omega|exact ti rfl)only[go_sem,seval];rw[<-hG,qon];unfold qkh;have fA:=(f0.trans f1).trans fG;have hlG:=hl.fm fA;have hX:=hs.fm fG;simp only[go_sem,seval,gG];refine Ok.ve (zhh hC hN hE hO hS hR hQ hT (k:=k) (by omega) hX h hlG hn hw) ?_;rintro _ H2 ⟨gw,rfl,hg,cg,f2⟩;have hl2:=hlG.fm f2;rw[qoo];refine Ok.ve (z1c hC hQ hT (k:=k) (by omega) hl2 hn hw) ?_;rintro ov H3 ⟨ho,hol,f3⟩;have hl3:=hl2.fm f3;refine Ok.ve (zzw hC (k:=k) (by omega) hl3 hn) ?_;rintro rv H4 ⟨hr,f4⟩;have q1:=zf7 hC (k:=k) (by omega) ⟨ho.rs.fm f4,ho.cp⟩ hr (by omega);have hl4:=hl3.fm f4;simp only[go_sem,q1];refine Ok.ve (aIl hC hQ hT (k:=k) (by omega) hl4 hn hw) ?_;rintro uv H5 ⟨hu,hul,f5⟩;have hl5:=hl4.fm f5;refine Ok.ve (aJ7 hC (k:=k) (by omega) hl5 hn) ?_;rintro rv2 H6 ⟨hr2,f6⟩;have q2:=zf7 hC (k:=k) (by omega) ⟨hu.rs.fm f6,hu.cp⟩ hr2 (by omega);have hl6:=hl5.fm f6;have fB:=(((f2.trans f3).trans f4).trans f5).trans f6;have g6:=(fB.keep (by omega)).trans gG;simp only[go_sem,q2,g6];refine Ok.ve (aMc hC (k:=k) (by omega) (hX.fm fB) h.val.pr.sml hl6 hn (by omega)) ?_;rintro rv3 H7 ⟨hr3,f7⟩;have hln:=qkx (aN X) (l.foldl vY []);have hA:(aN X).length<=12:=by rw[h.len];exact Nat.min_le_right _ _
 have hm2:(l.foldl vY []).length*(aN X).length<=40*12:=Nat.mul_le_mul hol hA;have q3:=zon hC (k:=k) (by omega) (hg.fm (((((f3.trans f4).trans f5).trans f6).trans f7))) cg hr3 (by omega);have q4:=hlive k H7 (by omega);simp only[go_sem,q3,q4];exact Ok.ret rfl
end Go.Di
end
noncomputable section
namespace Go.Di
open Go.Ev
variable {H:Hp} {i j k n z:Nat}
def egO(e:Edge):Eg:=⟨.ofNat e.f,.ofNat e.t,e.s⟩
theorem zx6(es:List Edge):(es.map egO).flatMap egV=zH es:=by
 induction es with
 |nil=>rfl
 |cons a l ih=>rw[List.map_cons,List.flatMap_cons,ih];rfl
theorem zho:∀ es:List Edge,qng (zH es)=some (es.map egO)
 | []=>rfl
 |a::l=>by show qng (iN (a.f)::iN (a.t):: .bool a.s::zH l)=_;rw[qng,zho l];rfl
theorem z1v(x y:Edge):jG (egO x) (egO y)=qY x y:=by unfold jG qY or3 egO wM sgn cI;simp only[orI,iO];by_cases h:iO (.ofNat x.f) (.ofNat y.f)=0<;>by_cases h2:iO (.ofNat x.t) (.ofNat y.t)=0<;>unfold iO at h h2<;>simp only[h,h2,if_true,if_false]<;>(try split)<;>simp_all
theorem zex(es:List Edge):qj3 (es.map egO)=(sortE es).map egO:=
 (List.map_mergeSort fun a _ b _=>by show(!decide (qY b a<0))=_;rw[z1v]).symm
theorem q0k(f fc:FuncId)(e:Ext){v:AV}{es:List Edge}(h:Gl 3 H v es.length (zH es))(hl:es.length<=1000000):∃r,qex f fc e f [v,.fn fc [] []] H=some r/\Ok r fun r H'=>r=.aY []/\Gl 3 H' v es.length (zH (sortE es))/\Fm (In v) H H':=by
 have hb:∀ n:Nat,Nat.beq n n=true:=fun n=>Nat.beq_refl n;rcases h.is with⟨rfl,h0⟩|⟨b,o,x,q,L,rfl,h1,h2,h3,h4,h5⟩
 ·have:es=[]:=List.length_eq_zero_iff.1 h0;subst this;refine⟨.ok (.aY []) H,?_,?_⟩
  ·unfold qex;simp only[hb,cond_true]
  ·have hz:sortE []=[]:=by simp[sortE]
   rw[hz];exact Ok.ret ⟨rfl,h,Fm.refl _ _⟩
 ·have hLl:o+es.length*3=L.length:=by
   have:=congrArg List.length h3;rw[List.length_drop,q1x]at this;omega
  have hsl:(zH (sortE es)).length=es.length*3:=by rw[q1x,qvf]
  have hs:qvg H b o es.length=some (.ok (.aY []) (H.put b (aB q (bH L o (zH (sortE es)))))):=by
   unfold qvg;rw[h1,qb2,if_pos (by omega),h3,List.take_of_length_le (by rw[q1x];omega)];simp only[zho,zex,zx6];rw[qb9 H b o _ _ q L h1 (by omega)];have:Nat.blt es.length 4611686018427387904=true:=by rw[Nat.blt_eq];omega
   simp only[this,cond_true]
  refine⟨_,by unfold qex;simp only[hb,cond_true];exact hs,Ok.ret ⟨rfl,⟨by rw[hsl],.inr ⟨b,o,x,q,bH L o (zH (sortE es)),rfl,eD _ _ _,?_,?_,h4,h5⟩⟩,(Fm.refl _ _).put b _ fun _=>⟨_,_,_,_,rfl⟩⟩⟩
  ·rw[qdm _ _ _ (by omega)];exact h2
  ·unfold bH;rw[List.drop_of_length_le (l:=L) (by omega),List.append_nil,List.drop_append_of_le_length (by rw[List.length_take];omega),List.drop_of_length_le (by rw[List.length_take];omega),List.nil_append]
def zna(l:List AV):bM:=.cells (iJ l.length) l.length (cellsOf l) true 0
theorem zfe(l:List AV)(o z:Nat)(h:o+z<=l.length):fU (zna l) o z=some ((l.drop o).take z):=by
 show(bif Nat.ble (o+z) l.length then some (Ev.q8 (cellsOf l) z o)else none)=_;rw[ble_eq,decide_eq_true h,cond_true];congr 1
 induction z generalizing o with
 |zero=>simp;rfl
 |succ z ih=>show(dG _ o).f (cellsOf l)::Ev.q8 (cellsOf l) z (o+1)=_;rw[ih (o+1) (by omega),qci _ _ (Nat.lt_of_lt_of_le (show o<l.length by omega) (qbz _)),List.drop_eq_getElem_cons (show o<l.length by omega),List.take_succ_cons];simp[List.getD_eq_getElem?_getD,show o<l.length by omega]
theorem qvv(l:List AV)(o:Nat):dI (zna l) o=match l[o]? with|some v=>.val v|none=>.bad:=by
 show(bif Nat.blt o l.length then R0.val ((dG _ o).f (cellsOf l))else .bad)=_;rw[blt_eq];by_cases h:o<l.length
 ·rw[decide_eq_true h,qci _ _ (Nat.lt_of_lt_of_le h (qbz _))];simp[h]
 ·rw[decide_eq_false h];simp[Nat.le_of_not_lt h]
theorem qnf(b:Nat):Hp.empty.get b=.dead:=by show(bif Nat.blt b 2097152 then(dG HD b).f (same bM.dead HD)else bM.dead)=bM.dead;rw[qgj];cases Nat.blt b 2097152<;>rfl
theorem add_add(a:Addr)(x y:Nat):(a.add x).add y=a.add (x+y):=by
 unfold Addr.add;by_cases hx:x=0
 ·subst hx;simp
 ·by_cases hy:y=0
  ·subst hy;simp
  ·simp[hx,hy,Nat.add_assoc]
theorem q54{a:Addr}(h:a.spot=none)(x:Nat):a.add x=⟨a.block,a.off+x,none⟩:=by
 obtain⟨ab,ao,az⟩:=a;cases h;unfold Addr.add;by_cases hx:x=0
 ·subst hx;simp
 ·simp[hx]
theorem qjq{w:World}{a:Addr}{v:Value}(h:w.cell? a=some v):a.spot=none/\a.block<w.heap.size:=by
 unfold World.cell? at h;rcases hx:w.heap[a.block]? with _|o
 ·rw[hx]at h;cases h
 ·refine⟨?_,(Array.getElem?_eq_some_iff.1 hx).1⟩;rw[hx]at h;cases o with
  |cells c e z=>
   rcases hs:a.spot with _|s
   ·rfl
   ·rw[hs]at h;cases h
  |_=>cases h
structure Ro where
 l:List AV
 (b o:Nat)
def Ro.blk(k:Ro):bM:=if k.l=[]then .dead else zna k.l
def qs0(ks:List Ro):Hp:=ks.foldl (fun H k=>aS H k.blk) Hp.empty
def aBP(ks:List Ro):Im:=fun b=>(ks[b]?).map fun k=>⟨k.b,k.o,0,0⟩
theorem qvp:∀(ks:List Ro) (H:Hp),(∀b,H.nx<=b->H.get b=.dead) -> (ks.foldl (fun H k=>aS H k.blk) H).nx=H.nx+ks.length/\∀ b,(ks.foldl (fun H k=>aS H k.blk) H).get b=if b<H.nx then H.get b else match ks[b-H.nx]? with|some k=>k.blk|none=>.dead
 | [],H,h=>⟨rfl,fun b=>by
  by_cases hb:b<H.nx
  ·rw[if_pos hb];rfl
  ·rw[if_neg hb];exact h b (by omega)⟩
 |k::ks,H,h=>by
  obtain⟨h1,h2⟩:=qvp ks (aS H k.blk) (fun b hb=>by have:H.nx+1<=b:=hb;rw[qgk,if_neg (by omega)];exact h b (by omega));have hx:(aS H k.blk).nx=H.nx+1:=rfl;rw[List.foldl_cons];refine⟨by rw[h1,hx,List.length_cons];omega,fun b=>?_⟩;rw[h2,hx,qgk];by_cases hb:b<H.nx
  ·rw[if_pos (by omega),if_neg (by omega),if_pos hb]
  ·by_cases hb2:b=H.nx
   ·subst hb2;rw[if_pos (Nat.lt_succ_self _),if_pos rfl,if_neg (Nat.lt_irrefl _),Nat.sub_self];rfl
   ·rw[if_neg (by omega),if_neg hb,show b-H.nx=(b-(H.nx+1))+1 by omega,List.getElem?_cons_succ]
theorem qc0(ks:List Ro):(qs0 ks).nx=ks.length/\∀ b,(qs0 ks).get b=match ks[b]? with|some k=>k.blk|none=>.dead:=by obtain⟨h1,h2⟩:=qvp ks Hp.empty fun b _=>qnf b;refine⟨by show(ks.foldl _ Hp.empty).nx=_;rw[h1];exact Nat.zero_add _,fun b=>?_⟩;show(ks.foldl _ Hp.empty).get b=_;rw[h2,if_neg (show ¬b<Hp.empty.nx from Nat.not_lt_zero b)];rfl
def aJd(w:World)(ι:Im)(k:Ro):Prop:=∀ j (hj:j<k.l.length),∃V,w.cell? ⟨k.b,k.o+j,none⟩=some V/\aL ι k.l[j] V/\V.oneCell=true
theorem z2h{w:World}{ks:List Ro}(h:∀ k∈ks,aJd w (aBP ks) k):HR (aBP ks) (qs0 ks) w/\∀ b,((qs0 ks).get b).wr=false:=by
 have hw:∀ b,((qs0 ks).get b).wr=false:=fun b=>by
  rw[(qc0 ks).2];split
  ·unfold Ro.blk;split<;>rfl
  ·rfl
 refine⟨⟨oG,fun b _=>?_,fun b m _ hd hm=>?_,fun b c m m' _ _ h=>?_,fun b h=>?_,fun b h _=>?_⟩,hw⟩
 ·rw[(qc0 ks).2];by_cases hb:b<ks.length
  ·rw[List.getElem?_eq_getElem hb];show BR _ _ _ ks[b].blk;unfold Ro.blk;by_cases he:ks[b].l=[]
   ·rw[if_pos he];trivial
   rw[if_neg he];refine⟨⟨ks[b].b,ks[b].o,0,0⟩,by unfold aBP;rw[List.getElem?_eq_getElem hb];rfl,⟨qbz _,rfl⟩,fun i hi=>?_,fun h=>by cases h⟩;obtain⟨V,h1,h2,h3⟩:=h _ (List.getElem_mem hb) i hi;refine⟨V,h1,?_,h3,fun h=>by cases h⟩;rw[qci _ _ (Nat.lt_of_lt_of_le hi (qbz _))];simpa [hi] using h2
  ·rw[List.getElem?_eq_none (by omega)];trivial
 ·unfold aBP at hm;by_cases hb:b<ks.length
  ·rw[(qc0 ks).2,List.getElem?_eq_getElem hb]at hd;rw[List.getElem?_eq_getElem hb]at hm;cases hm;have he:ks[b].l≠[]:=fun he=>by
    have:ks[b].blk=.dead:=by unfold Ro.blk;rw[if_pos he]
    simp only[this]at hd;cases hd
   obtain⟨V,h1,_⟩:=h _ (List.getElem_mem hb) 0 (List.length_pos_iff.2 he);exact(qjq h1).2
  ·rw[List.getElem?_eq_none (by omega)]at hm;cases hm
 ·rw[hw b]at h;cases h
 ·rw[(qc0 ks).1]at h;unfold aBP;rw[List.getElem?_eq_none h];rfl
 ·rw[(qc0 ks).1]at h;rw[(qc0 ks).2,List.getElem?_eq_none h]
theorem q4c{ks:List Ro}{r:Ro}(h:ks[k]? =some r)(he:r.l≠[]):(qs0 ks).get k=zna r.l/\k<(qs0 ks).nx:=by rw[(qc0 ks).2,(qc0 ks).1,h];exact⟨if_neg he,(List.getElem?_eq_some_iff.1 h).1⟩
theorem flat_get{α:Type}{f:α->List AV}(hf:∀ x,(f x).length=z)(l:List α)(hi:i<l.length)(hj:j<z):(l.flatMap f)[i*z+j]? =(f l[i])[j]?:=by rw[<-qhj hf l i hi,List.getElem?_take,if_pos hj,List.getElem?_drop]
structure Fl{α:Type}(w:World)(z:Nat)(f:α->List AV)(v:Value)(k:Nat)(y:AV)(l:List α)(r:Ro):Prop where
 one:v.oneCell=true
 rep:∀ ι:Im,ι k=some ⟨r.b,r.o,0,0⟩->aL ι y v
 eq:r.l=l.flatMap f
 ok:∀ ι,aJd w ι r
 sl:((y=.aA\/y=.sle)/\l=[])\/∃ m,y=.sl k 0 l.length m true
theorem Fl.rs{α:Type}{w:World}{f:α->List AV}{v:Value}{y:AV}{l:List α}{r:Ro}(hf:∀ x,(f x).length=z)(hz:0<z)(h:Fl w z f v k y l r){ks:List Ro}(hk:ks[k]? =some r):Rs z f (qs0 ks) y l:=by
 rcases h.sl with⟨rfl|rfl,rfl⟩|⟨m,rfl⟩
 ·exact⟨rfl,fun i hi=>by simp at hi⟩
 ·exact⟨rfl,fun i hi=>by simp at hi⟩
 ·refine⟨rfl,fun i hi=>?_⟩;have hl:=qcv hf l;have hm:i*z+z<=l.length*z:=by
   have:(i+1)*z<=l.length*z:=Nat.mul_le_mul_right z hi;rw[Nat.add_mul,Nat.one_mul]at this;exact this
  obtain⟨hg,hx⟩:=q4c hk (by rw[h.eq];intro h0;rw[h0]at hl;simp only[List.length_nil]at hl;omega);rw[h.eq]at hg;refine⟨k,0+i*z,sP _ _ _ _ _ _ _ _ hi,hx,⟨_,_,_,_,rfl⟩,?_,fun j hj=>?_⟩
  ·rw[hg,Nat.zero_add,zfe _ _ _ (by omega),qhj hf l i hi]
  ·rw[hg,Nat.zero_add,qvv,flat_get hf l hi (by rw[hf]at hj;exact hj),List.getElem?_eq_getElem hj]
theorem zxf{α:Type}{f:α->List AV}(hf:∀ x,(f x).length=z)(hz:0<z){Hd:Type}{enc:TypeId×Value->Hd}{P:Program}{w:World}{fuel:Nat}{t e:TypeId}{cs:List Value}{x:DataW Hd×List MemPlace}(ht:P.underlying t=some (.slice e))(hce:P.cellsOf e=z)(el:∀{n:Nat} {cs:List Value} {x:DataW Hd×List MemPlace},DataW.trod enc P w 0 (fun _=>true) true n e cs=some x->∃ a:α,∀j,j<z->∃ u V,(f a)[j]? =some u/\cs[j]? =some V/\(∀ι:Im,aL ι u V)/\V.oneCell=true)(h:DataW.trod enc P w 0 (fun _=>true) true fuel t cs=some x)(k:Nat):∃ v y l r,cs=[v]/\Fl w z f v k y l r:=by
 rcases DataW.trod_slice ht h with⟨h0,_⟩|⟨a,len,cap,elems,rest,n,_,hcs,_,_,hl,_,hlen,hel,_⟩
 ·exact⟨_,.aA,[],⟨[],0,0⟩,h0,rfl,fun _ _=>by simp only[aL],rfl,fun _ j hj=>by simp at hj,.inl ⟨.inl rfl,rfl⟩⟩
 ·rcases Nat.eq_zero_or_pos len with h0|h0
  ·subst h0;exact⟨_,.sle,[],⟨[],0,0⟩,hcs,rfl,fun _ _=>by simp only[aL];exact⟨_,_,rfl⟩,rfl,fun _ j hj=>by simp at hj,.inl ⟨.inr rfl,rfl⟩⟩
  ·have cell:∀ i,i<len->∃ b:α,∀j,j<z->∃ u V,(f b)[j]? =some u/\w.cell? (a.add (i*z+j))=some V/\(∀ι:Im,aL ι u V)/\V.oneCell=true:=by
    intro i hi;have h1:=hel i hi;rw[List.getElem?_eq_getElem (by omega),hce,Option.bind_eq_some_iff]at h1;obtain⟨cs',h2,h3⟩:=h1;obtain⟨b,hb⟩:=el h3;refine⟨b,fun j hj=>?_⟩;obtain⟨u,V,h5,h6,h7⟩:=hb j hj;have h8:=(World.cells?_some h2).2.2 j hj;rw[add_add,h6]at h8;exact⟨u,V,h5,h8,h7⟩
   have hspot:a.spot=none:=by obtain⟨b,hb⟩:=cell 0 h0;obtain⟨u,V,_,h6,_⟩:=hb 0 hz;rw[Nat.zero_mul]at h6;exact(qjq (a:=a) h6).1
   obtain⟨g,hg⟩:∃ g:Nat->α,∀i,i<len->∀ j,j<z->∃ u V,(f (g i))[j]? =some u/\w.cell? (a.add (i*z+j))=some V/\(∀ι:Im,aL ι u V)/\V.oneCell=true:=
    ⟨fun i=>if h:i<len then Classical.choose (cell i h)else Classical.choose (cell 0 h0),fun i hi=>by simp only[hi,dif_pos];exact Classical.choose_spec (cell i hi)⟩
   refine⟨_,.sl k 0 len cap true,(List.range len).map g,⟨((List.range len).map g).flatMap f,a.block,a.off⟩,hcs,rfl,fun ι hι=>?_,rfl,fun ι J hJ=>?_,.inr ⟨cap,by simp⟩⟩
   ·simp only[aL];refine⟨hl,_,hι,?_⟩;obtain⟨ab,ao,az⟩:=a;cases hspot;rfl
   ·have hJ':J<len*z:=by
     have:=qcv hf ((List.range len).map g);simp only at hJ;rw[this]at hJ;simpa using hJ
    have hi:J / z<len:=Nat.div_lt_of_lt_mul (by rw[Nat.mul_comm];exact hJ');have hj:=Nat.mod_lt J hz;have e:J / z*z+J%z=J:=by rw[Nat.mul_comm];exact Nat.div_add_mod J z
    obtain⟨u,V,h5,h6,h7,h8⟩:=hg _ hi _ hj;have h9:=flat_get hf ((List.range len).map g) (i:=J / z) (j:=J%z) (by simpa using hi) hj;rw[e]at h9 h6;rw[q54 hspot]at h6;refine⟨V,h6,?_,h8⟩;have:(((List.range len).map g).flatMap f)[J]? =some u:=by rw[h9,<-h5];simp
    rw[List.getElem?_eq_getElem hJ]at this;injection this with this;simp only[this];exact h7 ι
def fB(x:Fin 256):List AV:=[.int .u8 (.ofNat x.val)]
structure Nq where
 v:Value
 y:AV
 l:List (Fin 256)
 r:Ro
def Nq.L(q:Nq):List Nat:=q.l.map Fin.val
structure Ns(w:World)(v:Value)(k b0:Nat)(y:AV)(qs:List Nq)(r:Ro):Prop where
 one:v.oneCell=true
 rep:∀ ι:Im,ι k=some ⟨r.b,r.o,0,0⟩->aL ι y v
 eq:r.l=qs.map Nq.y
 at':∀ j (h:j<qs.length),w.cell? ⟨r.b,r.o+j,none⟩=some qs[j].v/\Fl w 1 fB qs[j].v (b0+j) qs[j].y qs[j].l qs[j].r
 sl:((y=.aA\/y=.sle)/\qs=[])\/∃ m,y=.sl k 0 qs.length m true
theorem zih{Hd:Type}{enc:TypeId×Value->Hd}{P:Program}{w:World}{u:TypeId}(hu:P.underlying u=some (.int .u8)){cs:List Value}{x:DataW Hd×List MemPlace}(h:DataW.trod enc P w 0 (fun _=>true) true n u cs=some x):∃a:Fin 256,cs=[.int .u8 (.ofNat a.val)]:=by obtain⟨y,h5,_,h6⟩:=DataW.trod_int hu h;simp only[Lit.wf,Bool.and_eq_true,decide_eq_true_eq]at h6;have h9:0<=y/\y<=255:=⟨h6.1,h6.2⟩;refine⟨⟨y.toNat,by omega⟩,?_⟩;rw[h5];congr 2;show y=((y.toNat:Nat):Int);omega
theorem aNj{Hd:Type}{enc:TypeId×Value->Hd}{P:Program}{w:World}{fuel:Nat}{t e u:TypeId}{cs:List Value}{x:DataW Hd×List MemPlace}(ht:P.underlying t=some (.slice e))(he:P.underlying e=some (.slice u))(hu:P.underlying u=some (.int .u8))(hce:P.cellsOf e=1)(hcu:P.cellsOf u=1)(h:DataW.trod enc P w 0 (fun _=>true) true fuel t cs=some x)(k b0:Nat):∃ v y qs r,cs=[v]/\Ns w v k b0 y qs r:=by
 rcases DataW.trod_slice ht h with⟨h0,_⟩|⟨a,len,cap,elems,rest,n,_,hcs,_,_,hl,_,hlen,hel,_⟩
 ·exact⟨_,.aA,[],⟨[],0,0⟩,h0,rfl,fun _ _=>by simp only[aL],rfl,fun j hj=>by simp at hj,.inl ⟨.inl rfl,rfl⟩⟩
 ·rcases Nat.eq_zero_or_pos len with h0|h0
  ·subst h0;exact⟨_,.sle,[],⟨[],0,0⟩,hcs,rfl,fun _ _=>by simp only[aL];exact⟨_,_,rfl⟩,rfl,fun j hj=>by simp at hj,.inl ⟨.inr rfl,rfl⟩⟩
  ·have cell:∀ i,i<len->∃ q:Nq,w.cell? (a.add i)=some q.v/\Fl w 1 fB q.v (b0+i) q.y q.l q.r:=by
    intro i hi;have h1:=hel i hi;rw[List.getElem?_eq_getElem (by omega),hce,Option.bind_eq_some_iff,Nat.mul_one]at h1;obtain⟨cs',h2,h3⟩:=h1;obtain⟨v,y,l,r,rfl,hF⟩:=zxf (z:=1) (f:=fB) (fun _=>rfl) Nat.one_pos he hcu (fun h=>by
     obtain⟨a,rfl⟩:=zih hu h;refine⟨a,fun j hj=>?_⟩;obtain rfl:j=0:=by omega
     exact⟨_,_,rfl,rfl,fun ι=>by simp only[aL],rfl⟩) h3 (b0+i)
    have h7:=(World.cells?_some h2).2.2 0 (by omega);rw[add_add]at h7;exact⟨⟨v,y,l,r⟩,h7,hF⟩
   have hspot:a.spot=none:=by obtain⟨q,hq,_⟩:=cell 0 h0;exact(qjq (a:=a) hq).1
   obtain⟨g,hg⟩:∃ g:Nat->Nq,∀i,i<len->w.cell? (a.add i)=some (g i).v/\Fl w 1 fB (g i).v (b0+i) (g i).y (g i).l (g i).r:=
    ⟨fun i=>if h:i<len then Classical.choose (cell i h)else Classical.choose (cell 0 h0),fun i hi=>by simp only[hi,dif_pos];exact Classical.choose_spec (cell i hi)⟩
   refine⟨_,.sl k 0 len cap true,(List.range len).map g,⟨((List.range len).map g).map Nq.y,a.block,a.off⟩,hcs,rfl,fun ι hι=>?_,rfl,fun j hj=>?_,.inr ⟨cap,by simp⟩⟩
   ·simp only[aL];refine⟨hl,_,hι,?_⟩;obtain⟨ab,ao,az⟩:=a;cases hspot;rfl
   ·have hj':j<len:=by simpa using hj
    have:=hg j hj';rw[q54 hspot]at this;simpa using this
theorem Ns.arg{w:World}{v:Value}{k b0:Nat}{y:AV}{qs:List Nq}{r:Ro}(h:Ns w v k b0 y qs r){ks:List Ro}(hk:ks[k]? =some r)(hq:∀ j (hj:j<qs.length),ks[b0+j]? =some qs[j].r):gN (qs0 ks) y (qs.map Nq.L):=by
 refine⟨?_,⟨qs.map Nq.y,⟨?_,fun i hi=>?_⟩,by simp,fun i hi hi'=>?_⟩,fun l hl x hx=>?_⟩
 ·rcases h.sl with⟨rfl|rfl,_⟩|⟨m,rfl⟩<;>rfl
 ·rw[List.length_map];rcases h.sl with⟨rfl|rfl,rfl⟩|⟨m,rfl⟩<;>rfl
 ·have hi':i<qs.length:=by simpa using hi
  rcases h.sl with⟨_,rfl⟩|⟨m,rfl⟩
  ·simp at hi'
  ·obtain⟨hg,hx⟩:=q4c hk (by rw[h.eq];intro h0;rw[List.map_eq_nil_iff]at h0;rw[h0]at hi';simp at hi');refine⟨k,0+i*1,sP _ _ _ _ _ _ _ _ hi',hx,?_⟩;rw[hg,qvv,h.eq,Nat.zero_add,Nat.mul_one,List.getElem?_eq_getElem hi]
 ·have hj:i<qs.length:=by simpa using hi
  have hR:=(h.at' i hj).2.rs (z:=1) (f:=fB) (fun _=>rfl) Nat.one_pos (hq i hj);have e1:(qs.map Nq.y)[i]=qs[i].y:=by simp
  have e2:vX ((qs.map Nq.L)[i])=qs[i].l.map fun x=>.int .u8 (.ofNat x.val):=by simp[vX,Nq.L]
  rw[e1,e2];refine⟨by rw[hR.len,List.length_map],fun j hj=>?_⟩;obtain⟨b,o,h1,h2,_,_,h5⟩:=hR.at' j (by simpa using hj);have h6:=h5 0 Nat.one_pos;exact⟨b,o,h1,h2,by rw[List.getElem_map];exact h6⟩
 ·obtain⟨q,_,rfl⟩:=List.mem_map.1 hl;obtain⟨a,_,rfl⟩:=List.mem_map.1 hx;exact a.isLt
theorem Rs.map{α β:Type}{f:β->List AV}{g:α->β}{v:AV}{l:List α}(h:Rs z (fun x=>f (g x)) H v l):Rs z f H v (l.map g):=
 ⟨by rw[List.length_map];exact h.len,fun i hi=>by have:=h.at' i (by simpa using hi);simpa using this⟩
theorem z1j{Hd:Type}{enc:TypeId×Value->Hd}{P:Program}{w:World}{n1 n2 n3:Nat}{t1 e u t2 e2 t3 e3:TypeId}{c1 c2 c3:List Value}{x1 x2 x3:DataW Hd×List MemPlace}(ht:P.underlying t1=some (.slice e))(he:P.underlying e=some (.slice u))(hu:P.underlying u=some (.int .u8))(hce:P.cellsOf e=1)(hcu:P.cellsOf u=1)(ht2:P.underlying t2=some (.slice e2))(hc2:P.cellsOf e2=4)(el2:∀{n:Nat} {cs:List Value} {x:DataW Hd×List MemPlace},DataW.trod enc P w 0 (fun _=>true) true n e2 cs=some x->∃ a:Q4,∀j,j<4->∃ u V,a.cells[j]? =some u/\cs[j]? =some V/\(∀ι:Im,aL ι u V)/\V.oneCell=true)(ht3:P.underlying t3=some (.slice e3))(hc3:P.cellsOf e3=6){Pt:Tu->Prop}(el3:∀{n:Nat} {cs:List Value} {x:DataW Hd×List MemPlace},DataW.trod enc P w 0 (fun _=>true) true n e3 cs=some x->∃ a:Tu,Pt a/\∀ j,j<6->∃ u V,a.cells[j]? =some u/\cs[j]? =some V/\(∀ι:Im,aL ι u V)/\V.oneCell=true)(h1:DataW.trod enc P w 0 (fun _=>true) true n1 t1 c1=some x1)(h2:DataW.trod enc P w 0 (fun _=>true) true n2 t2 c2=some x2)(h3:DataW.trod enc P w 0 (fun _=>true) true n3 t3 c3=some x3):∃ι H v1 v2 v3 y1 y2 y3,∃(L:List (List Nat)) (ls:List Q4) (l:List Tu),c1=[v1]/\c2=[v2]/\c3=[v3]/\v1.oneCell=true/\v2.oneCell=true/\v3.oneCell=true/\HR ι H w/\aL ι y1 v1/\aL ι y2 v2/\aL ι y3 v3 /\ gN H y1 L/\Rs 4 Q4.cells H y2 ls/\Rs 6 Tu.cells H y3 l/\(∀t∈l,Pt t)/\∀ b,(H.get b).wr=false:=by
 obtain⟨v1,y1,qs,r1,rfl,i1⟩:=aNj ht he hu hce hcu h1 0 3;obtain⟨v2,y2,ls,r2,rfl,i2⟩:=zxf (f:=Q4.cells) (fun _=>rfl) (by decide) ht2 hc2 el2 h2 1;obtain⟨v3,y3,l,r3,rfl,i3⟩:=zxf (α:={t:Tu // Pt t}) (f:=fun t=>t.1.cells) (fun _=>rfl) (by decide) ht3 hc3 (fun h=>by obtain⟨a,ha,hj⟩:=el3 h;exact⟨⟨a,ha⟩,hj⟩) h3 2;have hq:∀ j (hj:j<qs.length),([r1,r2,r3]++qs.map Nq.r)[3+j]? =some qs[j].r:=fun j hj=>by rw[List.getElem?_append_right (by simp),List.getElem?_map,show 3+j-[r1,r2,r3].length=j by simp,List.getElem?_eq_getElem hj];rfl
 obtain⟨hHR,hwr⟩:=z2h (w:=w) (ks:=[r1,r2,r3]++qs.map Nq.r) (fun k hk=>by
  rw[List.mem_append,List.mem_map]at hk;rcases hk with hk|⟨q,hq',rfl⟩
  ·simp only[List.mem_cons,List.not_mem_nil,or_false]at hk;rcases hk with rfl|rfl|rfl
   ·intro j hj;have hj':j<qs.length:=by have:=hj;rw[i1.eq]at this;simpa using this
    obtain⟨h1,h2⟩:=i1.at' j hj';refine⟨_,h1,?_,h2.one⟩;have:k.l[j]=qs[j].y:=by simp only[i1.eq,List.getElem_map]
    rw[this];refine h2.rep _ ?_;show(([k,r2,r3]++qs.map Nq.r)[3+j]?).map _=_;simp_all
   ·exact i2.ok _
   ·exact i3.ok _
  ·obtain⟨j,hj,rfl⟩:=List.getElem_of_mem hq';exact(i1.at' j hj).2.ok _)
 exact⟨_,_,v1,v2,v3,y1,y2,y3,_,ls,l.map Subtype.val,rfl,rfl,rfl,i1.one,i2.one,i3.one,hHR,i1.rep _ rfl,i2.rep _ rfl,i3.rep _ rfl,i1.arg rfl hq,i2.rs (z:=4) (f:=Q4.cells) (fun _=>rfl) (by decide) rfl,(i3.rs (z:=6) (f:=fun t:{t:Tu // Pt t}=>t.1.cells) (fun _=>rfl) (by decide) rfl).map,fun t ht=>by obtain⟨u,_,rfl⟩:=List.mem_map.1 ht;exact u.2,hwr⟩
end Go.Di
end
