/-
 For countersign/countersignlaw20.FitsAll: functions in direct style, their contracts, and the plain mathematics, part 10 of 10. No conditions beyond those that each theorem states.
-/
import Derived.Test.YtbfjjkjiokfdgaaGreatConH
import Derived.Test.YtbfjjkjiokfdgaaGreatConE
import Derived.Test.YtbfjjkjiokfdgaaGreatEv4
import Derived.ChangeArms
import Derived.DataReads
set_option linter.unusedSimpArgs false
set_option linter.unusedVariables false
noncomputable section
namespace Go.Di
open Go.Ev
variable {i j k n z:Nat}
def zr0(l:List AV):bO:=.cells (iO l.length) l.length (cellsOf l) true 0
theorem zjt(l:List AV)(o z:Nat)(h:o+z<=l.length):eB (zr0 l) o z=some ((l.drop o).take z):=by
 show(bif Nat.ble (o+z) l.length then some (Ev.tF (cellsOf l) z o)else none)=_;rw[ble_eq,gp h,qy];congr 1
 induction z generalizing o with
 |zero=>simp;rfl
 |succ z ih=>show(dJ _ o).f (cellsOf l)::Ev.tF (cellsOf l) z (o+1)=_;rw[ih (o+1) (by omega),qcr _ _ (lL (show o<l.length by omega) (qb3 _)),ut (show o<l.length by omega),dm];simp[kw,show o<l.length by omega]
theorem qyx(l:List AV)(o:Nat):dK (zr0 l) o=match l[o]? with|some v=>.val v|none=>.bad:=by
 show(bif Nat.blt o l.length then R0.val ((dJ _ o).f (cellsOf l))else .bad)=_;rw[blt_eq];by_cases h:o<l.length
 ·rw[gp h,qcr _ _ (lL h (qb3 _))];simp[h]
 ·rw[qi h];simp[lAK h]
theorem qpr(b:Nat):Hp.empty.get b=.dead:=by show(bif Nat.blt b 2097152 then(dJ HD b).f (same bO.dead HD)else bO.dead)=bO.dead;rw[qhc];cases Nat.blt b 2097152<;>rfl
theorem add_add(a:Addr)(x y:Nat):(a.add x).add y=a.add (x+y):=by
 unfold Addr.add;by_cases hx:x=0
 ·subst hx;simp
 ·by_cases hy:y=0
  ·subst hy;simp
  ·simp[hx,hy,uk]
theorem q92{a:Addr}(h:a.spot=none)(x:Nat):a.add x=⟨a.block,a.off+x,none⟩:=by
 obtain⟨ab,ao,az⟩:=a;cases h;unfold Addr.add;by_cases hx:x=0
 ·subst hx;simp
 ·simp[hx]
theorem qk5{w:World}{a:Addr}{v:Value}(h:w.cell? a=some v):a.spot=none/\a.block<w.heap.size:=by
 unfold World.cell? at h;rcases hx:w.heap[a.block]? with _|o
 ·rw[hx]at h;cases h
 ·refine⟨?_,(zn.1 hx).1⟩;rw[hx]at h;cases o with
  |cells c e z=>
   rcases hs:a.spot with _|s
   ·rfl
   ·rw[hs]at h;cases h
  |_=>cases h
structure Ro where
 l:List AV
 (b o:Nat)
def Ro.blk(k:Ro):bO:=if k.l=[]then .dead else zr0 k.l
def qv4(ks:List Ro):Hp:=ks.foldl (fun H k=>aO H k.blk) Hp.empty
def aCl(ks:List Ro):Im:=fun b=>(ks[b]?).map fun k=>⟨k.b,k.o,0,0⟩
theorem qyr:∀(ks:List Ro) (H:Hp),(∀b,H.nx<=b->H.get b=.dead) -> (ks.foldl (fun H k=>aO H k.blk) H).nx=H.nx+ks.length/\∀ b,(ks.foldl (fun H k=>aO H k.blk) H).get b=if b<H.nx then H.get b else match ks[b-H.nx]? with|some k=>k.blk|none=>.dead
 | [],H,h=>⟨rfl,fun b=>by
  by_cases hb:b<H.nx
  ·rw[pz hb];rfl
  ·rw[kz hb];exact h b (by omega)⟩
 |k::ks,H,h=>by
  obtain⟨h1,h2⟩:=qyr ks (aO H k.blk) (fun b hb=>by have:H.nx+1<=b:=hb;rw[qhd,kz (by omega)];exact h b (by omega));have hx:(aO H k.blk).nx=H.nx+1:=rfl;rw[lE7];refine⟨by rw[h1,hx,pg];omega,fun b=>?_⟩;rw[h2,hx,qhd];by_cases hb:b<H.nx
  ·rw[pz (by omega),kz (by omega),pz hb]
  ·by_cases hb2:b=H.nx
   ·subst hb2;rw[pz (ak _),pz rfl,kz (xn _),lAM];rfl
   ·rw[kz (by omega),kz hb,show b-H.nx=(b-(H.nx+1))+1 by omega,yu]
theorem qde(ks:List Ro):(qv4 ks).nx=ks.length/\∀ b,(qv4 ks).get b=match ks[b]? with|some k=>k.blk|none=>.dead:=by obtain⟨h1,h2⟩:=qyr ks Hp.empty fun b _=>qpr b;refine⟨by show(ks.foldl _ Hp.empty).nx=_;rw[h1];exact qf _,fun b=>?_⟩;show(ks.foldl _ Hp.empty).get b=_;rw[h2,kz (show ¬b<Hp.empty.nx from ig b)];rfl
def aMn(w:World)(ι:Im)(k:Ro):Prop:=∀ j (hj:j<k.l.length),∃V,w.cell? ⟨k.b,k.o+j,none⟩=some V/\aL ι k.l[j] V/\V.oneCell=true
theorem z9l{w:World}{ks:List Ro}(h:∀ k∈ks,aMn w (aCl ks) k):HR (aCl ks) (qv4 ks) w/\∀ b,((qv4 ks).get b).wr=false:=by
 have hw:∀ b,((qv4 ks).get b).wr=false:=fun b=>by
  rw[(qde ks).2];split
  ·unfold Ro.blk;split<;>rfl
  ·rfl
 refine⟨⟨pF,fun b _=>?_,fun b m _ hd hm=>?_,fun b c m m' _ _ h=>?_,fun b h=>?_,fun b h _=>?_⟩,hw⟩
 ·rw[(qde ks).2];by_cases hb:b<ks.length
  ·rw[lh hb];show BR _ _ _ ks[b].blk;unfold Ro.blk;by_cases he:ks[b].l=[]
   ·rw[pz he];trivial
   rw[kz he];refine⟨⟨ks[b].b,ks[b].o,0,0⟩,by unfold aCl;rw[lh hb];rfl,⟨qb3 _,rfl⟩,fun i hi=>?_,fun h=>by cases h⟩;obtain⟨V,h1,h2,h3⟩:=h _ (lu hb) i hi;refine⟨V,h1,?_,h3,fun h=>by cases h⟩;rw[qcr _ _ (lL hi (qb3 _))];simpa [hi] using h2
  ·rw[bf (by omega)];trivial
 ·unfold aCl at hm;by_cases hb:b<ks.length
  ·rw[(qde ks).2,lh hb]at hd;rw[lh hb]at hm;cases hm;have he:ks[b].l≠[]:=fun he=>by
    have:ks[b].blk=.dead:=by unfold Ro.blk;rw[pz he]
    simp only[this]at hd;cases hd
   obtain⟨V,h1,_⟩:=h _ (lu hb) 0 (zk.2 he);exact(qk5 h1).2
  ·rw[bf (by omega)]at hm;cases hm
 ·rw[hw b]at h;cases h
 ·rw[(qde ks).1]at h;unfold aCl;rw[bf h];rfl
 ·rw[(qde ks).1]at h;rw[(qde ks).2,bf h]
theorem q77{ks:List Ro}{r:Ro}(h:ks[k]? =some r)(he:r.l≠[]):(qv4 ks).get k=zr0 r.l/\k<(qv4 ks).nx:=by rw[(qde ks).2,(qde ks).1,h];exact⟨kz he,(qm.1 h).1⟩
theorem flat_get{α:Type}{f:α->List AV}(hf:∀ x,(f x).length=z)(l:List α)(hi:i<l.length)(hj:j<z):(l.flatMap f)[i*z+j]? =(f l[i])[j]?:=by rw[<-qgr hf l i hi,lA7,pz hj,zf]
structure Fl{α:Type}(w:World)(z:Nat)(f:α->List AV)(v:Value)(k:Nat)(y:AV)(l:List α)(r:Ro):Prop where
 one:v.oneCell=true
 rep:∀ ι:Im,ι k=some ⟨r.b,r.o,0,0⟩->aL ι y v
 eq:r.l=l.flatMap f
 ok:∀ ι,aMn w ι r
 sl:((y=.aA\/y=.sle)/\l=[])\/∃ m,y=.sl k 0 l.length m true
theorem Fl.rs{α:Type}{w:World}{f:α->List AV}{v:Value}{y:AV}{l:List α}{r:Ro}(hf:∀ x,(f x).length=z)(hz:0<z)(h:Fl w z f v k y l r){ks:List Ro}(hk:ks[k]? =some r):Rs z f (qv4 ks) y l:=by
 rcases h.sl with⟨rfl|rfl,rfl⟩|⟨m,rfl⟩
 ·exact⟨rfl,fun i hi=>by simp at hi⟩
 ·exact⟨rfl,fun i hi=>by simp at hi⟩
 ·refine⟨rfl,fun i hi=>?_⟩;have hl:=qc9 hf l;have hm:i*z+z<=l.length*z:=by
   have:(i+1)*z<=l.length*z:=uz z hi;rw[xh,au]at this;exact this
  obtain⟨hg,hx⟩:=q77 hk (by rw[h.eq];intro h0;rw[h0]at hl;simp only[uo]at hl;omega);rw[h.eq]at hg;refine⟨k,0+i*z,sV _ _ _ _ _ _ _ _ hi,hx,⟨_,_,_,_,rfl⟩,?_,fun j hj=>?_⟩
  ·rw[hg,qf,zjt _ _ _ (by omega),qgr hf l i hi]
  ·rw[hg,qf,qyx,flat_get hf l hi (by rw[hf]at hj;exact hj),lh hj]
theorem z7v{α:Type}{f:α->List AV}(hf:∀ x,(f x).length=z)(hz:0<z){Hd:Type}{enc:TypeId×Value->Hd}{P:Program}{w:World}{fuel:Nat}{t e:TypeId}{cs:List Value}{x:DataW Hd×List MemPlace}(ht:P.underlying t=some (.slice e))(hce:P.cellsOf e=z)(el:∀{n:Nat} {cs:List Value} {x:DataW Hd×List MemPlace},DataW.trod enc P w 0 (fun _=>true) true n e cs=some x->∃ a:α,∀j,j<z->∃ u V,(f a)[j]? =some u/\cs[j]? =some V/\(∀ι:Im,aL ι u V)/\V.oneCell=true)(h:DataW.trod enc P w 0 (fun _=>true) true fuel t cs=some x)(k:Nat):∃ v y l r,cs=[v]/\Fl w z f v k y l r:=by
 rcases DataW.trod_slice ht h with⟨h0,_⟩|⟨a,len,cap,elems,rest,n,_,hcs,_,_,hl,_,hlen,hel,_⟩
 ·exact⟨_,.aA,[],⟨[],0,0⟩,h0,rfl,fun _ _=>by simp only[aL],rfl,fun _ j hj=>by simp at hj,.inl ⟨.inl rfl,rfl⟩⟩
 ·rcases lAR len with h0|h0
  ·subst h0;exact⟨_,.sle,[],⟨[],0,0⟩,hcs,rfl,fun _ _=>by simp only[aL];exact⟨_,_,rfl⟩,rfl,fun _ j hj=>by simp at hj,.inl ⟨.inr rfl,rfl⟩⟩
  ·have cell:∀ i,i<len->∃ b:α,∀j,j<z->∃ u V,(f b)[j]? =some u/\w.cell? (a.add (i*z+j))=some V/\(∀ι:Im,aL ι u V)/\V.oneCell=true:=by
    intro i hi;have h1:=hel i hi;rw[lh (by omega),hce,Option.bind_eq_some_iff]at h1;obtain⟨cs',h2,h3⟩:=h1;obtain⟨b,hb⟩:=el h3;refine⟨b,fun j hj=>?_⟩;obtain⟨u,V,h5,h6,h7⟩:=hb j hj;have h8:=(World.cells?_some h2).2.2 j hj;rw[add_add,h6]at h8;exact⟨u,V,h5,h8,h7⟩
   have hspot:a.spot=none:=by obtain⟨b,hb⟩:=cell 0 h0;obtain⟨u,V,_,h6,_⟩:=hb 0 hz;rw[lAL]at h6;exact(qk5 (a:=a) h6).1
   obtain⟨g,hg⟩:∃ g:Nat->α,∀i,i<len->∀ j,j<z->∃ u V,(f (g i))[j]? =some u/\w.cell? (a.add (i*z+j))=some V/\(∀ι:Im,aL ι u V)/\V.oneCell=true:=
    ⟨fun i=>if h:i<len then Classical.choose (cell i h)else Classical.choose (cell 0 h0),fun i hi=>by simp only[hi,dif_pos];exact ul (cell i hi)⟩
   refine⟨_,.sl k 0 len cap true,(List.range len).map g,⟨((List.range len).map g).flatMap f,a.block,a.off⟩,hcs,rfl,fun ι hι=>?_,rfl,fun ι J hJ=>?_,.inr ⟨cap,by simp⟩⟩
   ·simp only[aL];refine⟨hl,_,hι,?_⟩;obtain⟨ab,ao,az⟩:=a;cases hspot;rfl
   ·have hJ':J<len*z:=by
     have:=qc9 hf ((List.range len).map g);simp only at hJ;rw[this]at hJ;simpa using hJ
    have hi:J / z<len:=Nat.div_lt_of_lt_mul (by rw[lA5];exact hJ');have hj:=xF J hz;have e:J / z*z+J%z=J:=by rw[lA5];exact Nat.div_add_mod J z
    obtain⟨u,V,h5,h6,h7,h8⟩:=hg _ hi _ hj;have h9:=flat_get hf ((List.range len).map g) (i:=J / z) (j:=J%z) (by simpa using hi) hj;rw[e]at h9 h6;rw[q92 hspot]at h6;refine⟨V,h6,?_,h8⟩;have:(((List.range len).map g).flatMap f)[J]? =some u:=by rw[h9,<-h5];simp
    rw[lh hJ]at this;injection this with this;simp only[this];exact h7 ι
def fB(x:Fin 256):List AV:=[.int .u8 (.ofNat x.val)]
structure Nq where
 v:Value
 y:AV
 l:List (Fin 256)
 r:Ro
def Nq.L(q:Nq):List Nat:=q.l.map Fin.val
structure Ns(w:World)(v:Value)(k b0:Nat)(y:AV)(qs:List Nq)(r:Ro):Prop where
 one:v.oneCell=true
 rep:∀ ι:Im,ι k=some ⟨r.b,r.o,0,0⟩->aL ι y v
 eq:r.l=qs.map Nq.y
 at':∀ j (h:j<qs.length),w.cell? ⟨r.b,r.o+j,none⟩=some qs[j].v/\Fl w 1 fB qs[j].v (b0+j) qs[j].y qs[j].l qs[j].r
 sl:((y=.aA\/y=.sle)/\qs=[])\/∃ m,y=.sl k 0 qs.length m true
theorem q53{Hd:Type}{enc:TypeId×Value->Hd}{P:Program}{w:World}{u:TypeId}(hu:P.underlying u=some (.int .u8)){cs:List Value}{x:DataW Hd×List MemPlace}(h:DataW.trod enc P w 0 (fun _=>true) true n u cs=some x):∃a:Fin 256,cs=[.int .u8 (.ofNat a.val)]:=by obtain⟨y,h5,_,h6⟩:=DataW.trod_int hu h;simp only[Lit.wf,pq,xq]at h6;have h9:0<=y/\y<=255:=⟨h6.1,h6.2⟩;refine⟨⟨y.toNat,by omega⟩,?_⟩;rw[h5];congr 2;show y=((y.toNat:Nat):Int);omega
theorem aKy{Hd:Type}{enc:TypeId×Value->Hd}{P:Program}{w:World}{fuel:Nat}{t e u:TypeId}{cs:List Value}{x:DataW Hd×List MemPlace}(ht:P.underlying t=some (.slice e))(he:P.underlying e=some (.slice u))(hu:P.underlying u=some (.int .u8))(hce:P.cellsOf e=1)(hcu:P.cellsOf u=1)(h:DataW.trod enc P w 0 (fun _=>true) true fuel t cs=some x)(k b0:Nat):∃ v y qs r,cs=[v]/\Ns w v k b0 y qs r:=by
 rcases DataW.trod_slice ht h with⟨h0,_⟩|⟨a,len,cap,elems,rest,n,_,hcs,_,_,hl,_,hlen,hel,_⟩
 ·exact⟨_,.aA,[],⟨[],0,0⟩,h0,rfl,fun _ _=>by simp only[aL],rfl,fun j hj=>by simp at hj,.inl ⟨.inl rfl,rfl⟩⟩
 ·rcases lAR len with h0|h0
  ·subst h0;exact⟨_,.sle,[],⟨[],0,0⟩,hcs,rfl,fun _ _=>by simp only[aL];exact⟨_,_,rfl⟩,rfl,fun j hj=>by simp at hj,.inl ⟨.inr rfl,rfl⟩⟩
  ·have cell:∀ i,i<len->∃ q:Nq,w.cell? (a.add i)=some q.v/\Fl w 1 fB q.v (b0+i) q.y q.l q.r:=by
    intro i hi;have h1:=hel i hi;rw[lh (by omega),hce,Option.bind_eq_some_iff,qj]at h1;obtain⟨cs',h2,h3⟩:=h1;obtain⟨v,y,l,r,rfl,hF⟩:=z7v (z:=1) (f:=fB) (fun _=>rfl) Nat.one_pos he hcu (fun h=>by
     obtain⟨a,rfl⟩:=q53 hu h;refine⟨a,fun j hj=>?_⟩;obtain rfl:j=0:=by omega
     exact⟨_,_,rfl,rfl,fun ι=>by simp only[aL],rfl⟩) h3 (b0+i)
    have h7:=(World.cells?_some h2).2.2 0 (by omega);rw[add_add]at h7;exact⟨⟨v,y,l,r⟩,h7,hF⟩
   have hspot:a.spot=none:=by obtain⟨q,hq,_⟩:=cell 0 h0;exact(qk5 (a:=a) hq).1
   obtain⟨g,hg⟩:∃ g:Nat->Nq,∀i,i<len->w.cell? (a.add i)=some (g i).v/\Fl w 1 fB (g i).v (b0+i) (g i).y (g i).l (g i).r:=
    ⟨fun i=>if h:i<len then Classical.choose (cell i h)else Classical.choose (cell 0 h0),fun i hi=>by simp only[hi,dif_pos];exact ul (cell i hi)⟩
   refine⟨_,.sl k 0 len cap true,(List.range len).map g,⟨((List.range len).map g).map Nq.y,a.block,a.off⟩,hcs,rfl,fun ι hι=>?_,rfl,fun j hj=>?_,.inr ⟨cap,by simp⟩⟩
   ·simp only[aL];refine⟨hl,_,hι,?_⟩;obtain⟨ab,ao,az⟩:=a;cases hspot;rfl
   ·have hj':j<len:=by simpa using hj
    have:=hg j hj';rw[q92 hspot]at this;simpa using this
theorem Ns.arg{w:World}{v:Value}{k b0:Nat}{y:AV}{qs:List Nq}{r:Ro}(h:Ns w v k b0 y qs r){ks:List Ro}(hk:ks[k]? =some r)(hq:∀ j (hj:j<qs.length),ks[b0+j]? =some qs[j].r):gV (qv4 ks) y (qs.map Nq.L):=by
 refine⟨?_,⟨qs.map Nq.y,⟨?_,fun i hi=>?_⟩,by simp,fun i hi hi'=>?_⟩,fun l hl x hx=>?_⟩
 ·rcases h.sl with⟨rfl|rfl,_⟩|⟨m,rfl⟩<;>rfl
 ·rw[qc];rcases h.sl with⟨rfl|rfl,rfl⟩|⟨m,rfl⟩<;>rfl
 ·have hi':i<qs.length:=by simpa using hi
  rcases h.sl with⟨_,rfl⟩|⟨m,rfl⟩
  ·simp at hi'
  ·obtain⟨hg,hx⟩:=q77 hk (by rw[h.eq];intro h0;rw[List.map_eq_nil_iff]at h0;rw[h0]at hi';simp at hi');refine⟨k,0+i*1,sV _ _ _ _ _ _ _ _ hi',hx,?_⟩;rw[hg,qyx,h.eq,qf,qj,lh hi]
 ·have hj:i<qs.length:=by simpa using hi
  have hR:=(h.at' i hj).2.rs (z:=1) (f:=fB) (fun _=>rfl) Nat.one_pos (hq i hj);have e1:(qs.map Nq.y)[i]=qs[i].y:=by simp
  have e2:yB ((qs.map Nq.L)[i])=qs[i].l.map fun x=>.int .u8 (.ofNat x.val):=by simp[yB,Nq.L]
  rw[e1,e2];refine⟨by rw[hR.len,qc],fun j hj=>?_⟩;obtain⟨b,o,h1,h2,_,_,h5⟩:=hR.at' j (by simpa using hj);have h6:=h5 0 Nat.one_pos;exact⟨b,o,h1,h2,by rw[cu];exact h6⟩
 ·obtain⟨q,_,rfl⟩:=qp.1 hl;obtain⟨a,_,rfl⟩:=qp.1 hx;exact a.isLt
theorem z8e{Hd:Type}{enc:TypeId×Value->Hd}{P:Program}{w:World}{n1 n2:Nat}{t1 e u t2 e2:TypeId}{c1 c2:List Value}{x1 x2:DataW Hd×List MemPlace}(ht:P.underlying t1=some (.slice e))(he:P.underlying e=some (.slice u))(hu:P.underlying u=some (.int .u8))(hce:P.cellsOf e=1)(hcu:P.cellsOf u=1)(ht2:P.underlying t2=some (.slice e2))(hc2:P.cellsOf e2=4)(el2:∀{n:Nat} {cs:List Value} {x:DataW Hd×List MemPlace},DataW.trod enc P w 0 (fun _=>true) true n e2 cs=some x->∃ a:Q4,∀j,j<4->∃ u V,a.cells[j]? =some u/\cs[j]? =some V/\(∀ι:Im,aL ι u V)/\V.oneCell=true)(h1:DataW.trod enc P w 0 (fun _=>true) true n1 t1 c1=some x1)(h2:DataW.trod enc P w 0 (fun _=>true) true n2 t2 c2=some x2):∃ι H v1 v2 y1 y2,∃(L:List (List Nat)) (ls:List Q4),c1=[v1]/\c2=[v2]/\v1.oneCell=true/\v2.oneCell=true/\HR ι H w/\aL ι y1 v1/\aL ι y2 v2 /\ gV H y1 L/\Rs 4 Q4.cells H y2 ls/\∀ b,(H.get b).wr=false:=by
 obtain⟨v1,y1,qs,r1,rfl,i1⟩:=aKy ht he hu hce hcu h1 0 2;obtain⟨v2,y2,ls,r2,rfl,i2⟩:=z7v (f:=Q4.cells) (fun _=>rfl) (by decide) ht2 hc2 el2 h2 1;have hq:∀ j (hj:j<qs.length),([r1,r2]++qs.map Nq.r)[2+j]? =some qs[j].r:=fun j hj=>by rw[uC (by simp),xw,show 2+j-[r1,r2].length=j by simp,lh hj];rfl
 obtain⟨hHR,hwr⟩:=z9l (w:=w) (ks:=[r1,r2]++qs.map Nq.r) (fun k hk=>by
  rw[gz,qp]at hk;rcases hk with hk|⟨q,hq',rfl⟩
  ·simp only[qg,oh,or_false]at hk;rcases hk with rfl|rfl
   ·intro j hj;have hj':j<qs.length:=by have:=hj;rw[i1.eq]at this;simpa using this
    obtain⟨h1,h2⟩:=i1.at' j hj';refine⟨_,h1,?_,h2.one⟩;have:k.l[j]=qs[j].y:=by simp only[i1.eq,cu]
    rw[this];refine h2.rep _ ?_;show(([k,r2]++qs.map Nq.r)[2+j]?).map _=_;rw[hq j hj'];rfl
   ·exact i2.ok _
  ·obtain⟨j,hj,rfl⟩:=ay hq';exact(i1.at' j hj).2.ok _)
 exact⟨_,_,v1,v2,y1,y2,_,ls,rfl,rfl,i1.one,i2.one,hHR,i1.rep _ rfl,i2.rep _ rfl,i1.arg rfl hq,i2.rs (z:=4) (f:=Q4.cells) (fun _=>rfl) (by decide) rfl,hwr⟩
end Go.Di
end
