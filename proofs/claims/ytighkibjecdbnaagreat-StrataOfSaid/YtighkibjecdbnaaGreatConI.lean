/-
 For StrataOf: functions in direct style, their contracts, and the plain mathematics, part 9 of 9. No conditions beyond those that each theorem states.
-/
import Derived.Test.YtighkibjecdbnaaGreatConC
import Derived.Test.YtighkibjecdbnaaGreatEv4
import Derived.ChangeArms
import Derived.DataReads
set_option linter.unusedSimpArgs false
set_option linter.unusedVariables false
noncomputable section
namespace Go.Di
open Go.Ev
def qne(l:List AV):bP:= .cells (gV l.length) l.length (cellsOf l) true 0
theorem qu1(l:List AV)(o:Nat):bT (qne l) o=match l[o]? with|some v=> .val v|none=> .bad:=by
 show(bif Nat.blt o l.length then R0.val ((dG _ o).f (cellsOf l))else .bad)=_
 rw[blt_eq]
 by_cases h:o<l.length
 ·rw[decide_eq_true h,qcr _ _ (Nat.lt_of_lt_of_le h (qby _))]
  simp[h]
 ·rw[decide_eq_false h]
  simp[Nat.le_of_not_lt h]
theorem qhw(b:Nat):Hp.empty.get b= .dead:=by
 show(bif Nat.blt b 2097152 then(dG HD b).f (same bP.dead HD)else bP.dead)=bP.dead
 rw[qf5];cases Nat.blt b 2097152<;>rfl
theorem add_add(a:Addr)(x y:Nat):(a.add x).add y=a.add (x+y):=by
 unfold Addr.add
 by_cases hx:x=0
 ·subst hx;simp
 ·by_cases hy:y=0
  ·subst hy;simp
  ·simp[hx,hy,Nat.add_assoc]
theorem q4f{a:Addr}(h:a.spot=none)(x:Nat):a.add x=⟨a.block,a.off+x,none⟩:=by
 obtain⟨ab,ao,az⟩:=a
 cases h
 unfold Addr.add
 by_cases hx:x=0
 ·subst hx;simp
 ·simp[hx]
theorem qpl{w:World}{a:Addr}{v:Value}(h:w.cell? (a.add 0)=some v):a.spot=none/\a.block<w.heap.size:=by
 have h:w.cell? a=some v:=h
 unfold World.cell? at h
 rcases hx:w.heap[a.block]? with _|o
 ·rw[hx]at h;cases h
 ·refine⟨?_,(Array.getElem?_eq_some_iff.1 hx).1⟩
  rw[hx]at h
  cases o with
  |cells c e z =>
   rcases hs:a.spot with _|s
   ·rfl
   ·rw[hs]at h;cases h
  |_=>cases h
structure Ro where
 l:List AV
 (b o:Nat)
def qze(ks:List Ro):Hp:=ks.foldl (fun H k=>aR H (qne k.l)) Hp.empty
def rJ(ks:List Ro):Im:=fun b=>(ks[b]?).map fun k=>⟨k.b,k.o,0,0⟩
theorem quw:∀(ks:List Ro) (H:Hp),(∀b,H.nx<=b->H.get b= .dead) ->
  (ks.foldl (fun H k=>aR H (qne k.l)) H).nx=H.nx+ks.length/\∀ b,(ks.foldl (fun H k=>aR H (qne k.l)) H).get b=if b<H.nx then H.get b else match ks[b-H.nx]? with|some k=>qne k.l|none=> .dead
 | [],H,h=>⟨rfl,fun b=>by
  by_cases hb:b<H.nx
  ·rw[if_pos hb];rfl
  ·rw[if_neg hb];exact h b (by omega)⟩
 |k::ks,H,h=>by
  obtain⟨h1,h2⟩:=quw ks (aR H (qne k.l)) (fun b hb=>by
   have:H.nx+1<=b:=hb
   rw[qf6,if_neg (by omega)];exact h b (by omega))
  have hx:(aR H (qne k.l)).nx=H.nx+1:=rfl
  rw[List.foldl_cons]
  refine⟨by rw[h1,hx,List.length_cons];omega,fun b=> ?_⟩
  rw[h2,hx,qf6]
  by_cases hb:b<H.nx
  ·rw[if_pos (by omega),if_neg (by omega),if_pos hb]
  ·by_cases hb2:b=H.nx
   ·subst hb2
    rw[if_pos (Nat.lt_succ_self _),if_pos rfl,if_neg (Nat.lt_irrefl _),Nat.sub_self];rfl
   ·rw[if_neg (by omega),if_neg hb,show b-H.nx=(b-(H.nx+1))+1 by omega,List.getElem?_cons_succ]
theorem qcx(ks:List Ro):(qze ks).nx=ks.length/\∀ b,(qze ks).get b=match ks[b]? with|some k=>qne k.l|none=> .dead:=by
 obtain⟨h1,h2⟩:=quw ks Hp.empty fun b _=>qhw b
 refine⟨by show(ks.foldl _ Hp.empty).nx=_;rw[h1];exact Nat.zero_add _,fun b=> ?_⟩
 show(ks.foldl _ Hp.empty).get b=_
 rw[h2,if_neg (show ¬b<Hp.empty.nx from Nat.not_lt_zero b)];rfl
theorem zyr{w:World}{ks:List Ro}(h:∀ i (hi:i<ks.length),ks[i].b<w.heap.size/\∀ j (hj:j<ks[i].l.length),∃V,w.cell? ⟨ks[i].b,ks[i].o+j,none⟩=some V/\aQ (rJ ks) ks[i].l[j] V/\V.oneCell=true) :
  HR (rJ ks) (qze ks) w/\∀ b,((qze ks).get b).wr=false:=by
 have hw:∀ b,((qze ks).get b).wr=false:=fun b=>by
  rw[(qcx ks).2]
  split<;>rfl
 refine⟨⟨nE,fun b _=> ?_,fun b m _ hd hm=> ?_,fun b c m m' _ _ h=> ?_,fun b h=> ?_,fun b h _=> ?_⟩,hw⟩
 ·rw[(qcx ks).2]
  by_cases hb:b<ks.length
  ·rw[List.getElem?_eq_getElem hb]
   refine⟨⟨ks[b].b,ks[b].o,0,0⟩,by unfold rJ;rw[List.getElem?_eq_getElem hb];rfl,⟨qby _,rfl⟩,fun i hi=> ?_,fun h=>by cases h⟩
   obtain⟨V,h1,h2,h3⟩:=(h b hb).2 i hi
   refine⟨V,h1,?_,h3,fun h=>by cases h⟩
   rw[qcr _ _ (Nat.lt_of_lt_of_le hi (qby _))]
   simpa [hi] using h2
  ·rw[List.getElem?_eq_none (by omega)];trivial
 ·unfold rJ at hm
  by_cases hb:b<ks.length
  ·rw[List.getElem?_eq_getElem hb]at hm
   cases hm
   exact(h b hb).1
  ·rw[List.getElem?_eq_none (by omega)]at hm;cases hm
 ·rw[hw b]at h;cases h
 ·rw[(qcx ks).1]at h
  unfold rJ;rw[List.getElem?_eq_none h];rfl
 ·rw[(qcx ks).1]at h
  rw[(qcx ks).2,List.getElem?_eq_none h]
structure Inr(w:World)(v:Value)(k:Nat)(x:AV)(l:List Nat)(r:Ro):Prop where
 one:v.oneCell=true
 rep:∀ ι:Im,ι k=some ⟨r.b,r.o,0,0⟩->aQ ι x v
 lt:∀ y∈l,y<256
 eq:r.l=qL l
 len:aG x= .val (.int .i64 (.ofNat l.length))
 at':∀ j,j<l.length->aL 1 x (.int .i64 (.ofNat j))= .val (.ptr k j)
 cell:∀ j (h:j<l.length),w.cell? ⟨r.b,r.o+j,none⟩=some (.int .u8 (.ofNat l[j]))
 low:r.b<w.heap.size
theorem inner{Hd:Type}{enc:TypeId×Value->Hd}{P:Program}{w:World}{fuel:Nat}{e u:TypeId}{cs:List Value}{x:DataW Hd×List MemPlace}(he:P.underlying e=some (.slice u))(hu:P.underlying u=some (.int .u8))(hcu:P.cellsOf u=1){b0:Nat}(hb0:b0<w.heap.size)
  (h:DataW.trod enc P w 0 (fun _=>true) true fuel e cs=some x) (k:Nat):∃ v y l r,cs=[v]/\Inr w v k y l r:=by
 rcases DataW.trod_slice he h with⟨h0,_⟩|⟨a,len,cap,elems,rest,n,_,hcs,_,_,hl,_,hlen,hel,_⟩
 ·exact⟨_,.aA,[],⟨[],b0,0⟩,h0,rfl,fun _ _=>by simp only[aQ],by simp,rfl,rfl,fun j hj=>by simp at hj,fun j hj=>by simp at hj,hb0⟩
 ·have cell:∀ i,i<len->∃ y:Nat,y<256/\w.cell? (a.add i)=some (.int .u8 (.ofNat y)):=by
   intro i hi
   have h1:=hel i hi
   rw[List.getElem?_eq_getElem (by omega),hcu,Option.bind_eq_some_iff]at h1
   obtain⟨cs',h2,h3⟩:=h1
   obtain⟨y,h5,_,h6⟩:=DataW.trod_int hu h3
   have h7:=(World.cells?_some h2).2.2 0 (by omega)
   rw[h5]at h7
   simp only[Lit.wf,Bool.and_eq_true,decide_eq_true_eq]at h6
   have h9:0<=y/\y<=255:=⟨h6.1,h6.2⟩
   refine⟨y.toNat,by omega,?_⟩
   have h10:(a.add (i*1)).add 0=a.add i:=by rw[add_add,Nat.mul_one];rfl
   rw[<-h10,h7]
   show some (Value.int .u8 y)=_
   congr 2
   show y=((y.toNat:Nat):Int)
   omega
  rcases Nat.eq_zero_or_pos len with hz|hz
  ·subst hz
   exact⟨_,.sle,[],⟨[],b0,0⟩,hcs,rfl,fun _ _=>by simp only[aQ];exact⟨_,_,rfl⟩,by simp,rfl,rfl,fun j hj=>by simp at hj,fun j hj=>by simp at hj,hb0⟩
  ·obtain⟨y0,_,hc0⟩:=cell 0 hz
   obtain⟨hspot,hblk⟩:=qpl hc0
   obtain⟨g,hg⟩:∃ g:Nat->Nat,∀i,i<len->g i<256/\w.cell? ⟨a.block,a.off+i,none⟩=some (.int .u8 (.ofNat (g i))):=by
    refine⟨fun i=>if h:i<len then Classical.choose (cell i h)else 0,fun i hi=> ?_⟩
    simp only[hi,dif_pos]
    rw[<-q4f hspot]
    exact Classical.choose_spec (cell i hi)
   refine⟨_,.sl k 0 len cap true,(List.range len).map g,⟨qL ((List.range len).map g),a.block,a.off⟩,hcs,rfl,fun ι hι=> ?_,fun y hy=> ?_,rfl,by rw[List.length_map,List.length_range];rfl,fun j hj=> ?_,fun j hj=> ?_,hblk⟩
   ·simp only[aQ]
    refine⟨hl,_,hι,?_⟩
    obtain⟨ab,ao,az⟩:=a
    cases hspot
    rfl
   ·obtain⟨i,hi,rfl⟩:=List.mem_map.1 hy
    exact(hg i (List.mem_range.1 hi)).1
   ·have hj':j<len:=by simpa using hj
    rw[sP _ _ _ _ _ _ _ _ hj',Nat.zero_add,Nat.mul_one]
   ·have hj':j<len:=by simpa using hj
    rw[(hg j hj').2];simp
theorem zxo{Hd:Type}{enc:TypeId×Value->Hd}{P:Program}{w:World}{fuel:Nat}{t e u:TypeId}{v:Value}{x:DataW Hd×List MemPlace}(ht:P.underlying t=some (.slice e))(he:P.underlying e=some (.slice u))(hu:P.underlying u=some (.int .u8))
  (hce:P.cellsOf e=1) (hcu:P.cellsOf u=1) (h:DataW.trod enc P w 0 (fun _=>true) true fuel t [v]=some x) :
  ∃ι H a L,HR ι H w/\aQ ι a v/\gJ H a L/\∀ b,(H.get b).wr=false:=by
 have hempty:∀ b,(Hp.empty.get b).wr=false:=fun b=>by rw[qhw];rfl
 rcases DataW.trod_slice ht h with⟨h0,_⟩|⟨a,len,cap,elems,rest,n,_,hcs,_,_,hl,_,hlen,hel,_⟩
 ·cases h0
  exact⟨_,_,.aA,[],HR.empty,by simp only[aQ],⟨rfl,⟨[],⟨rfl,fun i hi=>by simp at hi⟩,rfl,fun i hi=>by simp at hi⟩,by simp⟩,hempty⟩
 ·cases hcs
  rcases Nat.eq_zero_or_pos len with hz|hz
  ·subst hz
   exact⟨_,_,.sle,[],HR.empty,by simp only[aQ];exact⟨_,_,rfl⟩,⟨rfl,⟨[],⟨rfl,fun i hi=>by simp at hi⟩,rfl,fun i hi=>by simp at hi⟩,by simp⟩,hempty⟩
  ·have cell0:∀ i,i<len->∃ cs' x',w.cells? 0 (a.add i) 1=some cs'/\DataW.trod enc P w 0 (fun _=>true) true n e cs'=some x':=by
    intro i hi
    have h1:=hel i hi
    rw[List.getElem?_eq_getElem (by omega),hce,Option.bind_eq_some_iff,Nat.mul_one]at h1
    obtain⟨cs',h2,h3⟩:=h1
    exact⟨cs',_,h2,h3⟩
   have c0:∃ v0,w.cell? (a.add 0)=some v0:=by
    obtain⟨cs',x',h2,_⟩:=cell0 0 hz
    have h7:=(World.cells?_some h2).2.2 0 (by omega)
    have hl1:=(World.cells?_some h2).2.1
    rw[add_add]at h7
    rw[h7,List.getElem?_eq_getElem (by omega)]
    exact⟨_,rfl⟩
   obtain⟨v0,hv0⟩:=c0
   obtain⟨hspot,hblk⟩:=qpl hv0
   have cell:∀ i,i<len->∃ q:Value×AV×List Nat×Ro,w.cell? ⟨a.block,a.off+i,none⟩=some q.1/\Inr w q.1 (i+1) q.2.1 q.2.2.1 q.2.2.2:=by
    intro i hi
    obtain⟨cs',x',h2,h3⟩:=cell0 i hi
    obtain⟨vv,y,l,r,rfl,hI⟩:=inner he hu hcu hblk h3 (i+1)
    have h7:=(World.cells?_some h2).2.2 0 (by omega)
    rw[add_add,q4f hspot]at h7
    exact⟨⟨vv,y,l,r⟩,h7,hI⟩
   obtain⟨g,hg⟩:∃ g:Nat->Value×AV×List Nat×Ro,∀i,i<len->w.cell? ⟨a.block,a.off+i,none⟩=some (g i).1/\Inr w (g i).1 (i+1) (g i).2.1 (g i).2.2.1 (g i).2.2.2:=by
    refine⟨fun i=>if h:i<len then Classical.choose (cell i h)else⟨v0,.undef,[],⟨[],0,0⟩⟩,fun i hi=> ?_⟩
    simp only[hi,dif_pos]
    exact Classical.choose_spec (cell i hi)
   let ws:List AV:=(List.range len).map fun i=>(g i).2.1
   let L:List (List Nat):=(List.range len).map fun i=>(g i).2.2.1
   let ks:List Ro:=⟨ws,a.block,a.off⟩::(List.range len).map fun i=>(g i).2.2.2
   have hks:ks.length=len+1:=by simp[ks]
   have hk1:∀ i,i<len->ks[i+1]? =some (g i).2.2.2:=fun i hi=>by simp[ks,hi]
   have him:∀ i,i<len->rJ ks (i+1)=some ⟨(g i).2.2.2.b,(g i).2.2.2.o,0,0⟩:=fun i hi=>by unfold rJ;rw[hk1 i hi];rfl
   have hwl:ws.length=len:=by simp[ws]
   have hLl:L.length=len:=by simp[L]
   obtain⟨hHR,hwr⟩:=zyr (w:=w) (ks:=ks) (fun i hi=>by
    cases i with
    |zero =>
     refine⟨hblk,fun j hj=> ?_⟩
     have hj':j<len:=by rw[<-hwl];exact hj
     obtain⟨h1,h2⟩:=hg j hj'
     refine⟨_,h1,?_,h2.one⟩
     show aQ (rJ ks) ws[j] _
     have:ws[j]=(g j).2.1:=by simp[ws]
     rw[this]
     exact h2.rep _ (him j hj')
    |succ i =>
     have hi':i<len:=by omega
     obtain⟨h1,h2⟩:=hg i hi'
     have hke:ks[i+1]=(g i).2.2.2:=by
      have:=hk1 i hi'
      rw[List.getElem?_eq_getElem hi]at this
      exact Option.some.inj this
     rw[hke]
     refine⟨h2.low,fun j hj=> ?_⟩
     have hj':j<(g i).2.2.1.length:=by have:=hj;rw[h2.eq]at this;simpa [qL] using this
     refine⟨_,h2.cell j hj',?_,rfl⟩
     have he:(g i).2.2.2.l[j]= .int .u8 (.ofNat ((g i).2.2.1[j])):=by
      have:∀(z:List AV) (hz:z=qL (g i).2.2.1) (hzj:j<z.length),z[j]= .int .u8 (.ofNat ((g i).2.2.1[j])):=fun z hz hzj=>by subst hz;simp[qL]
      exact this _ h2.eq hj
     rw[he]
     simp only[aQ])
   have hnx:(qze ks).nx=len+1:=by rw[(qcx ks).1,hks]
   refine⟨rJ ks,qze ks,.sl 0 0 len cap true,L,hHR,?_,⟨rfl,⟨ws,⟨by rw[hwl];rfl,fun i hi=> ?_⟩,by rw[hwl,hLl],fun i hi hi'=> ?_⟩,fun l hl y hy=> ?_⟩,hwr⟩
   ·simp only[aQ]
    refine⟨hl,⟨a.block,a.off,0,0⟩,rfl,?_⟩
    obtain⟨ab,ao,az⟩:=a
    cases hspot
    rfl
   ·refine⟨0,0+i*1,sP _ _ _ _ _ _ _ _ (by omega),by omega,?_⟩
    rw[(qcx ks).2]
    show bT (qne ws) _=_
    rw[qu1,Nat.zero_add,Nat.mul_one,List.getElem?_eq_getElem hi]
   ·have hil:i<len:=by omega
    obtain⟨h1,h2⟩:=hg i hil
    have e1:ws[i]=(g i).2.1:=by simp[ws]
    have e2:L[i]=(g i).2.2.1:=by simp[L]
    rw[e1,e2]
    refine⟨by rw[h2.len];simp[qL],fun j hj=> ?_⟩
    have hj':j<(g i).2.2.1.length:=by simpa [qL] using hj
    refine⟨i+1,j,h2.at' j hj',by omega,?_⟩
    rw[(qcx ks).2,hk1 i hil]
    show bT (qne (g i).2.2.2.l) j=_
    rw[qu1,h2.eq,List.getElem?_eq_getElem hj]
   ·obtain⟨i,hi,rfl⟩:=List.mem_map.1 hl
    exact(hg i (List.mem_range.1 hi)).2.lt y hy
end Go.Di
end
