/-
 For StrataOf: functions in direct style, their contracts, and the plain mathematics, part 8 of 9. No conditions beyond those that each theorem states.
-/
import Derived.Test.YtighkibjecdbnaaGreatConG
import Derived.Test.YtighkibjecdbnaaGreatConF
import Derived.Test.YtighkibjecdbnaaGreatEv4
set_option linter.unusedSimpArgs false
set_option linter.unusedVariables false
open Nat (reduceAdd reduceMul reduceSub reduceLeDiff reduceEqDiff reduceShiftRight reduceAnd)
section
namespace Go.Di
open Go.Ev Go.Di.T Go.Sort
def sH(e:Edge):Nat:=if e.s then 1 else 0
def Fit(n:Nat)(es:List Edge)(o:List Nat):Prop:=o.length=n/\∀ e∈es,o.getD e.t 0+sH e<=o.getD e.f 0
def Lst(n:Nat)(es:List Edge)(o:List Nat):Prop:=∀ S,Fit n es S->∀ x,x<n->o.getD x 0<=S.getD x 0
theorem zlx{n:Nat}{es:List Edge}{o o':List Nat}(h:Fit n es o)(l:Lst n es o)(h':Fit n es o')(l':Lst n es o'):o=o':=by
 apply List.ext_getElem (h.1.trans h'.1.symm)
 intro i h1 h2
 have hi:i<n:=by have:=h.1;omega
 have a:=l o' h' i hi
 have b:=l' o h i hi
 rw[List.getD_eq_getElem?_getD,List.getD_eq_getElem?_getD,List.getElem?_eq_getElem h1,List.getElem?_eq_getElem h2]at a b
 have a:o[i]<=o'[i]:=a
 have b:o'[i]<=o[i]:=b
 omega
theorem zxh{n:Nat}{es:List Edge}{S:List Nat}(h:Fit n es S){a b:Nat}(hr:Rc (iO es) a b):S.getD b 0<=S.getD a 0:=by
 induction hr with
 |refl=>exact Nat.le_refl _
 |step _ hst ih =>
  obtain⟨x,hx,rfl,rfl⟩:=qdr.1 hst
  have:=h.2 x hx
  omega
structure qN(n:Nat)(es:List Edge)(ins:List Nat)(i:Nat)(o:List Nat):Prop where
 len:o.length=n
 zero:∀ x,x<n->i<=ins.getD x 0->o.getD x 0=0
 up:∀ e∈es,ins.getD e.f 0<i->ins.getD e.t 0≠ins.getD e.f 0->o.getD e.t 0+sH e<=o.getD e.f 0
 why:∀ x,x<n->ins.getD x 0<i->o.getD x 0=0\/∃ e∈es,ins.getD e.f 0=ins.getD x 0/\ins.getD e.t 0≠ins.getD x 0/\o.getD x 0=o.getD e.t 0+sH e
 same:∀ x y,x<n->y<n->ins.getD x 0=ins.getD y 0->o.getD x 0=o.getD y 0
 bd:∀ x,x<n->o.getD x 0<=ins.getD x 0
theorem aAl(n x:Nat):(List.replicate n 0).getD x 0=0:=by
 rw[List.getD_eq_getElem?_getD,List.getElem?_replicate]
 split<;>rfl
theorem qN.start(n:Nat)(es:List Edge)(ins:List Nat):qN n es ins 0 (List.replicate n 0) :=
 ⟨by simp,fun x _ _=>aAl n x,fun e _ h=>absurd h (Nat.not_lt_zero _),fun x _ h=>absurd h (Nat.not_lt_zero _),fun x y _ _ _=>by rw[aAl,aAl],fun x _=>by rw[aAl];omega⟩
def asks(es:List Edge)(ins o:List Nat)(i:Nat):List Nat:=(es.filter fun e=>decide (ins.getD e.f 0=i)&& !decide (ins.getD e.t 0=i)).map fun e=>o.getD e.t 0+sH e
def gK(l:List Nat):Nat:=l.foldl max 0
theorem qv3(l:List Nat):∀ a,a<=l.foldl max a/\(∀x∈l,x<=l.foldl max a)/\(l.foldl max a=a\/l.foldl max a∈l):=by
 induction l with
 |nil=>intro a;exact⟨Nat.le_refl _,fun x h=>(by cases h),Or.inl rfl⟩
 |cons y l ih =>
  intro a
  obtain⟨h1,h2,h3⟩:=ih (max a y)
  show a<=l.foldl max (max a y)/\(∀x∈y::l,x<=l.foldl max (max a y))/\(l.foldl max (max a y)=a\/l.foldl max (max a y)∈y::l)
  refine⟨by omega,fun x hx=> ?_,?_⟩
  ·rcases List.mem_cons.1 hx with rfl|hx
   ·omega
   ·exact h2 x hx
  ·rcases h3 with h3|h3
   ·by_cases hay:y<=a
    ·left;omega
    ·right;rw[h3,show max a y=y by omega];exact List.mem_cons_self
   ·simp_all
theorem qtm{es:List Edge}{ins o:List Nat}{i x:Nat}:x∈asks es ins o i↔∃ e∈es,ins.getD e.f 0=i/\ins.getD e.t 0≠i/\x=o.getD e.t 0+sH e:=by
 unfold asks
 rw[List.mem_map]
 constructor
 ·rintro ⟨e,he,rfl⟩
  obtain⟨he,hp⟩:=List.mem_filter.1 he
  rw[Bool.and_eq_true,decide_eq_true_eq,Bool.not_eq_true',decide_eq_false_iff_not]at hp
  exact⟨e,he,hp.1,hp.2,rfl⟩
 ·rintro ⟨e,he,h1,h2,rfl⟩
  exact⟨e,List.mem_filter.2 ⟨he,by rw[decide_eq_true h1,decide_eq_false h2];rfl⟩,rfl⟩
def vW(o:List Nat)(v:Nat):List Nat->List Nat
 | []=>o
 |x::l=>vW (o.set x v) v l
theorem q3o(cs:List Nat)(a c v:Nat)(hc:c<cs.length):(cs.set a v).getD c 0=if a=c then v else cs.getD c 0:=by
 rw[List.getD_eq_getElem?_getD,List.getD_eq_getElem?_getD,List.getElem?_set]
 by_cases h:a=c
 ·simp_all
 ·simp_all
theorem qmo(v:Nat):∀(l o:List Nat),(vW o v l).length=o.length
 | [],_=>rfl
 |x::l,o=>(qmo v l _).trans List.length_set
theorem qv6(v:Nat){y:Nat}:∀(l o:List Nat),y<o.length->(vW o v l).getD y 0=if y∈l then v else o.getD y 0
 | [],o,_=>by simp[vW]
 |x::l,o,h=>by
  rw[vW,qv6 v l _ (by rw[List.length_set];exact h),q3o _ _ _ _ h]
  by_cases h1:y∈l
  ·simp_all
  ·rw[if_neg h1]
   by_cases h2:x=y
   ·simp_all
   ·rw[if_neg h2,if_neg fun h=>(List.mem_cons.1 h).elim (fun e=>h2 e.symm) h1]
theorem qpg(v x:Nat):∀(l o:List Nat),vW o v (l++[x])=(vW o v l).set x v
 | [],_=>rfl
 |_::l,_=>qpg v x l _
theorem qN.step{n:Nat}{es:List Edge}{ins:List Nat}{i:Nat}{o c:List Nat}(h:qN n es ins i o)(hE:∀ e∈es,e.f<n/\e.t<n)(hc:∀ x,x<n->(x∈c↔ins.getD x 0=i))(hd:∀ e∈es,ins.getD e.t 0<=ins.getD e.f 0):qN n es ins (i+1) (vW o (gK (asks es ins o i)) c):=by
 have g:∀ x,x<n->(vW o (gK (asks es ins o i)) c).getD x 0=if ins.getD x 0=i then gK (asks es ins o i)else o.getD x 0:=fun x hx=>by
  rw[qv6 _ _ _ (by rw[h.len];exact hx)]
  simp_all
 obtain⟨_,m2,m3⟩:=qv3 (asks es ins o i) 0
 refine⟨by rw[qmo,h.len],fun x hx hi=> ?_,fun e he hi hne=> ?_,fun x hx hi=> ?_,fun x y hx hy e=> ?_,fun x hx=> ?_⟩
 ·rw[g x hx,if_neg (by omega)]
  exact h.zero x hx (by omega)
 ·obtain⟨l1,l2⟩:=hE e he
  have:=hd e he
  rw[g _ l1,g _ l2,if_neg (by omega)]
  by_cases hf:ins.getD e.f 0=i
  ·rw[if_pos hf]
   exact m2 _ (qtm.2 ⟨e,he,hf,by omega,rfl⟩)
  ·rw[if_neg hf]
   exact h.up e he (by omega) hne
 ·rw[g x hx]
  by_cases hf:ins.getD x 0=i
  ·rw[if_pos hf]
   rcases m3 with m3|m3
   ·exact Or.inl m3
   ·obtain⟨e,he,h1,h2,h3⟩:=qtm.1 m3
    refine Or.inr ⟨e,he,h1.trans hf.symm,by rw[hf];exact h2,?_⟩
    rw[g _ (hE e he).2,if_neg h2]
    exact h3
  ·rw[if_neg hf]
   rcases h.why x hx (by omega)with h0|⟨e,he,h1,h2,h3⟩
   ·omega
   ·refine Or.inr ⟨e,he,h1,h2,?_⟩
    have:=hd e he
    rw[g _ (hE e he).2,if_neg (by omega)]
    exact h3
 ·rw[g x hx,g y hy,e]
  split
  ·rfl
  ·exact h.same x y hx hy e
 ·rw[g x hx]
  by_cases hf:ins.getD x 0=i
  ·rw[if_pos hf,hf]
   rcases m3 with m3|m3
   ·have m3:gK (asks es ins o i)=0:=m3
    omega
   ·obtain⟨e,he,h1,h2,h3⟩:=qtm.1 m3
    have h3:gK (asks es ins o i)=o.getD e.t 0+sH e:=h3
    have h4:=hd e he
    have h5:=h.bd e.t (hE e he).2
    have:sH e<=1:=by unfold sH;split<;>omega
    omega
  ·rw[if_neg hf];exact h.bd x hx
theorem qN.done{n:Nat}{es:List Edge}{ins:List Nat}{res:List (List Nat)}{o:List Nat}(h:qN n es ins res.length o)(hE:∀ e∈es,e.f<n/\e.t<n)(hN:NmC n res ins)(hF:jJ n (iO es) [] res)(hd:∀ e∈es,ins.getD e.t 0<=ins.getD e.f 0)(hm:∀ e∈es,e.s=true->ins.getD e.f 0≠ins.getD e.t 0) :
  Fit n es o/\Lst n es o/\∀ x,x<n->o.getD x 0<=ins.getD x 0:=by
 refine⟨⟨h.len,fun e he=> ?_⟩,fun S hS=> ?_,?_⟩
 ·obtain⟨l1,l2⟩:=hE e he
  by_cases hs:ins.getD e.t 0=ins.getD e.f 0
  ·have hns:¬ e.s=true:=fun t=>hm e he t hs.symm
   unfold sH
   rw[if_neg hns,h.same _ _ l2 l1 hs]
   simp
  ·exact h.up e he (hN.lt l1) hs
 ·have key:∀ m x,ins.getD x 0=m->x<n->o.getD x 0<=S.getD x 0:=fun m=>by
   induction m using Nat.strongRecOn with
   |_ m ih =>
    intro x hx hxn
    rcases h.why x hxn (hN.lt hxn)with h0|⟨e,he,h1,h2,h3⟩
    ·omega
    ·obtain⟨l1,l2⟩:=hE e he
     have h4:=hd e he
     have h5:=ih (ins.getD e.t 0) (by omega) e.t rfl l2
     have h6:=hS.2 e he
     have h7:=zxh hS ((hN.eq hF hxn l1).1 h1.symm).1
     omega
  simp_all
 ·exact h.bd
def rX(n:Nat)(ms o:List Nat):Prop:=∀ i k,i<n->k<n->0<ms.getD (i*n+k) 0->o.getD k 0+(if 1<ms.getD (i*n+k) 0 then 1 else 0)<=o.getD i 0
theorem qta{n:Nat}{ms o:List Nat}(hl:o.length=n)(h3:∀ x∈ms,x<=3):rX n ms o↔Fit n (zY n ms) o:=by
 constructor
 ·intro h
  refine⟨hl,fun e he=> ?_⟩
  obtain⟨t,ht,rfl⟩:=List.mem_map.1 he
  obtain⟨l1,l2,l3,l4⟩:=qpi ht
  have:=h t.f t.t l1 l2 l4
  show o.getD t.t 0+sH (toE t)<=o.getD t.f 0
  unfold sH toE
  by_cases hs:t.s=1
  ·have h1:=aJC ht hs
   simp_all
  ·rw[if_neg (by simpa using hs)]
   omega
 ·intro h i k hi hk hp
  by_cases h1:1<ms.getD (i*n+k) 0
  ·have:=h.2 _ (List.mem_map.2 ⟨_,zpt h1 hk hi,rfl⟩)
   rw[if_pos h1]
   exact this
  ·rw[if_neg h1]
   obtain⟨e,he,rfl,rfl⟩:=zl4 hi hk hp
   have:=h.2 e he
   omega
end Go.Di
end
section
namespace Go.Di
open Go.Ev Go.Di.T Go.Sort
variable {C:Nat->Ev.Call} {LA LO:LP}
theorem zcu:∀(o:List Nat) (i v:Nat),i<o.length->(o.set i v).sum+o.getD i 0=o.sum+v
 |x::l,0,v,_=>by simp;omega
 |x::l,i+1,v,h=>by
  have:=zcu l i v (by simpa using h)
  simp at this ⊢
  omega
theorem zpb:∀(o:List Nat) (m:Nat),(∀x∈o,x<=m)->o.sum<=o.length*m
 | [],_,_=>by simp
 |x::l,m,h=>by
  have h1:=zpb l m fun y hy=>h y (List.mem_cons_of_mem _ hy)
  have h2:=h x List.mem_cons_self
  rw[List.sum_cons,List.length_cons,Nat.add_mul,Nat.one_mul]
  omega
structure RE(H1:Hp)(n a0 mb ob:Nat)(ms:List Nat):Prop where
 g0:H1.get a0=aD 0 [.int .i64 (.ofNat n),.sl mb 0 (n*n) (n*n) true]
 gm:H1.get mb=aD 0 (aJ ms)
 lt:a0<H1.nx/\mb<H1.nx
 ne:a0≠ob/\mb≠ob
 len:ms.length=n*n
 n:n<=256
structure NS(n:Nat)(ms o:List Nat):Prop where
 len:o.length=n
 lst:∀ S,S.length=n->rX n ms S->∀ x,x<n->o.getD x 0<=S.getD x 0
 sm:∀ x,x<n->o.getD x 0<=n
theorem NS.sum{n:Nat}{ms o:List Nat}(h:NS n ms o):o.sum<=n*n:=by
 have:=zpb o n fun x hx=>by
  obtain⟨i,hi,rfl⟩:=List.mem_iff_getElem.1 hx
  have:=h.sm i (by have:=h.len;omega)
  simp_all
 rwa [h.len]at this
structure PI(n:Nat)(ms o0 o:List Nat)(ch:Bool)(i k:Nat):Prop where
 ns:NS n ms o
 up:ch=true->o0.sum<o.sum
 no:ch=false->o=o0/\∀ i' k',i'<n->k'<n->(i'<i\/(i'=i/\k'<k))->0<ms.getD (i'*n+k') 0->o.getD k' 0+(if 1<ms.getD (i'*n+k') 0 then 1 else 0)<=o.getD i' 0
 le:o0.sum<=o.sum
def ask(n:Nat)(ms o:List Nat)(i k:Nat):Nat:=o.getD k 0+(if 1<ms.getD (i*n+k) 0 then 1 else 0)
theorem PI.keep{n:Nat}{ms o0 o:List Nat}{ch:Bool}{i k:Nat}(h:PI n ms o0 o ch i k)(hp:0<ms.getD (i*n+k) 0->ask n ms o i k<=o.getD i 0):PI n ms o0 o ch i (k+1) :=
 ⟨h.ns,h.up,fun hc=>⟨(h.no hc).1,fun i' k' hi hk hv hb=>by
  rcases hv with hv|⟨rfl,hv⟩
  ·exact(h.no hc).2 i' k' hi hk (Or.inl hv) hb
  ·by_cases e:k'=k
   ·subst e;exact hp hb
   ·exact(h.no hc).2 i' k' hi hk (Or.inr ⟨rfl,by omega⟩) hb⟩,h.le⟩
theorem zgj{n:Nat}{ms o S:List Nat}{i k:Nat}(h:NS n ms o)(hi:i<n)(hk:k<n)(hb:0<ms.getD (i*n+k) 0)(hl:S.length=n)(hS:rX n ms S):ask n ms o i k<=S.getD i 0:=by
 have h1:=hS i k hi hk hb
 have h2:=h.lst S hl hS k hk
 unfold ask
 omega
theorem PI.raise{n:Nat}{ms o0 o:List Nat}{ch:Bool}{i k:Nat}(h:PI n ms o0 o ch i k)(hi:i<n)(hk:k<n)(hb:0<ms.getD (i*n+k) 0)(hlt:o.getD i 0<ask n ms o i k)(hn:ask n ms o i k<=n):PI n ms o0 (o.set i (ask n ms o i k)) true i (k+1):=by
 have hl:=h.ns.len
 have hs:=zcu o i (ask n ms o i k) (by omega)
 refine⟨⟨by rw[List.length_set];exact hl,fun S hSl hS x hx=> ?_,fun x hx=> ?_⟩,fun _=>by have:=h.le;omega,fun hc=>(by cases hc),by have:=h.le;omega⟩
 ·rw[q3o _ _ _ _ (by omega)]
  by_cases e:i=x
  ·subst e;rw[if_pos rfl];exact zgj h.ns hi hk hb hSl hS
  ·rw[if_neg e];exact h.ns.lst S hSl hS x hx
 ·rw[q3o _ _ _ _ (by omega)]
  by_cases e:i=x
  ·simp_all
  ·rw[if_neg e];exact h.ns.sm x hx
theorem qvm(o:List Nat)(i:Nat)(h:i<o.length):(aJ o)[i]? =some (.int .i64 (.ofNat (o.getD i 0))):=by
 unfold aJ
 simp_all
theorem zpj{call:Ev.Call}{H1:Hp}{n a0 mb ob:Nat}{ms o0:List Nat}(hE:RE H1 n a0 mb ob ms)(qD:ob<H1.nx){i:Nat}(hi:i<n){qr:AV->AV->Hp->R1}{qe:AV->Hp->R1}{Q:AV->Hp->Prop}
  (hr:(∀S,S.length=n->rX n ms S->∃ x,x<n/\n<S.getD x 0)->∀ H,Fm (fun b=>b=ob) H1 H->Ok (qr .aA (.bool false) H) Q) (he:∀ o ch H,PI n ms o0 o ch i n->H.get ob=aD 0 (aJ o)->Fm (fun b=>b=ob) H1 H->Ok (qe (.bool ch) H) Q) :
  ∀(f k:Nat) (o:List Nat) (ch:Bool) (H:Hp),n-k<f->k<=n->PI n ms o0 o ch i k->H.get ob=aD 0 (aJ o)->Fm (fun b=>b=ob) H1 H ->
   Ok (qnz call qr qe (.ptr a0 0) (.sl ob 0 n n true) (.int .i64 (.ofNat i)) f (.bool ch) (.int .i64 (.ofNat k)) H) Q
 |0,k,o,ch,H,h,_,_,_,_=>by omega
 |f+1,k,o,ch,H,h,hk,hP,hg,hF=>by
  show Ok (zbg call _ _ _ _ _ (qnz call _ _ _ _ _ f) _ _ H) Q
  unfold zbg
  have g0:H.get a0=aD 0 [.int .i64 (.ofNat n),.sl mb 0 (n*n) (n*n) true]:=(hF.get _ hE.lt.1 hE.ne.1).trans hE.g0
  have gm:H.get mb=aD 0 (aJ ms):=(hF.get _ hE.lt.2 hE.ne.2).trans hE.gm
  have hlen:=hP.ns.len
  have hml:=hE.len
  have hn:=hE.n
  by_cases hlt:k<n
  ·have i1:i*n+k<n*n:=ze3 hi hlt
   have m1:i*n<=65536:=Nat.mul_le_mul (Nat.le_of_lt (Nat.lt_of_lt_of_le hi hn)) hn
   have v1:=qvm ms (i*n+k) (by omega)
   have v2:=qvm o k (by omega)
   have v3:=qvm o i (by omega)
   have s1:=hP.ns.sm k hlt
   have s2:=hP.ns.sm i hi
   have hng:¬ n<o.getD i 0:=by omega
   have next:∀(o':List Nat) (ch':Bool) (H':Hp),PI n ms o0 o' ch' i (k+1)->H'.get ob=aD 0 (aJ o')->Fm (fun b=>b=ob) H1 H' ->
     Ok (qkx call qr (qnz call qr qe (.ptr a0 0) (.sl ob 0 n n true) (.int .i64 (.ofNat i)) f) (.ptr a0 0) (.sl ob 0 n n true) (.bool ch') (.int .i64 (.ofNat i)) (.int .i64 (.ofNat k)) H') Q:=fun o' ch' H' hP' hg' hF'=>by
    unfold qkx
    have g0':H'.get a0=aD 0 [.int .i64 (.ofNat n),.sl mb 0 (n*n) (n*n) true]:=(hF'.get _ hE.lt.1 hE.ne.1).trans hE.g0
    have v3':=qvm o' i (by have:=hP'.ns.len;omega)
    have s3:=hP'.ns.sm i hi
    have hng:¬ n<o'.getD i 0:=by omega
    simp(disch:=omega) only[go_sem,g0',hg',v3',hng,Nat.mul_one,Nat.zero_add]
    unfold zbf
    simp(disch:=omega) only[go_sem]
    exact zpj hE qD hi hr he f (k+1) o' ch' H' (by omega) (by omega) hP' hg' hF'
   have lift:0<ms.getD (i*n+k) 0->Ok (qkw call qr (qnz call qr qe (.ptr a0 0) (.sl ob 0 n n true) (.int .i64 (.ofNat i)) f) (.ptr a0 0) (.sl ob 0 n n true) (.bool ch) (.int .i64 (.ofNat i)) (.int .i64 (.ofNat k)) (.int .i64 (.ofNat (ask n ms o i k))) H) Q:=fun hb=>by
    unfold qkw
    by_cases hup:o.getD i 0<ask n ms o i k
    ·have hst:=qhs o i (ask n ms o i k) (by omega)
     have hle:i+1<=(aJ o).length:=by rw[iW];omega
     by_cases hbig:ask n ms o i k<=n
     ·simp(disch:=omega) only[go_sem,hg,v3,hup,hst,hle,Nat.mul_one,Nat.zero_add,List.length_cons,List.length_nil]
      exact next _ true _ (hP.raise hi hlt hb hup hbig) (eP _ _ _) (hF.put _ _ fun _=>rfl)
     ·have v4:(aJ (o.set i (ask n ms o i k)))[i]? =some (.int .i64 (.ofNat (ask n ms o i k))):=by
       rw[qvm _ _ (by rw[List.length_set];omega),q3o _ _ _ _ (by omega),if_pos rfl]
      have aLP:n<ask n ms o i k:=by omega
      simp(disch:=omega) only[go_sem,hg,v3,hup,hst,hle,Nat.mul_one,Nat.zero_add,List.length_cons,List.length_nil]
      unfold qkx
      have g0p:(H.put ob (aD 0 (aJ (o.set i (ask n ms o i k))))).get a0=aD 0 [.int .i64 (.ofNat n),.sl mb 0 (n*n) (n*n) true]:=by
       rw[dZ _ _ _ _ (by have:=hE.ne.1;omega)];exact g0
      simp(disch:=omega) only[go_sem,g0p,v4,aLP,Nat.mul_one,Nat.zero_add]
      refine hr (fun S hl hS=>⟨i,hi,?_⟩) _ (hF.put _ _ fun _=>rfl)
      have:=zgj hP.ns hi hlt hb hl hS
      omega
    ·simp(disch:=omega) only[go_sem,hg,v3,hup,Nat.mul_one,Nat.zero_add]
     exact next o ch H (hP.keep fun _=>by omega) hg hF
   simp only[go_sem,g0,hlt]
   unfold zbe
   by_cases b1:ms.getD (i*n+k) 0=1
   ·have aFd:ask n ms o i k=o.getD k 0:=by unfold ask;rw[if_neg (by omega),Nat.add_zero]
    have b2:¬ 1<ms.getD (i*n+k) 0:=by omega
    simp(disch:=omega) only[go_sem,g0,gm,hg,v1,v2,b1,Nat.mul_one,Nat.zero_add]
    unfold qkv
    simp(disch:=omega) only[go_sem,g0,gm,hg,v1,b1,Nat.mul_one,Nat.zero_add]
    rw[<-aFd]
    exact lift (by omega)
   ·by_cases b2:1<ms.getD (i*n+k) 0
    ·have aFd:ask n ms o i k=o.getD k 0+1:=by unfold ask;rw[if_pos b2]
     simp(disch:=omega) only[go_sem,g0,gm,hg,v1,b1,Nat.mul_one,Nat.zero_add]
     unfold qkv
     simp(disch:=omega) only[go_sem,g0,gm,hg,v1,v2,b2,Nat.mul_one,Nat.zero_add]
     rw[<-aFd]
     exact lift (by omega)
    ·simp(disch:=omega) only[go_sem,g0,gm,hg,v1,b1,Nat.mul_one,Nat.zero_add]
     unfold qkv
     simp(disch:=omega) only[go_sem,g0,gm,hg,v1,b2,Nat.mul_one,Nat.zero_add]
     unfold qkw
     have hneg:¬(Int.ofNat (o.getD i 0)<Int.negSucc 0):=by
      simp
     simp(disch:=omega) only[go_sem,hg,v3,hneg,Nat.mul_one,Nat.zero_add]
     exact next o ch H (hP.keep fun h=>by omega) hg hF
  ·simp only[go_sem,g0,hlt]
   have:k=n:=by omega
   subst this
   exact he o ch H hP hg hF
theorem PI.row{n:Nat}{ms o0 o:List Nat}{ch:Bool}{i:Nat}(h:PI n ms o0 o ch i n):PI n ms o0 o ch (i+1) 0 :=
 ⟨h.ns,h.up,fun hc=>⟨(h.no hc).1,fun i' k' hi hk hv hb=>(h.no hc).2 i' k' hi hk (by omega) hb⟩,h.le⟩
theorem zeb{call:Ev.Call}{H1:Hp}{n a0 mb ob:Nat}{ms o0:List Nat}(hE:RE H1 n a0 mb ob ms)(qD:ob<H1.nx){qr:AV->AV->Hp->R1}{qe:AV->Hp->R1}{Q:AV->Hp->Prop}
  (hr:(∀S,S.length=n->rX n ms S->∃ x,x<n/\n<S.getD x 0)->∀ H,Fm (fun b=>b=ob) H1 H->Ok (qr .aA (.bool false) H) Q) (he:∀ o ch H,PI n ms o0 o ch n 0->H.get ob=aD 0 (aJ o)->Fm (fun b=>b=ob) H1 H->Ok (qe (.bool ch) H) Q) :
  ∀(f i:Nat) (o:List Nat) (ch:Bool) (H:Hp),n-i<f->i<=n->PI n ms o0 o ch i 0->H.get ob=aD 0 (aJ o)->Fm (fun b=>b=ob) H1 H ->
   Ok (qt2 call qr qe (.ptr a0 0) (.sl ob 0 n n true) f (.bool ch) (.int .i64 (.ofNat i)) H) Q
 |0,i,o,ch,H,h,_,_,_,_=>by omega
 |f+1,i,o,ch,H,h,hi,hP,hg,hF=>by
  show Ok (zbh call _ _ _ _ (qt2 call _ _ _ _ f) _ _ H) Q
  unfold zbh
  have g0:H.get a0=aD 0 [.int .i64 (.ofNat n),.sl mb 0 (n*n) (n*n) true]:=(hF.get _ hE.lt.1 hE.ne.1).trans hE.g0
  have hn:=hE.n
  by_cases hlt:i<n
  ·simp only[go_sem,g0,hlt]
   unfold zbd zo4
   rw[dI]
   refine zpj hE qD hlt hr (fun o' ch' H' hP' hg' hF'=> ?_) cK 0 o ch H (by rw[dK];omega) (Nat.zero_le _) hP hg hF
   unfold zbb
   simp(disch:=omega) only[go_sem]
   exact zeb hE qD hr he f (i+1) o' ch' H' (by omega) (by omega) hP'.row hg' hF'
  ·simp only[go_sem,g0,hlt]
   have:i=n:=by omega
   subst this
   exact he o ch H hP hg hF
theorem zea{call:Ev.Call}{H1:Hp}{n a0 mb ob:Nat}{ms:List Nat}(hE:RE H1 n a0 mb ob ms)(qD:ob<H1.nx){qr:AV->AV->Hp->R1}{qe:Hp->R1}{Q:AV->Hp->Prop}
  (hr:(∀S,S.length=n->rX n ms S->∃ x,x<n/\n<S.getD x 0)->∀ H,Fm (fun b=>b=ob) H1 H->Ok (qr .aA (.bool false) H) Q) (he:∀ o H,NS n ms o->rX n ms o->H.get ob=aD 0 (aJ o)->Fm (fun b=>b=ob) H1 H->Ok (qe H) Q) :
  ∀(f:Nat) (o:List Nat) (H:Hp),n*n-o.sum+2<=f->NS n ms o->H.get ob=aD 0 (aJ o)->Fm (fun b=>b=ob) H1 H ->
   Ok (qku call qr qe (.ptr a0 0) (.sl ob 0 n n true) f (.bool true) H) Q
 |0,o,H,h,_,_,_=>by omega
 |f+1,o,H,h,hN,hg,hF=>by
  show Ok (qt4 call _ _ _ _ (qku call _ _ _ _ f) _ H) Q
  unfold qt4
  simp only[go_sem]
  unfold zbc zo5
  rw[dI]
  have hn:=hE.n
  refine zeb hE qD (o0:=o) hr (fun o' ch' H' hP hg' hF'=> ?_) cK 0 o false H (by rw[dK];omega) (Nat.zero_le _) ⟨hN,fun h=>(by cases h),fun _=>⟨rfl,fun i' k' _ _ hv=>(by omega)⟩,Nat.le_refl _⟩ hg hF
  cases ch' with
  |true =>
   have h1:=hP.up rfl
   have h2:=hP.ns.sum
   exact zea hE qD hr he f o' H' (by omega) hP.ns hg' hF'
  |false =>
   obtain⟨f,rfl⟩:∃ g,f=g+1:=⟨f-1,by omega⟩
   show Ok (qt4 call _ _ _ _ (qku call _ _ _ _ f) _ H') Q
   unfold qt4
   exact he o' H' hP.ns (fun i k hi hk hb=>(hP.no rfl).2 i k hi hk (Or.inl hi) hb) hg' hF'
theorem NS.start(n:Nat)(ms:List Nat):NS n ms (List.replicate n 0) :=
 ⟨by simp,fun S _ _ x _=>by rw[aAl];omega,fun x _=>by rw[aAl];omega⟩
theorem qsm(hY:qna C){k:Nat}(hk:1<=k){n mb:Nat}{ms:List Nat}{mv:AV}{H:Hp}(hM:sW H mv mb n ms)(hn:n<13) :
  Ok (C k (.f 9) [mv] H) fun r H'=>Fm No H H'/\((∃ob o,r= .aZ [.sl ob 0 n n true,.bool true]/\H'.get ob=aD 0 (aJ o)/\ob<H'.nx/\NS n ms o/\rX n ms o)\/(r= .aZ [.aA,.bool false]/\∀ S,S.length=n->rX n ms S->∃ x,x<n/\n<S.getD x 0)):=by
 obtain⟨j,rfl⟩:=aW hk
 have hr:=hM.hv
 subst hr
 rw[(hY j).zAg]
 unfold zAg zr5
 have f0:Fm No H (aR H (aD 0 [.int .i64 (.ofNat n),.sl mb 0 (n*n) (n*n) true])):=(Fm.refl _ _).push _
 have mk:=qcz [.int .i64 (.ofNat 0)] 8 (H.nx+1) n (by omega) (by omega)
 rw[qct,qj3]at mk
 simp(disch:=omega) only[go_sem,mk]
 generalize hH1:aR (aR H (aD 0 [.int .i64 (.ofNat n),.sl mb 0 (n*n) (n*n) true])) (aD 0 (aJ (List.replicate n 0)))=H1
 have n1:H1.nx=H.nx+1+1:=by rw[<-hH1];rfl
 have f1:Fm No H H1:=by rw[<-hH1];exact f0.push _
 have g1:H1.get H.nx=aD 0 [.int .i64 (.ofNat n),.sl mb 0 (n*n) (n*n) true]:=by rw[<-hH1,qbp _ _ _ (by simp only[np];omega),kL]
 have g2:H1.get (H.nx+1)=aD 0 (aJ (List.replicate n 0)):=by rw[<-hH1];exact kL _ _
 have hml:=hM.lt
 have hE:RE H1 n H.nx mb (H.nx+1) ms:=⟨g1,(f1.keep hml).trans hM.get,⟨by omega,by omega⟩,⟨by omega,by omega⟩,hM.ok.len,by omega⟩
 unfold zo6
 rw[dI]
 have hnn:n*n<=12*12:=Nat.mul_le_mul (by omega) (by omega)
 refine zea hE (by omega) (fun hno H2 f2=> ?_) (fun o H2 hN hF hg f2=> ?_) cK (List.replicate n 0) H1 (by rw[dK];omega) (NS.start n ms) g2 (Fm.refl _ _)
 ·exact Ok.ret ⟨f1.then f2 fun c hc h=>by omega,Or.inr ⟨rfl,hno⟩⟩
 ·unfold qt3
  have:=f2.nx
  exact Ok.ret ⟨f1.then f2 fun c hc h=>by omega,Or.inl ⟨_,o,rfl,hg,by omega,hN,hF⟩⟩
end Go.Di
end
section
namespace Go.Di
open Go.Ev Go.Di.T Go.Sort
variable {C:Nat->Ev.Call}
theorem rdP{H:Hp}{b q:Nat}{P:List AV}{M:List Nat}(hg:H.get b=aD q (P++aJ M)){i:Nat}(h:i<M.length):bT (H.get b) (P.length+i)= .val (.int .i64 (.ofNat M[i])):=by
 rw[hg,qb3,List.getElem?_append_right (by omega),Nat.add_sub_cancel_left]
 unfold aJ
 simp_all
theorem aXp(P:List AV)(M:List Nat){i:Nat}(x:Nat)(h:i<M.length):bD (P++aJ M) (P.length+i) [.int .i64 (.ofNat x)]=P++aJ (M.set i x):=by
 have hn:(aJ M).length=M.length:=iW M
 unfold bD
 rw[List.take_append,List.take_of_length_le (by omega),List.drop_append,List.drop_eq_nil_of_le (by simp;omega)]
 rw[show P.length+i-P.length=i by omega,show P.length+i+[AV.int .i64 (.ofNat x)].length-P.length=i+1 by simp;omega]
 have:aJ (M.set i x)=(aJ M).set i (.int .i64 (.ofNat x)):=by unfold aJ;rw[List.map_set]
 rw[this,List.set_eq_take_append_cons_drop,if_pos (by omega)]
 simp
theorem zx6(P:List AV)(M:List Nat){k n:Nat}(hl:M.length=n)(h:k<=n):bD (P++aJ M) (P.length+k) (bB [.int .i64 (.ofNat 0)] (n-k))=P++aJ (M.take k++List.replicate (n-k) 0):=by
 have hn:(aJ M).length=n:=by rw[iW,hl]
 have hr:bB [.int .i64 (.ofNat 0)] (n-k)=aJ (List.replicate (n-k) 0):=by rw[qct];unfold aJ;rw[List.map_replicate]
 have hr2:(aJ (List.replicate (n-k) 0)).length=n-k:=by rw[iW,List.length_replicate]
 unfold bD
 rw[hr,hr2,List.take_append,List.take_of_length_le (by omega),List.drop_append,List.drop_eq_nil_of_le (by omega)]
 rw[show P.length+k-P.length=k by omega,List.drop_eq_nil_of_le (by omega)]
 have:aJ (M.take k++List.replicate (n-k) 0)=(aJ M).take k++aJ (List.replicate (n-k) 0):=by unfold aJ;rw[List.map_append,List.map_take]
 simp_all
structure Cp(l M:List Nat)(k p:Nat):Prop where
 len:M.length=l.length
 lt:k<p
 le:p<=l.length
 same:M.drop k=l.drop k
 asc:(M.take k).Pairwise (· < ·)
 mem:∀ x,x∈M.take k↔x∈l.take p
theorem Cp.at{l M:List Nat}{k p i:Nat}(h:Cp l M k p)(hi:k<=i)(hil:i<l.length):M[i]'(by rw[h.len];exact hil)=l[i]:=by
 have h1:(M.drop k)[i-k]? =(l.drop k)[i-k]? :=by rw[h.same]
 rw[List.getElem?_drop,List.getElem?_drop,show k+(i-k)=i by omega,List.getElem?_eq_getElem hil,List.getElem?_eq_getElem (by rw[h.len];exact hil)]at h1
 simp_all
theorem qec{l:List Nat}{p:Nat}(h:p<l.length):l.take (p+1)=l.take p++[l[p]]:=List.take_succ_eq_append_getElem h
theorem qsx{l:List Nat}{p x:Nat}(h:x∈l.take p):∃ i,∃(hi:i<l.length),i<p/\l[i]=x:=by
 obtain⟨i,hi,e⟩:=List.mem_iff_getElem.1 h
 rw[List.length_take]at hi
 exact⟨i,by omega,by omega,by rw[<-e];simp⟩
theorem Cp.eq{l M:List Nat}{k p:Nat}(h:Cp l M k p)(hp:p<l.length)(he:l[p]=l[p-1]'(by omega)):Cp l M k (p+1):=by
 refine⟨h.len,by have:=h.lt;omega,hp,h.same,h.asc,fun x=>(h.mem x).trans ?_⟩
 rw[qec hp,List.mem_append,List.mem_singleton]
 refine⟨Or.inl,fun hx=>hx.elim id fun hx=> ?_⟩
 have h0:=h.lt
 rw[hx,he]
 have:l.take p=l.take (p-1)++[l[p-1]'(by omega)]:=by
  have:=qec (l:=l) (p:=p-1) (by omega)
  rwa [show p-1+1=p by omega]at this
 exact this▸List.mem_append_right _ (List.mem_singleton.2 rfl)
theorem Cp.ne{l M:List Nat}{k p:Nat}(h:Cp l M k p)(hs:l.Pairwise (· <= ·))(hp:p<l.length)(he:¬ l[p]=l[p-1]'(by omega)):Cp l (M.set k l[p]) (k+1) (p+1):=by
 have h0:=h.lt
 have hml:=h.len
 have ht:(M.set k l[p]).take (k+1)=M.take k++[l[p]]:=by
  rw[qec (l:=M.set k l[p]) (p:=k) (by rw[List.length_set];omega),List.getElem_set_self,List.take_set_of_le (Nat.le_refl k)]
 refine⟨by rw[List.length_set,hml],by omega,hp,?_,?_,fun x=> ?_⟩
 ·rw[List.drop_set_of_lt (by omega)]
  have:=congrArg (List.drop 1) h.same
  simp_all
 ·rw[ht,List.pairwise_append]
  refine⟨h.asc,List.pairwise_singleton _ _,fun a ha b hb=> ?_⟩
  rw[List.mem_singleton]at hb
  subst hb
  obtain⟨i,hi,hip,rfl⟩:=qsx ((h.mem a).1 ha)
  have hs':=List.pairwise_iff_getElem.1 hs
  have a1:l[p-1]'(by omega)<=l[p]:=hs' (p-1) p (by omega) hp (by omega)
  have a2:l[i]<=l[p-1]'(by omega):=by
   rcases Nat.lt_or_ge i (p-1)with h2|h2
   ·simp_all
   ·have:i=p-1:=by omega
    simp_all
  omega
 ·rw[ht,qec hp,List.mem_append,List.mem_append,h.mem x]
theorem qi1{call:Ev.Call}{b o n q:Nat}{e:Bool}{P:List AV}{l:List Nat}(hs:l.Pairwise (· <= ·))(hP:P.length=o)(hl:l.length=n)(hn:n<900){c0:Nat}(hc0:c0<n){H1:Hp}{q2:AV->Hp->R1}{Q:AV->Hp->Prop}
  (hq:∀ M k H,Cp l M k n->H.get b=aD q (P++aJ M)->Fm (fun c=>c=b) H1 H->Ok (q2 (.int .i64 (.ofNat k)) H) Q) :
  ∀(f k k2:Nat) (M:List Nat) (H:Hp),n-(c0+k2)<f->1<=k2->Cp l M k (c0+k2)->H.get b=aD q (P++aJ M)->Fm (fun c=>c=b) H1 H ->
   Ok (qda call q2 (.sl b o n n e) (.sl b (o+c0) (n-c0) (n-c0) e) f (.int .i64 (.ofNat k)) (.int .i64 (.ofNat k2)) H) Q
 |0,k,k2,M,H,h,_,_,_,_=>by omega
 |f+1,k,k2,M,H,h,h1,hC,hg,hF=>by
  show Ok (qet call _ _ _ (qda call _ _ _ f) _ _ H) Q
  unfold qet
  have hlt:=hC.lt
  have hle:=hC.le
  have hml:=hC.len
  by_cases hk:k2<n-c0
  ·have e1:=rdP hg (i:=c0+k2) (by omega)
   have e2:=rdP hg (i:=c0+(k2-1)) (by omega)
   rw[hC.at (by omega) (by omega),hP,<-Nat.add_assoc]at e1
   rw[hC.at (by omega) (by omega),hP,<-Nat.add_assoc]at e2
   simp only[go_sem,hk]
   unfold qhq
   have hpe:l[c0+k2-1]'(by omega)=l[c0+(k2-1)]'(by omega):=by congr 1;omega
   by_cases he:l[c0+k2]'(by omega)=l[c0+k2-1]'(by omega)
   ·rw[he,hpe]at e1
    simp(disch:=omega) only[go_sem,Nat.mul_one,e1,e2]
    unfold qdb
    simp(disch:=omega) only[go_sem]
    exact qi1 hs hP hl hn hc0 hq f k (k2+1) M H (by omega) (by omega) (hC.eq (by omega) he) hg hF
   ·have he':¬ l[c0+k2]'(by omega)=l[c0+(k2-1)]'(by omega):=by rw[<-hpe];exact he
    have e3:=aXp P M (i:=k) (l[c0+k2]'(by omega)) (by omega)
    rw[hP]at e3
    have e4:∀ x:AV,vZ (aD q (P++aJ M)) (o+k) [x]=some (aD q (bD (P++aJ M) (o+k) [x])):=fun x=>by
     rw[qha,if_pos]
     rw[List.length_append,iW];simp only[List.length_cons,List.length_nil];omega
    simp(disch:=omega) only[go_sem,Nat.mul_one,e1,e2,he']
    rw[hg]at *
    simp only[go_sem,e4,e3]
    unfold qdb
    simp(disch:=omega) only[go_sem]
    exact qi1 hs hP hl hn hc0 hq f (k+1) (k2+1) _ _ (by omega) (by omega) (hC.ne hs (by omega) he) (eP _ _ _) (hF.put _ _ fun _=>rfl)
  ·simp only[go_sem,hk]
   have:c0+k2=n:=by omega
   rw[this]at hC
   exact hq M k H hC hg hF
theorem qmx{call:Ev.Call}{b o n q:Nat}{e:Bool}{P:List AV}{l:List Nat}(hs:l.Pairwise (· <= ·))(hP:P.length=o)(hl:l.length=n)(hn:n<900){H:Hp}(hg:H.get b=aD q (P++aJ l))(hb:b<H.nx)(heq:e=true\/q=1){q2:Hp->R1}{Q:AV->Hp->Prop}
  (hq:∀ k R H',k<=n->R.length=k->R.Pairwise (· < ·)->(∀x,x∈R↔x∈l)->Gs 1 H' (.sl b o k n e) k (aJ R)->Fm (fun c=>c=b) H H'->Q (.sl b o k n e) H') (hq2:l.Pairwise (· < ·)->Ok (q2 H) Q) :
  ∀(f k:Nat),n-k<f->1<=k->k<=n->(l.take k).Pairwise (· < ·) ->
   Ok (qdx call (fun x H=> .ok x H) q2 (.sl b o n n e) f (.int .i64 (.ofNat k)) H) Q
 |0,k,h,_,_,_=>by omega
 |f+1,k,h,h1,hk,ha=>by
  show Ok (qfe call _ _ _ (qdx call _ _ _ f) _ H) Q
  unfold qfe
  by_cases hlt:k<n
  ·have e1:=rdP hg (i:=k) (by omega)
   have e2:=rdP hg (i:=k-1) (by omega)
   rw[hP]at e1 e2
   simp only[go_sem,hlt]
   unfold qhp
   by_cases he:l[k]'(by omega)=l[k-1]'(by omega)
   ·rw[he]at e1
    have e3:=qin 1 b o n n e (a:=k) (by omega) (Nat.le_refl _) hlt
    simp(disch:=omega) only[go_sem,Nat.mul_one,e1,e2,e3]
    unfold qhr
    rw[dI]
    have hC0:Cp l l k (k+1):=by
     refine⟨rfl,by omega,by omega,rfl,ha,fun x=> ?_⟩
     rw[qec (p:=k) (by omega),List.mem_append,List.mem_singleton]
     refine⟨Or.inl,fun hx=>hx.elim id fun hx=> ?_⟩
     have:l.take k=l.take (k-1)++[l[k-1]'(by omega)]:=by
      simp_all
     rw[hx,he]
     exact this▸List.mem_append_right _ (List.mem_singleton.2 rfl)
    refine qi1 (H1:=H) hs hP hl hn (c0:=k) hlt (fun M k' H' hC hg' hF=> ?_) cK k 1 l H (by rw[dK];omega) (Nat.le_refl 1) hC0 hg (Fm.refl _ _)
    unfold qes
    have c1:=hC.lt
    have c2:=hC.len
    have s1:=qin 1 b o n n e (a:=k') (by omega) (Nat.le_refl _) c1
    have s2:=q2b 1 b o n n e (k:=k') (by omega) (Nat.le_refl _) (by omega)
    have cl:=zx6 P M (k:=k') (n:=n) (by omega) (by omega)
    rw[hP]at cl
    have aJy:(bB [.int .i64 (.ofNat 0)] (n-k')).length=n-k':=by rw[qct,List.length_replicate]
    have s3:qg3 [.int .i64 (.ofNat 0)] H' (.sl b (o+k') (n-k') (n-k') e)= .ok .undef (H'.put b (aD q (P++aJ (M.take k'++List.replicate (n-k') 0)))):=by
     show(bif Nat.beq (n-k') 0 then _ else storeAt H' b (o+k') (bB [.int .i64 (.ofNat 0)] (n-k')) .undef)=_
     rw[beq_eq,decide_eq_false (by omega),cond_false,qcg _ _ _ _ _ _ _ hg' (by rw[aJy,List.length_append,iW];omega),cl]
    simp only[go_sem,s1,s2,s3]
    have ht:(M.take k').length=k':=by rw[List.length_take];omega
    refine Ok.ret (hq k' (M.take k') _ (by omega) ht hC.asc (fun x=>by rw[hC.mem x,<-hl,List.take_length]) ?_ (hF.put _ _ fun _=>rfl))
    refine⟨by rw[iW,ht,Nat.mul_one],.inr ⟨b,o,n,e,q,_,rfl,by omega,eP _ _ _,?_,?_,heq,Nat.lt_of_lt_of_le hb hF.nx⟩⟩
    ·rw[List.length_append,iW,List.length_append,ht,List.length_replicate];omega
    ·rw[List.drop_append_of_le_length (by omega),List.drop_eq_nil_of_le (by omega),List.nil_append,Nat.mul_one]
     unfold aJ
     simp_all
   ·simp(disch:=omega) only[go_sem,Nat.mul_one,e1,e2,he]
    unfold qje
    simp(disch:=omega) only[go_sem]
    refine qmx hs hP hl hn hg hb heq hq hq2 f (k+1) (by omega) (by omega) (by omega) ?_
    rw[qec (p:=k) (by omega),List.pairwise_append]
    refine⟨ha,List.pairwise_singleton _ _,fun a ha' c hc=> ?_⟩
    rw[List.mem_singleton]at hc
    subst hc
    obtain⟨i,hi,hip,rfl⟩:=qsx ha'
    have hs':=List.pairwise_iff_getElem.1 hs
    have a1:l[k-1]'(by omega)<=l[k]'(by omega):=hs' (k-1) k (by omega) (by omega) (by omega)
    have a2:l[i]<=l[k-1]'(by omega):=by
     rcases Nat.lt_or_ge i (k-1)with h2|h2
     ·exact hs' i (k-1) hi (by omega) h2
     ·have:i=k-1:=by omega
      simp_all
    omega
  ·simp only[go_sem,hlt]
   have:k=n:=by omega
   subst this
   rw[<-hl,List.take_length]at ha
   exact hq2 ha
theorem q0c(hO:qY C){k:Nat}(hk:1<=k){n:Nat}{v:AV}{l:List Nat}{H:Hp}(hs:l.Pairwise (· <= ·))(hn:n<900)(hv:Gl 1 H v n (aJ l)) :
  Ok (C k (.f 83) [v] H) fun r H'=>∃ R:List Nat,R.Pairwise (· < ·)/\(∀x,x∈R↔x∈l)/\Gs 1 H' r R.length (aJ R)/\(∀b,In r b->In v b)/\Fm (In v) H H':=by
 obtain⟨j,rfl⟩:=aW hk
 have hln:l.length=n:=by have:=hv.len;rw[iW]at this;omega
 rw[(hO j).jG]
 unfold jG qg1
 have e0:=hv.cO
 by_cases h2:n<2
 ·simp only[go_sem,e0,h2]
  refine Ok.ret ⟨l,?_,fun x=>Iff.rfl,by rw[hln];exact hv.gs,fun b h=>h,Fm.refl _ _⟩
  match l,hln with
  | [],_=>exact List.Pairwise.nil
  | [x],_=>exact List.pairwise_singleton _ _
  |x::y::t,h=>simp at h;omega
 ·rcases hv.is with⟨_,h0⟩|⟨b,o,e,q,L,rfl,g1,g2,g3,g4,g5⟩
  ·omega
  have hP:(L.take o).length=o:=by rw[List.length_take];omega
  have hg:H.get b=aD q (L.take o++aJ l):=by rw[g1,<-g3,List.take_append_drop]
  simp only[go_sem,e0,h2]
  unfold qho qjf
  rw[dI]
  have hin:∀ c,c=b->In (.sl b o n n e) c:=fun c hc=>by subst hc;exact⟨_,_,_,_,rfl⟩
  refine qmx hs hP hln hn hg g5 g4 (fun k R H' hk hR ha hm hG hF=> ?_) (fun ha=> ?_) cK 1 (by rw[dK];omega) (Nat.le_refl 1) (by omega) ?_
  ·refine⟨R,ha,hm,by rw[hR];exact hG,fun c hc=> ?_,hF.mono fun c _ hc=>hin c hc⟩
   obtain⟨_,_,_,_,h'⟩:=hc
   simp_all
  ·unfold qfd
   exact Ok.ret ⟨l,ha,fun x=>Iff.rfl,by rw[hln];exact hv.gs,fun b h=>h,Fm.refl _ _⟩
  ·match l,hln with
   | [],h=>simp at h;omega
   |x::t,_=>simp
theorem Gs.clip{n:Nat}{H:Hp}{v:AV}{l:List AV}(h:Gs 1 H v n l):∃ w,lH 1 v none (some (.int .i64 (.ofNat n))) (some (.int .i64 (.ofNat n)))= .val w/\Rl H w l/\iI w= .val (.int .i64 (.ofNat n))/\(∀b,In w b->In v b):=by
 rcases h.is with⟨rfl,rfl⟩|⟨b,o,m,e,q,L,rfl,h0,h1,h2,h3,h4,h5⟩
 ·exact⟨.aA,rfl,h.rl,rfl,fun b h=>h⟩
 ·have e1:lH 1 (.sl b o n m e) none (some (.int .i64 (.ofNat n))) (some (.int .i64 (.ofNat n)))=gU b o 1 ⟨0,n,n⟩ true:=by
   show(match bounds n m none (some (.int .i64 (.ofNat n))) (some (.int .i64 (.ofNat n)))with|some bd=>gU b o 1 bd true|none=>R0.bad)=_
   have:bounds n m none (some (.int .i64 (.ofNat n))) (some (.int .i64 (.ofNat n)))=some ⟨0,n,n⟩:=by
    show(match(bif Nat.ble n m then some n else none)with|none=>none|some m=>match(bif Nat.ble n m then some n else none)with|none=>none|some h=>match(some 0:Option Nat)with|none=>none|some l=>some (Bd.mk l h m))=_
    rw[ble_eq,decide_eq_true h0];simp only[cond_true,ble_eq,decide_eq_true (Nat.le_refl n)]
   rw[this]
  have hG:∀ e',Gs 1 H (.sl b o n m e') n l->Rl H (.sl b o n n true) l:=fun e' g=>by
   have r:=g.rl
   exact⟨r.len,fun i hi=>by
    obtain⟨b',o',a1,a2,a3⟩:=r.at' i hi
    exact⟨b',o',by have hll:=h.len;rw[sP _ _ _ _ _ _ _ _ (by omega)]at a1 ⊢;exact a1,a2,a3⟩⟩
  rw[e1]
  unfold gU
  simp only[beq_eq]
  by_cases hn:n=0
  ·subst hn
   exact⟨.sl b o 0 0 true,rfl,hG e h,rfl,fun c hc=>by obtain⟨_,_,_,_,h'⟩:=hc;cases h';exact⟨_,_,_,_,rfl⟩⟩
  ·rw[decide_eq_false hn]
   refine⟨.sl b o n n true,?_,hG e h,rfl,fun c hc=>by obtain⟨_,_,_,_,h'⟩:=hc;cases h';exact⟨_,_,_,_,rfl⟩⟩
   rfl
theorem zm5(hC:bC C){k:Nat}(hk:1<=k){n:Nat}{H:Hp}{v:AV}{l:List AV}(h:Gs 1 H v n l) :
  ∃w,C k (.f 39) [v] H= .ok w H/\Rl H w l/\iI w= .val (.int .i64 (.ofNat n))/\(∀b,In w b->In v b):=by
 obtain⟨j,rfl⟩:=aW hk
 obtain⟨w,e,h1,h2,h3⟩:=h.clip
 refine⟨w,?_,h1,h2,h3⟩
 rw[(hC j).zBd]
 unfold zBd zi1
 simp only[go_sem,h.cO,e]
end Go.Di
end
section
namespace Go.Di
open Go.Ev Go.Di.T Go.Sort
variable {C:Nat->Ev.Call} {LA LO:LP}
theorem zgq(hO:qY C)(hS:pU C){k:Nat}(hk:5<=k)(H:Hp):C k (.f 82) [.aA] H= .ok (.aZ []) H:=by
 obtain⟨k,rfl⟩:∃ j,k=j+1:=⟨k-1,by omega⟩
 exact(hO k).aEE H
def qG(ins:List Nat)(e:Edge):Bool:=e.s&&decide (ins.getD e.f 0=ins.getD e.t 0)
def iH(ins:List Nat)(es:List Edge):List Nat:=(es.filter (qG ins)).map fun e=>ins.getD e.f 0
theorem zee(ins:List Nat)(es:List Edge){i:Nat}(h:i<es.length):iH ins (es.take (i+1))=iH ins (es.take i)++(if qG ins es[i]then[ins.getD es[i].f 0]else[]):=by
 unfold iH
 rw[List.take_succ_eq_append_getElem h,List.filter_append,List.map_append]
 congr 1
 cases hh:qG ins es[i]<;>simp[hh]
theorem zef(ins:List Nat)(es:List Edge):(iH ins es).length<=es.length:=by
 unfold iH
 rw[List.length_map]
 exact List.length_filter_le _ _
theorem q3e{ins:List Nat}{es:List Edge}{x:Nat}:x∈iH ins es↔∃ e∈es,e.s=true/\ins.getD e.f 0=ins.getD e.t 0/\ins.getD e.f 0=x:=by
 unfold iH qG
 rw[List.mem_map]
 constructor
 ·rintro ⟨e,he,rfl⟩
  rw[List.mem_filter,Bool.and_eq_true,decide_eq_true_eq]at he
  exact⟨e,he.1,he.2.1,he.2.2,rfl⟩
 ·rintro ⟨e,he,h1,h2,h3⟩
  exact⟨e,List.mem_filter.2 ⟨he,by rw[Bool.and_eq_true,decide_eq_true_eq];exact⟨h1,h2⟩⟩,h3⟩
theorem qga{call:Ev.Call}{H1:Hp}{n c:Nat}{lv iv w:AV}{es:List Edge}{ins:List Nat}(hlen:es.length<200000)(hE:∀ e∈es,e.f<n/\e.t<n)(hw:jS H1 w es)(hi:Gl 1 H1 iv n (aJ ins))(hc:H1.get c=aD 0 [lv,iv])(hcl:c<H1.nx){q:AV->Hp->R1}{Q:AV->Hp->Prop}
  (hq:∀ v H,Gl 1 H v (iH ins es).length (aJ (iH ins es))->Fm No H1 H->(∀b,In v b->H1.nx<=b)->Ok (q v H) Q) :
  ∀(k i:Nat) (v:AV) (H:Hp),es.length-i<k->i<=es.length->Gl 1 H v (iH ins (es.take i)).length (aJ (iH ins (es.take i)))->(∀b,In v b->H1.nx<=b)->Fm No H1 H ->
   Ok (qqe call q (.ptr c 0) w (.int .i64 (.ofNat es.length)) k v (.int .i64 (.ofNat i)) H) Q
 |0,i,v,H,h,_,_,_,_=>by omega
 |k+1,i,v,H,h,hil,hg,hnew,hF=>by
  show Ok (qxk call _ _ _ _ (qqe call _ _ _ _ k) _ _ H) Q
  unfold qxk
  by_cases hlt:i<es.length
  ·simp only[go_sem,hlt]
   unfold q85
   have hw':jS H w es:=hw.fm hF
   have hi':Gl 1 H iv n (aJ ins):=hi.no hF
   have hc':H.get c=aD 0 [lv,iv]:=(hF.keep hcl).trans hc
   have hcH:c<H.nx:=Nat.lt_of_lt_of_le hcl hF.nx
   have hil:ins.length=n:=by have:=hi.len;rw[iW]at this;omega
   obtain⟨b,o1,e1,e2,e3⟩:=hw'.at hlt
   obtain⟨r1,r2⟩:=hE es[i] (List.getElem_mem _)
   have gi:∀ x,x<n->(aJ ins)[x]? =some (.int .i64 (.ofNat (ins.getD x 0))):=fun x hx=>by
    unfold aJ
    simp_all
   obtain⟨b1,o2,e4,e5,_,e6⟩:=hi'.at (gi _ r1)
   obtain⟨b2,o3,e7,e8,_,e9⟩:=hi'.at (gi _ r2)
   have hm:=zee ins es hlt
   have hle:=zef ins (es.take i)
   rw[List.length_take]at hle
   have fe:Fm No H ((aR H (aD 0 [.int .i64 (.ofNat 0),.int .i64 (.ofNat 0),.bool false])).put H.nx (aD 0 [.int .i64 (.ofNat es[i].f),.int .i64 (.ofNat es[i].t),.bool es[i].s])):=by exact kI
   cases hs:es[i].s with
   |false =>
    have hp:qG ins es[i]=false:=by unfold qG;rw[hs];rfl
    rw[hs]at fe
    rw[hp]at hm
    simp only[go_sem,e1,e3,Edge.cells,hs]
    unfold qkl
    simp(disch:=first|omega|exact ti rfl|(simp only[np,nq];first|done|omega)) only[go_sem,reduceAdd,reduceLeDiff]
    rw[if_neg (by simp),List.append_nil]at hm
    refine qga hlen hE hw hi hc hcl hq k (i+1) v _ (by omega) (by omega) (by rw[hm];exact hg.no fe) hnew (hF.trans fe)
   |true =>
    rw[hs]at fe
    by_cases he:ins.getD es[i].f 0=ins.getD es[i].t 0
    ·have hp:qG ins es[i]=true:=by unfold qG;rw[hs,decide_eq_true he];rfl
     rw[hp,if_pos rfl]at hm
     have hml:(iH ins (es.take (i+1))).length=(iH ins (es.take i)).length+1:=by rw[hm,List.length_append];rfl
     generalize hH2:(aR H (aD 0 [.int .i64 (.ofNat 0),.int .i64 (.ofNat 0),.bool false])).put H.nx (aD 0 [.int .i64 (.ofNat es[i].f),.int .i64 (.ofNat es[i].t),.bool true])=H2 at *
     have hx2:H2.get H.nx=aD 0 [.int .i64 (.ofNat es[i].f),.int .i64 (.ofNat es[i].t),.bool true]:=by rw[<-hH2,eP]
     have hc2:H2.get c=aD 0 [lv,iv]:=(fe.keep hcH).trans hc'
     have e6':bT (H2.get b1) o2= .val (.int .i64 (.ofNat (ins.getD es[i].f 0))):=by rw[fe.keep e5];exact e6
     have e9':bT (H2.get b2) o3= .val (.int .i64 (.ofNat (ins.getD es[i].t 0))):=by rw[fe.keep e8];exact e9
     have hgP:Gl 1 (aR H2 (aD 0 [.int .i64 (.ofNat (ins.getD es[i].f 0))])) v (iH ins (es.take i)).length (aJ (iH ins (es.take i))):=(hg.no fe).no ((Fm.refl _ _).push _)
     obtain⟨H',a1,a2,_,a4,a5⟩:=hgP.append (w:=8) (k:=1) (x:=[.int .i64 (.ofNat (ins.getD es[i].f 0))]) (by omega) rfl (by omega) (by omega)
     rw[he]at a1 a2 a4 hgP
     simp(disch:=first|omega|exact ti rfl|(simp only[np,nq];first|done|omega)) only[go_sem,reduceAdd,reduceLeDiff,e1,e3,Edge.cells,hs,hH2,hx2,hc2,e4,e6',e7,e9',he,a1]
     unfold qkl
     simp(disch:=omega) only[go_sem]
     have e10:aJ (iH ins (es.take i))++[.int .i64 (.ofNat (ins.getD es[i].t 0))]=aJ (iH ins (es.take (i+1))):=by rw[hm,he];simp[aJ]
     rw[e10,<-hml]at a2
     rw[<-hml]
     have hn1:=hF.nx
     have hn2:=fe.nx
     refine qga hlen hE hw hi hc hcl hq k (i+1) _ H' (by omega) (by omega) a2 (fun b hb=> ?_) (((hF.trans fe).trans ((Fm.refl _ _).push _)).then a4 fun c hc h=>by have:=hnew c h;omega)
     obtain⟨_,_,_,_,h⟩:=hb
     cases h
     omega
    ·have hp:qG ins es[i]=false:=by unfold qG;rw[hs,decide_eq_false he];rfl
     rw[hp]at hm
     simp(disch:=first|omega|exact ti rfl) only[go_sem,seval,e1,e3,Edge.cells,hs,hc',e4,e6,e7,e9,he]
     unfold qkl
     simp(disch:=omega) only[go_sem]
     rw[if_neg (by simp),List.append_nil]at hm
     refine qga hlen hE hw hi hc hcl hq k (i+1) v _ (by omega) (by omega) (by rw[hm];exact hg.no fe) hnew (hF.trans fe)
  ·simp only[go_sem,hlt]
   have:i=es.length:=by omega
   simp_all
theorem zm1(hC:bC C)(hO:qY C)(hS:pU C)(hR:qF LA LO C){k:Nat}(hk:1000<=k){n:Nat}{es:List Edge}(hE:qdt n es)(hn:n<=256)(hlen:es.length<900){gv:AV}{H:Hp}(hg:jS H gv es) :
  Ok (C k (.f 53) [.agg [.int .i64 (.ofNat n),gv]] H) fun r H'=>∃(w:AV) (res:List (List Nat)) (ins R:List Nat),r= .aZ [w,.int .i64 (.ofNat 0)]/\jJ n (iO es) [] res/\(∀(j:Nat) (o:List Nat) (x:Nat),res[j]? =some o->x∈o->ins[x]? =some j) /\
   R.Pairwise (· < ·)/\(∀x,x∈R↔x∈iH ins es)/\Rl H' w (aJ R)/\iI w= .val (.int .i64 (.ofNat R.length))/\R.length<=900/\Fm No H H':=by
 obtain⟨j,rfl⟩:=aW hk
 rw[(hC j).zBp]
 unfold zBp zq9
 simp(disch:=omega) only[go_sem]
 have f0:Fm No H (aR H (aD 0 [.int .i64 (.ofNat n),gv])):=(Fm.refl _ _).push _
 refine Ok.ve (zyn hC hO hS hR (k:=j) (by omega) hE hn (by omega) (hg.fm f0)) ?_
 rintro r H1 ⟨lv,iv,os,d9,out,ins,res,rfl,aFR,hCR,f1⟩
 have aRa:=aFR.ord hE.rng
 have hg1:H1.get H.nx=aD 0 [.int .i64 (.ofNat n),gv]:=(f1.keep (by simp only[np];omega)).trans (kL _ _)
 have es3:∀ x y:AV,bD [AV.aA,AV.aA] 0 [x,y]=[x,y]:=fun _ _=>rfl
 have n1:H.nx+1<=H1.nx:=f1.nx
 simp(disch:=omega) only[go_sem,seval,es3,List.length_cons,List.length_nil]
 generalize hH2:(aR H1 (aD 0 [AV.aA,AV.aA])).put H1.nx (aD 0 [lv,iv])=H2
 have f2:Fm No H1 H2:=by rw[<-hH2];exact((Fm.refl _ _).push _).aM _ _ (Nat.le_refl _)
 have g2:H2.get H1.nx=aD 0 [lv,iv]:=by rw[<-hH2,eP]
 have l2:H1.nx<H2.nx:=by rw[<-hH2];show H1.nx<H1.nx+1;omega
 have hg2:H2.get H.nx=aD 0 [.int .i64 (.ofNat n),gv]:=(f2.keep (by omega)).trans hg1
 have qM:Fm No H H2:=(f0.trans f1).trans f2
 have hE2:jS H2 gv es:=hg.fm qM
 rw[qnu]
 unfold qqf
 have e0:=hE2.len
 simp only[go_sem,hg2,e0]
 unfold q87
 rw[dI]
 refine qga (by omega) hE.rng hE2 (hCR.gi.no f2) g2 l2 (fun v H3 h3 f3 hnew=> ?_) cK 0 .aA H2 (by rw[dK];omega) (Nat.zero_le _) (by simpa [iH,aJ] using Gl.nil 1 H2) (fun b hb=>by obtain⟨_,_,_,_,h⟩:=hb;cases h) (Fm.refl _ _)
 have hml:=zef d9 es
 have sorted:Ok (C j (.f 82) [v] H3) fun r H'=>r= .aZ []/\∃ R:List Nat,R.Perm (iH d9 es)/\R.Pairwise (· <= ·)/\Gl 1 H' v (iH d9 es).length (aJ R)/\Fm (In v) H3 H':=by
  rcases Nat.eq_zero_or_pos (iH d9 es).length with h0|h0
  ·have hz:iH d9 es=[]:=List.length_eq_zero_iff.1 h0
   rw[hz]at h3 ⊢
   rcases h3.is with⟨rfl,_⟩|⟨b,o,e,q,L,rfl,g1,g2,g3,g4,g5⟩
   ·exact⟨_,_,zgq hO hS (by omega) H3,rfl,[],List.Perm.refl _,List.Pairwise.nil,h3,Fm.refl _ _⟩
   ·obtain⟨j,rfl⟩:∃ i,j=i+1:=⟨j-1,by omega⟩
    have g2:o<=L.length:=g2
    have hst:storeAt H3 b o [] (.aZ [])= .ok (.aZ []) (H3.put b (aD q (bD L o []))):=qcg _ _ _ _ _ _ _ g1 g2
    have hL:bD L o []=L:=by unfold bD;simp
    rw[hL]at hst
    have hs:quj H3 b o 0=some (.ok (.aZ []) (H3.put b (aD q L))):=by
     unfold quj
     have hr:iZ (H3.get b) o 0=some []:=by rw[g1,qb2,if_pos (show o+0<=L.length from g2)];rfl
     rw[hr]
     have hz:yS []=[]:=by unfold yS;simp
     simp only[qmi,hz,List.map_nil,hst]
     rfl
    refine⟨_,_,(hO j).srt _ _ _ _ _ _ _ hs,rfl,[],List.Perm.refl _,List.Pairwise.nil,?_,(Fm.refl _ _).put _ _ fun _=>⟨_,_,_,_,rfl⟩⟩
    exact⟨rfl,.inr ⟨b,o,e,q,L,rfl,eP _ _ _,g2,g3,g4,g5⟩⟩
  ·exact q4g hC hO hS (k:=j) (by omega) h0 (by omega) h3
 refine Ok.ve sorted ?_
 rintro r H4 ⟨rfl,R,hp,hsd,h4,f4⟩
 refine Ok.ve (q0c hO (k:=j) (by omega) hsd (by omega) h4) ?_
 rintro r5 H5 ⟨R5,hasc,hmem,h5,hin,f5⟩
 obtain⟨w,w1,w2,w3,_⟩:=zm5 hC (k:=j) (by omega) h5
 simp only[go_sem,w1]
 have hR5:R5.length<=900:=by
  have hnd:R5.Nodup:=hasc.imp fun h=>Nat.ne_of_lt h
  have:R5.length<=R.length:=hnd.length_le_of_subset fun x hx=>(hmem x).1 hx
  rw[hp.length_eq]at this
  omega
 refine Ok.ret ⟨w,res,d9,R5,rfl,aRa,hCR.ins,hasc,fun x=>(hmem x).trans hp.mem_iff,w2,w3,hR5,((qM.trans f3).then f4 fun c hc h=> ?_).then f5 fun c hc h=> ?_⟩
 ·have:=hnew c h;omega
 ·have:=hnew c h;omega
structure CB(H0:Hp)(n gb c:Nat)(gv lv iv:AV)(es:List Edge)(ins:List Nat):Prop where
 fe:jS H0 gv es
 fg:H0.get gb=aD 0 [iN n,gv]
 gl:gb<H0.nx
 fc:H0.get c=aD 0 [lv,iv]
 cl:c<H0.nx
 fi:Gl 1 H0 iv n (aJ ins)
 fr:∀ e∈es,e.f<n/\e.t<n
 len:es.length<200000
structure CI(H0:Hp)(m:Nat)(L:List Edge)(H:Hp):Prop where
 ex:∃ v,H.get H0.nx=aD 0 [iN m,v]/\Gl 3 H v L.length (zxr L)/\∀ b,In v b->H0.nx<b
 fm:Fm (fun b=>b=H0.nx) H0 H
 lt:H0.nx<H.nx
theorem CI.no{H0:Hp}{m:Nat}{L:List Edge}{H H':Hp}(h:CI H0 m L H)(f:Fm No H H'):CI H0 m L H':=by
 obtain⟨v,h1,h2,h3⟩:=h.ex
 exact⟨⟨v,(f.keep h.lt).trans h1,h2.no f,h3⟩,h.fm.then f fun _ _ h=>h.elim,Nat.lt_of_lt_of_le h.lt f.nx⟩
theorem CB.at{H0:Hp}{n gb c:Nat}{gv lv iv:AV}{es:List Edge}{ins:List Nat}(h:CB H0 n gb c gv lv iv es ins){H:Hp}(f:Fm (fun b=>b=H0.nx) H0 H) :
  jS H gv es/\H.get gb=aD 0 [iN n,gv]/\gb<H.nx/\H.get c=aD 0 [lv,iv]/\c<H.nx/\Gl 1 H iv n (aJ ins):=by
 have g1:=h.gl
 have g2:=h.cl
 have g3:=f.nx
 exact⟨h.fe.keep f.nx fun b hb hlt=>f.get b hlt (fun e=>by have:=h.fe.lt hb;omega),(f.get _ g1 (by omega)).trans h.fg,by omega,(f.get _ g2 (by omega)).trans h.fc,by omega,h.fi.fm f fun b hb e=>by have:=h.fi.lt hb;omega⟩
theorem zk5{n:Nat}{aU:Nat->List Nat}{res:List (List Nat)}(h:jJ n aU [] res):res.length<=n:=by
 obtain⟨z1,z2,z3,z4,z5⟩:=h.all
 have hle:∀(o:List (List Nat)),(∀c∈o,c≠[])->o.length<=o.flatten.length:=fun o=>by
  induction o with
  |nil=>intro _;exact Nat.le_refl _
  |cons c o ih =>
   intro h
   have h1:=ih fun c hc=>h c (List.mem_cons_of_mem _ hc)
   have h2:0<c.length:=List.length_pos_iff.2 (h c List.mem_cons_self)
   rw[List.flatten_cons,List.length_append,List.length_cons];omega
 have:=hle res z4
 omega
theorem aKz(a b:Nat):max (Int.ofNat a) (Int.ofNat b)=Int.ofNat (max a b):=by simp only[Int.ofNat_eq_natCast];omega
theorem qpd{call:Ev.Call}{H:Hp}{v:AV}{l:List Nat}(hv:Rl H v (aJ l))(hl:l.length<900000){q:AV->Hp->R1}{Q:AV->Hp->Prop}(hq:Ok (q (.int .i64 (.ofNat (gK l))) H) Q) :
  ∀(f i:Nat),l.length-i<f->i<=l.length->Ok (q0y call q v (.int .i64 (.ofNat l.length)) f (.int .i64 (.ofNat (gK (l.take i)))) (.int .i64 (.ofNat i)) H) Q
 |0,i,h,_=>by omega
 |f+1,i,h,hi=>by
  show Ok (q9q call _ _ _ (q0y call _ _ _ f) _ _ H) Q
  unfold q9q
  by_cases hlt:i<l.length
  ·obtain⟨b,o,e1,_,e2⟩:=hv.at' i (by rw[iW];exact hlt)
   rw[qeu]at e2
   have hm:=aKz (gK (l.take i)) l[i]
   have hs:gK (l.take (i+1))=max (gK (l.take i)) l[i]:=by
    unfold gK
    rw[List.take_succ_eq_append_getElem hlt,List.foldl_append];rfl
   simp only[go_sem,hlt]
   unfold zog
   simp only[go_sem,e1,e2,qzv,hm]
   unfold zoh
   simp(disch:=omega) only[go_sem]
   rw[<-hs]
   exact qpd hv hl hq f (i+1) (by omega) (by omega)
  ·simp only[go_sem,hlt]
   have:i=l.length:=by omega
   simp_all
theorem q3l(hY:qna C){k:Nat}(hk:1<=k){H:Hp}{v:AV}{l:List Nat}(hv:Rl H v (aJ l))(hl:l.length<900000) :
  C k (.f 38) [v] H= .ok (.int .i64 (.ofNat (gK l))) H:=by
 obtain⟨j,rfl⟩:=aW hk
 have key:Ok (C (j+1) (.f 38) [v] H) fun r H'=>r= .int .i64 (.ofNat (gK l))/\H'=H:=by
  rw[(hY j).zBc]
  unfold zBc zrl
  have e0:=hv.len
  rw[iW]at e0
  simp only[go_sem,e0]
  unfold zoj
  rw[dI]
  refine qpd hv hl ?_ cK 0 (by rw[dK];omega) (Nat.zero_le _)
  exact Ok.ret ⟨rfl,rfl⟩
 obtain⟨r,H',h,rfl,rfl⟩:=key
 exact h
theorem step_ok(hY:qna C){k:Nat}(hk:1<=k)(e:Edge)(H:Hp) :
  Ok (C k (.f 54) [.agg e.cells] H) fun r H'=>r= .int .i64 (.ofNat (sH e))/\Fm No H H':=by
 obtain⟨j,rfl⟩:=aW hk
 rw[(hY j).zBq]
 unfold zBq zq8 Edge.cells sH
 cases hs:e.s with
 |true =>
  simp(disch:=omega) only[go_sem]
  exact Ok.ret ⟨rfl,by exact jW⟩
 |false =>
  simp(disch:=omega) only[go_sem]
  exact Ok.ret ⟨rfl,by exact jW⟩
theorem zmo{es:List Edge}{ins o:List Nat}{i c:Nat}(hc:c<es.length)(h1:ins.getD es[c].f 0=i)(h2:¬ ins.getD es[c].t 0=i):asks (es.take (c+1)) ins o i=asks (es.take c) ins o i++[o.getD es[c].t 0+sH es[c]]:=by
 unfold asks
 rw[List.take_succ_eq_append_getElem hc,List.filter_append,List.map_append]
 simp_all
theorem zuw{es:List Edge}{ins o:List Nat}{i c:Nat}(hc:c<es.length)(h:¬(ins.getD es[c].f 0=i/\¬ ins.getD es[c].t 0=i)):asks (es.take (c+1)) ins o i=asks (es.take c) ins o i:=by
 unfold asks
 rw[List.take_succ_eq_append_getElem hc,List.filter_append,List.map_append]
 simp_all
theorem zgi(es:List Edge)(ins o:List Nat)(i:Nat):(asks es ins o i).length<=es.length:=by
 unfold asks
 rw[List.length_map]
 exact List.length_filter_le _ _
theorem ql7(hY:qna C){j:Nat}{H1:Hp}{n c ob i:Nat}{gv lv iv:AV}{es:List Edge}{ins o:List Nat}(hj:1<=j)(hg:jS H1 gv es)(hlen:es.length<200000)(hE:∀ e∈es,e.f<n/\e.t<n)(hc:H1.get c=aD 0 [lv,iv])(hcl:c<H1.nx)(hiv:Gl 1 H1 iv n (aJ ins))(qD:H1.get ob=aD 0 (aJ o))(aCX:ob<H1.nx)(hol:o.length=n)(hos:∀ x,x<n->o.getD x 0<=1000)
  {q:AV->Hp->R1} {Q:AV->Hp->Prop} (hq:∀ w H,Gl 1 H w (asks es ins o i).length (aJ (asks es ins o i))->Fm No H1 H->(∀b,In w b->H1.nx<=b)->Ok (q w H) Q) :
  ∀(f k:Nat) (w:AV) (H:Hp),es.length-k<f->k<=es.length->Gl 1 H w (asks (es.take k) ins o i).length (aJ (asks (es.take k) ins o i))->(∀b,In w b->H1.nx<=b)->Fm No H1 H ->
   Ok (qib (C j) q (.ptr c 0) (.sl ob 0 n n true) (.int .i64 (.ofNat i)) gv (.int .i64 (.ofNat es.length)) f w (.int .i64 (.ofNat k)) H) Q
 |0,k,w,H,h,_,_,_,_=>by omega
 |f+1,k,w,H,h,hk,hw,hnew,hF=>by
  show Ok (qx3 (C j) _ _ _ _ _ _ (qib (C j) _ _ _ _ _ _ f) _ _ H) Q
  unfold qx3
  by_cases hlt:k<es.length
  ·obtain⟨b,p,e1,e2,e3⟩:=(hg.fm hF).at hlt
   obtain⟨r1,r2⟩:=hE es[k] (List.getElem_mem _)
   have hil:ins.length=n:=by have:=hiv.len;rw[iW]at this;omega
   obtain⟨b1,o1,c1,c2,_,c3⟩:=(hiv.no hF).at (qvm ins es[k].f (by omega))
   obtain⟨b2,o2,c4,c5,_,c6⟩:=(hiv.no hF).at (qvm ins es[k].t (by omega))
   have k1:H.get c=aD 0 [lv,iv]:=(hF.keep hcl).trans hc
   have hcH:c<H.nx:=Nat.lt_of_lt_of_le hcl hF.nx
   have k2:H.get ob=aD 0 (aJ o):=(hF.keep aCX).trans qD
   have aFA:ob<H.nx:=Nat.lt_of_lt_of_le aCX hF.nx
   simp only[go_sem,hlt]
   rw[qny]
   unfold qqt
   have fx:Fm No H ((aR H (aD 0 [.int .i64 (.ofNat 0),.int .i64 (.ofNat 0),.bool false])).put H.nx (aD 0 es[k].cells)):=by exact kI
   have hle:=zgi (es.take k) ins o i
   rw[List.length_take]at hle
   have aBI:¬(ins.getD es[k].f 0=i/\¬ ins.getD es[k].t 0=i)->Ok (qkq (C j) (qib (C j) q (.ptr c 0) (.sl ob 0 n n true) (.int .i64 (.ofNat i)) gv (.int .i64 (.ofNat es.length)) f) w (.int .i64 (.ofNat k)) ((aR H (aD 0 [.int .i64 (.ofNat 0),.int .i64 (.ofNat 0),.bool false])).put H.nx (aD 0 es[k].cells))) Q:=fun hn=>by
    unfold qkq
    simp(disch:=omega) only[go_sem]
    exact ql7 hY hj hg hlen hE hc hcl hiv qD aCX hol hos hq f (k+1) w _ (by omega) (by omega) (by rw[zuw hlt hn];exact hw.no fx) hnew (hF.trans fx)
   by_cases h1:ins.getD es[k].f 0=i
   ·by_cases h2:ins.getD es[k].t 0=i
    ·simp(disch:=first|omega|exact ti rfl) only[go_sem,seval,e1,e3,Edge.cells,k1,c1,c3,c4,c6,h1,h2]
     have:=aBI fun h=>h.2 h2
     exact this
    ·have v4:=qvm o es[k].t (by omega)
     have ho4:=hos es[k].t r2
     simp(disch:=first|omega|exact ti rfl) only[go_sem,seval,e1,e3,Edge.cells,k1,k2,c1,c3,c4,c6,h1,h2,v4]
     generalize hHx:(Hp.mk ((aR H (aD 0 [.int .i64 (.ofNat 0),.int .i64 (.ofNat 0),.bool false])).put H.nx (aD 0 [.int .i64 (.ofNat es[k].f),.int .i64 (.ofNat es[k].t),.bool es[k].s])).t (H.nx+1+12))=Hx at *
     have fx:Fm No H Hx:=by rw[<-hHx];exact Fm.uF fx (by omega)
     have nx:Hx.nx=H.nx+1+12:=by rw[<-hHx]
     have kx:Hx.get H.nx=aD 0 [.int .i64 (.ofNat es[k].f),.int .i64 (.ofNat es[k].t),.bool es[k].s]:=by rw[<-hHx];exact eP _ _ _
     refine Ok.lX (step_ok hY (k:=j) hj es[k] Hx) ?_
     rintro r H2 ⟨rfl,f2⟩
     have kx2:H2.get H.nx=aD 0 [.int .i64 (.ofNat es[k].f),.int .i64 (.ofNat es[k].t),.bool es[k].s]:=(f2.keep (by omega)).trans kx
     have k22:H2.get ob=aD 0 (aJ o):=((fx.trans f2).keep aFA).trans k2
     have hst:sH es[k]<=1:=by unfold sH;split<;>omega
     simp(disch:=omega) only[go_sem,seval,kx2,k22,v4]
     generalize hz:o.getD es[k].t 0+sH es[k]=z at *
     have fP:Fm No H (H2.put (H.nx+1+9) (aD 0 [AV.int .i64 (.ofNat z)])):=(fx.trans f2).aM _ _ (by omega)
     have hgP:Gl 1 (H2.put (H.nx+1+9) (aD 0 [AV.int .i64 (.ofNat z)])) w _ _:=hw.no fP
     obtain⟨H3,a1,a2,_,a4,a5⟩:=hgP.append (w:=8) (k:=1) (x:=[AV.int .i64 (.ofNat z)]) (by omega) rfl (by omega) (by omega)
     refine Ok.y7 a1 ?_
     unfold qkq
     simp(disch:=omega) only[go_sem]
     have hs:=zmo (o:=o) hlt h1 h2
     rw[hz]at hs
     have e10:aJ (asks (es.take k) ins o i)++[AV.int .i64 (.ofNat z)]=aJ (asks (es.take (k+1)) ins o i):=by rw[hs];simp[aJ]
     have hml:(asks (es.take (k+1)) ins o i).length=(asks (es.take k) ins o i).length+1:=by rw[hs,List.length_append];rfl
     rw[e10,<-hml]at a2
     rw[<-hml]
     have hn1:=hF.nx
     have hn2:=f2.nx
     refine ql7 hY hj hg hlen hE hc hcl hiv qD aCX hol hos hq f (k+1) _ H3 (by omega) (by omega) a2 (fun b hb=> ?_) ((hF.trans fP).then a4 fun c hc h=>by have:=hnew c h;omega)
     obtain⟨_,_,_,_,h⟩:=hb
     cases h
     omega
   ·simp(disch:=first|omega|exact ti rfl) only[go_sem,seval,e1,e3,Edge.cells,k1,c1,c3,h1]
    have:=aBI fun h=>h1 h.1
    exact this
  ·simp only[go_sem,hlt]
   have:k=es.length:=by omega
   subst this
   rw[List.take_length]at hw
   exact hq w H hw hF hnew
theorem qvh(hY:qna C){j:Nat}(hj:1<=j){H1:Hp}{n ob:Nat}{w cw:AV}{l c o:List Nat}(hw:Gl 1 H1 w l.length (aJ l))(hl:l.length<900000)(hwo:∀ b,In w b->b≠ob)(hc:Gl 1 H1 cw c.length (aJ c))(hcl:c.length<900000)(hco:∀ b,In cw b->b≠ob)(hcn:∀ x∈c,x<n)(hol:o.length=n)
  {q:Hp->R1} {Q:AV->Hp->Prop} (hq:∀ H,H.get ob=aD 0 (aJ (vW o (gK l) c))->Fm (fun b=>b=ob) H1 H->Ok (q H) Q) :
  ∀(f k:Nat) (H:Hp),c.length-k<f->k<=c.length->H.get ob=aD 0 (aJ (vW o (gK l) (c.take k)))->Fm (fun b=>b=ob) H1 H ->
   Ok (qqq (C j) q (.sl ob 0 n n true) w cw (.int .i64 (.ofNat c.length)) f (.int .i64 (.ofNat k)) H) Q
 |0,k,H,h,_,_,_=>by omega
 |f+1,k,H,h,hk,hg,hF=>by
  show Ok (qx4 (C j) _ _ _ _ _ (qqq (C j) _ _ _ _ _ f) _ H) Q
  unfold qx4
  by_cases hlt:k<c.length
  ·have hcH:Gl 1 H cw c.length (aJ c):=hc.fm hF hco
   have hwH:Rl H w (aJ l):=(hw.fm hF hwo).rl
   obtain⟨b,p,e1,_,_,e3⟩:=hcH.at (show(aJ c)[k]? =some (.int .i64 (.ofNat c[k]))from qj4 c k hlt)
   have hx:=hcn c[k] (List.getElem_mem _)
   have hgr:=q3l hY (k:=j) hj hwH hl
   have hfl:(vW o (gK l) (c.take k)).length=n:=by rw[qmo,hol]
   have hst:=qhs (vW o (gK l) (c.take k)) c[k] (gK l) (by omega)
   have hle:c[k]+1<=(aJ (vW o (gK l) (c.take k))).length:=by rw[iW];omega
   have hsn:(vW o (gK l) (c.take k)).set c[k] (gK l)=vW o (gK l) (c.take (k+1)):=by rw[List.take_succ_eq_append_getElem hlt,qpg]
   simp only[go_sem,hlt]
   unfold q93
   simp(disch:=omega) only[go_sem,e1,e3,hgr,hg,hst,hle,Nat.mul_one,Nat.zero_add,List.length_cons,List.length_nil]
   unfold q94
   simp(disch:=omega) only[go_sem]
   rw[hsn]
   exact qvh hY hj hw hl hwo hc hcl hco hcn hol hq f (k+1) _ (by omega) (by omega) (eP _ _ _) (hF.put _ _ fun _=>rfl)
  ·simp only[go_sem,hlt]
   have:k=c.length:=by omega
   simp_all
theorem qvj(hY:qna C){j:Nat}(hj:1<=j){HB H0 H1:Hp}{n a0 c:Nat}{gv lv iv:AV}{os:List AV}{es:List Edge}{ins:List Nat}{res:List (List Nat)}(hn:n<=256)(hg:jS H0 gv es)(hlen:es.length<200000)(hE:∀ e∈es,e.f<n/\e.t<n)(ha:H0.get a0=aD 0 [.int .i64 (.ofNat n),gv])(aHX:a0<H0.nx)(hc:H0.get c=aD 0 [lv,iv])(hcl:c<H0.nx)(hCR:CR HB H0 n lv iv os res ins)(hN:NmC n res ins)(hlt:∀ o∈res,∀x∈o,x<n)(hd:∀ e∈es,ins.getD e.t 0<=ins.getD e.f 0)(hLn:res.length<=n)(hol:∀ o∈res,o.length<=n)(h01:Fm No H0 H1)(hx1:H0.nx<H1.nx)
  {q:Hp->R1} {Q:AV->Hp->Prop} (hq:∀ o H,qN n es ins res.length o->H.get H0.nx=aD 0 (aJ o)->Fm (fun b=>b=H0.nx) H1 H->Ok (q H) Q) :
  ∀(f i:Nat) (o:List Nat) (H:Hp),res.length-i<f->i<=res.length->qN n es ins i o->H.get H0.nx=aD 0 (aJ o)->Fm (fun b=>b=H0.nx) H1 H ->
   Ok (qic (C j) q (.ptr a0 0) (.ptr c 0) (.sl H0.nx 0 n n true) lv (.int .i64 (.ofNat res.length)) f (.int .i64 (.ofNat i)) H) Q
 |0,i,o,H,h,_,_,_,_=>by omega
 |f+1,i,o,H,h,hi,hO,hgo,hF=>by
  show Ok (qkr (C j) _ _ _ _ _ _ (qic (C j) _ _ _ _ _ _ f) _ H) Q
  unfold qkr
  by_cases hil:i<res.length
  ·have kp:∀ b,b<H0.nx->H.get b=H0.get b:=fun b hb=>(hF.get b (by omega) (by omega)).trans (h01.keep hb)
   have hnx:H0.nx<=H.nx:=by have:=hF.nx;omega
   have aCo:=hCR.len
   have gE:jS H gv es:=hg.keep hnx fun b hb hlt=>kp b hlt
   have gI:Gl 1 H iv n (aJ ins):=hCR.gi.keep hnx fun b hb hlt=>kp b hlt
   have gL:Gl 1 H lv os.length os:=hCR.gl.keep hnx fun b hb hlt=>kp b hlt
   obtain⟨c1,_,_⟩:=hCR.at' i (os[i]'(by omega)) (res[i]'hil) (by simp) (by simp)
   have gC:Gl 1 H (os[i]'(by omega)) (res[i]'hil).length (aJ (res[i]'hil)):=c1.keep hnx fun b hb hlt=>kp b hlt
   have hci:∀ b,In (os[i]'(by omega)) b->b<H0.nx:=fun b hb=>c1.lt hb
   obtain⟨b1,o1,e1,_,_,e2⟩:=gL.at (i:=i) (x:=os[i]'(by omega)) (by simp)
   have hcm:∀ x,x<n->(x∈res[i]'hil↔ins.getD x 0=i):=fun x hx=>by
    constructor
    ·intro h;exact hN.is i _ x (List.getElem?_eq_getElem hil) h
    ·intro h
     obtain⟨j',o',h1,h2⟩:=hN.all x hx
     have:=hN.is j' o' x h1 h2
     rw[h]at this
     subst this
     simp_all
   have hcn:=hlt _ (List.getElem_mem hil)
   have bPV:=hol _ (List.getElem_mem hil)
   have k1:H.get a0=aD 0 [.int .i64 (.ofNat n),gv]:=(kp a0 aHX).trans ha
   have k2:H.get c=aD 0 [lv,iv]:=(kp c hcl).trans hc
   have e0:=gE.len
   generalize os[i]'(by omega)=cw at *
   generalize res[i]'hil=co at *
   simp only[go_sem,hil]
   unfold q91
   simp only[go_sem,e1,e2,k1,e0]
   unfold q96
   rw[dI]
   have hbd:∀ x,x<n->o.getD x 0<=1000:=fun x hx=>by
    have h1:=hO.bd x hx
    have h2:=hN.lt hx
    omega
   refine ql7 hY hj gE hlen hE k2 (Nat.lt_of_lt_of_le hcl hnx) gI hgo (by have:=hF.nx;omega) hO.len hbd (fun w H2 hw f2 hnew=> ?_) cK 0 .aA H (by rw[dK];omega) (Nat.zero_le _) (by simpa [asks,aJ] using Gl.nil 1 H) (fun b hb=>by obtain⟨_,_,_,_,h⟩:=hb;cases h) (Fm.refl _ _)
   unfold qqu
   have gC2:=gC.no f2
   have e3:=gC2.cO
   simp only[go_sem,e3]
   unfold q97
   rw[dI]
   have hal:=zgi es ins o i
   have aFA:H0.nx<H.nx:=by have:=hF.nx;omega
   refine qvh hY hj (H1:=H2) (o:=o) hw (by omega) (fun b hb=>by have:=hnew b hb;omega) gC2 (by omega) (fun b hb=>by have:=hci b hb;omega) hcn hO.len (fun H3 g3 f3=> ?_) cK 0 H2 (by rw[dK];omega) (Nat.zero_le _) ((f2.keep aFA).trans hgo) (Fm.refl _ _)
   unfold qx2
   simp(disch:=omega) only[go_sem]
   exact qvj hY hj hn hg hlen hE ha aHX hc hcl hCR hN hlt hd hLn hol h01 hx1 hq f (i+1) _ H3 (by omega) (by omega) (hO.step hE hcm hd) g3 ((hF.then f2 fun _ _ h=>h.elim).then f3 fun _ _ h=>h)
  ·simp only[go_sem,hil]
   have:i=res.length:=by omega
   subst this
   exact hq o H hO hgo hF
theorem zk4{n:Nat}{es:List Edge}(hE:∀ e∈es,e.f<n/\e.t<n){res:List (List Nat)}{ins:List Nat}(hF:jJ n (iO es) [] res)(h:NmC n res ins):∀ e∈es,ins.getD e.t 0<=ins.getD e.f 0:=fun e he=>by
 obtain⟨l1,l2⟩:=hE e he
 obtain⟨j,o,h1,h2⟩:=h.all e.f l1
 rcases qu9 hF h1 h2 l2 (qdr.2 ⟨e,he,rfl,rfl⟩)with g|⟨j',c',g1,g2,g3⟩
 ·simp at g
 ·rw[h.is j o e.f h1 h2,h.is j' c' e.t g2 g3];exact g1
theorem zwm{n:Nat}{aU:Nat->List Nat}{res:List (List Nat)}{ins:List Nat}(hF:jJ n aU [] res)(hi:∀(j:Nat) (o:List Nat) (x:Nat),res[j]? =some o->x∈o->ins[x]? =some j):NmC n res ins:=⟨fun j o y h1 h2=>by
  rw[List.getD_eq_getElem?_getD,hi j o y h1 h2];rfl,fun y hy=>by
  obtain⟨z1,z2,z3,z4,z5⟩:=hF.all
  obtain⟨o,ho,hyo⟩:=List.mem_flatten.1 (z3 y hy)
  obtain⟨j,hj⟩:=List.mem_iff_getElem?.1 ho
  exact⟨j,o,hj,hyo⟩⟩
theorem q6l(hC:bC C)(hY:qna C)(hO:qY C)(hS:pU C)(hR:qF LA LO C){k:Nat}(hk:1002<=k){n:Nat}{es:List Edge}(hE:qdt n es)(hn:n<=256)(hlen:es.length<900){gv:AV}{H:Hp}(hg:jS H gv es) :
  Ok (C k (.f 23) [.agg [.int .i64 (.ofNat n),gv]] H) fun r H'=>Fm No H H' /\
   ((∃w o,r= .aZ [w,.int .i64 (.ofNat 0)]/\Gl 1 H' w n (aJ o)/\iI w= .val (.int .i64 (.ofNat n))/\Fit n es o/\Lst n es o/\∀ x,x<n->o.getD x 0<n) \/
    (r= .aZ [.aA,.int .i64 (.ofNat 12)]/\∃ e∈es,e.s=true/\Rc (iO es) e.t e.f)):=by
 obtain⟨j,rfl⟩:=aW hk
 rw[(hY j).zAu]
 unfold zAu zrs
 simp(disch:=omega) only[go_sem]
 have f0:Fm No H (aR H (aD 0 [.int .i64 (.ofNat n),gv])):=by exact jW
 refine Ok.ve (zyn hC hO hS hR (k:=j) (by omega) hE hn (by omega) (hg.fm f0)) ?_
 rintro r H1 ⟨lv,iv,os,d9,out,ins,res,rfl,aFR,hCR,f1⟩
 have hF:=aFR.ord hE.rng
 have n1:H.nx+1<=H1.nx:=f1.nx
 have g1:H1.get H.nx=aD 0 [.int .i64 (.ofNat n),gv]:=(f1.keep (by simp only[np];omega)).trans (kL _ _)
 have es3:∀ x y a b:AV,bD [a,b] 0 [x,y]=[x,y]:=fun _ _ _ _=>rfl
 have fa:Fm No H1 ((aR H1 (aD 0 [.aA,.aA])).put H1.nx (aD 0 [lv,iv])):=by exact kI
 simp(disch:=omega) only[go_sem,seval,es3,List.length_cons,List.length_nil]
 generalize hH2:(aR H1 (aD 0 [AV.aA,AV.aA])).put H1.nx (aD 0 [lv,iv])=H2 at *
 have c2:H2.get H1.nx=aD 0 [lv,iv]:=by rw[<-hH2,eP]
 have n2:H2.nx=H1.nx+1:=by rw[<-hH2];rfl
 have g2:H2.get H.nx=aD 0 [.int .i64 (.ofNat n),gv]:=(fa.keep (by omega)).trans g1
 rw[qnw]
 unfold qqr
 simp(disch:=first|omega|exact ti rfl|(simp only[np,nq];first|done|omega)) only[go_sem,reduceAdd,reduceLeDiff,g2]
 refine Ok.ve (zm1 hC hO hS hR (k:=j) (by omega) hE hn hlen (((hg.fm f0).fm f1).fm fa)) ?_
 rintro r H3 ⟨wx,aJr,bRc,R3,rfl,hF3,aDh,bBj,aDY,hx3,bMg,hRl,f3⟩
 have hrr:=hF3.uniq hF
 subst hrr
 have n3:=f3.nx
 have f03:=((f0.trans f1).trans fa).trans f3
 have e0:=hx3.len
 rw[iW]at e0
 have hN:=zwm hF hCR.ins
 have hN3:=zwm hF aDh
 by_cases hm:R3=[]
 ·subst hm
  have e0':aG wx= .val (.int .i64 (.ofNat 0)):=e0
  simp only[go_sem,e0',Nat.lt_irrefl]
  rw[qnx]
  unfold qqs
  have g3:H3.get H.nx=aD 0 [.int .i64 (.ofNat n),gv]:=(f3.keep (by omega)).trans g2
  have c3:H3.get H1.nx=aD 0 [lv,iv]:=(f3.keep (by omega)).trans c2
  have hd:=zk4 hE.rng hF hN
  have aK0:∀ e∈es,e.s=true->d9.getD e.f 0≠d9.getD e.t 0:=fun e he hs h=>by
   obtain⟨l1,l2⟩:=hE.rng e he
   rw[hN.same hN3 l1,hN.same hN3 l2]at h
   have:=(aDY _).2 (q3e.2 ⟨e,he,hs,h,rfl⟩)
   cases this
  have hL:=zk5 hF
  have aFS:=hCR.no (fa.trans f3)
  obtain⟨z1,z2,z3,z4,z5⟩:=hF.all
  have elv:=aFS.gl.cO
  rw[aFS.len]at elv
  by_cases h0:0<n
  ·have mk:=qcz [.int .i64 (.ofNat 0)] 8 H3.nx n (by omega) (by omega)
   rw[qct,qj3]at mk
   simp only[go_sem,g3,h0,mk]
   rw[qid]
   unfold qjo
   have c4:(aR H3 (aD 0 (aJ (List.replicate n 0)))).get H1.nx=aD 0 [lv,iv]:=by rw[qbp _ _ _ (by omega)];exact c3
   simp only[go_sem,c4,elv]
   unfold qx5
   rw[dI]
   refine qvj hY (j:=j) (by omega) (HB:=aR H (aD 0 [.int .i64 (.ofNat n),gv])) (H0:=H3) (H1:=aR H3 (aD 0 (aJ (List.replicate n 0)))) hn (hg.fm f03) (by omega) hE.rng g3 (by omega) c3 (by omega) aFS hN (fun o ho x hx=>z2 x (List.mem_flatten.2 ⟨o,ho,hx⟩)) hd hL (fun o ho=> ?_) ((Fm.refl _ _).push _) (Nat.lt_succ_self _) (fun o H4 hO4 g4 f4=> ?_) cK 0 (List.replicate n 0) _ (by rw[dK];omega) (Nat.zero_le _) (qN.start n es d9) (kL _ _) (Fm.refl _ _)
   ·have:o.length<=aJr.flatten.length:=(List.sublist_flatten_of_mem ho).length_le
    omega
   ·unfold q02
    obtain⟨d1,d2,d3⟩:=hO4.done hE.rng hN hF hd aK0
    have n4:=f4.nx
    have n4':H3.nx+1<=H4.nx:=n4
    refine Ok.ret ⟨(f03.push _).then f4 fun c hc h=>by have:=f03.nx;omega,Or.inl ⟨_,o,rfl,⟨by rw[iW,hO4.len,Nat.mul_one],.inr ⟨H3.nx,0,true,0,_,rfl,g4,Nat.zero_le _,List.drop_zero,Or.inl rfl,by omega⟩⟩,rfl,d1,d2,fun x hx=> ?_⟩⟩
    have h1:=d3 x hx
    have h2:=hN.lt hx
    omega
  ·have hn0:n=0:=by omega
   subst hn0
   simp only[go_sem,g3,Nat.lt_irrefl]
   rw[qid]
   unfold qjo
   have hr0:aJr=[]:=List.length_eq_zero_iff.1 (by omega)
   subst hr0
   have aQG:aG lv= .val (.int .i64 (.ofNat 0)):=elv
   simp only[go_sem,c3,aQG]
   unfold qx5
   rw[dI]
   show Ok (qkr (C j) _ _ _ _ _ _ (qic (C j) _ _ _ _ _ _ 999999) _ H3) _
   unfold qkr
   have hes:es=[]:=by
    rcases List.eq_nil_or_concat es with h|⟨l,e,h⟩
    ·exact h
    ·have:=hE.rng e (by rw[h];simp)
     omega
   exact Ok.ret ⟨f03,Or.inl ⟨_,[],rfl,Gl.nil _ _,rfl,⟨rfl,fun e he=>by rw[hes]at he;cases he⟩,fun S _ x hx=>absurd hx (Nat.not_lt_zero _),fun x hx=>absurd hx (Nat.not_lt_zero _)⟩⟩
 ·have hp:0<R3.length:=List.length_pos_iff.2 hm
  simp only[go_sem,e0,hp]
  obtain⟨x,hx⟩:=List.exists_mem_of_ne_nil R3 hm
  obtain⟨e,he,hs,h1,_⟩:=q3e.1 ((aDY x).1 hx)
  obtain⟨l1,l2⟩:=hE.rng e he
  exact Ok.ret ⟨f03,Or.inr ⟨rfl,e,he,hs,((hN3.eq hF l1 l2).1 h1).2⟩⟩
end Go.Di
end
section
namespace Go.Di
open Go.Ev Go.Di.T Go.Sort
def lvN(s:SS):Nat:=lvl ((s.a-12402) / 256)
theorem qmc(n:Nat):lvN (fC n)=lvl n:=by
 unfold lvN fC lvl
 simp
def xU(n:Nat)(s:SS)(neg:Bool):Prop:=lvN s<lvl n\/(neg=false/\lvN s=lvl n)
theorem zfb{n k:Nat}{neg:Bool}(h:qjl n k neg=true):xU n (fC k) neg:=by
 unfold qjl at h
 unfold xU
 rw[qmc]
 simpa using h
def NdL(n:Nat)(y:Nd):Prop:=(y.k=1->y.neg=false)/\(y.k=2->xU n y.rl y.neg)/\(y.k=3->xU n y.to y.neg)
theorem qs0{n:Nat}{neg:Bool}(hneg:neg=true->0<lvl n):∀ y∈(zA neg).nodes neg,NdL n y:=by
 unfold zA
 cases neg
 ·intro y hy
  simp[Ru.nodes]at hy
  subst hy
  exact⟨fun _=>rfl,fun h=>by simp at h,fun h=>by simp at h⟩
 ·intro y hy
  simp[Ru.nodes]at hy
  subst hy
  refine⟨fun h=>by simp at h,fun _=> .inl ?_,fun h=>by simp at h⟩
  rw[qmc]
  exact hneg rfl
theorem qzc{L:List (List Nat)}{n:Nat}(hn:n<bF L):∀(d i:Nat) (neg:Bool),(neg=true->0<lvl n)->∀ y∈(eB L n d i neg).1.nodes neg,NdL n y
 |0,i,neg,h=>by unfold eB;exact qs0 h
 |d+1,i,neg,hneg=>by
  have hA:At (bF L) n neg:=⟨hn,Nat.min_le_right _ _,hneg⟩
  unfold eB
  split
  ·exact qs0 hneg
  split
  ·exact qs0 hneg
  split
  ·have hp:=qtj hA
   have hm:=qdc (d:=sE) (Nat.mod_lt (dW L n i / 8) hp)
   intro y hy
   simp[wS,Ru.nodes]at hy
   subst hy
   refine⟨fun h=>by simp at h,fun _=> ?_,fun h=>by simp at h⟩
   have:∀ s∈cmpL (bF L) n neg,xU n s neg:=fun s hs=>by
    obtain⟨k,hk,rfl⟩:=List.mem_map.1 hs
    exact zfb (List.mem_filter.1 hk).2
   simp_all
  split
  ·unfold rE
   split
   ·exact qs0 hneg
   ·rename_i h
    have hm:=qdc (d:=(⟨sE,sE⟩:ArS)) (Nat.mod_lt (dW L n i / 8) (show 0<(kU L n neg).length by omega))
    intro y hy
    simp only[Ru.nodes,List.mem_singleton]at hy
    subst hy
    refine⟨fun h=>by simp at h,fun h=>by simp at h,fun _=> ?_⟩
    have:∀ s∈kU L n neg,xU n s.to neg:=fun s hs=>by
     obtain⟨i,_,hs⟩:=List.mem_flatMap.1 hs
     obtain⟨t,_,hs⟩:=List.mem_flatMap.1 hs
     obtain⟨j,hj,rfl⟩:=List.mem_map.1 hs
     have hp:=(List.mem_filter.1 hj).2
     unfold arP at hp
     rw[Bool.and_eq_true]at hp
     exact zfb hp.2
    exact this _ hm
  ·intro y hy
   rw[Ru.nodes,List.mem_cons,List.mem_append]at hy
   have hk:sI n (dW L n i)≠1/\sI n (dW L n i)≠2/\sI n (dW L n i)≠3:=by unfold sI;split<;>(try split)<;>omega
   rcases hy with rfl|hy|hy
   ·exact⟨fun h=>absurd h hk.1,fun h=>absurd h hk.2.1,fun h=>absurd h hk.2.2⟩
   ·exact qzc hn d _ _ hneg _ hy
   ·refine qzc hn d _ _ (fun h=> ?_) _ hy
    rw[Bool.or_eq_true,decide_eq_true_iff]at h
    rcases h with h|h
    ·exact hneg h
    ·unfold sI at h
     split at h
     ·omega
     split at h
     ·omega
     ·omega
theorem zj1{L:List (List Nat)}{n:Nat}(hn:n<bF L){t:kF}(h:t∈kH L n)(hr:t.rl≠sE):lvN t.rl<=lvl n:=by
 unfold kH at h
 rw[List.mem_append]at h
 rcases h with h|h
 ·unfold rG at h
  rw[List.mem_cons]at h
  rcases h with rfl|h
  ·trivial
  ·rw[List.mem_map]at h
   obtain⟨i,_,rfl⟩:=h
   trivial
 ·split at h
  ·rw[List.mem_singleton]at h
   have hm:=qdc (d:=(⟨sE,sE⟩:kF)) (Nat.mod_lt (dW L n 1 / 2) (qr8 hn))
   rw[<-h]at hm
   unfold pF at hm
   rw[List.mem_map]at hm
   obtain⟨k,hk,rfl⟩:=hm
   rw[List.mem_filter]at hk
   rw[qmc]
   simp_all
  ·cases h
variable {L:List (List Nat)} {X:List aS}
theorem mX.len(h:mX L X):(aF X).length=bF L:=by rw[h.all];simp
theorem mX.aDI(h:mX L X){a b:SS}(hl:bJ X a b<(aF X).length):lvl (bJ X a b)=lvN b:=by
 have h1:(aF X)[bJ X a b]=(a,b):=by
  have:=List.findIdx_getElem (w:=hl)
  exact of_decide_eq_true this
 have h2:(aF X)[bJ X a b]=prN (bJ X a b):=by
  have:∀(l:List (SS×SS)) (hll:bJ X a b<l.length),l=(List.range (bF L)).map prN->l[bJ X a b]=prN (bJ X a b):=fun l hll e=>by
   subst e;simp
  exact this _ hl h.all
 rw[h1]at h2
 have h3:=congrArg Prod.snd h2
 have h4:b=fC (bJ X a b):=h3
 calc lvl (bJ X a b)=lvN (fC (bJ X a b)):=(qmc _).symm
  _=lvN b:=by rw[<-h4]
theorem mX.lev(h:mX L X){e:Edge}(he:e∈vL X X)(hf:e.f<(aF X).length)(ht:e.t<(aF X).length):lvl e.t<=lvl e.f/\(e.s=true->lvl e.t<lvl e.f):=by
 obtain⟨g,hg,he⟩:=List.mem_flatMap.1 he
 obtain⟨x,hx,he⟩:=List.mem_flatMap.1 he
 obtain⟨y,hy,he⟩:=List.mem_flatMap.1 he
 obtain⟨p,hp,rfl⟩:=List.mem_map.1 he
 obtain⟨i,n,_,_,_,_,hn,hr⟩:=h.x hg hx
 have hnm:x.r.name=fC n:=by rw[hr,qdn];rfl
 have h1:lvl (bJ X g.name x.r.name)=lvl n:=by rw[h.aDI hf,hnm,qmc]
 have h2:lvl (bJ X p.1 p.2)=lvN p.2:=h.aDI ht
 show lvl (bJ X p.1 p.2)<=lvl (bJ X g.name x.r.name)/\(y.neg=true->lvl (bJ X p.1 p.2)<lvl (bJ X g.name x.r.name))
 rw[h1,h2]
 have lI:x.r.rule=(eB L n 6 2 false).1:=by rw[hr,qbv];rfl
 rw[lI]at hy
 obtain⟨q1,q2,q3⟩:=qzc hn 6 2 false (fun h=>by cases h) y hy
 have key:∀ s,xU n s y.neg->lvN s<=lvl n/\(y.neg=true->lvN s<lvl n):=fun s hs=>by
  rcases hs with hs|⟨e,hs⟩
  ·omega
  ·simp_all
 unfold vU at hp
 split at hp
 ·rename_i hk
  obtain⟨t,ht',rfl⟩:=List.mem_map.1 hp
  obtain⟨ht1,ht2⟩:=List.mem_filter.1 ht'
  have:t∈kH L n:=by
   rw[hr]at ht1
   exact qfq _ _ t ht1
  exact⟨zj1 hn this (by simpa using ht2),fun h=>by rw[q1 hk]at h;cases h⟩
 split at hp
 ·rename_i hk
  rw[List.mem_singleton]at hp
  subst hp
  exact key _ (q2 hk)
 split at hp
 ·rename_i hk
  obtain⟨s,_,rfl⟩:=List.mem_map.1 hp
  exact key _ (q3 hk)
 ·cases hp
theorem zth{n:Nat}{es:List Edge}{lv:Nat->Nat}(h:∀ e∈es,lv e.t<=lv e.f/\(e.s=true->lv e.t<lv e.f)):¬ ∃e∈es,e.s=true/\Rc (iO es) e.t e.f:=by
 rintro ⟨e,he,hs,hr⟩
 have down:∀ a b,Rc (iO es) a b->lv b<=lv a:=fun a b hab=>by
  induction hab with
  |refl=>exact Nat.le_refl _
  |step _ hc ih =>
   obtain⟨e',h1,h2,h3⟩:=qdr.1 hc
   have:=(h e' h1).1
   rw[h2,h3]at this
   omega
 have:=down _ _ hr
 have:=(h e he).2 hs
 omega
end Go.Di
end
section
namespace Go.Di
open Go.Ev Go.Di.T Go.Sort
variable {C:Nat->Ev.Call} {LA LO:LP}
theorem zyl(hC:bC C)(hN:l9 C){k:Nat}(hk:22<=k){H:Hp}{sv:AV}{X:List aS}(hX:dF H sv X)(hV:eT X){i:Nat}(hi:i<(aF X).length) :
  Ok (C k (.f 31) [.agg [sv],iN i] H) fun r H'=>r= .aZ [(aF X)[i].1.v,(aF X)[i].2.v,iN 0]/\Fm No H H':=by
 obtain⟨j,rfl⟩:=aW hk
 rw[(hC j).zAv]
 unfold zAv zrr
 simp(disch:=omega) only[go_sem]
 have f:Fm No H (aR H (aD 0 [sv])):=by exact jW
 refine Ok.ve (qm5 hC hN (k:=j) (by omega) (hX.fm f) hV) ?_
 rintro _ H1 ⟨rfl,f1⟩
 unfold q9x
 have n1:=f1.nx
 have k1:H1.get H.nx=aD 0 [sv]:=(f1.keep (by simp only[np];omega)).trans (kL _ _)
 simp only[go_sem,k1]
 have hX1:=(hX.fm f).fm f1
 refine Ok.ve (zgr hC (k:=j) (by omega) hX1 hV.pr hV.al hV.sp) ?_
 rintro _ H2 ⟨ib,rfl,hI,f2⟩
 obtain⟨mb,nb,av,iv,qs,h1,_,_,h4,h5,_,_,h8,h9,_⟩:=hI.ex
 have hln:(eO X).length=(aF X).length:=by rw[<-uL,List.length_map]
 have hla:=h4.len
 have hi2:i<(eO X).length:=by omega
 have hiq:i<qs.length:=by omega
 have hge:¬ qs.length<=i:=by omega
 have h0:¬ i<0:=Nat.not_lt_zero i
 simp only[go_sem,h0,h1,hla,hge]
 unfold q9y
 obtain⟨b1,o1,e1,e2,_,_,e4⟩:=h4.at' i hiq
 obtain⟨b2,o2,g1,g2,_,_,g4⟩:=h5.at' i hi2
 have r1:bT (H2.get b1) o1= .val (.ptr qs[i].1 qs[i].2):=e4 0 (by rw[qsr];omega)
 have r2:bT (H2.get b2) o2= .val (.str (eO X)[i].1.n (eO X)[i].1.a):=g4 0 (by rw[zec];omega)
 have hp:=(h9 i hiq hi2).nm
 simp only[go_sem,h1,g1,r2,e1,r1,hp]
 have hx:(aF X)[i]=kq (eO X)[i]:=by
  have:∀(l:List (SS×SS)) (hl:i<l.length),l=(eO X).map kq->l[i]=kq (eO X)[i]:=fun l hl e=>by subst e;simp
  exact this _ hi (uL X).symm
 rw[hx]
 exact Ok.ret ⟨rfl,(f.trans f1).trans f2⟩
def stC(q:(SS×SS)×Nat):List AV:=[q.1.1.v,q.1.2.v,iN (q.2)]
theorem zc3(q:(SS×SS)×Nat):(stC q).length=3:=rfl
def stZ:List AV:=[.str 0 0,.str 0 0,iN 0]
def stL(ps:List ((SS×SS)×Nat))(i:Nat):List AV:=(ps.take i).flatMap stC++(List.replicate (ps.length-i) stZ).flatten
theorem flat3(ps:List ((SS×SS)×Nat)):(ps.flatMap stC).length=ps.length*3:=by
 induction ps with
 |nil=>rfl
 |cons a l ih=>rw[List.flatMap_cons,List.length_append,ih,zc3,List.length_cons];omega
theorem qse(A B:List AV)(x c:AV)(k:Nat)(hk:k=A.length):bD (A++x::B) k [c]=A++c::B:=by
 subst hk
 unfold bD
 simp
theorem zj8{ps:List ((SS×SS)×Nat)}{i:Nat}(h:i<ps.length):bD (bD (bD (stL ps i) (i*3) [ps[i].1.1.v]) (i*3+1) [ps[i].1.2.v]) (i*3+2) [iN (ps[i].2)]=stL ps (i+1):=by
 have hl:((ps.take i).flatMap stC).length=i*3:=by rw[flat3,List.length_take];omega
 have e:stL ps i=(ps.take i).flatMap stC++ .str 0 0:: .str 0 0::iN 0::(List.replicate (ps.length-(i+1)) stZ).flatten:=by
  unfold stL
  rw[show ps.length-i=ps.length-(i+1)+1 by omega,List.replicate_succ,List.flatten_cons];rfl
 rw[e,qse _ _ _ _ _ hl.symm]
 rw[show ∀(A B:List AV) (x y:AV),A++x::y::B=(A++[x])++y::B from fun A B x y=>by simp]
 rw[qse _ _ _ _ _ (by simp[hl])]
 rw[show ∀(A B:List AV) (x y z:AV),A++[x]++y::z::B=(A++[x,y])++z::B from fun A B x y z=>by simp]
 rw[qse _ _ _ _ _ (by simp[hl])]
 unfold stL
 rw[List.take_succ_eq_append_getElem h,List.flatMap_append,List.flatMap_singleton]
 simp[stC]
theorem qdw(l:List AV):∀ n,bB l n=(List.replicate n l).flatten
 |0=>rfl
 |n+1=>by show l++bB l n=_;rw[qdw l n,List.replicate_succ,List.flatten_cons]
theorem zym(hC:bC C){k:Nat}(hk:1<=k){b o:Nat}{n:Int}{H H':Hp}(h:storeAt H b (o+2) [.int .i64 n] .undef= .ok .undef H'):C k (.f 32) [.ptr b o,.int .i64 n] H= .ok (.aZ []) H':=by
 obtain⟨j,rfl⟩:=aW hk
 rw[(hC j).zAw]
 unfold zAw zrq
 simp only[go_sem,h]
theorem q2a(hC:bC C)(hN:l9 C){j:Nat}(hj:22<=j){Hb:Hp}{sv nv:AV}{X:List aS}{xb pb zb n:Nat}{o:List Nat}(hX:dF Hb sv X)(hV:eT X)(hn:n=(aF X).length)(ho:Gl 1 Hb nv n (aJ o))
  (hx:Hb.get xb=aD 0 [sv]) (hxl:xb<Hb.nx) (hp:Hb.get pb=aD 0 [.sl zb 0 n n true]) (hpl:pb<Hb.nx) (hne:xb≠zb/\pb≠zb/\zb<Hb.nx) (hnz:∀ c,In nv c->c≠zb) (hXz:∀ H,Fm (fun c=>c=zb) Hb H->dF H sv X) {Q:AV->Hp->Prop} {q:Hp->R1}
  (hq:∀ H,Gl 3 H (.sl zb 0 n n true) n (((aF X).zip o).flatMap stC)->Fm (fun c=>c=zb) Hb H->Ok (q H) Q) :
  ∀(k i:Nat) (H:Hp),i<=n->n-i<k->Gl 3 H (.sl zb 0 n n true) n (stL ((aF X).zip o) i)->Fm (fun c=>c=zb) Hb H ->
   Ok (qrb (C j) q (.ptr xb 0) nv (.ptr pb 0) (iN n) k (iN i) H) Q
 |0,i,_,_,h,_,_=>by omega
 |k+1,i,H,hi,hk,hg,hf=>by
  show Ok (qyk (C j) _ _ _ _ _ (qrb (C j) _ _ _ _ _ k) _ H) Q
  unfold qyk
  have iX:(aF X).length<=256:=by have:=hV.pr.len;rw[<-uL,List.length_map];exact this
  have hol:o.length=n:=by have:=ho.len;simpa [aJ] using this
  have hzl:((aF X).zip o).length=n:=by rw[List.length_zip];omega
  by_cases hlt:i<n
  ·simp only[go_sem,hlt]
   unfold zbo
   have p1:=(hf.get pb hpl hne.2.1).trans hp
   have x1:=(hf.get xb hxl hne.1).trans hx
   obtain⟨b,q1,H2,i2,e2,g2,f2,n2⟩:=hg.set1 hlt (j:=0) (by omega) ((aF X).zip o)[i].1.1.v
   have hb2:b=zb/\q1=i*3:=by rw[sP _ _ _ _ _ _ _ _ hlt,Nat.zero_add]at i2;injection i2 with i2;injection i2 with a b;exact⟨a.symm,b.symm⟩
   obtain⟨rfl,rfl⟩:=hb2
   simp only[go_sem,p1,x1,i2]
   have nz:∀ H',Fm No H H'->Fm (fun c=>c=b) Hb H':=fun H' f'=>hf.then f' fun _ _ h=>absurd h id
   refine Ok.lX (zyl hC hN (k:=j) hj (hXz _ (nz _ (by exact Fm.refl _ _))) hV (i:=i) (by omega)) ?_
   rintro _ H4 ⟨rfl,f4⟩
   have f04:=(show Fm No H _ by exact Fm.refl _ _).trans f4
   have h4:=nz H4 f04
   have p4:=(h4.get pb hpl hne.2.1).trans hp
   have g4:=hg.fm f04 (fun _ _ h=>h)
   obtain⟨b4,q4,H5,i5,e5,g5,f5,n5⟩:=g4.set1 hlt (j:=0) (by omega) (aF X)[i].1.v
   rw[i2]at i5
   injection i5 with i5
   injection i5 with ea eb
   subst ea eb
   have inz:∀ c,In (AV.sl b 0 n n true) c->c=b:=fun c h=>by obtain⟨_,_,_,_,h⟩:=h;cases h;rfl
   have p5:=(f5.get pb (by have:=h4.nx;omega) (fun h=>hne.2.1 (inz _ h))).trans p4
   unfold SS.v at e5 g5
   rw[Nat.add_zero]at e5
   unfold SS.v
   obtain⟨b5,q5,H6,i6,e6,g6,f6,n6⟩:=g5.set1 hlt (j:=1) (by omega) (aF X)[i].2.v
   rw[i2]at i6
   injection i6 with i6
   injection i6 with ea eb
   subst ea eb
   have p6:=(f6.get pb (by have:=h4.nx;omega) (fun h=>hne.2.1 (inz _ h))).trans p5
   obtain⟨b6,q6,H7,i7,e7,g7,f7,n7⟩:=g6.set1 hlt (j:=2) (by omega) (iN ((o.getD i 0)))
   rw[i2]at i7
   injection i7 with i7
   injection i7 with ea eb
   subst ea eb
   have hz6:Fm (fun c=>c=b) Hb H6:=((nz H4 f04).then f5 fun c _ h=>inz c h).then f6 fun c _ h=>inz c h
   obtain⟨vb,vo,v1,_,v3⟩:=((ho.fm hz6 hnz).rl).at' i (by rw[iW];omega)
   have hge:(aJ o)[i]'(by rw[iW];omega)=iN ((o.getD i 0)):=by simp[aJ,List.getD_eq_getElem?_getD,hol,hlt]
   rw[hge]at v3
   unfold SS.v at e6 g6
   have cp:=zym hC (k:=j) (by omega) e7
   simp only[go_sem,seval,p4,i2,e5,p5,e6,p6,v1,v3,cp]
   unfold zbp
   simp(disch:=omega) only[go_sem]
   have hz7:=hz6.then f7 fun c _ h=>inz c h
   have hz:((aF X).zip o)[i]=((aF X)[i],o.getD i 0):=by simp[List.getD_eq_getElem?_getD,hol,hlt]
   have hs:=zj8 (ps:=(aF X).zip o) (i:=i) (by omega)
   rw[hz]at hs
   refine q2a hC hN hj hX hV hn ho hx hxl hp hpl hne hnz hXz hq k (i+1) H7 (by omega) (by omega) ?_ hz7
   rw[<-hs]
   exact g7
  ·simp only[go_sem,hlt]
   have he:i=n:=by omega
   subst he
   have:stL ((aF X).zip o) i=((aF X).zip o).flatMap stC:=by
    unfold stL
    rw[List.take_of_length_le (by omega),hzl,Nat.sub_self];simp
   simp_all
end Go.Di
end
section
namespace Go.Di
open Go.Ev Go.Di.T Go.Sort
variable {C:Nat->Ev.Call} {LA LO:LP} {L:List (List Nat)} {X:List aS}
def esG(X:List aS):List Edge:=jE (sortE (vL X X))
theorem q5v{n:Nat}(ms:List Nat)(hn:n<13):(zY n ms).length<900:=by
 have:=zps n ms n
 have h:n*n<=12*12:=Nat.mul_le_mul (by omega) (by omega)
 unfold zY
 rw[List.length_map]
 omega
theorem mX.es(h:mX L X):qdt (aF X).length (esG X)/\(esG X).length<900:=by
 have e:esG X=zY (aF X).length _:=h.val.same.symm
 rw[e]
 exact⟨q33 _ _,q5v _ (by rw[h.len];exact qdi L)⟩
theorem mX.nb(h:mX L X):¬ ∃e∈esG X,e.s=true/\Rc (iO (esG X)) e.t e.f:=zth (n:=0) (lv:=lvl) fun e he=>by
 have hr:=h.es.1.rng e he
 exact h.lev (quk.1 (zf1.1 he)) hr.1 hr.2
structure aAc(X:List aS)(o:List Nat):Prop where
 fit:Fit (aF X).length (esG X) o
 lst:Lst (aF X).length (esG X) o
 lt:∀ x,x<(aF X).length->o.getD x 0<(aF X).length
theorem zgs(hC:bC C)(hO:qY C)(hS:pU C)(hR:qF LA LO C){k:Nat}(hk:1002<=k)(h:mX L X){gv:AV}{H:Hp}(hg:jS H gv (esG X)) :
  Ok (C k (.f 23) [.agg [iN ((aF X).length),gv]] H) fun r H'=>Fm No H H' /\
   ∃w o,r= .aZ [w,iN 0]/\Gl 1 H' w (aF X).length (aJ o)/\iI w= .val (iN ((aF X).length))/\aAc X o:=by
 have hm:=qdi L
 refine(q6l hC hC hO hS hR hk h.es.1 (by rw[h.len];omega) h.es.2 hg).mono fun r H' hh=>⟨hh.1,?_⟩
 rcases hh.2 with⟨w,o,h1,h2,h3,h4,h5,h6⟩|⟨_,h2⟩
 ·exact⟨w,o,h1,h2,h3,h4,h5,h6⟩
 ·exact absurd h2 h.nb
theorem zyk(hC:bC C)(hN:l9 C)(hE:qpr C)(hO:qY C)(hS:pU C)(hR:qF LA LO C){k:Nat}(hk:1003<=k){H:Hp}{sv:AV}(hX:dF H sv X)(h:mX L X) :
  Ok (C k (.f 8) [.agg [sv]] H) fun r H'=>r=iN 0/\Fm No H H':=by
 obtain⟨j,rfl⟩:=aW hk
 rw[(hC j).zAe]
 unfold zAe zr7
 simp(disch:=omega) only[go_sem]
 have f:Fm No H (aR H (aD 0 [sv])):=by exact jW
 refine Ok.ve (zp0 hC hN hE (k:=j) (by omega) (hX.fm f) h.val) ?_
 rintro _ H1 ⟨gv,rfl,hg,_,f1,_⟩
 simp(disch:=omega) only[go_sem,seval]
 have fa:Fm No H1 ((aR H1 (aD 0 [iN 0,.aA])).put H1.nx (aD 0 [iN ((aF X).length),gv])):=by exact kI
 refine Ok.ve (zgs hC hO hS hR (k:=j) (by omega) h (hg.fm fa)) ?_
 rintro _ H2 ⟨f2,w,o,rfl,_⟩
 exact Ok.ret ⟨rfl,((f.trans f1).trans fa).trans f2⟩
theorem zyj(hC:bC C)(hN:l9 C)(hE:qpr C)(hO:qY C)(hS:pU C)(hR:qF LA LO C){k:Nat}(hk:1003<=k){H:Hp}{sv:AV}(hX:dF H sv X)(h:mX L X) :
  Ok (C k (.f 7) [.agg [sv]] H) fun r H'=>∃ zv o,r= .aZ [.agg [zv],iN 0]/\Gl 3 H' zv (aF X).length (((aF X).zip o).flatMap stC)/\sZ zv=true/\aAc X o/\Fm No H H':=by
 have hm:=qdi L
 have hln:=h.len
 obtain⟨j,rfl⟩:=aW hk
 rw[(hC j).zAd]
 unfold zAd zr8
 simp(disch:=first|omega|exact ti rfl|(simp only[np,nq];first|done|omega)) only[go_sem]
 have f:Fm No H (aR (aR H (aD 0 [sv])) (aD 0 [.aA])):=by(repeat refine Fm.push ?_ _);exact Fm.refl _ _
 refine Ok.ve (zp0 hC hN hE (k:=j) (by omega) (hX.fm f) h.val) ?_
 rintro _ H1 ⟨gv,rfl,hg,_,f1,_⟩
 have n1:=f1.nx
 simp only[np]at n1
 have x1:H1.get H.nx=aD 0 [sv]:=(f1.keep (by simp only[np];omega)).trans (by simp(disch:=first|omega|exact ti rfl|(simp only[np,nq];first|done|omega)) only[go_sem])
 have y1:H1.get (H.nx+1)=aD 0 [.aA]:=(f1.keep (by simp only[np];omega)).trans (by simp(disch:=first|omega|exact ti rfl|(simp only[np,nq];first|done|omega)) only[go_sem])
 unfold zbm
 have fa:Fm No H1 ((aR H1 (aD 0 [iN 0,.aA])).put H1.nx (aD 0 [iN ((aF X).length),gv])):=by exact kI
 simp(disch:=omega) only[go_sem,seval]
 refine Ok.ve (zgs hC hO hS hR (k:=j) (by omega) h (hg.fm fa)) ?_
 rintro _ H2 ⟨f2,w,o,rfl,hw,_,hst⟩
 have n2:=f2.nx
 simp only[np,nq]at n2
 have f12:=fa.trans f2
 unfold zbn
 have hlw:=hw.cO
 have mk:=qcz [.str 0 0,.str 0 0,iN 0] 40 H2.nx (aF X).length (by omega) (by omega)
 simp(disch:=first|omega|exact ti rfl|(simp only[np,nq];first|done|omega)) only[go_sem,reduceLeDiff,hlw,mk]
 unfold zbq
 rw[dI]
 generalize hHz:(aR (aR H2 (aD 0 (bB [.str 0 0,.str 0 0,iN 0] (aF X).length))) (aD 0 [.aA])).put (H2.nx+1) (aD 0 [.sl H2.nx 0 (aF X).length (aF X).length true])=Hz
 have fz:Fm No H2 Hz:=by rw[<-hHz];repeat first|exact Fm.refl _ _|assumption|refine Fm.push ?_ _|refine Fm.aM ?_ _ _ (by omega)
 have nz:Hz.nx=H2.nx+2:=by rw[<-hHz];rfl
 have kz:Hz.get (H2.nx+1)=aD 0 [.sl H2.nx 0 (aF X).length (aF X).length true]:=by rw[<-hHz];exact eP _ _ _
 have kc:Hz.get H2.nx=aD 0 (bB [.str 0 0,.str 0 0,iN 0] (aF X).length):=by rw[<-hHz];simp(disch:=first|omega|exact ti rfl|(simp only[np,nq];first|done|omega)) only[go_sem]
 have xz:=((f12.trans fz).keep (show H.nx<H1.nx by omega)).trans x1
 have yz:=((f12.trans fz).keep (show H.nx+1<H1.nx by omega)).trans y1
 have hol:o.length=(aF X).length:=hst.fit.1
 have hzl:((aF X).zip o).length=(aF X).length:=by rw[List.length_zip];omega
 have gz:Gl 3 Hz (.sl H2.nx 0 (aF X).length (aF X).length true) (aF X).length (stL ((aF X).zip o) 0):=by
  have e:stL ((aF X).zip o) 0=bB [.str 0 0,.str 0 0,iN 0] (aF X).length:=by
   unfold stL
   rw[hzl,qdw];rfl
  have hl:(stL ((aF X).zip o) 0).length=(aF X).length*3:=by
   unfold stL
   rw[hzl]
   simp[stZ]
  exact⟨hl,.inr ⟨H2.nx,0,true,0,_,rfl,kc,Nat.zero_le _,by rw[e];rfl,.inl rfl,by omega⟩⟩
 have fall:=((f.trans f1).trans f12).trans fz
 have low:∀ H',Fm (fun c=>c=H2.nx) Hz H'->Fm No H H':=fun H' f'=>fall.then f' fun c hc h=>by omega
 have hwin:∀ c,In w c->c≠H2.nx:=fun c hc=>by have:=hw.lt hc;omega
 refine q2a hC hN (j:=j) (by omega) (hX.fm fall) h.val rfl (hw.fm fz fun _ _ h=>h) xz (by omega) kz (by omega) ⟨by omega,by omega,by omega⟩ hwin (fun H' f'=>hX.fm (low H' f')) (fun H3 g3 f3=> ?_) cK 0 Hz (Nat.zero_le _) (by rw[dK];omega) gz (Fm.refl _ _)
 unfold qyj
 have kz3:=(f3.get (H2.nx+1) (by omega) (by omega)).trans kz
 have yz3:=(f3.get (H.nx+1) (by omega) (by omega)).trans yz
 simp only[go_sem,seval,kz3,yz3]
 have g4:=g3.fm (show Fm (fun c=>c=H.nx+1) H3 (H3.put (H.nx+1) (aD 0 [.sl H2.nx 0 (aF X).length (aF X).length true]))from(Fm.refl _ _).put _ _ fun _=>rfl) fun c hc h=>by
  obtain⟨_,_,_,_,hc⟩:=hc
  cases hc
  omega
 exact Ok.ret ⟨_,o,rfl,g4,rfl,hst,(low H3 f3).aM _ _ (by omega)⟩
structure qH(H:Hp)(zv:AV)(X:List aS)(o:List Nat):Prop where
 rs:Rs 3 stC H zv ((aF X).zip o)
 flat:sZ zv=true
 len:o.length=(aF X).length
 n:(aF X).length<13
 lt:∀ x∈o,x<13
theorem qH.fm{H H':Hp}{zv:AV}{o:List Nat}(h:qH H zv X o)(f:Fm No H H'):qH H' zv X o:=⟨h.rs.fm f,h.flat,h.len,h.n,h.lt⟩
end Go.Di
end
section
namespace Go.Di
open Go.Ev Go.Di.T Go.Sort
variable {C:Nat->Ev.Call} {LA LO:LP} {L:List (List Nat)} {X:List aS} {o:List Nat}
theorem qH.zl(h:∃ H zv,qH H zv X o):((aF X).zip o).length=(aF X).length:=by
 obtain⟨_,_,h⟩:=h
 have:=h.len
 simp_all
theorem qH.at'{H:Hp}{zv:AV}(h:qH H zv X o){i:Nat}(hi:i<(aF X).length) :
  ∃b p,aL 3 zv (iN i)= .val (.ptr b p)/\iZ (H.get b) p 3=some [.str (aF X)[i].1.n (aF X)[i].1.a,.str (aF X)[i].2.n (aF X)[i].2.a,iN ((o.getD i 0))]:=by
 have hl:=h.len
 have hz:((aF X).zip o).length=(aF X).length:=qH.zl ⟨_,_,h⟩
 obtain⟨b,p,e1,_,_,e4,_⟩:=h.rs.at' i (by omega)
 have e:((aF X).zip o)[i]=((aF X)[i],o.getD i 0):=by simp[List.getD_eq_getElem?_getD,hl,hi]
 rw[e]at e4
 exact⟨b,p,e1,e4⟩
theorem q03{call:Ev.Call}{zv:AV}{H0:Hp}(h:qH H0 zv X o)(a b:SS){Q:AV->Hp->Prop}{qr:AV->AV->Hp->R1}{q:Hp->R1}
  (hr:∀ H,Fm No H0 H->bJ X a b<(aF X).length->Ok (qr (iN ((o.getD (bJ X a b) 0))) (iN 0) H) Q) (hq:∀ H,Fm No H0 H->(a,b)∉aF X->Ok (q H) Q) :
  ∀(k i:Nat) (H:Hp),i<=(aF X).length->(aF X).length-i<k->(∀m (_:m<i) (hl:m<(aF X).length),(aF X)[m]≠(a,b))->Fm No H0 H ->
   Ok (qt0 call qr q a.v b.v zv (iN ((aF X).length)) k (iN i) H) Q
 |0,i,_,_,h,_,_=>by omega
 |k+1,i,H,hi,hk,hn,hf=>by
  show Ok (za4 call _ _ _ _ _ _ (qt0 call _ _ _ _ _ _ k) _ H) Q
  unfold za4
  have h12:=h.n
  have next:i<(aF X).length->(aF X)[i]? ≠ some (a,b)->∀ H,Fm No H0 H->Ok (za1 call (qt0 call qr q a.v b.v zv (iN ((aF X).length)) k) (iN i) H) Q:=fun hlt hne H hf=>by
   unfold za1
   simp(disch:=omega) only[go_sem]
   refine q03 h a b hr hq k (i+1) H (by omega) (by omega) (fun m hm hl=> ?_) hf
   by_cases he:m=i
   ·simp_all
   ·exact hn m (by omega) hl
  by_cases hlt:i<(aF X).length
  ·simp only[go_sem,hlt]
   unfold za2
   obtain⟨b1,p,e1,e2⟩:=(h.fm hf).at' hlt
   unfold SS.v
   have fx:∀ c,Fm No H0 ((aR H (aD 0 [.str 0 0,.str 0 0,iN 0])).put H.nx c):=fun c=>hf.trans (by exact kI)
   by_cases h1:(aF X)[i].1.n=a.n/\(aF X)[i].1.a=a.a
   ·have oH:=eq_true h1
    by_cases h2:(aF X)[i].2.n=b.n/\(aF X)[i].2.a=b.a
    ·have h2t:=eq_true h2
     simp(disch:=first|omega|exact ti rfl) only[go_sem,seval,e1,e2,oH,h2t]
     have hp:(aF X)[i]=(a,b):=Prod.ext ((nI _ _).2 h1) ((nI _ _).2 h2)
     have hx:bJ X a b=i:=by
      unfold bJ
      rw[List.findIdx_eq hlt]
      simp_all
     simp_all
    ·simp(disch:=first|omega|exact ti rfl) only[go_sem,seval,e1,e2,oH,h2]
     refine next hlt (fun h=>h2 ?_) _ (fx _)
     simp_all
   ·simp(disch:=first|omega|exact ti rfl) only[go_sem,seval,e1,e2,h1]
    refine next hlt (fun h=>h1 ?_) _ (fx _)
    simp_all
  ·simp only[go_sem,hlt]
   refine hq H hf fun hm=> ?_
   obtain⟨m,hm,he⟩:=List.getElem_of_mem hm
   exact hn m (by omega) hm he
theorem zom(hC:bC C){k:Nat}(hk:1<=k){H:Hp}{zv:AV}(h:qH H zv X o)(a b:SS) :
  Ok (C k (.f 12) [.agg [zv],a.v,b.v] H) fun r H'=>Fm No H H'/\((bJ X a b<(aF X).length/\r= .aZ [iN ((o.getD (bJ X a b) 0)),iN 0])\/((a,b)∉aF X/\r= .aZ [iN 0,iN 6])):=by
 obtain⟨j,rfl⟩:=aW hk
 rw[(hC j).zAi]
 unfold zAi zr3
 have f:Fm No H (aR H (aD 0 [zv])):=by exact jW
 have hz:((aF X).zip o).length=(aF X).length:=qH.zl ⟨_,_,h⟩
 have hl:=h.rs.len
 rw[hz]at hl
 simp(disch:=omega) only[go_sem,hl]
 unfold zo0
 rw[dI]
 have h12:=h.n
 refine q03 (h.fm f) a b (fun H2 f2 hlt=> ?_) (fun H2 f2 hn=> ?_) cK 0 _ (Nat.zero_le _) (by rw[dK];omega) (fun m hm=>by omega) (Fm.refl _ _)
 ·exact Ok.ret ⟨f.trans f2,.inl ⟨hlt,rfl⟩⟩
 ·unfold za3
  exact Ok.ret ⟨f.trans f2,.inr ⟨hn,rfl⟩⟩
def zR(o:List Nat)(i:Nat):Nat:=gK ((o.take i).map (· +1))
theorem qnm(hC:bC C){j:Nat}(hj:1<=j){zv:AV}{H0:Hp}(h:qH H0 zv X o){Q:AV->Hp->Prop}{q:AV->Hp->R1}
  (hq:∀ H,Fm No H0 H->Ok (q (iN ((zR o (aF X).length))) H) Q) :
  ∀(k i:Nat) (H:Hp),i<=(aF X).length->(aF X).length-i<k->Fm No H0 H ->
   Ok (q1i (C j) q zv (iN ((aF X).length)) k (iN ((zR o i))) (iN i) H) Q
 |0,i,_,_,h,_=>by omega
 |k+1,i,H,hi,hk,hf=>by
  show Ok (za0 (C j) _ _ _ (q1i (C j) _ _ _ k) _ _ H) Q
  unfold za0
  have h12:=h.n
  have hol:=h.len
  by_cases hlt:i<(aF X).length
  ·simp only[go_sem,hlt]
   unfold zaz
   obtain⟨b1,p,e1,e2⟩:=(h.fm hf).at' hlt
   have hgl:o.getD i 0<13:=h.lt _ (qdc (by omega))
   simp(disch:=first|omega|exact ti rfl|(simp only[np,nq];first|done|omega)) only[go_sem,reduceAdd,reduceLeDiff,e1,e2]
   generalize hHr:aR _ (aD 0 [AV.int IntKind.i64 (Int.ofNat (zR o i)),AV.int IntKind.i64 (Int.ofNat (o.getD i 0+1))])=Hr
   have fr:Fm No H Hr:=by rw[<-hHr];exact aLY
   have gr:Gl 1 Hr (.sl (H.nx+1) 0 2 2 true) 2 (aJ [zR o i,o.getD i 0+1]):=⟨rfl,.inr ⟨H.nx+1,0,true,0,_,rfl,by rw[<-hHr];exact kL _ _,Nat.zero_le _,rfl,.inl rfl,by rw[<-hHr];simp only[np,nq];omega⟩⟩
   rw[q3l hC (k:=j) hj gr.rl (by simp)]
   have hmx:gK [zR o i,o.getD i 0+1]=zR o (i+1):=by
    unfold zR
    rw[List.take_succ_eq_append_getElem (by omega),List.map_append]
    unfold gK
    simp_all
   rw[hmx]
   unfold zox
   simp(disch:=omega) only[go_sem]
   exact qnm hC hj h hq k (i+1) Hr (by omega) (by omega) (hf.trans fr)
  ·simp only[go_sem,hlt]
   have he:i=(aF X).length:=by omega
   simp_all
def rA(X:List aS)(o:List Nat):Nat:=zR o (aF X).length
theorem zeh{l:List Nat}{m:Nat}(h:∀ x∈l,x<=m):gK l<=m:=by
 obtain⟨_,_,h3⟩:=qv3 l 0
 rcases h3 with h3|h3
 ·unfold gK;omega
 ·exact h _ h3
theorem qH.mn{H:Hp}{zv:AV}(h:qH H zv X o):rA X o<=13:=zeh fun x hx=>by
 obtain⟨y,hy,rfl⟩:=List.mem_map.1 hx
 have:=h.lt y (List.mem_of_mem_take hy)
 omega
theorem qpu(hC:bC C){k:Nat}(hk:2<=k){H:Hp}{zv:AV}(h:qH H zv X o) :
  Ok (C k (.f 13) [.agg [zv]] H) fun r H'=>r=iN ((rA X o))/\Fm No H H':=by
 obtain⟨j,rfl⟩:=aW hk
 rw[(hC j).zAj]
 unfold zAj zr2
 have f:Fm No H (aR H (aD 0 [zv])):=by exact jW
 have hz:((aF X).zip o).length=(aF X).length:=qH.zl ⟨_,_,h⟩
 have hl:=h.rs.len
 rw[hz]at hl
 simp(disch:=omega) only[go_sem,hl]
 unfold zoz
 rw[dI]
 have h12:=h.n
 refine qnm hC (j:=j) (by omega) (h.fm f) (fun H2 f2=> ?_) cK 0 _ (Nat.zero_le _) (by rw[dK];omega) (Fm.refl _ _)
 exact Ok.ret ⟨rfl,f.trans f2⟩
def wT(o:List Nat)(s i:Nat):List Nat:=(List.range i).filter fun x=>decide (o.getD x 0=s)
theorem qj6(o:List Nat)(s i:Nat):wT o s (i+1)=wT o s i++if o.getD i 0=s then[i]else[]:=by
 unfold wT
 rw[List.range_succ,List.filter_append,List.filter_cons]
 simp
theorem qzq(o:List Nat)(s i:Nat):(wT o s i).length<=i:=by
 have:=List.length_filter_le (fun x=>decide (o.getD x 0=s)) (List.range i)
 rw[List.length_range]at this
 exact this
def iC(n:Nat):List AV:=[iN n]
theorem ze5(l:List Nat):l.flatMap iC=aJ l:=by
 induction l with
 |nil=>rfl
 |cons a l ih=>rw[List.flatMap_cons,ih];rfl
theorem qpv{call:Ev.Call}{zv:AV}{H0:Hp}(h:qH H0 zv X o)(s:Nat){Q:AV->Hp->Prop}{q:AV->Hp->R1}
  (hq:∀ w H,Ac 1 iC H0 H w (wT o s (aF X).length)->Ok (q w H) Q) :
  ∀(k i:Nat) (w:AV) (H:Hp),i<=(aF X).length->(aF X).length-i<k->Ac 1 iC H0 H w (wT o s i) ->
   Ok (q1g call q (iN s) zv (iN ((aF X).length)) k w (iN i) H) Q
 |0,i,_,_,_,h,_=>by omega
 |k+1,i,w,H,hi,hk,hw=>by
  show Ok (zay call _ _ _ _ (q1g call _ _ _ _ k) _ _ H) Q
  unfold zay
  have h12:=h.n
  by_cases hlt:i<(aF X).length
  ·simp only[go_sem,hlt]
   unfold zax
   obtain⟨b1,p,e1,e2⟩:=(h.fm hw.fm).at' hlt
   have hll:=qzq o s i
   by_cases h1:o.getD i 0=s
   ·have oH:(Int.ofNat (o.getD i 0)=Int.ofNat s)=True:=eq_true (congrArg _ h1)
    simp(disch:=first|omega|exact ti rfl) only[go_sem,seval,e1,e2,oH]
    refine Ok.ve ((hw.no (by exact aLY)).add i 8 rfl (by omega) (by omega)) ?_
    intro w2 H2 hw2
    unfold q1h
    simp(disch:=omega) only[go_sem]
    refine qpv h s hq k (i+1) w2 H2 (by omega) (by omega) ?_
    rw[qj6,if_pos h1]
    exact hw2
   ·have oH:¬ Int.ofNat (o.getD i 0)=Int.ofNat s:=fun e=>h1 (Int.ofNat.inj e)
    simp(disch:=first|omega|exact ti rfl) only[go_sem,seval,e1,e2,oH]
    unfold q1h
    simp(disch:=omega) only[go_sem]
    refine qpv h s hq k (i+1) w _ (by omega) (by omega) ?_
    rw[qj6,if_neg h1,List.append_nil]
    exact hw.no (by exact kI)
  ·simp only[go_sem,hlt]
   have he:i=(aF X).length:=by omega
   simp_all
theorem zm7(hC:bC C){k:Nat}(hk:3<=k){H:Hp}{zv:AV}(h:qH H zv X o){s:Nat}(hs:s<rA X o) :
  Ok (C k (.f 14) [.agg [zv],iN s] H) fun r H'=>∃ w,r= .aZ [w,iN 0]/\Rl H' w (aJ (wT o s (aF X).length))/\iI w= .val (iN ((wT o s (aF X).length).length))/\Fm No H H':=by
 obtain⟨j,rfl⟩:=aW hk
 rw[(hC j).zAk]
 unfold zAk zjn
 have f:Fm No H (aR H (aD 0 [zv])):=by exact jW
 have h0:¬ s<0:=Nat.not_lt_zero s
 simp(disch:=omega) only[go_sem,h0]
 refine Ok.ve (qpu hC (k:=j) (by omega) (h.fm f)) ?_
 rintro _ H1 ⟨rfl,f1⟩
 have n1:=f1.nx
 have k1:H1.get H.nx=aD 0 [zv]:=(f1.keep (by simp only[np];omega)).trans (kL _ _)
 have hge:¬ rA X o<=s:=by omega
 simp only[go_sem,hge]
 unfold zav
 have h1:=(h.fm f).fm f1
 have hz:((aF X).zip o).length=(aF X).length:=qH.zl ⟨_,_,h⟩
 have hl:=h1.rs.len
 rw[hz]at hl
 simp only[go_sem,k1,hl]
 unfold zow
 rw[dI]
 have h12:=h.n
 refine qpv h1 s (fun w H2 hw=> ?_) cK 0 .aA _ (Nat.zero_le _) (by rw[dK];omega) (Ac.nil _ _ (Fm.refl _ _))
 unfold zaw
 have hg:=hw.gl
 rw[ze5]at hg
 obtain⟨w',e1,e2,e3,_⟩:=q0d hC (k:=j) (by omega) hg
 simp only[go_sem,e1]
 exact Ok.ret ⟨w',rfl,e2.rl,e3,(f.trans f1).trans hw.fm⟩
theorem q6o(hC:bC C){k:Nat}(hk:3<=k){H:Hp}{zv:AV}(h:qH H zv X o){x:Int}(hx:x<0\/Int.ofNat (rA X o)<=x) :
  Ok (C k (.f 14) [.agg [zv],.int .i64 x] H) fun r H'=>r= .aZ [.aA,iN 4]/\Fm No H H':=by
 obtain⟨j,rfl⟩:=aW hk
 rw[(hC j).zAk]
 unfold zAk zjn
 have f:Fm No H (aR H (aD 0 [zv])):=by exact jW
 by_cases h0:x<Int.ofNat 0
 ·simp only[go_sem,h0]
  exact Ok.ret ⟨rfl,f⟩
 ·simp(disch:=omega) only[go_sem,h0]
  refine Ok.ve (qpu hC (k:=j) (by omega) (h.fm f)) ?_
  rintro _ H1 ⟨rfl,f1⟩
  have hge:Int.ofNat (rA X o)<=x:=by
   rcases hx with hx|hx
   ·trivial
   ·exact hx
  simp only[go_sem,hge]
  exact Ok.ret ⟨rfl,f.trans f1⟩
def zli(o:List Nat)(s:Nat):List Nat:=o.map fun x=>if s<x then x-1 else x
theorem qme(o:List Nat)(s x:Nat):(zli o s).getD x 0=if s<o.getD x 0 then o.getD x 0-1 else o.getD x 0:=by
 unfold zli
 rw[List.getD_eq_getElem?_getD,List.getD_eq_getElem?_getD,List.getElem?_map]
 cases o[x]? with
 |none=>simp
 |some y=>rfl
theorem aAc.aK9(h:aAc X o)(hr:∀ e∈esG X,e.f<(aF X).length/\e.t<(aF X).length){s:Nat}(hs:s<rA X o):∃ x,x<(aF X).length/\o.getD x 0=s:=by
 have hl:=h.fit.1
 refine Classical.byContradiction fun hn=> ?_
 have hne:∀ x,x<(aF X).length->o.getD x 0≠s:=fun x hx e=>hn ⟨x,hx,e⟩
 obtain⟨y,hy,hys⟩:∃ y,y<(aF X).length/\s<o.getD y 0:=by
  refine Classical.byContradiction fun hn2=> ?_
  have:rA X o<=s:=zeh fun z hz=>by
   obtain⟨w,hw,rfl⟩:=List.mem_map.1 hz
   obtain⟨i,hi,rfl⟩:=List.getElem_of_mem (List.mem_of_mem_take hw)
   have e1:o.getD i 0=o[i]:=by simp[List.getD_eq_getElem?_getD,hi]
   have:=hne i (by omega)
   have h3:¬ s<o.getD i 0:=fun hlt=>hn2 ⟨i,by omega,hlt⟩
   omega
  omega
 have hfit:Fit (aF X).length (esG X) (zli o s):=⟨by unfold zli;rw[List.length_map];exact hl,fun e he=>by
  have h1:=h.fit.2 e he
  have hst:sH e<=1:=by unfold sH;split<;>omega
  rw[qme,qme]
  obtain⟨l1,l2⟩:=hr e he
  have:=hne e.t l2
  split<;>split<;>omega⟩
 have:=h.lst _ hfit y hy
 rw[qme,if_pos hys]at this
 omega
theorem ztw(h:aAc X o)(hr:∀ e∈esG X,e.f<(aF X).length/\e.t<(aF X).length){s:Nat}(hs:s<rA X o):0<(wT o s (aF X).length).length:=by
 obtain⟨x,hx,e⟩:=h.aK9 hr hs
 have:x∈wT o s (aF X).length:=by
  unfold wT
  simp_all
 exact List.length_pos_of_mem this
theorem q3a{a b:SS}(h:bJ X a b<(aF X).length):(a,b)∈aF X:=by
 unfold bJ at h
 simp_all
structure LwR(H:Hp)(X:List aS)(o:List Nat)(sv zv:AV)(p q:SS)(sb zb pb:Nat):Prop where
 oG:dF H sv X
 sml:rM X
 st:qH H zv X o
 s1:H.get sb=aD 0 [sv]
 z1:H.get zb=aD 0 [zv]
 p1:H.get pb=aD 0 [.str p.n p.a,.str q.n q.a]
 lt:sb<H.nx/\zb<H.nx/\pb<H.nx
theorem LwR.fm{H H':Hp}{sv zv:AV}{p q:SS}{sb zb pb:Nat}(h:LwR H X o sv zv p q sb zb pb)(f:Fm No H H'):LwR H' X o sv zv p q sb zb pb :=
 ⟨h.oG.fm f,h.sml,h.st.fm f,(f.keep h.lt.1).trans h.s1,(f.keep h.lt.2.1).trans h.z1,(f.keep h.lt.2.2).trans h.p1,by have:=f.nx;have:=h.lt;omega⟩
theorem zei(hC:bC C){j:Nat}(hj:3<=j)(hlive:∀ k H,1<=k->C k (.f 5) [] H= .ok (.bool true) H){H:Hp}{sv zv:AV}{p q:SS}{sb zb pb:Nat}(h:LwR H X o sv zv p q sb zb pb) :
  Ok (qry (C j) (.ptr pb 0) (.ptr sb 0) (.ptr zb 0) H) fun r _=>r= .bool true:=by
 rw[qol]
 unfold qrx
 have z1:=h.z1
 have p1:=h.p1
 simp(disch:=first|omega|exact ti rfl|(simp only[np,nq];first|done|omega)) only[go_sem,reduceLeDiff,z1,p1]
 refine Ok.ve (zom hC (k:=j) (by omega) h.st p q) ?_
 rintro r H1 ⟨f1,hr⟩
 have h1:=h.fm f1
 have s1:=h1.s1
 have p1:=h1.p1
 rcases hr with⟨hlt,rfl⟩|⟨hn,rfl⟩
 ·simp only[go_sem,seval,s1,p1]
  refine Ok.ve (qm8 hC (k:=j) (by omega) h1.oG h1.sml p q) ?_
  rintro r2 H2 ⟨f2,hr2⟩
  rcases hr2 with⟨_,rfl⟩|⟨hn,_⟩
  ·have h0:¬ bJ X p q<0:=Nat.not_lt_zero _
   rw[qom]
   unfold qrz
   simp only[go_sem,seval,hlive j _ (by omega)]
   exact Ok.ret rfl
  ·exact absurd (q3a hlt) hn
 ·simp only[go_sem,seval,s1,p1]
  refine Ok.ve (qm8 hC (k:=j) (by omega) h1.oG h1.sml p q) ?_
  rintro r2 H2 ⟨f2,hr2⟩
  rcases hr2 with⟨hlt,_⟩|⟨_,rfl⟩
  ·exact absurd (q3a hlt) hn
  ·simp only[go_sem,hlive j _ (by omega)]
   exact Ok.ret rfl
theorem qmd{call:Ev.Call}{H:Hp}{v w:AV}{l:List Nat}(hv:Rl H v (aJ l))(hw:Rl H w (aJ l))(hl:l.length<900000){q1:AV->Hp->R1}{q2:Hp->R1}{Q:AV->Hp->Prop}(hq:Ok (q2 H) Q) :
  ∀(k i:Nat),l.length-i<k->i<=l.length->Ok (q1f call q1 q2 v w k (iN i) H) Q
 |0,i,h,_=>by omega
 |k+1,i,h,hi=>by
  show Ok (zau call _ _ _ _ (q1f call _ _ _ _ k) _ H) Q
  unfold zau
  have e0:=hw.len
  rw[iW]at e0
  by_cases hil:i<l.length
  ·obtain⟨b1,o1,e1,_,e2⟩:=hv.at' i (by rw[iW];exact hil)
   obtain⟨b2,o2,e3,_,e4⟩:=hw.at' i (by rw[iW];exact hil)
   rw[qeu]at e2 e4
   simp only[go_sem,e0,hil]
   unfold zos
   simp only[go_sem,e1,e2,e3,e4]
   unfold zot
   simp(disch:=omega) only[go_sem]
   exact qmd hv hw hl hq k (i+1) (by omega) (by omega)
  ·simp only[go_sem,e0,hil]
   exact hq
theorem qvt(hC:bC C){k:Nat}(hk:1<=k){H:Hp}{v w:AV}{l:List Nat}(hv:Rl H v (aJ l))(hw:Rl H w (aJ l))(hl:l.length<900000)(hc:iI v= .val (iN (l.length)))(z:Int) :
  Ok (C k (.f 15) [v,.int .i64 z,w,.int .i64 z] H) fun r H'=>r= .bool true/\Fm No H H':=by
 obtain⟨j,rfl⟩:=aW hk
 rw[(hC j).zAl]
 unfold zAl zr1
 have e1:=hv.len
 have e2:=hw.len
 rw[iW]at e1 e2
 simp only[go_sem,e1,e2,hc]
 unfold zat zov
 rw[dI]
 refine qmd hv hw hl ?_ cK 0 (by rw[dK];omega) (Nat.zero_le _)
 exact Ok.ret ⟨rfl,Fm.refl _ _⟩
theorem Rl.aKa(H:Hp):Rl H .aA (aJ []):=⟨rfl,fun i h=>by cases h⟩
theorem ztn(hC:bC C){j:Nat}(hj:3<=j)(hlive:∀ k H,1<=k->C k (.f 5) [] H= .ok (.bool true) H){H:Hp}{sv zv:AV}{p q:SS}{sb zb pb:Nat}(h:LwR H X o sv zv p q sb zb pb)(x:Int) :
  Ok (qk8 (C j) (.int .i64 x) (.ptr pb 0) (.ptr sb 0) (.ptr zb 0) (iN ((rA X o))) H) fun r _=>r= .bool true:=by
 rw[qok]
 unfold qrw
 have z1:=h.z1
 have bad:∀ H1,Fm No H H1->Ok (ve (C j (.f 15) [.aA,iN 4,.aA,iN 4] H1) fun a56 H=>vq ((mZ .not).f a56) H fun a57 H=>cd a57 (.ok (.bool false) H) (qry (C j) (.ptr pb 0) (.ptr sb 0) (.ptr zb 0) H)) fun r _=>r= .bool true:=fun H1 f1=>by
  refine Ok.ve (qvt hC (k:=j) (by omega) (Rl.aKa _) (Rl.aKa _) (by simp) rfl _) ?_
  rintro _ H2 ⟨rfl,f2⟩
  exact zei hC hj hlive ((h.fm f1).fm f2)
 by_cases h0:x<Int.ofNat 0
 ·simp only[go_sem,z1]
  refine Ok.ve (q6o hC (k:=j) (by omega) h.st (x:=x) (.inl h0)) ?_
  rintro _ H1 ⟨rfl,f1⟩
  simp only[go_sem,h0]
  exact bad H1 f1
 ·by_cases hm:Int.ofNat (rA X o)<=x
  ·simp only[go_sem,z1]
   refine Ok.ve (q6o hC (k:=j) (by omega) h.st (x:=x) (.inr hm)) ?_
   rintro _ H1 ⟨rfl,f1⟩
   simp only[go_sem,h0,hm]
   exact bad H1 f1
  ·obtain⟨s,rfl⟩:∃ s:Nat,x=Int.ofNat s:=⟨x.toNat,by have h0':¬ x<0:=h0;show x=(x.toNat:Int);omega⟩
   have hs:s<rA X o:=by
    have:¬((rA X o:Nat):Int)<=(s:Nat):=hm
    omega
   simp only[go_sem,z1]
   refine Ok.ve (zm7 hC (k:=j) (by omega) h.st hs) ?_
   rintro _ H1 ⟨w,rfl,_,_,f1⟩
   have hge:¬ rA X o<=s:=by omega
   have h00:¬ s<0:=Nat.not_lt_zero s
   simp only[go_sem,h00,hge]
   exact zei hC hj hlive (h.fm f1)
theorem qmb{call:Ev.Call}{nv:AV}{H0:Hp}(hn:Rl H0 nv (aJ o))(hol:o.length<13)(s:Nat){Q:AV->Hp->Prop}{q:AV->Hp->R1}
  (hq:∀ w H,Ac 1 iC H0 H w (wT o s o.length)->Ok (q w H) Q) :
  ∀(k i:Nat) (w:AV) (H:Hp),i<=o.length->o.length-i<k->Ac 1 iC H0 H w (wT o s i) ->
   Ok (qrt call q nv (iN s) k w (iN i) H) Q
 |0,i,_,_,_,h,_=>by omega
 |k+1,i,w,H,hi,hk,hw=>by
  show Ok (qyv call _ _ _ (qrt call _ _ _ k) _ _ H) Q
  unfold qyv
  have hn1:=hn.fm hw.fm
  have e0:=hn1.len
  rw[iW]at e0
  by_cases hlt:i<o.length
  ·simp only[go_sem,e0,hlt]
   unfold zcc
   obtain⟨b1,p,e1,_,e2⟩:=hn1.at' i (by rw[iW];exact hlt)
   rw[qeu]at e2
   have hg:o.getD i 0=o[i]:=by simp[List.getD_eq_getElem?_getD,hlt]
   have hll:=qzq o s i
   by_cases h1:o[i]=s
   ·have oH:(Int.ofNat o[i]=Int.ofNat s)=True:=eq_true (congrArg _ h1)
    simp(disch:=omega) only[go_sem,seval,e1,e2,oH]
    refine Ok.ve ((hw.no (by exact jW)).add i 8 rfl (by omega) (by omega)) ?_
    intro w2 H2 hw2
    unfold qrv
    simp(disch:=omega) only[go_sem]
    refine qmb hn hol s hq k (i+1) w2 H2 (by omega) (by omega) ?_
    rw[qj6,hg,if_pos h1]
    exact hw2
   ·have oH:¬ Int.ofNat o[i]=Int.ofNat s:=fun e=>h1 (Int.ofNat.inj e)
    simp only[go_sem,e1,e2,oH]
    unfold qrv
    simp(disch:=omega) only[go_sem]
    refine qmb hn hol s hq k (i+1) w H (by omega) (by omega) ?_
    rw[qj6,hg,if_neg h1,List.append_nil]
    exact hw
  ·simp only[go_sem,e0,hlt]
   have he:i=o.length:=by omega
   simp_all
theorem qvs(hC:bC C){j:Nat}(hj:3<=j){Hb:Hp}{sv zv nv:AV}{p q:SS}{sb zb pb:Nat}(h:LwR Hb X o sv zv p q sb zb pb)(hn:Rl Hb nv (aJ o))(hpos:∀ s,s<rA X o->0<(wT o s (aF X).length).length){Q:AV->Hp->Prop}{qr:AV->Hp->R1}{qe:Hp->R1}
  (hq:∀ H,Fm No Hb H->Ok (qe H) Q) :
  ∀(k i:Nat) (H:Hp),i<=rA X o->rA X o-i<k->Fm No Hb H ->
   Ok (qk7 (C j) qr qe (.ptr zb 0) nv (iN ((rA X o))) k (iN i) H) Q
 |0,i,_,_,h,_=>by omega
 |k+1,i,H,hi,hk,hf=>by
  show Ok (qyw (C j) _ _ _ _ _ (qk7 (C j) _ _ _ _ _ k) _ H) Q
  unfold qyw
  have hmn:=h.st.mn
  have hol:=h.st.len
  have h12:=h.st.n
  by_cases hlt:i<rA X o
  ·simp only[go_sem,hlt]
   unfold zcb zcg
   rw[dI]
   refine qmb (hn.fm hf) (by omega) i (fun w H1 hw=> ?_) cK 0 .aA H (Nat.zero_le _) (by rw[dK];omega) (Ac.nil _ _ (Fm.refl _ _))
   unfold qyt
   have h1:=h.fm (hf.trans hw.fm)
   have z1:=h1.z1
   simp only[go_sem,z1]
   refine Ok.ve (zm7 hC (k:=j) (by omega) h1.st hlt) ?_
   rintro _ H2 ⟨w2,rfl,r2,c2,f2⟩
   have hw2:=hw.no f2
   rw[hol]at hw2
   have hl:=hw2.cO
   have hp:=hpos i hlt
   have h0:¬(wT o i (aF X).length).length=0:=by omega
   have hg:=hw2.gl
   rw[ze5]at hg
   have hll:=qzq o i (aF X).length
   simp only[go_sem,hl,h0]
   refine Ok.ve (qvt hC (k:=j) (by omega) r2 hg.rl (by omega) c2 _) ?_
   rintro _ H3 ⟨rfl,f3⟩
   unfold zcd
   simp(disch:=omega) only[go_sem]
   exact qvs hC hj h hn hpos hq k (i+1) H3 (by omega) (by omega) (((hf.trans hw.fm).trans f2).trans f3)
  ·simp only[go_sem,hlt]
   exact hq H hf
theorem qvr(hC:bC C){j:Nat}(hj:3<=j){Hb:Hp}{sv zv nv av:AV}{p q:SS}{sb zb pb:Nat}(h:LwR Hb X o sv zv p q sb zb pb)(hn:Rl Hb nv (aJ o))(ha:Rs 2 pC Hb av (aF X))(hal:(aF X).Nodup){Q:AV->Hp->Prop}{qr:AV->Hp->R1}{qe:AV->Hp->R1}
  (hq:∀ H,Fm No Hb H->Ok (qe (iN ((rA X o))) H) Q) :
  ∀(k i:Nat) (H:Hp),i<=(aF X).length->(aF X).length-i<k->Fm No Hb H ->
   Ok (qrs (C j) qr qe (.ptr zb 0) nv av k (iN ((zR o i))) (iN i) H) Q
 |0,i,_,_,h,_=>by omega
 |k+1,i,H,hi,hk,hf=>by
  show Ok (qyu (C j) _ _ _ _ _ (qrs (C j) _ _ _ _ _ k) _ _ H) Q
  unfold qyu
  have h12:=h.st.n
  have hol:=h.st.len
  have ha1:=ha.fm hf
  have hl:=ha1.len
  by_cases hlt:i<(aF X).length
  ·simp only[go_sem,hl,hlt]
   unfold q1u
   have h1:=h.fm hf
   have z1:=h1.z1
   obtain⟨b1,o1,e1,e2,_,_,e4⟩:=ha1.at' i hlt
   have r0:bT (H.get b1) o1= .val (.str (aF X)[i].1.n (aF X)[i].1.a):=e4 0 (by rw[qgk];omega)
   have r1:bT (H.get b1) (o1+1)= .val (.str (aF X)[i].2.n (aF X)[i].2.a):=e4 1 (by rw[qgk];omega)
   simp only[go_sem,seval,z1,e1,r0,r1]
   have aF3:bJ X (aF X)[i].1 (aF X)[i].2=i:=by
    unfold bJ
    rw[List.findIdx_eq hlt]
    refine⟨by simp,fun m hm=>decide_eq_false fun e=> ?_⟩
    have:=(List.getElem_inj (h₀:=by omega) (h₁:=hlt) hal).1 e
    omega
   refine Ok.lX (zom hC (k:=j) (by omega) (h1.st.fm (by exact Fm.refl _ _)) (aF X)[i].1 (aF X)[i].2) ?_
   rintro r H1 ⟨f1,hr⟩
   rcases hr with⟨_,rfl⟩|⟨hno,_⟩
   ·rw[aF3]
    have f01:=(show Fm No H _ by exact Fm.refl _ _).trans f1
    obtain⟨b2,o2,v1,_,v2⟩:=(hn.fm (hf.trans f01)).at' i (by rw[iW];omega)
    have hg:(aJ o)[i]'(by rw[iW];omega)=iN ((o.getD i 0)):=by simp[aJ,List.getD_eq_getElem?_getD,hol,hlt]
    rw[hg]at v2
    have hgl:o.getD i 0<13:=h.st.lt _ (qdc (by omega))
    have hmx:=aKz (zR o i) (o.getD i 0+1)
    have hms:zR o (i+1)=max (zR o i) (o.getD i 0+1):=by
     unfold zR
     rw[List.take_succ_eq_append_getElem (by omega),List.map_append]
     unfold gK
     simp_all
    simp only[go_sem,v1,v2]
    unfold q1v
    unfold zb9
    simp(disch:=omega) only[go_sem]
    rw[<-hms]
    exact qvr hC hj h hn ha hal hq k (i+1) _ (by omega) (by omega) (hf.trans f01)
   ·exact absurd (List.getElem_mem hlt) hno
  ·simp only[go_sem,hl,hlt]
   have he:i=(aF X).length:=by omega
   rw[he]
   exact hq H hf
theorem zlk(n a:Nat):xX (.str n a)= .val (iN n):=id rfl
attribute [go_sem] zlk
theorem zle(hC:bC C){j:Nat}(hj:20<=j)(hlive:∀ k H,1<=k->C k (.f 5) [] H= .ok (.bool true) H){H:Hp}{sv zv:AV}{p q:SS}{sb zb pb:Nat}(hI:mX L X)(hst:aAc X o)(h:LwR H X o sv zv p q sb zb pb)(x:Int) :
  Ok (qr1 (C j) (.int .i64 x) (.ptr pb 0) (.ptr sb 0) (.ptr zb 0) H) fun r _=>r= .bool true:=by
 have hV:=hI.val
 have hm:=qdi L
 have hln:=hI.len
 rw[qlb]
 unfold qlc
 have s1:=h.s1
 simp only[go_sem,s1]
 refine Ok.ve (zkm hC (k:=j) (by omega) h.oG hV.ofW) ?_
 rintro mv H1 ⟨mb,hM,_,f1⟩
 generalize hms:nT (aF X).length (List.replicate ((aF X).length*(aF X).length) 0) (tsG X (aF X).length)=ms at *
 refine Ok.ve (qsm hC (k:=j) (by omega) hM (by omega)) ?_
 rintro r H2 ⟨f2,hr⟩
 have hes:zY (aF X).length ms=esG X:=by rw[<-hms];exact hV.same
 have h3:∀ y∈ms,y<=3:=hM.ok.le
 rcases hr with⟨ob,o2,rfl,g2,l2,hN,hF⟩|⟨_,hno⟩
 ·have ho:o2=o:=by
   have hf2:Fit (aF X).length (esG X) o2:=by rw[<-hes];exact(qta hN.len h3).1 hF
   refine zlx hf2 (fun S hS y hy=>hN.lst S hS.1 ?_ y hy) hst.fit hst.lst
   rw[<-hes]at hS
   exact(qta hS.1 h3).2 hS
  subst ho
  have h2:=(h.fm f1).fm f2
  have s2:=h2.s1
  simp only[go_sem,s2]
  refine Ok.ve (zg1 hC (k:=j) (by omega) h2.oG h2.sml) ?_
  intro av H3 ha
  have f3:=ha.fm
  have h4:=h2.fm f3
  have gw:Gl 1 H2 (.sl ob 0 (aF X).length (aF X).length true) (aF X).length (aJ o2):=⟨by rw[iW,hN.len];omega,.inr ⟨ob,0,true,0,_,rfl,g2,Nat.zero_le _,rfl,.inl rfl,l2⟩⟩
  have hn:=(gw.rl).fm f3
  unfold zcf
  rw[dI]
  refine qvr hC (j:=j) (by omega) h4 hn (ha.rs qgk) hV.al (fun H4 f4=> ?_) cK 0 H3 (Nat.zero_le _) (by rw[dK];omega) (Fm.refl _ _)
  rw[qoj]
  unfold qru
  have h5:=h4.fm f4
  have z5:=h5.z1
  simp only[go_sem,z5]
  refine Ok.ve (qpu hC (k:=j) (by omega) h5.st) ?_
  rintro _ H5 ⟨rfl,f5⟩
  simp only[go_sem]
  unfold zca zch
  rw[dI]
  have hmn:=h5.st.mn
  refine qvs hC (j:=j) (by omega) (h5.fm f5) ((hn.fm f4).fm f5) (fun s hs=>ztw hst (fun e he=>hI.es.1.rng e he) hs) (fun H6 f6=> ?_) cK 0 H5 (Nat.zero_le _) (by rw[dK];omega) (Fm.refl _ _)
  exact ztn hC (j:=j) (by omega) hlive ((h5.fm f5).fm f6) x
 ·refine absurd (hno o hst.fit.1 ((qta hst.fit.1 h3).2 (by rw[hes];exact hst.fit))) ?_
  rintro ⟨y,hy,hgt⟩
  have:=hst.lt y hy
  omega
theorem qz8(hC:bC C)(hN:l9 C)(hE:qpr C)(hO:qY C)(hS:pU C)(hR:qF LA LO C){k:Nat}(hk:1100<=k)(hlive:∀ k H,1<=k->C k (.f 5) [] H= .ok (.bool true) H){v:AV}{L:List (List Nat)}{H:Hp}(hv:gJ H v L)(x:Int)(p q:SS) :
  Ok (zAa (C k) (.agg [v]) (.int .i64 x) (.agg [.str p.n p.a,.str q.n q.a]) H) fun r _=>r= .bool true:=by
 unfold zAa zsa
 have f0:Fm No H (aR (aR H (aD 0 [v])) (aD 0 [.str p.n p.a,.str q.n q.a])):=by exact yN
 have live:∀ H,Ok (ve (C k (.f 5) [] H) fun a143 H=> .ok a143 H) fun r _=>r= .bool true:=fun H=>by
  rw[hlive k H (by omega)]
  exact Ok.ret rfl
 have main:Ok (qr0 (C k) (.int .i64 x) (.ptr H.nx 0) (.ptr (H.nx+1) 0) (aR (aR H (aD 0 [v])) (aD 0 [.str p.n p.a,.str q.n q.a]))) fun r _=>r= .bool true:=by
  rw[qk9]
  unfold qla
  simp(disch:=first|omega|exact ti rfl|(simp only[np,nq];first|done|omega)) only[go_sem]
  refine Ok.ve (zyu hC (k:=k) (by omega) (hv.fm f0)) ?_
  rintro _ H1 ⟨sv,X,rfl,hX,hsc,f1⟩
  have hI:mX L X:=⟨hsc⟩
  have hm:=qdi L
  have n1:=f1.nx
  simp only[np]at n1
  have k1:H1.get (H.nx+1)=aD 0 [.str p.n p.a,.str q.n q.a]:=(f1.keep (by simp only[np];omega)).trans (by simp(disch:=first|omega|exact ti rfl|(simp only[np,nq];first|done|omega)) only[go_sem])
  have fa:Fm No H1 ((aR H1 (aD 0 [.aA])).put H1.nx (aD 0 [sv])):=by exact kI
  obtain⟨Ha,hHa⟩:∃ Ha,Ha=((aR H1 (aD 0 [.aA])).put H1.nx (aD 0 [sv])):=⟨_,rfl⟩
  simp(disch:=first|omega|exact ti rfl) only[go_sem,seval]
  rw[<-hHa]at fa ⊢
  have ga:Ha.get H1.nx=aD 0 [sv]:=by rw[hHa];exact eP _ _ _
  have na:Ha.nx=H1.nx+1:=by rw[hHa];rfl
  refine Ok.ve (zyj hC hN hE hO hS hR (k:=k) (by omega) (hX.fm fa) hI) ?_
  rintro _ H2 ⟨zv,o,rfl,gz,hfl,hst,f2⟩
  have n2:=f2.nx
  have g2:H2.get H1.nx=aD 0 [sv]:=(f2.keep (by omega)).trans ga
  have fb:Fm No H2 ((aR H2 (aD 0 [.aA])).put H2.nx (aD 0 [zv])):=by exact kI
  obtain⟨Hb,hHb⟩:∃ Hb,Hb=((aR H2 (aD 0 [.aA])).put H2.nx (aD 0 [zv])):=⟨_,rfl⟩
  simp(disch:=first|omega|exact ti rfl) only[go_sem,seval,g2]
  rw[<-hHb]at fb ⊢
  have gb:Hb.get H2.nx=aD 0 [zv]:=by rw[hHb];exact eP _ _ _
  have nb:Hb.nx=H2.nx+1:=by rw[hHb];rfl
  have gb1:Hb.get H1.nx=aD 0 [sv]:=(fb.keep (by omega)).trans g2
  refine Ok.ve (zyk hC hN hE hO hS hR (k:=k) (by omega) (((hX.fm fa).fm f2).fm fb) hI) ?_
  rintro _ H3 ⟨rfl,f3⟩
  have n3:=f3.nx
  have hol:o.length=(aF X).length:=hst.fit.1
  have hzl:((aF X).zip o).length=(aF X).length:=by rw[List.length_zip];omega
  have hln:=hI.len
  refine zle hC (j:=k) (by omega) hlive hI hst ⟨((((hX.fm fa).fm f2).fm fb).fm f3),hI.val.pr.sml,?_,(f3.keep (by omega)).trans gb1,(f3.keep (by omega)).trans gb,(((fa.trans f2).trans fb).trans f3).keep (by omega) |>.trans k1,by omega,by omega,by omega⟩ x
  refine⟨?_,hfl,hol,by omega,fun y hy=> ?_⟩
  ·rw[<-hzl]at gz
   exact((gz.rs zc3).fm fb).fm f3
  ·obtain⟨i,hi,rfl⟩:=List.getElem_of_mem hy
   have:=hst.lt i (by omega)
   rw[show o.getD i 0=o[i]by simp[List.getD_eq_getElem?_getD,hi]]at this
   omega
 by_cases h1:20<p.n
 ·simp(disch:=first|omega|exact ti rfl|(simp only[np,nq];first|done|omega)) only[go_sem,h1]
  exact live _
 ·by_cases h2:20<q.n
  ·simp(disch:=first|omega|exact ti rfl|(simp only[np,nq];first|done|omega)) only[go_sem,h1,h2]
   exact live _
  ·simp(disch:=first|omega|exact ti rfl|(simp only[np,nq];first|done|omega)) only[go_sem,h1,h2]
   exact main
end Go.Di
end
section
namespace Go.Di
open Go.Ev
def egO(e:Edge):Eg:=⟨.ofNat e.f,.ofNat e.t,e.s⟩
theorem zup(es:List Edge):(es.map egO).flatMap egV=lG es:=by
 induction es with
 |nil=>rfl
 |cons a l ih=>rw[List.map_cons,List.flatMap_cons,ih];rfl
theorem zfr:∀ es:List Edge,qmv (lG es)=some (es.map egO)
 | []=>rfl
 |a::l=>by
  show qmv (iN (a.f)::iN (a.t):: .bool a.s::lG l)=_
  rw[qmv,zfr l];rfl
theorem zx3(x y:Edge):iV (egO x) (egO y)=p9 x y:=by
 unfold iV p9 or3 egO wC sgn cI
 simp only[orI,iK]
 by_cases h:iK (.ofNat x.f) (.ofNat y.f)=0<;>by_cases h2:iK (.ofNat x.t) (.ofNat y.t)=0<;>unfold iK at h h2<;>simp only[h,h2,if_true,if_false]<;>(try split)<;>simp_all
theorem zc7(es:List Edge):qjb (es.map egO)=(sortE es).map egO :=
 (List.map_mergeSort fun a _ b _=>by show(!decide (p9 b a<0))=_;rw[zx3]).symm
theorem qy6(f fc:FuncId)(e:Ext){H:Hp}{v:AV}{es:List Edge}(h:Gl 3 H v es.length (lG es))(hl:es.length<=1000000) :
  ∃r,qfw f fc e f [v,.fn fc [] []] H=some r/\Ok r fun r H'=>r= .aZ []/\Gl 3 H' v es.length (lG (sortE es))/\Fm (In v) H H':=by
 have hb:∀ n:Nat,Nat.beq n n=true:=fun n=>Nat.beq_refl n
 rcases h.is with⟨rfl,h0⟩|⟨b,o,x,q,L,rfl,h1,h2,h3,h4,h5⟩
 ·have:es=[]:=List.length_eq_zero_iff.1 h0
  subst this
  refine⟨.ok (.aZ []) H,?_,?_⟩
  ·unfold qfw;simp only[hb,cond_true]
  ·have hz:sortE []=[]:=by simp[sortE]
   rw[hz]
   exact Ok.ret ⟨rfl,h,Fm.refl _ _⟩
 ·have hLl:o+es.length*3=L.length:=by
   have:=congrArg List.length h3
   rw[List.length_drop,qe2]at this
   omega
  have hsl:(lG (sortE es)).length=es.length*3:=by rw[qe2,qul]
  have hs:qum H b o es.length=some (.ok (.aZ []) (H.put b (aD q (bD L o (lG (sortE es)))))):=by
   unfold qum
   rw[h1,qb2,if_pos (by omega),h3,List.take_of_length_le (by rw[qe2];omega)]
   simp only[zfr,zc7,zup]
   rw[qcg H b o _ _ q L h1 (by omega)]
   have:Nat.blt es.length 4611686018427387904=true:=by rw[Nat.blt_eq];omega
   simp only[this,cond_true]
  refine⟨_,by unfold qfw;simp only[hb,cond_true];exact hs,Ok.ret ⟨rfl,⟨by rw[hsl],.inr ⟨b,o,x,q,bD L o (lG (sortE es)),rfl,eP _ _ _,?_,?_,h4,h5⟩⟩,(Fm.refl _ _).put b _ fun _=>⟨_,_,_,_,rfl⟩⟩⟩
  ·rw[qep _ _ _ (by omega)];exact h2
  ·unfold bD
   rw[List.drop_of_length_le (l:=L) (by omega),List.append_nil,List.drop_append_of_le_length (by rw[List.length_take];omega),List.drop_of_length_le (by rw[List.length_take];omega),List.nil_append]
end Go.Di
end
