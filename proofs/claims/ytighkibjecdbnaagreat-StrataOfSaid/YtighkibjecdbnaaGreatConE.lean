/-
 For StrataOf: functions in direct style, their contracts, and the plain mathematics, part 5 of 9. No conditions beyond those that each theorem states.
-/
import Derived.Test.YtighkibjecdbnaaGreatConD
set_option linter.unusedSimpArgs false
set_option linter.unusedVariables false
open Nat (reduceAdd reduceMul reduceSub reduceLeDiff reduceEqDiff reduceShiftRight reduceAnd)
section
namespace Go.Di
open Go.Ev
variable {C:Nat->Ev.Call}
def ptC(q:Nat×Nat):List AV:=[.ptr q.1 q.2]
theorem qsr(q:Nat×Nat):(ptC q).length=1:=rfl
def nmC(q:SS×aY):List AV:=[q.1.v]
def kq(q:SS×aY):SS×SS:=(q.1,q.2.r.name)
def eO(X:List aS):List (SS×aY):=X.flatMap fun g=>g.gs.map fun x=>(g.name,x)
theorem uL(X:List aS):(eO X).map kq=aF X:=by
 unfold eO aF
 rw[List.map_flatMap]
 congr 1
 funext g
 rw[List.map_map];rfl
structure PtR(H:Hp)(q:Nat×Nat)(x:aY):Prop where
 lt:q.1<H.nx
 nm:bT (H.get q.1) q.2= .val (.str x.r.name.n x.r.name.a)
 tv:bT (H.get q.1) (q.2+1)= .val x.tv
 ru:iZ (H.get q.1) (q.2+2) 4=some x.cs
 all:iZ (H.get q.1) q.2 6=some (gQ x)
theorem PtR.fm{H H':Hp}{q:Nat×Nat}{x:aY}(h:PtR H q x)(f:Fm No H H'):PtR H' q x:=by
 have e:=f.keep h.lt
 exact⟨Nat.lt_of_lt_of_le h.lt f.nx,by rw[e];exact h.nm,by rw[e];exact h.tv,by rw[e];exact h.ru,by rw[e];exact h.all⟩
theorem SpR.pt{H:Hp}{g:aS}(h:SpR H g){i:Nat}(hi:i<g.gs.length):∃ b o,aL 6 g.rv (iN i)= .val (.ptr b o)/\PtR H (b,o) g.gs[i]:=by
 obtain⟨b,o,e1,e2,e3,e4,e5,e6⟩:=h.at' i hi
 exact⟨b,o,e1,e2,e3,e4,e5,e6⟩
structure IxI(H0 H:Hp)(ib mb nb:Nat)(sv av iv:AV)(ss:List SS)(rs:List (SS×aY))(qs:List (Nat×Nat)):Prop where
 blk:H.get ib=aD 0 [sv,.map mb,.map nb,av,iv]
 ms:qB H mb ss
 mn:iR H nb (rs.map kq)
 a:Gl 1 H av qs.length (qs.flatMap ptC)
 i:Gl 1 H iv rs.length (rs.flatMap nmC)
 len:qs.length=rs.length
 pt:∀ i (h:i<qs.length) (h':i<rs.length),PtR H0 qs[i] rs[i].2
 o:H0.nx<=mb/\mb<nb/\nb<ib/\ib<H.nx
 an:∀ c,In av c->ib<c/\¬ In iv c
 tT:∀ c,In iv c->ib<c
 fm:Fm No H0 H
theorem q4p(H:Hp)(b o x y:Nat):eY H (.ptr b o) (.ptr x y)=storeAt H b o [.ptr x y] .undef:=id rfl
theorem q56(a b:Nat):xM (.ptr a b)=some [.ptr a b]:=id rfl
theorem zvv(a b c d e x:AV):bD [a,b,c,d,e] 3 [x]=[a,b,c,x,e]:=id rfl
theorem zvu(a b c d e x:AV):bD [a,b,c,d,e] 4 [x]=[a,b,c,d,x]:=id rfl
attribute [go_sem] q4p q56 zvv zvu
theorem ztu{call:Ev.Call}{g31:AV->Hp->R1}{H0 H:Hp}{ib mb nb pb:Nat}{sv av iv:AV}{ss:List SS}{rs:List (SS×aY)}{qs:List (Nat×Nat)}(hI:IxI H0 H ib mb nb sv av iv ss rs qs){g:aS}{x:aY}{i b o:Nat}
  (hrv:aL 6 g.rv (iN i)= .val (.ptr b o)) (hpt:PtR H0 (b,o) x) (hnew:(g.name,x.r.name)∉rs.map kq) (hi:i<1000) (hpb:H.get pb=aD 0 [.str g.name.n g.name.a,g.rv]) (hpl:pb<H.nx) (hrl:rs.length<=1000) (hpn:¬ In av pb/\¬ In iv pb/\ib<pb) {Q:AV->Hp->Prop}
  (hg:∀ H' av' iv',IxI H0 H' ib mb nb sv av' iv' ss (rs++[(g.name,x)]) (qs++[(b,o)])->Fm (fun c=>c=nb\/c=ib\/In av c\/In iv c) H H'->(∀c,In av' c\/In iv' c->H.nx<=c)->Ok (g31 (iN ((i+1))) H') Q) :
  Ok (qxf call g31 (.ptr ib 0) (.ptr pb 0) (iN i) H) Q:=by
 unfold qxf
 obtain⟨o1,o2,o3,o4⟩:=hI.o
 have e0:=hI.blk
 have p1:=hpt.fm hI.fm
 have r0:bT (H.get b) o= .val (.str x.r.name.n x.r.name.a):=p1.nm
 have em:=hI.mn.miss (iN 0) g.name x.r.name hnew
 have la:=hI.a.cO
 have hln:=hI.len
 have hfi:=qb7 (Gl.flat hI.i) 63
 simp(disch:=first|omega|exact ti rfl|(simp only[np,nq];first|done|omega)) only[go_sem,reduceAdd,reduceLeDiff,hpb,hrv,e0,r0,em]
 obtain⟨k,eu,mu⟩:=hI.mn.put g.name x.r.name hnew
 rw[List.length_map,<-hln]at eu
 simp only[go_sem,la]
 refine Ok.y7 eu ?_
 unfold qxg
 have kp1:∀ c,c≠nb->(H.put nb k).get c=H.get c:=fun c h=>dZ _ _ _ _ h
 have e1:(H.put nb k).get ib=aD 0 [sv,.map mb,.map nb,av,iv]:=(kp1 _ (by omega)).trans e0
 have q1:(H.put nb k).get pb=aD 0 [.str g.name.n g.name.a,g.rv]:=(kp1 _ (by omega)).trans hpb
 simp only[go_sem,seval,e1,q1]
 have aTk:∀ c,In iv c->c<H.nx:=fun c hc=>hI.i.lt hc
 have g2:Gl 1 ((Hp.mk (H.put nb k).t (H.nx+23)).put (H.nx+7) (aD 0 [.ptr b o])) av qs.length (qs.flatMap ptC):=by
  refine hI.a.keep (show H.nx<=H.nx+23 by omega) fun c hc hl=> ?_
  have:=(hI.an c hc).1
  rw[dZ _ _ _ _ (by omega)]
  exact kp1 c (by omega)
 obtain⟨H2,e2,a2,_,f2,n2⟩:=g2.append (k:=1) (w:=8) (x:=[.ptr b o]) (by omega) rfl (by omega) (by omega)
 simp only[nq]at e2 a2 f2 n2
 refine Ok.y7 e2 ?_
 have kp2:∀ c,c<H.nx->c≠nb->¬ In av c->H2.get c=H.get c:=fun c h1 h2 h3=>by
  refine(f2.get c (show c<H.nx+23 by omega) h3).trans ?_
  rw[dZ _ _ _ _ (by omega)]
  exact kp1 c h2
 have aKe:¬ In av ib:=fun h=>by have:=(hI.an ib h).1;omega
 have aWp:¬ In iv ib:=fun h=>by have:=hI.tT ib h;omega
 have aQ3:=(kp2 ib (by omega) (by omega) aKe).trans e0
 have pb2:=(kp2 pb (by omega) (by omega) hpn.1).trans hpb
 simp only[go_sem,seval,aQ3,pb2,hfi]
 have g3:Gl 1 (H2.put (H.nx+15) (aD 0 [.str g.name.n g.name.a])) iv rs.length (rs.flatMap nmC):=by
  refine hI.i.keep (show H.nx<=H2.nx by omega) fun c hc hl=> ?_
  have:=hI.tT c hc
  rw[dZ _ _ _ _ (by omega)]
  exact kp2 c hl (by omega) fun h=>(hI.an c h).2 hc
 obtain⟨H3,e3,a3,_,f3,n3⟩:=g3.append (k:=1) (w:=16) (x:=[.str g.name.n g.name.a]) (by omega) rfl (by omega) (by omega)
 simp only[nq]at e3 a3 f3 n3
 refine Ok.y7 e3 ?_
 have kp3:∀ c,c<H.nx->c≠nb->¬ In av c->¬ In iv c->H3.get c=H.get c:=fun c h1 h2 h3 h4=>by
  refine(f3.get c (show c<H2.nx by omega) h4).trans ?_
  rw[dZ _ _ _ _ (by omega)]
  simp_all
 have aVK:=(kp3 ib (by omega) (by omega) aKe aWp).trans e0
 simp only[go_sem,seval,aVK]
 unfold q81
 simp(disch:=omega) only[go_sem]
 have aGa:∀ c,In (.sl (H.nx+23) 0 (qs.length+1) (qs.length+1) false) c->c=H.nx+23:=fun c hc=>by
  obtain⟨_,_,_,_,hc⟩:=hc
  simp_all
 have aDg:∀ c,In (.sl H2.nx 0 (rs.length+1) (rs.length+1) false) c->c=H2.nx:=fun c hc=>by
  obtain⟨_,_,_,_,hc⟩:=hc
  simp_all
 generalize hH4:((H3.put ib (aD 0 [sv,.map mb,.map nb,.sl (H.nx+23) 0 (qs.length+1) (qs.length+1) false,iv])).put ib (aD 0 [sv,.map mb,.map nb,.sl (H.nx+23) 0 (qs.length+1) (qs.length+1) false,.sl H2.nx 0 (rs.length+1) (rs.length+1) false]))=H4
 have n4:H4.nx=H3.nx:=by rw[<-hH4];rfl
 have kp4:∀ c,c≠ib->H4.get c=H3.get c:=fun c h=>by rw[<-hH4,dZ _ _ _ _ h,dZ _ _ _ _ h]
 have b4:H4.get ib=aD 0 [sv,.map mb,.map nb,.sl (H.nx+23) 0 (qs.length+1) (qs.length+1) false,.sl H2.nx 0 (rs.length+1) (rs.length+1) false]:=by rw[<-hH4];exact eP _ _ _
 have hmb:H4.get mb=H.get mb:=(kp4 mb (by omega)).trans (kp3 mb (by omega) (by omega) (fun h=>by have:=(hI.an mb h).1;omega) (fun h=>by have:=hI.tT mb h;omega))
 have hnb:H4.get nb=(H.put nb k).get nb:=by
  refine(kp4 nb (by omega)).trans ((f3.get nb (show nb<H2.nx by omega) (fun h=>by have:=hI.tT nb h;omega)).trans ?_)
  rw[dZ _ _ _ _ (by omega)]
  refine(f2.get nb (show nb<H.nx+23 by omega) (fun h=>by have:=(hI.an nb h).1;omega)).trans ?_
  rw[dZ _ _ _ _ (by omega)]
  rfl
 have fF:Fm (fun c=>c=nb\/c=ib\/In av c\/In iv c) H H4:=⟨by omega,fun c hc hs=>(kp4 c fun h=>hs (.inr (.inl h))).trans (kp3 c hc (fun h=>hs (.inl h)) (fun h=>hs (.inr (.inr (.inl h)))) fun h=>hs (.inr (.inr (.inr h))))⟩
 refine hg H4 (.sl (H.nx+23) 0 (qs.length+1) (qs.length+1) false) (.sl H2.nx 0 (rs.length+1) (rs.length+1) false) ⟨b4,hI.ms.eq hmb,?_,?_,?_,?_,?_,⟨o1,o2,o3,by omega⟩,?_,?_,?_⟩ fF ?_
 ·rw[List.map_append]
  exact mu.eq hnb
 ·rw[List.length_append,List.flatMap_append,List.flatMap_singleton]
  refine a2.keep (by omega) fun c hc hl=> ?_
  have:=aGa c hc
  rw[kp4 c (by omega),f3.get c (show c<H2.nx by omega) (fun h=>by have:=aTk c h;omega),dZ _ _ _ _ (by omega)]
 ·rw[List.length_append,List.flatMap_append,List.flatMap_singleton]
  refine a3.keep (by omega) fun c hc hl=> ?_
  have:=aDg c hc
  exact kp4 c (by omega)
 ·simp[hln]
 ·intro m h1 h2
  rw[List.getElem_append,List.getElem_append]
  split
  ·rename_i h
   rw[dif_pos (by omega)]
   exact hI.pt m h (by omega)
  ·rename_i h
   rw[dif_neg (by omega)]
   simpa using hpt
 ·intro c hc
  have:=aGa c hc
  refine⟨by omega,fun h=> ?_⟩
  have:=aDg c h
  omega
 ·intro c hc
  have:=aDg c hc
  omega
 ·refine hI.fm.then fF fun c hc h=> ?_
  rcases h with h|h|h|h
  ·omega
  ·omega
  ·have:=(hI.an c h).1;omega
  ·have:=hI.tT c h;omega
 ·intro c hc
  rcases hc with hc|hc
  ·have:=aGa c hc;omega
  ·have:=aDg c hc;omega
theorem qjg{α:Type}{l:List α}(h:l.Nodup){i:Nat}(hi:i<l.length):l[i]∉l.take i:=fun hm=>by
 obtain⟨j,hj,e⟩:=List.getElem_of_mem hm
 rw[List.getElem_take]at e
 exact List.pairwise_iff_getElem.1 h j i (by simp at hj;omega) hi (by simp at hj;omega) e
theorem qb4{α β:Type}(g:α->List β)(c:Nat):∀ l:List α,(∀x∈l,(g x).length<=c)->(l.flatMap g).length<=c*l.length
 | [],_=>by simp
 |a::l,h=>by
  rw[List.flatMap_cons,List.length_append,List.length_cons,Nat.mul_add,Nat.mul_one]
  have:=qb4 g c l fun x hx=>h x (List.mem_cons_of_mem _ hx)
  have:=h a List.mem_cons_self
  omega
theorem xR.len{X:List aS}(h:xR X):(eO X).length<=256:=by
 have:=qb4 (fun g:aS=>g.gs.map fun x=>(g.name,x)) 16 X fun g hg=>by rw[List.length_map];exact(h.r g hg).1
 have:=h.n
 unfold eO;omega
def dS(X:List aS)(s:Nat):List (SS×aY):=eO (X.take s)
theorem q20(X:List aS)(s:Nat):(dS X s).length<=(eO X).length:=by
 unfold dS eO
 conv=>rhs;rw[<-List.take_append_drop s X,List.flatMap_append,List.length_append]
 omega
theorem zdy{X:List aS}{s i:Nat}(hs:s<X.length)(hi:i<X[s].gs.length):∃ Z,eO X=(dS X s++(X[s].gs.take i).map fun x=>(X[s].name,x))++(X[s].name,X[s].gs[i])::Z:=by
 refine⟨(X[s].gs.drop (i+1)).map (fun x=>(X[s].name,x))++eO (X.drop (s+1)),?_⟩
 have h1:X=X.take s++X[s]::X.drop (s+1):=by rw[<-List.drop_eq_getElem_cons hs,List.take_append_drop]
 have h2:X[s].gs=X[s].gs.take i++X[s].gs[i]::X[s].gs.drop (i+1):=by rw[<-List.drop_eq_getElem_cons hi,List.take_append_drop]
 unfold dS eO
 conv=>lhs;rw[h1,List.flatMap_append,List.flatMap_cons]
 conv=>lhs;rw[h2,List.map_append,List.map_cons]
 simp
theorem q2y{X:List aS}(hN:(aF X).Nodup){s i:Nat}(hs:s<X.length)(hi:i<X[s].gs.length):(X[s].name,X[s].gs[i].r.name)∉(dS X s++(X[s].gs.take i).map fun x=>(X[s].name,x)).map kq:=by
 obtain⟨Z,h⟩:=zdy hs hi
 rw[<-uL,h,List.map_append,List.map_cons]at hN
 intro hm
 exact(List.nodup_append.1 hN).2.2 _ hm (kq (X[s].name,X[s].gs[i])) List.mem_cons_self rfl
theorem q3g{call:Ev.Call}{H0 Hb:Hp}{ib mb nb pb:Nat}{sv:AV}{ss:List SS}{X:List aS}(hX:dF H0 sv X)(hN:(aF X).Nodup)(hL:(eO X).length<=256){s:Nat}(hs:s<X.length)(hgl:X[s].gs.length<=16){Q:AV->Hp->Prop}{q:Hp->R1}
  (hq:∀ H av iv qs,IxI H0 H ib mb nb sv av iv ss (dS X s++X[s].gs.map fun x=>(X[s].name,x)) qs->Hb.nx<=H.nx->Ok (q H) Q) :
  ∀(k i:Nat) (H:Hp) (av iv:AV) (qs:List (Nat×Nat)),i<=X[s].gs.length->X[s].gs.length-i<k->IxI H0 H ib mb nb sv av iv ss (dS X s++(X[s].gs.take i).map fun x=>(X[s].name,x)) qs ->
   H.get pb=aD 0 [.str X[s].name.n X[s].name.a,X[s].rv]->pb<H.nx->(¬In av pb/\¬ In iv pb/\ib<pb)->Hb.nx<=H.nx ->
   Ok (qqd call q (.ptr ib 0) (.ptr pb 0) (iN (X[s].gs.length)) k (iN i) H) Q
 |0,i,_,_,_,_,_,h,_,_,_,_,_=>by omega
 |k+1,i,H,av,iv,qs,hi,hk,hI,hpb,hpl,hpn,hbn=>by
  show Ok (qxi call _ _ _ _ (qqd call _ _ _ _ k) _ H) Q
  unfold qxi
  by_cases hlt:i<X[s].gs.length
  ·simp only[go_sem,hlt]
   obtain⟨b,o,e1,p1⟩:=(hX.sp _ (List.getElem_mem hs)).pt hlt
   have aLU:(dS X s++(X[s].gs.take i).map fun x=>(X[s].name,x)).length<=1000:=by
    have:=q20 X s
    rw[List.length_append,List.length_map,List.length_take];omega
   obtain⟨o1,o2,o3,o4⟩:=hI.o
   refine ztu hI e1 p1 (q2y hN hs hlt) (by omega) hpb hpl aLU hpn fun H' av' iv' hI' f' hn'=> ?_
   refine q3g hX hN hL hs hgl hq k (i+1) H' av' iv' (qs++[(b,o)]) (by omega) (by omega) ?_ ((f'.get pb hpl fun h=> ?_).trans hpb) (Nat.lt_of_lt_of_le hpl f'.nx) ⟨fun h=> ?_,fun h=> ?_,hpn.2.2⟩ (Nat.le_trans hbn f'.nx)
   ·rw[List.take_succ_eq_append_getElem hlt,List.map_append,List.map_singleton,<-List.append_assoc]
    exact hI'
   ·rcases h with h|h|h|h
    ·omega
    ·omega
    ·exact hpn.1 h
    ·exact hpn.2.1 h
   ·have:=hn' pb (.inl h);omega
   ·have:=hn' pb (.inr h);omega
  ·simp only[go_sem,hlt]
   have he:i=X[s].gs.length:=by omega
   rw[he,List.take_length]at hI
   exact hq H av iv qs hI hbn
theorem q3f{call:Ev.Call}{H0:Hp}{ib mb nb:Nat}{sv:AV}{X:List aS}(hX:dF H0 sv X)(hN:(aF X).Nodup)(hS:(X.map aS.name).Nodup)(hP:xR X){Q:AV->Hp->Prop}{q:Hp->R1}
  (hq:∀ H av iv qs,IxI H0 H ib mb nb sv av iv (X.map aS.name) (eO X) qs->Ok (q H) Q) :
  ∀(k s:Nat) (H:Hp) (av iv:AV) (qs:List (Nat×Nat)),s<=X.length->X.length-s<k->IxI H0 H ib mb nb sv av iv ((X.take s).map aS.name) (dS X s) qs ->
   Ok (qkk call q (.ptr ib 0) sv (iN (X.length)) k (iN s) H) Q
 |0,s,_,_,_,_,_,h,_=>by omega
 |k+1,s,H,av,iv,qs,hs,hk,hI=>by
  show Ok (qxj call _ _ _ _ (qkk call _ _ _ _ k) _ H) Q
  unfold qxj
  have hn:=hP.n
  by_cases hlt:s<X.length
  ·simp only[go_sem,hlt]
   unfold q8z
   have h1:=hX.fm hI.fm
   obtain⟨b1,o1,e1,e2,_,e3,_⟩:=h1.rs.at' s hlt
   unfold u6 SS.v at e3
   have hm:=List.getElem_mem hlt
   obtain⟨o1,o2,o3,o4⟩:=hI.o
   have e0:=hI.blk
   have hnew:X[s].name∉(X.take s).map aS.name:=by
    have h2:=qjg hS (i:=s) (by simpa using hlt)
    simp_all
   have fp:Fm No H ((aR H (aD 0 [.str 0 0,.aA])).put H.nx (aD 0 [.str X[s].name.n X[s].name.a,X[s].rv])):=by exact kI
   have ms1:qB ((aR H (aD 0 [.str 0 0,.aA])).put H.nx (aD 0 [.str X[s].name.n X[s].name.a,X[s].rv])) mb ((X.take s).map aS.name):=hI.ms.eq (fp.keep (by omega))
   have em:=ms1.miss (iN 0) X[s].name hnew
   have e0':=(fp.keep o4).trans e0
   have em':qP ⟨iB,none⟩ (iN 0) false ⟨((aR H (aD 0 [.str 0 0,.aA])).put H.nx (aD 0 [.str X[s].name.n X[s].name.a,X[s].rv])).t,H.nx+1⟩ (.map mb) (.str X[s].name.n X[s].name.a)= .val (iN 0):=em
   simp(disch:=first|omega|exact ti rfl|(simp only[np,nq];first|done|omega)) only[go_sem,reduceAdd,reduceLeDiff,e1,e3,e0',em']
   obtain⟨kk,eu,mu⟩:=ms1.put X[s].name hnew
   refine Ok.y7 eu ?_
   have hsp:=hX.sp _ hm
   have hl:=hsp.len
   have aQ9:=(hP.r _ hm).1
   simp(disch:=omega) only[go_sem,hl]
   unfold q82
   rw[dI]
   generalize hH2:((aR H (aD 0 [.str 0 0,.aA])).put H.nx (aD 0 [.str X[s].name.n X[s].name.a,X[s].rv])).put mb kk=H2 at mu
   have n2:H2.nx=H.nx+1:=by rw[<-hH2];rfl
   have kp:∀ c,c<H.nx->c≠mb->H2.get c=H.get c:=fun c h1 h2=>by
    rw[<-hH2,dZ _ _ _ _ h2]
    exact fp.keep h1
   have pbk:H2.get H.nx=aD 0 [.str X[s].name.n X[s].name.a,X[s].rv]:=by
    rw[<-hH2,dZ _ _ _ _ (by omega)]
    exact eP _ _ _
   have hI2:IxI H0 H2 ib mb nb sv av iv ((X.take s).map aS.name++[X[s].name]) (dS X s++(X[s].gs.take 0).map fun x=>(X[s].name,x)) qs:=by
    rw[List.take_zero,List.map_nil,List.append_nil]
    refine⟨(kp ib o4 (by omega)).trans e0,mu,hI.mn.eq (kp nb (by omega) (by omega)),hI.a.keep (by omega) fun c hc hl=>kp c hl ?_,hI.i.keep (by omega) fun c hc hl=>kp c hl ?_,hI.len,hI.pt,⟨o1,o2,o3,by omega⟩,hI.an,hI.tT,?_⟩
    ·have:=(hI.an c hc).1;omega
    ·have:=hI.tT c hc;omega
    ·exact⟨by have:=hI.fm.nx;omega,fun c hc _=>(kp c (Nat.lt_of_lt_of_le hc hI.fm.nx) (by omega)).trans (hI.fm.keep hc)⟩
   refine q3g hX hN hP.len hlt aQ9 (Hb:=H2) (fun H3 av3 iv3 qs3 vM hb3=> ?_) cK 0 H2 av iv qs (Nat.zero_le _) (by rw[dK];omega) hI2 pbk (by omega) ⟨fun h=> ?_,fun h=> ?_,by omega⟩ (Nat.le_refl _)
   ·unfold qxh
    simp(disch:=omega) only[go_sem]
    refine q3f hX hN hS hP hq k (s+1) H3 av3 iv3 qs3 (by omega) (by omega) ?_
    have hx:dS X (s+1)=dS X s++X[s].gs.map fun x=>(X[s].name,x):=by
     unfold dS eO
     rw[List.take_succ_eq_append_getElem hlt,List.flatMap_append,List.flatMap_singleton]
    rw[List.take_succ_eq_append_getElem hlt,List.map_append,List.map_singleton,hx]
    exact vM
   ·have:=hI.a.lt h;omega
   ·have:=hI.i.lt h;omega
  ·simp only[go_sem,hlt]
   have he:s=X.length:=by omega
   rw[he,List.take_length]at hI
   refine hq H av iv qs ?_
   have:dS X X.length=eO X:=by unfold dS;rw[List.take_length]
   simp_all
structure vR(H:Hp)(ib:Nat)(sv:AV)(X:List aS):Prop where
 ex:∃ mb nb av iv qs,H.get ib=aD 0 [sv,.map mb,.map nb,av,iv]/\qB H mb (X.map aS.name)/\iR H nb (aF X)/\Rs 1 ptC H av qs/\Rs 1 nmC H iv (eO X)/\sZ av=true/\sZ iv=true/\qs.length=(eO X).length /\
  (∀i (h:i<qs.length) (h':i<(eO X).length),PtR H qs[i] (eO X)[i].2)/\mb<H.nx/\nb<H.nx
 lt:ib<H.nx
theorem vR.fm{H H':Hp}{ib:Nat}{sv:AV}{X:List aS}(h:vR H ib sv X)(f:Fm No H H'):vR H' ib sv X:=by
 obtain⟨mb,nb,av,iv,qs,h1,h2,h3,h4,h5,h6,h7,h8,h9,l1,l2⟩:=h.ex
 exact⟨⟨mb,nb,av,iv,qs,(f.keep h.lt).trans h1,h2.eq (f.keep l1),h3.eq (f.keep l2),h4.fm f,h5.fm f,h6,h7,h8,fun i a b=>(h9 i a b).fm f,Nat.lt_of_lt_of_le l1 f.nx,Nat.lt_of_lt_of_le l2 f.nx⟩,Nat.lt_of_lt_of_le h.lt f.nx⟩
theorem zec(q:SS×aY):(nmC q).length=1:=rfl
theorem zgr(hC:bC C){k:Nat}(hk:1<=k){H:Hp}{sv:AV}{X:List aS}(hX:dF H sv X)(hP:xR X)(hN:(aF X).Nodup)(hS:(X.map aS.name).Nodup) :
  Ok (C k (.f 61) [.agg [sv]] H) fun r H'=>∃ ib,r= .ptr ib 0/\vR H' ib sv X/\Fm No H H':=by
 obtain⟨j,rfl⟩:=aW hk
 rw[(hC j).zBr]
 unfold zBr zq7
 have hl:=hX.rs.len
 have hn:=hP.n
 have hsv:xM sv=some [sv]:=by
  cases sv<;>first|rfl|(exfalso;revert hl;exact fun h=>by cases h)
 have hcm:∀ b,xM (.map b)=some [.map b]:=fun b=>rfl
 simp(disch:=first|omega|exact ti rfl|(simp only[np,nq];first|done|omega)) only[go_sem,seval,hl,hcm]
 unfold q83
 rw[dI]
 generalize hH1:aR (aR (aR (aR H (aD 0 [sv])) (.map [] 0)) (.map [] 0)) (aD 0 [sv,.map (H.nx+1),.map (H.nx+1+1),.aA,.aA])=H1
 have f1:Fm No H H1:=by rw[<-hH1];exact fP4
 have n1:H1.nx=H.nx+4:=by rw[<-hH1];rfl
 have k1:H1.get (H.nx+1)= .map [] 0:=by rw[<-hH1];simp(disch:=first|omega|exact ti rfl|(simp only[np,nq];first|done|omega)) only[go_sem]
 have k2:H1.get (H.nx+1+1)= .map [] 0:=by rw[<-hH1];simp(disch:=first|omega|exact ti rfl|(simp only[np,nq];first|done|omega)) only[go_sem]
 have k3:H1.get (H.nx+1+1+1)=aD 0 [sv,.map (H.nx+1),.map (H.nx+1+1),.aA,.aA]:=by rw[<-hH1];simp(disch:=first|omega|exact ti rfl|(simp only[np,nq];first|done|omega)) only[go_sem]
 have nn:∀ c,¬In AV.aA c:=fun c h=>by obtain⟨_,_,_,_,h⟩:=h;cases h
 refine q3f hX hN hS hP (fun H2 av iv qs hI=> ?_) cK 0 H1 .aA .aA [] (Nat.zero_le _) (by rw[dK];omega) ⟨k3,kZ.nil _ _ k1,kZ.nil _ _ k2,Gl.nil 1 _,Gl.nil 1 _,rfl,fun i h=>by simp at h,⟨by omega,by omega,by omega,by omega⟩,fun c h=>absurd h (nn c),fun c h=>absurd h (nn c),f1⟩
 obtain⟨o1,o2,o3,o4⟩:=hI.o
 refine Ok.ret ⟨_,rfl,⟨⟨_,_,av,iv,qs,hI.blk,hI.ms,?_,hI.a.rs qsr,hI.i.rs zec,Gl.flat hI.a,Gl.flat hI.i,hI.len,fun i a b=>(hI.pt i a b).fm hI.fm,by omega,by omega⟩,o4⟩,hI.fm⟩
 have:=hI.mn
 rw[uL]at this
 exact this
structure eT(X:List aS):Prop where
 pr:xR X
 al:(aF X).Nodup
 sp:(X.map aS.name).Nodup
 ty:∀ g∈X,∀x∈g.gs,x.r.types.Nodup/\∀ t∈x.r.types,t.sp∈X.map aS.name/\(t.rl=sE\/(t.sp,t.rl)∈aF X)
 nd:∀ g∈X,∀x∈g.gs,∀y∈x.r.rule.nodes false,(y.k=2\/y.k=3->(g.name,y.rl)∈aF X)/\(y.k=3->qW X g.name y.rl y.to≠[])
 us:∀ g∈X,∀x∈g.gs,((x.r.rule.nodes false).any (fun n=>decide (n.k=1))=true->x.r.types≠[])/\((x.r.rule.nodes false).any (fun n=>decide (n.k=1))=false->x.r.types≠[]->(g.gs.any fun z=>eU z.r.rule 3 x.r.name)=true)
theorem qhj{X:List aS}{a:SS}{x:aY}:(a,x)∈eO X↔∃ g∈X,x∈g.gs/\g.name=a:=by
 unfold eO
 rw[List.mem_flatMap]
 constructor
 ·rintro ⟨g,hg,h⟩
  rw[List.mem_map]at h
  obtain⟨y,hy,e⟩:=h
  injection e with e1 e2
  subst e2
  exact⟨g,hg,hy,e1⟩
 ·simp
theorem qh2{X:List aS}{a b:SS}:(a,b)∈aF X↔∃ g∈X,∃x∈g.gs,g.name=a/\x.r.name=b:=by
 rw[<-uL,List.mem_map]
 constructor
 ·rintro ⟨⟨a',x⟩,h,e⟩
  injection e with e1 e2
  subst e1
  obtain⟨g,hg,hx,e⟩:=qhj.1 h
  exact⟨g,hg,x,hx,e,e2⟩
 ·rintro ⟨g,hg,x,hx,rfl,rfl⟩
  exact⟨(g.name,x),qhj.2 ⟨g,hg,hx,rfl⟩,rfl⟩
theorem ql9{α β:Type}{f:α->β}:∀{l:List α},(l.map f).Nodup->∀{x y:α},x∈l->y∈l->f x=f y->x=y
 | [],_,_,_,h,_,_=>by cases h
 |a::l,hn,x,y,hx,hy,e=>by
  rw[List.map_cons,List.nodup_cons]at hn
  rcases List.mem_cons.1 hx with h1|h1
  ·rcases List.mem_cons.1 hy with h2|h2
   ·rw[h1,h2]
   ·exact absurd (by rw[<-h1,e];exact List.mem_map_of_mem h2) hn.1
  ·rcases List.mem_cons.1 hy with h2|h2
   ·simp_all
   ·exact ql9 hn.2 h1 h2 e
theorem qmj{α:Type}[DecidableEq α]{l:List α}(h:l.Nodup){i:Nat}(hi:i<l.length):(l.findIdx fun q=>decide (q=l[i]))=i:=by
 rw[List.findIdx_eq hi]
 refine⟨by simp,fun j hj=> ?_⟩
 have:=List.pairwise_iff_getElem.1 h j i (by omega) hi hj
 simp_all
theorem qfn{X:List aS}(hal:(aF X).Nodup)(hsp:(X.map aS.name).Nodup){a b:SS}(h:(a,b)∈aF X):∃ x,pI X a b=some x/\(eO X)[bJ X a b]? =some (a,x):=by
 obtain⟨g,hg,x,hx,rfl,rfl⟩:=qh2.1 h
 have h1:X.find? (fun p=>decide (p.name=g.name))=some g:=by
  cases hf:X.find? (fun p=>decide (p.name=g.name))with
  |none =>
   rw[List.find?_eq_none]at hf
   exact absurd (hf g hg) (by simp)
  |some p =>
   have e:p.name=g.name:=by simpa using List.find?_some hf
   rw[ql9 hsp (List.mem_of_find?_eq_some hf) hg e]
 obtain⟨y,h2⟩:∃ y,g.gs.find? (fun z=>decide (z.r.name=x.r.name))=some y:=by
  cases hf:g.gs.find? (fun z=>decide (z.r.name=x.r.name))with
  |none =>
   rw[List.find?_eq_none]at hf
   exact absurd (hf x hx) (by simp)
  |some y=>exact⟨y,rfl⟩
 have hfg:pI X g.name x.r.name=some y:=by unfold pI;rw[h1];exact h2
 have hy:y.r.name=x.r.name:=by simpa using List.find?_some h2
 refine⟨y,hfg,?_⟩
 have hm:(g.name,y)∈eO X:=qhj.2 ⟨g,hg,List.mem_of_find?_eq_some h2,rfl⟩
 obtain⟨n,hn,e⟩:=List.getElem_of_mem hm
 have hln:(eO X).length=(aF X).length:=by rw[<-uL,List.length_map]
 have hk:(aF X)[n]'(by omega)=(g.name,x.r.name):=by
  have e2:(aF X)[n]? =some (kq (eO X)[n]):=by rw[<-uL,List.getElem?_map,List.getElem?_eq_getElem hn];rfl
  rw[List.getElem?_eq_getElem (by omega)]at e2
  injection e2 with e2
  rw[e2,e]
  show(g.name,y.r.name)=_
  rw[hy]
 have aF3:bJ X g.name x.r.name=n:=by
  have:=qmj hal (i:=n) (by omega)
  rw[hk]at this
  exact this
 rw[aF3,List.getElem?_eq_getElem hn,e]
theorem qi0{X:List aS}(hal:(aF X).Nodup)(hsp:(X.map aS.name).Nodup)(a b:SS):(pI X a b).isSome=decide ((a,b)∈aF X):=by
 by_cases h:(a,b)∈aF X
 ·obtain⟨x,h1,_⟩:=qfn hal hsp h
  simp_all
 ·rw[decide_eq_false h]
  cases hf:pI X a b with
  |none=>rfl
  |some x =>
   obtain⟨p,hp,hx,e1,e2⟩:=qhu hf
   exact absurd (qh2.2 ⟨p,hp,x,hx,e1,e2⟩) h
theorem zlz(a b:Nat):qms (.ptr a b) .bZ=some false:=id rfl
theorem zl0:qms .bZ .bZ=some true:=id rfl
theorem q6d(n b:Bool):qZ n (some b)= .val (.bool (bif n then !b else b)):=id rfl
attribute [go_sem] zlz zl0 q6d
theorem qf9(hC:bC C){k:Nat}(hk:1<=k){H:Hp}{ib:Nat}{sv:AV}{X:List aS}(hI:vR H ib sv X)(hal:(aF X).Nodup)(hsp:(X.map aS.name).Nodup){a b:SS}(h:(a,b)∈aF X) :
  ∃q x,pI X a b=some x/\C k (.f 65) [.ptr ib 0,.str a.n a.a,.str b.n b.a] H= .ok (.ptr q.1 q.2) H/\PtR H q x:=by
 obtain⟨j,rfl⟩:=aW hk
 obtain⟨x,hf,hx⟩:=qfn hal hsp h
 obtain⟨mb,nb,av,iv,qs,h1,h2,h3,h4,h5,h6,h7,h8,h9,l1,l2⟩:=hI.ex
 have hlt:=qvi h
 have hln:(eO X).length=(aF X).length:=by rw[<-uL,List.length_map]
 have hq:bJ X a b<qs.length:=by omega
 obtain⟨b1,o1,e1,e2,_,_,e4⟩:=h4.at' _ hq
 have r0:bT (H.get b1) o1= .val (.ptr qs[bJ X a b].1 qs[bJ X a b].2):=e4 0 (by rw[qsr];omega)
 refine⟨qs[bJ X a b],x,hf,?_,?_⟩
 ·rw[(hC j).zBx]
  unfold zBx zid
  have em:=h3.find (iN 0) a b h
  have hnx:(List.findIdx (fun q=>decide (q=(a,b))) (aF X))=bJ X a b:=rfl
  rw[hnx]at em
  simp(disch:=first|omega|exact ti rfl|(simp only[np,nq];first|done|omega)) only[go_sem,reduceAdd,reduceLeDiff,h1,em]
  unfold q8j
  simp only[go_sem,h1,e1,r0]
 ·have:=h9 _ hq (by omega)
  simp_all
theorem zmz(hC:bC C){k:Nat}(hk:1<=k){H:Hp}{ib:Nat}{sv:AV}{X:List aS}(hI:vR H ib sv X){a b:SS}(h:(a,b)∉aF X) :
  C k (.f 65) [.ptr ib 0,.str a.n a.a,.str b.n b.a] H= .ok .bZ H:=by
 obtain⟨j,rfl⟩:=aW hk
 obtain⟨mb,nb,av,iv,qs,h1,h2,h3,h4,h5,h6,h7,h8,h9,l1,l2⟩:=hI.ex
 rw[(hC j).zBx]
 unfold zBx zid
 have em:=h3.miss (iN 0) a b h
 simp(disch:=first|omega|exact ti rfl|(simp only[np,nq];first|done|omega)) only[go_sem,reduceAdd,reduceLeDiff,h1,em]
theorem qsq(hC:bC C){j:Nat}(hj:1<=j){H0:Hp}{ib:Nat}{sv tv:AV}{X:List aS}(hI:vR H0 ib sv X)(hal:(aF X).Nodup)(hsp:(X.map aS.name).Nodup)
  {ts:List kF} (ht:Rs 2 tC H0 tv ts) (htl:ts.length<=1000) (to:SS) {Q:AV->Hp->Prop} {q:AV->Hp->R1}
  (hq:∀ w H,Ac 1 sC H0 H w (tgL X to ts)->Ok (q w H) Q) :
  ∀(k i:Nat) (w:AV) (H:Hp),i<=ts.length->ts.length-i<k->Ac 1 sC H0 H w (tgL X to (ts.take i)) ->
   Ok (qtu (C j) q (.ptr ib 0) to.v tv (iN (ts.length)) k w (iN i) H) Q
 |0,i,_,_,_,h,_=>by omega
 |k+1,i,w,H,hi,hk,hw=>by
  show Ok (q8i (C j) _ _ _ _ _ (qtu (C j) _ _ _ _ _ k) _ _ H) Q
  unfold q8i
  by_cases hlt:i<ts.length
  ·simp only[go_sem,hlt]
   unfold q8h
   have ht1:=ht.fm hw.fm
   obtain⟨b1,o1,e1,e2,_,e3,_⟩:=ht1.at' i hlt
   unfold tC SS.v at e3
   have hs:=q14 X to hlt
   have hll:=qr9 X to (ts.take i)
   rw[List.length_take]at hll
   have skip:∀ H3,Fm No H H3->tgP X to ts[i]=false->Ok (qkj (C j) (qtu (C j) q (.ptr ib 0) (.str to.n to.a) tv (iN (ts.length)) k) w (iN i) H3) Q:=fun H3 f3 h=>by
    unfold qkj
    simp(disch:=omega) only[go_sem]
    refine qsq hC hj hI hal hsp ht htl to hq k (i+1) w H3 (by omega) (by omega) ?_
    rw[hs,h]
    simpa using hw.no f3
   have f2:Fm No H ((aR H (aD 0 [.str 0 0,.str 0 0])).put H.nx (aD 0 [.str ts[i].sp.n ts[i].sp.a,.str ts[i].rl.n ts[i].rl.a])):=by exact kI
   have hI2:=(hI.fm hw.fm).fm f2
   unfold SS.v
   unfold tgP at skip hs
   by_cases h1:ts[i].rl.n=0/\ts[i].rl.a=0
   ·have h1':ts[i].rl=sE:=(nI _ _).2 h1
    have oH:=eq_true h1
    rw[decide_eq_true h1',qi0 hal hsp]at skip hs
    by_cases hin:(ts[i].sp,to)∈aF X
    ·obtain⟨qq,x,_,ec,_⟩:=qf9 hC (k:=j) hj hI2 hal hsp hin
     rw[decide_eq_true hin]at hs
     simp(disch:=first|omega|exact ti rfl|(simp only[np,nq];first|done|omega)) only[go_sem,seval,e1,e3,oH,ec]
     refine Ok.ve ((hw.no (f2.trans (by exact jW))).add ts[i].sp 16 rfl (by omega) (by omega)) ?_
     intro w4 H4 hw4
     unfold qkj
     simp(disch:=omega) only[go_sem]
     refine qsq hC hj hI hal hsp ht htl to hq k (i+1) w4 H4 (by omega) (by omega) ?_
     simp_all
    ·have ec:=zmz hC (k:=j) hj hI2 hin
     rw[decide_eq_false hin]at skip
     simp(disch:=first|omega|exact ti rfl) only[go_sem,seval,e1,e3,oH,ec]
     simp_all
   ·rw[decide_eq_false (fun h=>h1 ((nI _ _).1 h))]at skip
    simp(disch:=first|omega|exact ti rfl) only[go_sem,seval,e1,e3,h1]
    simp_all
  ·simp only[go_sem,hlt]
   have he:i=ts.length:=by omega
   simp_all
theorem zm3(hC:bC C){k:Nat}(hk:1<=k){n:Nat}{H:Hp}{v:AV}{l:List AV}(h:Gl 1 H v n l) :
  ∃w,C k (.f 103) [v] H= .ok w H/\Gl 1 H w n l/\(∀b,In w b->In v b):=by
 obtain⟨j,rfl⟩:=aW hk
 obtain⟨w,e,h1,h2,h3⟩:=h.clip
 refine⟨w,?_,h1,h3⟩
 rw[(hC j).zCq]
 unfold zCq zqn
 simp only[go_sem,h.cO,e]
theorem qm6(hC:bC C){k:Nat}(hk:2<=k){H:Hp}{ib:Nat}{sv:AV}{X:List aS}(hX:dF H sv X)(hS:rM X)(hI:vR H ib sv X)(hal:(aF X).Nodup)(hsp:(X.map aS.name).Nodup)(a b to:SS)(hab:(a,b)∈aF X) :
  Ok (C k (.f 66) [.ptr ib 0,.str a.n a.a,.str b.n b.a,.str to.n to.a] H) fun r H'=>Ac 1 sC H H' r (qW X a b to):=by
 obtain⟨j,rfl⟩:=aW hk
 rw[(hC j).zBy]
 unfold zBy zq2
 obtain⟨q,x,hf,ec,hp⟩:=qf9 hC (k:=j) (by omega) hI hal hsp hab
 have rt:=hp.tv
 obtain⟨p,hp1,hx,_,_⟩:=qhu hf
 have hty:=((hX.sp p hp1).rel x hx).ty
 have htl:=hS.t p hp1 x hx
 have hl:=hty.len
 simp only[go_sem,ec,rt,hl]
 unfold zn8
 rw[dI]
 refine qsq hC (by omega) hI hal hsp hty (by omega) to (fun w H2 hw=> ?_) cK 0 .aA H (Nat.zero_le _) (by rw[dK];omega) (Ac.nil _ _ (Fm.refl _ _))
 unfold q0v
 obtain⟨w',e,g,hi⟩:=zm3 hC (k:=j) (by omega) hw.gl
 simp only[go_sem,e]
 unfold qW
 rw[hf]
 exact Ok.ret ⟨g,hw.fm,fun c hc=>hw.nw c (hi c hc)⟩
theorem qwh(n m i:Nat)(h:i<=m):bounds n m none (some (iN i)) none=some ⟨0,i,m⟩:=by
 show(match(bif Nat.ble i m then some i else none)with|none=>none|some h=>match(some 0:Option Nat)with|none=>none|some l=>some (Bd.mk l h m))=_
 rw[ble_eq,decide_eq_true h];rfl
theorem Rs.pre{α:Type}{z:Nat}{f:α->List AV}{H:Hp}{v:AV}{l:List α}(h:Rs z f H v l)(hc:v= .aA\/∃ b o n m e,v= .sl b o n m e/\n<=m){i:Nat}(hi:i<l.length) :
  ∃w,lH z v none (some (iN i)) none= .val w/\Rs z f H w (l.take i):=by
 have hl:=h.len
 rcases hc with rfl|⟨b,o,n,m,e,rfl,hnm⟩
 ·exfalso
  have:l.length=0:=by
   have h1:aG .aA=R0.val (iN 0):=rfl
   injection hl with hl
   injection hl with _ hl
   injection hl with hl
   omega
  omega
 ·have hn:n=l.length:=by
   have h1:aG (.sl b o n m e)=R0.val (iN n):=rfl
   injection hl with hl
   injection hl with _ hl
   injection hl
  subst hn
  have e1:lH z (.sl b o l.length m e) none (some (iN i)) none=gU b o z ⟨0,i,m⟩ e:=by
   show(match bounds l.length m none (some (iN i)) none with|some bd=>gU b o z bd e|none=>R0.bad)=_
   rw[qwh _ _ _ (by omega)]
  have e2:gU b o z ⟨0,i,m⟩ e= .val (.sl b o i m e):=by
   unfold gU
   simp only[beq_eq]
   rw[decide_eq_false (by omega),cond_false]
   simp
  refine⟨.sl b o i m e,e1.trans e2,?_,fun j hj=> ?_⟩
  ·rw[List.length_take,Nat.min_eq_left (by omega)];rfl
  ·have hj':j<i:=by rw[List.length_take]at hj;omega
   obtain⟨b',o',i1,i2,i3,i4,i5⟩:=h.at' j (by omega)
   rw[sP _ _ _ _ _ _ _ _ (by omega)]at i1
   injection i1 with i1
   injection i1 with i1 i6
   subst i1 i6
   refine⟨b,_,sP _ _ _ _ _ _ _ _ hj',i2,⟨_,_,_,_,rfl⟩,?_,fun m hm=> ?_⟩
   ·simp_all
   ·have:((l.take i)[j]'hj)=l[j]'(by omega):=List.getElem_take ..
    simp only[this]at hm ⊢
    exact i5 m hm
def kyT(t:kF):SS×SS:=(t.sp,t.rl)
theorem q13{call:Ev.Call}{H:Hp}{tv:AV}{ts:List kF}(ht:Rs 2 tC H tv ts)(htl:ts.length<=1000){t:kF}(hn:t∉ts){pb:Nat}(hp:H.get pb=aD 0 [.str t.sp.n t.sp.a,.str t.rl.n t.rl.a]){Q:AV->Hp->Prop}{q:Hp->R1}{qr:AV->Hp->R1}(hq:Ok (q H) Q) :
  ∀(k i:Nat),i<=ts.length->ts.length-i<k->Ok (q0h call qr q tv (.ptr pb 0) (iN (ts.length)) k (iN i) H) Q
 |0,i,_,h=>by omega
 |k+1,i,hi,hk=>by
  show Ok (q60 call _ _ _ _ _ (q0h call _ _ _ _ _ k) _ H) Q
  unfold q60
  by_cases hlt:i<ts.length
  ·simp only[go_sem,hlt]
   unfold q6x
   obtain⟨b1,o1,e1,e2,_,e3,_⟩:=ht.at' i hlt
   unfold tC SS.v at e3
   have hne:¬ kyT t=kyT ts[i]:=fun h=>hn (by
    have:t=ts[i]:=by
     injection h with h1 h2
     cases t
     simp_all
    rw[this];exact List.getElem_mem hlt)
   have ee:lT (eqFields [(p1,⟨iB⟩,0),(p1,⟨iB⟩,1)]) (.agg [.str t.sp.n t.sp.a,.str t.rl.n t.rl.a]) (.agg [.str ts[i].sp.n ts[i].sp.a,.str ts[i].rl.n ts[i].rl.a])=some (decide (kyT t=kyT ts[i])):=qvu (kyT t) (kyT ts[i])
   rw[decide_eq_false hne]at ee
   simp only[go_sem,seval,hp,e1,e3,ee]
   unfold znf
   simp(disch:=omega) only[go_sem]
   exact q13 ht htl hn hp hq k (i+1) (by omega) (by omega)
  ·simp only[go_sem,hlt]
   exact hq
theorem qwq(hC:bC C){k:Nat}(hk:2<=k){H:Hp}{tv:AV}{ts:List kF}(ht:Rs 2 tC H tv ts)(htl:ts.length<=1000){t:kF}(hn:t∉ts) :
  Ok (C k (.f 124) [tv,.agg [.str t.sp.n t.sp.a,.str t.rl.n t.rl.a]] H) fun r H'=>r= .bool false/\Fm No H H':=by
 obtain⟨j,rfl⟩:∃ j,k=j+1+1:=⟨k-2,by omega⟩
 rw[(hC (j+1)).zDf]
 unfold zDf zqb
 simp(disch:=omega) only[go_sem,seval]
 rw[(hC j).zDm]
 unfold zDm zp6
 have hl:=ht.len
 simp only[go_sem,hl]
 have f:Fm No H (aR (aR H (aD 0 [.str t.sp.n t.sp.a,.str t.rl.n t.rl.a])) (aD 0 [.str t.sp.n t.sp.a,.str t.rl.n t.rl.a])):=by exact yN
 unfold zng
 rw[dI]
 refine Ok.ve (R:=fun r H'=>r= .int .i64 (.negSucc 0)/\Fm No H H') (q13 (ht.fm f) htl hn (pb:=H.nx+1) (by simp(disch:=first|omega|exact ti rfl|(simp only[np,nq];first|done|omega)) only[go_sem]) ?_ cK 0 (Nat.zero_le _) (by rw[dK];omega)) ?_
 ·unfold q6y
  exact Ok.ret ⟨rfl,f⟩
 ·rintro _ H2 ⟨rfl,f2⟩
  exact Ok.ret ⟨rfl,f2⟩
theorem q2x(hC:bC C){j:Nat}(hj:2<=j){Hb:Hp}{ib:Nat}{sv:AV}{X:List aS}(hI:vR Hb ib sv X)(hV:eT X){pp:Nat×Nat}{x:aY}(hpx:PtR Hb pp x)(hxr:oQ Hb x)(htl:x.r.types.length<=8)(hnd:x.r.types.Nodup)
  (hty:∀ t∈x.r.types,t.sp∈X.map aS.name/\(t.rl=sE\/(t.sp,t.rl)∈aF X)) {Q:AV->Hp->Prop} {q:Hp->R1} {qr:AV->Hp->R1} (hq:∀ H,Fm No Hb H->Ok (q H) Q) :
  ∀(k i:Nat) (H:Hp),i<=x.r.types.length->x.r.types.length-i<k->Fm No Hb H->Ok (qnq (C j) qr q (.ptr ib 0) (.ptr pp.1 pp.2) x.tv (iN (x.r.types.length)) k (iN i) H) Q
 |0,i,_,_,h,_=>by omega
 |k+1,i,H,hi,hk,hf=>by
  show Ok (q7f (C j) _ _ _ _ _ _ (qnq (C j) _ _ _ _ _ _ k) _ H) Q
  unfold q7f
  by_cases hlt:i<x.r.types.length
  ·simp only[go_sem,hlt]
   rw[qnr]
   unfold qp0
   have h1:=hxr.fm hf
   obtain⟨b1,o1,e1,e2,_,e3,_⟩:=h1.ty.at' i hlt
   unfold tC SS.v at e3
   have hI1:=hI.fm hf
   have ht:=hty _ (List.getElem_mem hlt)
   have fp:Fm No H ((aR H (aD 0 [.str 0 0,.str 0 0])).put H.nx (aD 0 [.str x.r.types[i].sp.n x.r.types[i].sp.a,.str x.r.types[i].rl.n x.r.types[i].rl.a])):=by exact kI
   have hI2:=hI1.fm fp
   obtain⟨mb,nb,av,iv,qs,g1,g2,g3,_⟩:=hI2.ex
   have em:qP ⟨iB,none⟩ (iN 0) false ⟨((aR H (aD 0 [.str 0 0,.str 0 0])).put H.nx (aD 0 [.str x.r.types[i].sp.n x.r.types[i].sp.a,.str x.r.types[i].rl.n x.r.types[i].rl.a])).t,H.nx+1⟩ (.map mb) (.str x.r.types[i].sp.n x.r.types[i].sp.a)= .val (iN 1):=g2.find _ _ ht.1
   have aXU:=(hpx.fm hf).fm fp
   have rt:=aXU.tv
   have aK6:=h1.fm fp
   obtain⟨w,ew,hw⟩:=aK6.ty.pre aK6.tc hlt
   have tail:∀ H3,Fm No ((aR H (aD 0 [.str 0 0,.str 0 0])).put H.nx (aD 0 [.str x.r.types[i].sp.n x.r.types[i].sp.a,.str x.r.types[i].rl.n x.r.types[i].rl.a])) H3->Ok (C j (.f 124) [w,.agg [.str x.r.types[i].sp.n x.r.types[i].sp.a,.str x.r.types[i].rl.n x.r.types[i].rl.a]] H3) fun r H'=>r= .bool false/\Fm No H3 H':=fun H3 f3 =>
    qwq hC hj (hw.fm f3) (by rw[List.length_take];omega) (t:=x.r.types[i]) (qjg hnd hlt)
   have fin:∀ H3,Fm No H H3->Ok (q7c (C j) (qnq (C j) qr q (.ptr ib 0) (.ptr pp.1 pp.2) x.tv (iN (x.r.types.length)) k) (iN i) H3) Q:=fun H3 f3=>by
    rw[qtq]
    unfold qwz
    simp(disch:=omega) only[go_sem]
    exact q2x hC hj hI hV hpx hxr htl hnd hty hq k (i+1) H3 (by omega) (by omega) (hf.trans f3)
   by_cases hz:x.r.types[i].rl.n=0/\x.r.types[i].rl.a=0
   ·have hzt:=eq_true hz
    simp(disch:=first|omega|exact ti rfl|(simp only[np,nq];first|done|omega)) only[go_sem,reduceAdd,reduceLeDiff,reduceEqDiff,e1,e3,g1,em,hzt,rt,ew]
    refine Ok.lX (tail _ (Fm.refl _ _)) ?_
    rintro _ H3 ⟨rfl,f3⟩
    simp only[go_sem]
    exact fin H3 (fp.trans f3)
   ·have hin:(x.r.types[i].sp,x.r.types[i].rl)∈aF X:=by
     rcases ht.2 with h|h
     ·exact absurd ((nI _ _).1 h) hz
     ·exact h
    obtain⟨qq,y,_,ec,_⟩:=qf9 hC (k:=j) (by omega) hI2 hV.al hV.sp hin
    have ec':C j (.f 65) [.ptr ib 0,.str x.r.types[i].sp.n x.r.types[i].sp.a,.str x.r.types[i].rl.n x.r.types[i].rl.a] ⟨((aR H (aD 0 [.str 0 0,.str 0 0])).put H.nx (aD 0 [.str x.r.types[i].sp.n x.r.types[i].sp.a,.str x.r.types[i].rl.n x.r.types[i].rl.a])).t,H.nx+1⟩= .ok (.ptr qq.1 qq.2) ((aR H (aD 0 [.str 0 0,.str 0 0])).put H.nx (aD 0 [.str x.r.types[i].sp.n x.r.types[i].sp.a,.str x.r.types[i].rl.n x.r.types[i].rl.a])):=ec
    simp(disch:=first|omega|exact ti rfl|(simp only[np,nq];first|done|omega)) only[go_sem,reduceAdd,reduceLeDiff,reduceEqDiff,reduceShiftRight,reduceAnd,e1,e3,g1,em,hz,ec',rt,ew]
    refine Ok.lX (tail _ (Fm.refl _ _)) ?_
    rintro _ H3 ⟨rfl,f3⟩
    simp only[go_sem]
    exact fin H3 (fp.trans f3)
  ·simp only[go_sem,hlt]
   exact hq H hf
theorem zgt(hC:bC C){k:Nat}(hk:3<=k){H:Hp}{ib:Nat}{sv:AV}{X:List aS}(hI:vR H ib sv X)(hV:eT X){pp:Nat×Nat}{x:aY}(hpx:PtR H pp x)(hxr:oQ H x)(htl:x.r.types.length<=8)(hnd:x.r.types.Nodup)
  (hty:∀ t∈x.r.types,t.sp∈X.map aS.name/\(t.rl=sE\/(t.sp,t.rl)∈aF X)) :
  Ok (C k (.f 95) [.ptr ib 0,.ptr pp.1 pp.2] H) fun r H'=>r=iN 0/\Fm No H H':=by
 obtain⟨j,rfl⟩:=aW hk
 rw[(hC j).zCy]
 unfold zCy zqh
 have rt:=hpx.tv
 have hl:=hxr.ty.len
 simp only[go_sem,rt,hl]
 unfold zno
 rw[dI]
 refine q2x hC (by omega) hI hV hpx hxr htl hnd hty (fun H2 f2=> ?_) cK 0 H (Nat.zero_le _) (by rw[dK];omega) (Fm.refl _ _)
 rw[qtr]
 exact Ok.ret ⟨rfl,f2⟩
theorem zmj(nm n a:Nat):lJ nm (.str n a)= .new (.ptr nm 0) (aD 0 [.str n a]):=id rfl
theorem zmk(nm n a:Nat):lJ nm (.ptr n a)= .new (.ptr nm 0) (aD 0 [.ptr n a]):=id rfl
attribute [go_sem] zmj zmk
theorem qir(hC:bC C){j:Nat}(hj:2<=j){Hb:Hp}{ib:Nat}{sv nv:AV}{X:List aS}(hX:dF Hb sv X)(hI:vR Hb ib sv X)(hV:eT X)(s:SS){l:List (Nd×AV)}(hl:Rs 5 jZ Hb nv l)(hll:l.length<=1000)
  (hnd:∀ y∈l,(y.1.k=2\/y.1.k=3->(s,y.1.rl)∈aF X)/\(y.1.k=3->qW X s y.1.rl y.1.to≠[])) {Q:AV->Hp->Prop} {q:AV->Hp->R1} {qr:AV->AV->Hp->R1} (hq:∀ H,Fm No Hb H->Ok (q (.bool (l.any fun y=>decide (y.1.k=1))) H) Q) :
  ∀(k i:Nat) (u:Bool) (H:Hp),i<=l.length->l.length-i<k->Fm No Hb H->u=((l.take i).any fun y=>decide (y.1.k=1))->Ok (qto (C j) qr q (.ptr ib 0) (.str s.n s.a) nv (iN (l.length)) k (.bool u) (iN i) H) Q
 |0,i,_,_,_,h,_,_=>by omega
 |k+1,i,u,H,hi,hk,hf,hu=>by
  show Ok (q68 (C j) _ _ _ _ _ _ (qto (C j) _ _ _ _ _ _ k) _ _ H) Q
  unfold q68
  by_cases hlt:i<l.length
  ·simp only[go_sem,hlt]
   unfold q67
   have h1:=hl.fm hf
   obtain⟨b1,o1,e1,e2,_,e3,_⟩:=h1.at' i hlt
   unfold jZ SS.v at e3
   have hn:=hnd _ (List.getElem_mem hlt)
   have fp:Fm No H ((aR H (aD 0 [.int .u8 (.ofNat 0),.str 0 0,.str 0 0,.aA,.bool false])).put H.nx (aD 0 [.int .u8 (.ofNat l[i].1.k),.str l[i].1.rl.n l[i].1.rl.a,.str l[i].1.to.n l[i].1.to.a,l[i].2,.bool l[i].1.neg])):=by exact kI
   obtain⟨H1,hH1⟩:∃ H1,H1=(aR H (aD 0 [.int .u8 (.ofNat 0),.str 0 0,.str 0 0,.aA,.bool false])).put H.nx (aD 0 [.int .u8 (.ofNat l[i].1.k),.str l[i].1.rl.n l[i].1.rl.a,.str l[i].1.to.n l[i].1.to.a,l[i].2,.bool l[i].1.neg]):=⟨_,rfl⟩
   rw[<-hH1]at fp
   have pb:H1.get H.nx=aD 0 [.int .u8 (.ofNat l[i].1.k),.str l[i].1.rl.n l[i].1.rl.a,.str l[i].1.to.n l[i].1.to.a,l[i].2,.bool l[i].1.neg]:=by rw[hH1];exact eP _ _ _
   have n1:H.nx<H1.nx:=by rw[hH1];simp only[np,nq];omega
   have hI2:=(hI.fm hf).fm fp
   have hs:((l.take (i+1)).any fun y=>decide (y.1.k=1))=(((l.take i).any fun y=>decide (y.1.k=1))||decide (l[i].1.k=1)):=by
    rw[List.take_succ_eq_append_getElem hlt,List.any_append];simp
   have fin:∀ H3,Fm No H1 H3->Ok (qwx (C j) (qto (C j) qr q (.ptr ib 0) (.str s.n s.a) nv (iN (l.length)) k) (.bool u) (.ptr H.nx 0) (iN i) H3) Q:=fun H3 f3=>by
    unfold qwx
    have p3:=(f3.keep n1).trans pb
    cases u with
    |true =>
     unfold q66
     simp(disch:=omega) only[go_sem]
     exact qir hC hj hX hI hV s hl hll hnd hq k (i+1) true H3 (by omega) (by omega) (hf.trans (fp.trans f3)) (by rw[hs,<-hu];rfl)
    |false =>
     simp only[go_sem,p3]
     unfold q66
     simp(disch:=omega) only[go_sem]
     exact qir hC hj hX hI hV s hl hll hnd hq k (i+1) _ H3 (by omega) (by omega) (hf.trans (fp.trans f3)) (by rw[hs,<-hu];rfl)
   by_cases q2:l[i].1.k=2
   ·have q2t:=eq_true q2
    obtain⟨qq,y,_,ec,_⟩:=qf9 hC (k:=j) (by omega) hI2 hV.al hV.sp (hn.1 (.inl q2))
    have q3:¬ l[i].1.k=3:=by omega
    rw[hH1]at ec
    simp(disch:=first|omega|exact ti rfl|(simp only[np,nq];first|done|omega)) only[go_sem,reduceAdd,reduceLeDiff,e1,e3,q2t,q3,ec]
    rw[<-hH1]
    exact fin H1 (Fm.refl _ _)
   ·by_cases q3:l[i].1.k=3
    ·have q3t:=eq_true q3
     have hin:=hn.1 (.inr q3)
     obtain⟨qq,y,_,ec,_⟩:=qf9 hC (k:=j) (by omega) hI2 hV.al hV.sp hin
     have ht:=qm6 hC (k:=j) (by omega) ((hX.fm hf).fm fp) hV.pr.sml hI2 hV.al hV.sp s l[i].1.rl l[i].1.to hin
     rw[hH1]at ec
     simp(disch:=first|omega|exact ti rfl|(simp only[np,nq];first|done|omega)) only[go_sem,reduceAdd,reduceLeDiff,e1,e3,q3t,q2,ec]
     rw[<-hH1]
     refine Ok.ve ht ?_
     intro tv H2 ha
     have hla:=ha.cO
     have hne:¬(qW X s l[i].1.rl l[i].1.to).length=0:=fun h=>hn.2 q3 (List.length_eq_zero_iff.1 h)
     simp only[go_sem,hla,hne]
     exact fin H2 ha.fm
    ·simp(disch:=first|omega|exact ti rfl|(simp only[np,nq];first|done|omega)) only[go_sem,reduceAdd,reduceLeDiff,e1,e3,q2,q3]
     rw[<-hH1]
     exact fin H1 (Fm.refl _ _)
  ·simp only[go_sem,hlt]
   have he:i=l.length:=by omega
   rw[he,List.take_length]at hu
   rw[hu]
   exact hq H hf
theorem zmy(hC:bC C){k:Nat}(hk:3<=k){H:Hp}{ib:Nat}{sv nv:AV}{X:List aS}(hX:dF H sv X)(hI:vR H ib sv X)(hV:eT X)(s:SS){l:List (Nd×AV)}(hl:Rs 5 jZ H nv l)(hll:l.length<=1000)
  (hnd:∀ y∈l,(y.1.k=2\/y.1.k=3->(s,y.1.rl)∈aF X)/\(y.1.k=3->qW X s y.1.rl y.1.to≠[])) :
  Ok (C k (.f 97) [.ptr ib 0,.str s.n s.a,nv] H) fun r H'=>r= .aZ [.bool (l.any fun y=>decide (y.1.k=1)),iN 0]/\Fm No H H':=by
 obtain⟨j,rfl⟩:=aW hk
 rw[(hC j).zCz]
 unfold zCz zqg
 have hln:=hl.len
 simp only[go_sem,hln]
 unfold znm
 rw[dI]
 refine qir hC (by omega) hX hI hV s hl hll hnd (fun H2 f2=> ?_) cK 0 false H (Nat.zero_le _) (by rw[dK];omega) (Fm.refl _ _) rfl
 exact Ok.ret ⟨rfl,f2⟩
theorem q3d(hC:bC C){j:Nat}(hj:1<=j){Hb:Hp}{nv:AV}{l:List (Nd×AV)}(hl:Rs 5 jZ Hb nv l)(hll:l.length<=1000){s:SS}{sb:Nat}(hs:Hb.get sb=aD 0 [.str s.n s.a])(hsl:sb<Hb.nx){Q:AV->Hp->Prop}{q:Hp->R1}{qr:AV->Hp->R1}
  (hr:∀ i H,l.any (fun y=>fQ 3 s y.1)=true->Fm No Hb H->Ok (qr (iN i) H) Q) (hq:∀ H,l.any (fun y=>fQ 3 s y.1)=false->Fm No Hb H->Ok (q H) Q) :
  ∀(k i:Nat) (H:Hp),i<=l.length->l.length-i<k->Fm No Hb H->(l.take i).any (fun y=>fQ 3 s y.1)=false->Ok (qtn (C j) qr q nv (.fn 128 [] [.ptr sb 0]) (iN (l.length)) k (iN i) H) Q
 |0,i,_,_,h,_,_=>by omega
 |k+1,i,H,hi,hk,hf,hn=>by
  show Ok (q6s (C j) _ _ _ _ _ (qtn (C j) _ _ _ _ _ k) _ H) Q
  unfold q6s
  obtain⟨m,rfl⟩:∃ m,j=m+1:=⟨j-1,by omega⟩
  by_cases hlt:i<l.length
  ·simp only[go_sem,hlt]
   unfold zm8
   have h1:=hl.fm hf
   obtain⟨b1,o1,e1,e2,_,e3,_⟩:=h1.at' i hlt
   unfold jZ SS.v at e3
   have hs1:=(hf.keep hsl).trans hs
   have nx1:=hf.nx
   simp only[go_sem,e1,e3]
   rw[(hC m).zDn]
   unfold zDn zp5
   have fp:Fm No H (aR H (aD 0 [.int .u8 (.ofNat l[i].1.k),.str l[i].1.rl.n l[i].1.rl.a,.str l[i].1.to.n l[i].1.to.a,l[i].2,.bool l[i].1.neg])):=by exact jW
   have hst:(l.take (i+1)).any (fun y=>fQ 3 s y.1)=fQ 3 s l[i].1:=by
    rw[List.take_succ_eq_append_getElem hlt,List.any_append,hn];simp
   have skip:fQ 3 s l[i].1=false->Ok (q6p (C (m+1)) (qtn (C (m+1)) qr q nv (.fn 128 [] [.ptr sb 0]) (iN (l.length)) k) (iN i) (aR H (aD 0 [.int .u8 (.ofNat l[i].1.k),.str l[i].1.rl.n l[i].1.rl.a,.str l[i].1.to.n l[i].1.to.a,l[i].2,.bool l[i].1.neg]))) Q:=fun hh=>by
    unfold q6p
    simp(disch:=omega) only[go_sem]
    exact q3d hC hj hl hll hs hsl hr hq k (i+1) _ (by omega) (by omega) (hf.trans fp) (by rw[hst,hh])
   by_cases q3:l[i].1.k=3
   ·have q3t:=eq_true q3
    by_cases h2:l[i].1.rl.n=s.n/\l[i].1.rl.a=s.a
    ·have h2t:=eq_true h2
     have hh:fQ 3 s l[i].1=true:=by unfold fQ;rw[decide_eq_true q3,decide_eq_true ((nI _ _).2 h2)];rfl
     simp(disch:=omega) only[go_sem,q3t,hs1,h2t]
     exact hr i _ (List.any_eq_true.2 ⟨_,List.getElem_mem hlt,hh⟩) (hf.trans fp)
    ·have hh:fQ 3 s l[i].1=false:=by unfold fQ;rw[decide_eq_false (fun h=>h2 ((nI _ _).1 h))];simp
     simp(disch:=omega) only[go_sem,q3t,hs1,h2]
     exact skip hh
   ·have hh:fQ 3 s l[i].1=false:=by unfold fQ;rw[decide_eq_false q3];simp
    simp(disch:=omega) only[go_sem,q3]
    exact skip hh
  ·simp only[go_sem,hlt]
   have he:i=l.length:=by omega
   rw[he,List.take_length]at hn
   simp_all
theorem qws(hC:bC C){k:Nat}(hk:3<=k){H:Hp}{nv:AV}{l:List (Nd×AV)}(hl:Rs 5 jZ H nv l)(hll:l.length<=1000){s:SS}{sb:Nat}(hs:H.get sb=aD 0 [.str s.n s.a])(hsl:sb<H.nx) :
  Ok (C k (.f 127) [nv,.fn 128 [] [.ptr sb 0]] H) fun r H'=>r= .bool (l.any fun y=>fQ 3 s y.1)/\Fm No H H':=by
 obtain⟨j,rfl⟩:∃ j,k=j+1+1:=⟨k-2,by omega⟩
 rw[(hC (j+1)).zDo]
 unfold zDo zp4
 rw[(hC j).zDs]
 unfold zDs zp1
 have hln:=hl.len
 simp only[go_sem,hln]
 unfold zm9
 rw[dI]
 refine Ok.ve (R:=fun r H'=>Fm No H H'/\((l.any (fun y=>fQ 3 s y.1)=true/\∃ i,r=iN i)\/(l.any (fun y=>fQ 3 s y.1)=false/\r= .int .i64 (.negSucc 0)))) (q3d hC (by omega) hl hll hs hsl (fun i H2 h f=>Ok.ret ⟨f,.inl ⟨h,i,rfl⟩⟩) (fun H2 h f=> ?_) cK 0 H (Nat.zero_le _) (by rw[dK];omega) (Fm.refl _ _) rfl) ?_
 ·unfold q6q
  exact Ok.ret ⟨f,.inr ⟨h,rfl⟩⟩
 ·rintro r H2 ⟨f2,⟨h,i,rfl⟩|⟨h,rfl⟩⟩
  ·simp only[go_sem,Nat.zero_le]
   exact Ok.ret ⟨by rw[h],f2⟩
  ·simp only[go_sem]
   exact Ok.ret ⟨by rw[h],f2⟩
theorem qsl{H:Hp}{x:aY}(h:oQ H x):∃ c0 c1 c2 c3,x.cs=[c0,c1,c2,c3]/\gQ x=[.str x.r.name.n x.r.name.a,x.tv,c0,c1,c2,c3]:=by
 obtain⟨c0,c1,c2,c3,hcs⟩:=h.ru.four
 exact⟨c0,c1,c2,c3,hcs,by unfold gQ;rw[hcs];rfl⟩
theorem zgg(hC:bC C)(hN:l9 C){k:Nat}(hk:14<=k){H:Hp}{x:aY}(hx:oQ H x)(hr:x.r.rule.Rt){s:SS}{sb:Nat}(hs:H.get sb=aD 0 [.str s.n s.a])(hsl:sb<H.nx) :
  Ok (C k (.f 126) [.agg (gQ x),.ptr sb 0] H) fun r H'=>r= .bool (eU x.r.rule 3 s)/\Fm No H H':=by
 obtain⟨j,rfl⟩:=aW hk
 rw[(hC j).zDg]
 unfold zDg zqa
 obtain⟨c0,c1,c2,c3,hcs,hrc⟩:=qsl hx
 rw[hrc]
 have f:Fm No H (aR H (aD 0 [.str x.r.name.n x.r.name.a,x.tv,c0,c1,c2,c3])):=by exact jW
 have lI:=hx.ru.fm f
 rw[hcs]at lI
 simp(disch:=omega) only[go_sem]
 refine Ok.ve (qm7 hC hN (k:=j) (by omega) lI hr) ?_
 rintro _ H2 ⟨nv,l,rfl,ha,hl⟩
 have hln:l.length<=32:=by
  have:=congrArg List.length hl
  simp only[List.length_map,qbw]at this
  have:=hr.sz
  omega
 refine Ok.ve (qws hC (k:=j) (by omega) (ha.rs wO) (by omega) (s:=s) ((ha.fm.keep (show sb<(aR H _).nx by simp only[np];omega)).trans ((f.keep hsl).trans hs)) (Nat.lt_of_lt_of_le hsl (Nat.le_trans f.nx ha.fm.nx))) ?_
 rintro _ H3 ⟨rfl,f3⟩
 refine Ok.ret ⟨?_,f.trans (ha.fm.trans f3)⟩
 unfold eU
 rw[<-hl,List.any_map];rfl
theorem q2o(hC:bC C)(hN:l9 C){j:Nat}(hj:14<=j){Hb:Hp}{g:aS}(hg:SpR Hb g)(hgl:g.gs.length<=16)(hr:∀ x∈g.gs,x.r.rule.Rt){s:SS}{sb:Nat}(hs:Hb.get sb=aD 0 [.str s.n s.a])(hsl:sb<Hb.nx){Q:AV->Hp->Prop}{q:Hp->R1}{qr:AV->Hp->R1}
  (hr':∀ i H,g.gs.any (fun x=>eU x.r.rule 3 s)=true->Fm No Hb H->Ok (qr (iN i) H) Q) (hq:∀ H,g.gs.any (fun x=>eU x.r.rule 3 s)=false->Fm No Hb H->Ok (q H) Q) :
  ∀(k i:Nat) (H:Hp),i<=g.gs.length->g.gs.length-i<k->Fm No Hb H->(g.gs.take i).any (fun x=>eU x.r.rule 3 s)=false->Ok (q0g (C j) qr q g.rv (.fn 126 [] [.ptr sb 0]) (iN (g.gs.length)) k (iN i) H) Q
 |0,i,_,_,h,_,_=>by omega
 |k+1,i,H,hi,hk,hf,hn=>by
  show Ok (q6w (C j) _ _ _ _ _ (q0g (C j) _ _ _ _ _ k) _ H) Q
  unfold q6w
  by_cases hlt:i<g.gs.length
  ·simp only[go_sem,hlt]
   unfold znc
   have h1:=hg.fm hf
   obtain⟨b,o,e1,_,_,_,_,e6⟩:=h1.at' i hlt
   have hm:=List.getElem_mem hlt
   simp only[go_sem,e1,e6]
   refine Ok.ve (zgg hC hN hj (h1.rel _ hm) (hr _ hm) ((hf.keep hsl).trans hs) (Nat.lt_of_lt_of_le hsl hf.nx)) ?_
   rintro _ H2 ⟨rfl,f2⟩
   have hst:(g.gs.take (i+1)).any (fun x=>eU x.r.rule 3 s)=eU g.gs[i].r.rule 3 s:=by
    rw[List.take_succ_eq_append_getElem hlt,List.any_append,hn];simp
   cases hh:eU g.gs[i].r.rule 3 s with
   |true =>
    exact hr' i _ (List.any_eq_true.2 ⟨_,hm,hh⟩) (hf.trans f2)
   |false =>
    unfold znd
    simp(disch:=omega) only[go_sem]
    exact q2o hC hN hj hg hgl hr hs hsl hr' hq k (i+1) _ (by omega) (by omega) (hf.trans f2) (by rw[hst,hh])
  ·simp only[go_sem,hlt]
   have he:i=g.gs.length:=by omega
   simp_all
theorem zgv(hC:bC C)(hN:l9 C){k:Nat}(hk:17<=k){H:Hp}{g:aS}(hg:SpR H g)(hgl:g.gs.length<=16)(hr:∀ x∈g.gs,x.r.rule.Rt)(s:SS) :
  Ok (C k (.f 99) [.agg [.str g.name.n g.name.a,g.rv],.str s.n s.a] H) fun r H'=>r= .bool (g.gs.any fun x=>eU x.r.rule 3 s)/\Fm No H H':=by
 obtain⟨j,rfl⟩:∃ j,k=j+1+1+1:=⟨k-3,by omega⟩
 rw[(hC (j+1+1)).zDa]
 unfold zDa zqf
 simp(disch:=first|omega|exact ti rfl|(simp only[np,nq];first|done|omega)) only[go_sem]
 have f:Fm No H (aR (aR H (aD 0 [.str g.name.n g.name.a,g.rv])) (aD 0 [.str s.n s.a])):=by exact yN
 rw[(hC (j+1)).zDh]
 unfold zDh zp9
 rw[(hC j).zDp]
 unfold zDp zp3
 have hln:=hg.len
 simp only[go_sem,hln]
 unfold zne
 rw[dI]
 refine Ok.ve (R:=fun r H'=>r= .bool (g.gs.any fun x=>eU x.r.rule 3 s)/\Fm No H H') (Ok.ve (R:=fun r H'=>Fm No H H'/\((g.gs.any (fun x=>eU x.r.rule 3 s)=true/\∃ i,r=iN i)\/(g.gs.any (fun x=>eU x.r.rule 3 s)=false/\r= .int .i64 (.negSucc 0)))) (q2o hC hN (j:=j) (by omega) (hg.fm f) hgl hr (s:=s) (sb:=H.nx+1) (by simp(disch:=first|omega|exact ti rfl|(simp only[np,nq];first|done|omega)) only[go_sem]) (by simp only[np];omega) (fun i H2 h f2=>Ok.ret ⟨f.trans f2,.inl ⟨h,i,rfl⟩⟩) (fun H2 h f2=> ?_) cK 0 _ (Nat.zero_le _) (by rw[dK];omega) (Fm.refl _ _) rfl) ?_) ?_
 ·unfold q6v
  exact Ok.ret ⟨f.trans f2,.inr ⟨h,rfl⟩⟩
 ·rintro r H2 ⟨f2,⟨h,i,rfl⟩|⟨h,rfl⟩⟩
  ·simp only[go_sem,Nat.zero_le]
   exact Ok.ret ⟨by rw[h],f2⟩
  ·simp only[go_sem]
   exact Ok.ret ⟨by rw[h],f2⟩
 ·rintro _ H2 ⟨rfl,f2⟩
  exact Ok.ret ⟨rfl,f2⟩
structure RlI(H:Hp)(X:List aS)(g:aS)(x:aY)(sv:AV)(ib n A0 A1 AR A2:Nat)(q:Nat×Nat):Prop where
 oG:dF H sv X
 id:vR H ib sv X
 mem:g∈X/\x∈g.gs
 a0:H.get A0=aD 0 [.ptr ib 0]
 a1:H.get A1=aD 0 [.str g.name.n g.name.a,g.rv]
 ar:H.get AR=aD 0 [.ptr q.1 q.2]
 a2:H.get A2=aD 0 [iN n]
 lt:A0<H.nx/\A1<H.nx/\AR<H.nx/\A2<H.nx
 pt:PtR H q x
 nu:bJ X g.name x.r.name=n
theorem RlI.fm{H H':Hp}{X:List aS}{g:aS}{x:aY}{sv:AV}{ib n A0 A1 AR A2:Nat}{q:Nat×Nat}(h:RlI H X g x sv ib n A0 A1 AR A2 q)(f:Fm No H H'):RlI H' X g x sv ib n A0 A1 AR A2 q:=by
 obtain⟨l0,l1,l2,l3⟩:=h.lt
 have:=f.nx
 exact⟨h.oG.fm f,h.id.fm f,h.mem,(f.keep l0).trans h.a0,(f.keep l1).trans h.a1,(f.keep l2).trans h.ar,(f.keep l3).trans h.a2,⟨by omega,by omega,by omega,by omega⟩,h.pt.fm f,h.nu⟩
theorem zsx(hC:bC C){k:Nat}(hk:1<=k){H:Hp}{X:List aS}{g:aS}{x:aY}{sv:AV}{ib n A0 A1 AR A2:Nat}{q:Nat×Nat}(h:RlI H X g x sv ib n A0 A1 AR A2 q) :
  C k (.f 93) [.ptr A0 0,.ptr A1 0,.ptr AR 0,.ptr A2 0] H= .ok (iN 0) H:=by
 obtain⟨j,rfl⟩:=aW hk
 rw[(hC j).zCj]
 unfold zCj zqt
 have a0:=h.a0
 have a1:=h.a1
 have ar:=h.ar
 have a2:=h.a2
 have r0:=h.pt.nm
 obtain⟨mb,nb,av,iv,qs,g1,g2,g3,_⟩:=h.id.ex
 have em:=g3.aKZ (iN 0) g.name x.r.name (qh2.2 ⟨g,h.mem.1,x,h.mem.2,rfl,rfl⟩)
 have hnx:(List.findIdx (fun q=>decide (q=(g.name,x.r.name))) (aF X))=n:=h.nu
 rw[hnx]at em
 simp(disch:=first|omega|exact ti rfl|(simp only[np,nq];first|done|omega)) only[go_sem,reduceAdd,reduceLeDiff,a0,a1,ar,a2,r0,g1,em]
 rfl
theorem zsw(hC:bC C){k:Nat}(hk:4<=k){H:Hp}{X:List aS}{g:aS}{x:aY}{sv:AV}{ib n A0 A1 AR A2:Nat}{q:Nat×Nat}(h:RlI H X g x sv ib n A0 A1 AR A2 q)(hV:eT X) :
  Ok (C k (.f 94) [.ptr A0 0,.ptr AR 0] H) fun r H'=>r=iN 0/\Fm No H H':=by
 obtain⟨j,rfl⟩:=aW hk
 rw[(hC j).zCk]
 unfold zCk zqs
 have a0:=h.a0
 have ar:=h.ar
 simp only[go_sem,a0,ar]
 have ht:=hV.ty _ h.mem.1 _ h.mem.2
 refine Ok.ve (zgt hC (k:=j) (by omega) h.id hV h.pt ((h.oG.sp _ h.mem.1).rel _ h.mem.2) (hV.pr.x _ h.mem.1 _ h.mem.2).1 ht.1 ht.2) ?_
 rintro _ H2 ⟨rfl,f2⟩
 exact Ok.ret ⟨rfl,f2⟩
theorem zsv(hC:bC C){k:Nat}(hk:4<=k){H:Hp}{X:List aS}{g:aS}{x:aY}{sv nv:AV}{ib n A0 A1 AR A2 A20 A22:Nat}{q:Nat×Nat}(h:RlI H X g x sv ib n A0 A1 AR A2 q)(hV:eT X){l:List (Nd×AV)}(hl:Rs 5 jZ H nv l)(hln:l.map Prod.fst=x.r.rule.nodes false)
  (h20:H.get A20=aD 0 [nv]) {u:Bool} (h22:H.get A22=aD 0 [.bool u]) (hlt:A22<H.nx) :
  Ok (C k (.f 96) [.ptr A0 0,.ptr A1 0,.ptr A20 0,.ptr A22 0] H) fun r H'=>r=iN 0/\∃ H1,Fm No H H1/\H'=H1.put A22 (aD 0 [.bool ((x.r.rule.nodes false).any fun y=>decide (y.k=1))]):=by
 obtain⟨j,rfl⟩:=aW hk
 rw[(hC j).zCl]
 unfold zCl zqr
 have a0:=h.a0
 have a1:=h.a1
 simp only[go_sem,a0,a1,h20]
 have hll:l.length<=32:=by
  have:=congrArg List.length hln
  simp only[List.length_map,qbw]at this
  have:=(hV.pr.x _ h.mem.1 _ h.mem.2).2.2.1.sz
  omega
 refine Ok.ve (zmy hC (k:=j) (by omega) h.oG h.id hV g.name hl (by omega) fun y hy=> ?_) ?_
 ·exact hV.nd _ h.mem.1 _ h.mem.2 y.1 (by rw[<-hln];exact List.mem_map_of_mem hy)
 rintro _ H2 ⟨rfl,f2⟩
 have aSx:=(f2.keep hlt).trans h22
 simp only[go_sem,aSx]
 refine Ok.ret ⟨rfl,H2,f2,?_⟩
 rw[<-hln,List.any_map];rfl
theorem zsu(hC:bC C)(hN:l9 C){k:Nat}(hk:18<=k){H:Hp}{X:List aS}{g:aS}{x:aY}{sv:AV}{ib n A0 A1 AR A2 A22:Nat}{q:Nat×Nat}(h:RlI H X g x sv ib n A0 A1 AR A2 q)(hV:eT X)
  (h22:H.get A22=aD 0 [.bool ((x.r.rule.nodes false).any fun y=>decide (y.k=1))]) :
  Ok (C k (.f 98) [.ptr A22 0,.ptr AR 0,.ptr A1 0] H) fun r H'=>r=iN 0/\Fm No H H':=by
 obtain⟨j,rfl⟩:=aW hk
 rw[(hC j).zCm]
 unfold zCm zqq
 have a1:=h.a1
 have ar:=h.ar
 have r0:=h.pt.nm
 have rt:=h.pt.tv
 have hsp:=h.oG.sp _ h.mem.1
 have hl:=((hsp.rel _ h.mem.2).ty).len
 have hu:=hV.us _ h.mem.1 _ h.mem.2
 cases hb:(x.r.rule.nodes false).any fun y=>decide (y.k=1)with
 |true =>
  rw[hb]at h22
  have hne:¬ x.r.types.length=0:=fun h0=>hu.1 hb (List.length_eq_zero_iff.1 h0)
  simp only[go_sem,h22,ar,rt,hl,hne]
  exact Ok.ret ⟨rfl,Fm.refl _ _⟩
 |false =>
  rw[hb]at h22
  by_cases h0:0<x.r.types.length
  ·have hba:=hu.2 hb (fun h=>by rw[h]at h0;exact absurd h0 (by simp))
   simp(disch:=first|omega|exact ti rfl|(simp only[np,nq];first|done|omega)) only[go_sem,reduceAdd,reduceLeDiff,h22,ar,rt,hl,h0,a1,r0]
   refine Ok.lX (zgv hC hN (k:=j) (by omega) hsp (hV.pr.r _ h.mem.1).1 (fun y hy=>(hV.pr.x _ h.mem.1 y hy).2.2.1) x.r.name) ?_
   rintro _ H2 ⟨rfl,f2⟩
   rw[hba]
   simp only[go_sem]
   exact Ok.ret ⟨rfl,f2⟩
  ·simp only[go_sem,h22,ar,rt,hl,h0]
   exact Ok.ret ⟨rfl,Fm.refl _ _⟩
theorem sf2(call:Ev.Call)(qr:AV->Hp->R1)(q:Hp->R1)(a b:AV)(n:Nat):q0p call qr q a b (n+1)=qkg call qr q a b (q0p call qr q a b n):=rfl
theorem zf9(f:FuncId)(x y:List AV):xM (.fn f x y)=some [.fn f x y]:=id rfl
attribute [go_sem] zf9
theorem zxi(hC:bC C){k:Nat}(hk:1<=k){H:Hp}{b:Nat}{f1 f2 f3 f4:FuncId}{c1 c2 c3 c4:List AV}(hb:H.get b=aD 0 [.fn f1 [] c1,.fn f2 [] c2,.fn f3 [] c3,.fn f4 [] c4]){R1' R2' R3' R4':Hp->Prop}
  (h1:Ok (C (k-1) (.f f1) c1 H) fun r H'=>r=iN 0/\R1' H') (g1:∀ H',R1' H'->H'.get b=H.get b)
  (h2:∀ H1,R1' H1->Ok (C (k-1) (.f f2) c2 H1) fun r H'=>r=iN 0/\R2' H') (g2:∀ H',R2' H'->H'.get b=H.get b)
  (h3:∀ H1,R2' H1->Ok (C (k-1) (.f f3) c3 H1) fun r H'=>r=iN 0/\R3' H') (g3:∀ H',R3' H'->H'.get b=H.get b)
  (h4:∀ H1,R3' H1->Ok (C (k-1) (.f f4) c4 H1) fun r H'=>r=iN 0/\R4' H') :
  Ok (C k (.f 92) [.sl b 0 4 4 true] H) fun r H'=>r=iN 0/\R4' H':=by
 obtain⟨j,rfl⟩:=aW hk
 rw[(hC j).zCn]
 unfold zCn zqp
 simp only[go_sem]
 unfold zn0
 obtain⟨m,hm⟩:∃ m,cK=m+5:=⟨999995,by rw[dK]⟩
 rw[dI,hm,sf2]
 unfold qkg
 unfold qkf
 simp(disch:=omega) only[go_sem,hb]
 refine Ok.ve h1 ?_
 rintro _ H1 ⟨rfl,r1⟩
 unfold qtt
 rw[sf2]
 unfold qkg
 unfold qkf
 have hb1:=(g1 _ r1).trans hb
 simp(disch:=omega) only[go_sem,hb1]
 refine Ok.ve (h2 _ r1) ?_
 rintro _ H2 ⟨rfl,r2⟩
 unfold qtt
 rw[sf2]
 unfold qkg
 unfold qkf
 have hb2:=(g2 _ r2).trans hb
 simp(disch:=omega) only[go_sem,hb2]
 refine Ok.ve (h3 _ r2) ?_
 rintro _ H3 ⟨rfl,r3⟩
 unfold qtt
 rw[sf2]
 unfold qkg
 unfold qkf
 have hb3:=(g3 _ r3).trans hb
 simp(disch:=omega) only[go_sem,hb3]
 refine Ok.ve (h4 _ r3) ?_
 rintro _ H4 ⟨rfl,r4⟩
 unfold qtt
 rw[sf2]
 unfold qkg
 exact Ok.ret ⟨rfl,r4⟩
theorem qwr(hC:bC C)(hN:l9 C){k:Nat}(hk:20<=k){H:Hp}{X:List aS}{g:aS}{x:aY}{sv:AV}{ib n:Nat}(hX:dF H sv X)(hI:vR H ib sv X)(hV:eT X)(hn:(eO X)[n]? =some (g.name,x))(hm:g∈X/\x∈g.gs) :
  Ok (C k (.f 63) [.ptr ib 0,.agg [.str g.name.n g.name.a,g.rv],iN n] H) fun r H'=>r=iN 0/\Fm No H H':=by
 obtain⟨j,rfl⟩:=aW hk
 rw[(hC j).zBv]
 unfold zBv zq4
 obtain⟨mb,nb,av,iv,qs,g1,g2,g3,g4,g5,g6,g7,g8,g9,_⟩:=hI.ex
 have hnl:n<(eO X).length:=by
  rcases Nat.lt_or_ge n (eO X).length with h|h
  ·exact h
  ·simp_all
 have hxx:(eO X)[n]=(g.name,x):=by
  simp_all
 have hq:=g9 n (by omega) hnl
 rw[hxx]at hq
 obtain⟨b1,o1,e1,e2,_,_,e4⟩:=g4.at' n (by omega)
 have r0:bT (H.get b1) o1= .val (.ptr (qs[n]'(by omega)).1 (qs[n]'(by omega)).2):=e4 0 (by rw[qsr];omega)
 have il:=hI.lt
 simp(disch:=first|omega|exact ti rfl|(simp only[np,nq];first|done|omega)) only[go_sem,seval,g1,e1,r0]
 have hP:=hV.pr.x _ hm.1 _ hm.2
 generalize hHa:(((Hp.mk (aR (aR (aR H (aD 0 [.ptr ib 0])) (aD 0 [.str g.name.n g.name.a,g.rv])) (aD 0 [iN n])).t (H.nx+1+1+1+9)).put (H.nx+1+1+1+7) (aD 0 [.bZ])).put (H.nx+1+1+1+7) (aD 0 [.ptr (qs[n]'(by omega)).1 (qs[n]'(by omega)).2]))=Ha
 have fa:Fm No H Ha:=by rw[<-hHa];exact(((((Fm.refl No H).push _).push _).push _).uF (n:=H.nx+1+1+1+9) (by omega)).aM _ _ (by omega) |>.aM _ _ (by omega)
 have na:Ha.nx=H.nx+12:=by rw[<-hHa];rfl
 have hR:RlI Ha X g x sv ib n H.nx (H.nx+1) (H.nx+1+1+1+7) (H.nx+1+1) (qs[n]'(by omega)):=by
  refine⟨hX.fm fa,hI.fm fa,hm,?_,?_,?_,?_,⟨by omega,by omega,by omega,by omega⟩,hq.fm fa,?_⟩
  ·rw[<-hHa];simp(disch:=first|omega|exact ti rfl|(simp only[np,nq];first|done|omega)) only[go_sem]
  ·rw[<-hHa];simp(disch:=first|omega|exact ti rfl|(simp only[np,nq];first|done|omega)) only[go_sem]
  ·rw[<-hHa];exact eP _ _ _
  ·rw[<-hHa];simp(disch:=first|omega|exact ti rfl|(simp only[np,nq];first|done|omega)) only[go_sem]
  ·obtain⟨y,_,hy⟩:=qfn hV.al hV.sp (qh2.2 ⟨g,hm.1,x,hm.2,rfl,rfl⟩)
   have hnd:=qmj hV.al (i:=n) (by rw[<-uL,List.length_map];exact hnl)
   have hk:(aF X)[n]'(by rw[<-uL,List.length_map];exact hnl)=(g.name,x.r.name):=by
    have e3:(aF X)[n]? =some (kq (eO X)[n]):=by rw[<-uL,List.getElem?_map,List.getElem?_eq_getElem hnl];rfl
    rw[List.getElem?_eq_getElem (by rw[<-uL,List.length_map];exact hnl),hxx]at e3
    exact Option.some.inj e3
   rw[hk]at hnd
   exact hnd
 have ru:=(hq.fm fa).ru
 obtain⟨c0,c1,c2,c3,hcs,_⟩:=qsl ((hX.sp _ hm.1).rel _ hm.2)
 have lI:=(((hX.sp _ hm.1).rel _ hm.2).ru).fm fa
 simp only[go_sem,ru]
 refine Ok.ve (qm7 hC hN (k:=j) (by omega) lI hP.2.2.1) ?_
 rintro _ H2 ⟨nv,l,rfl,ha,hl⟩
 have n2:=ha.fm.nx
 obtain⟨Hf,hHf⟩:∃ Hf,Hf=aR ((aR ((aR H2 (aD 0 [.aA])).put H2.nx (aD 0 [nv])) (aD 0 [.bool false])).put (H2.nx+1) (aD 0 [.bool false])) (aD 0 [.fn 93 [] [.ptr H.nx 0,.ptr (H.nx+1) 0,.ptr (H.nx+1+1+1+7) 0,.ptr (H.nx+1+1) 0],.fn 94 [] [.ptr H.nx 0,.ptr (H.nx+1+1+1+7) 0],.fn 96 [] [.ptr H.nx 0,.ptr (H.nx+1) 0,.ptr H2.nx 0,.ptr (H2.nx+1) 0],.fn 98 [] [.ptr (H2.nx+1) 0,.ptr (H.nx+1+1+1+7) 0,.ptr (H.nx+1) 0]]):=⟨_,rfl⟩
 have ff:Fm No H2 Hf:=by rw[hHf];repeat first|exact Fm.refl _ _|assumption|refine Fm.push ?_ _|refine Fm.aM ?_ _ _ (by omega)
 have nf:Hf.nx=H2.nx+3:=by rw[hHf];rfl
 have k20:Hf.get H2.nx=aD 0 [nv]:=by rw[hHf];simp(disch:=first|omega|exact ti rfl|(simp only[np,nq];first|done|omega)) only[go_sem]
 have k22:Hf.get (H2.nx+1)=aD 0 [.bool false]:=by rw[hHf];simp(disch:=first|omega|exact ti rfl|(simp only[np,nq];first|done|omega)) only[go_sem]
 have kfb:Hf.get (H2.nx+1+1)=aD 0 [.fn 93 [] [.ptr H.nx 0,.ptr (H.nx+1) 0,.ptr (H.nx+1+1+1+7) 0,.ptr (H.nx+1+1) 0],.fn 94 [] [.ptr H.nx 0,.ptr (H.nx+1+1+1+7) 0],.fn 96 [] [.ptr H.nx 0,.ptr (H.nx+1) 0,.ptr H2.nx 0,.ptr (H2.nx+1) 0],.fn 98 [] [.ptr (H2.nx+1) 0,.ptr (H.nx+1+1+1+7) 0,.ptr (H.nx+1) 0]]:=by rw[hHf];simp(disch:=first|omega|exact ti rfl|(simp only[np,nq];first|done|omega)) only[go_sem]
 have faf:Fm No Ha Hf:=ha.fm.trans ff
 have hRf:=hR.fm faf
 have hlf:Rs 5 jZ Hf nv l:=(ha.rs wO).fm ff
 have main:Ok (C j (.f 92) [.sl (H2.nx+1+1) 0 4 4 true] Hf) fun r H'=>r=iN 0/\∃ Hm,Fm No Hf Hm/\Fm No (Hm.put (H2.nx+1) (aD 0 [.bool ((x.r.rule.nodes false).any fun y=>decide (y.k=1))])) H':=by
  refine zxi hC (k:=j) (by omega) kfb (R1':=fun H'=>H'=Hf) (R2':=fun H'=>Fm No Hf H') (R3':=fun H'=>∃ Hm,Fm No Hf Hm/\H'=Hm.put (H2.nx+1) (aD 0 [.bool ((x.r.rule.nodes false).any fun y=>decide (y.k=1))])) ?_ ?_ ?_ ?_ ?_ ?_ ?_
  ·rw[zsx hC (by omega) hRf]
   exact Ok.ret ⟨rfl,rfl⟩
  ·simp
  ·rintro _ rfl
   exact zsw hC (by omega) hRf hV
  ·intro H' f;exact f.keep (by omega)
  ·intro H1 f1
   exact zsv hC (by omega) (hRf.fm f1) hV (hlf.fm f1) hl ((f1.keep (by omega)).trans k20) ((f1.keep (by omega)).trans k22) (by have:=f1.nx;omega) |>.mono fun r H' ⟨e,Hm,f,h⟩=>⟨e,Hm,f1.trans f,h⟩
  ·rintro _ ⟨Hm,fm,rfl⟩
   rw[dZ _ _ _ _ (by omega)]
   exact fm.keep (by omega)
  ·rintro _ ⟨Hm,fm,rfl⟩
   have hRm:RlI (Hm.put (H2.nx+1) (aD 0 [.bool ((x.r.rule.nodes false).any fun y=>decide (y.k=1))])) X g x sv ib n H.nx (H.nx+1) (H.nx+1+1+1+7) (H.nx+1+1) (qs[n]'(by omega)):=hR.fm ((faf.trans fm).aM _ _ (by omega))
   exact(zsu hC hN (by omega) hRm hV (eP _ _ _)).mono fun r H' ⟨e,f⟩=>⟨e,Hm,fm,f⟩
 have done:∀ r H',r=AV.int .i64 (.ofNat 0)/\(∃Hm,Fm No Hf Hm/\Fm No (Hm.put (H2.nx+1) (aD 0 [.bool ((x.r.rule.nodes false).any fun y=>decide (y.k=1))])) H')->Ok (.ok r H') fun r H'=>r=iN 0/\Fm No H H':=fun r H' ⟨e,Hm,f,f'⟩ =>
  Ok.ret ⟨e,(((fa.trans faf).trans f).aM (H2.nx+1) _ (by omega)).trans f'⟩
 rcases ha.gl.is with⟨h,_⟩|⟨_,_,_,_,_,h,_⟩
 ·subst h
  simp(disch:=first|omega|exact ti rfl) only[go_sem,seval]
  rw[<-hHf]
  exact Ok.ve main done
 ·subst h
  simp(disch:=first|omega|exact ti rfl) only[go_sem,seval]
  rw[<-hHf]
  exact Ok.ve main done
theorem zkz{X:List aS}{s i:Nat}(hs:s<X.length)(hi:i<X[s].gs.length):(eO X)[(dS X s).length+i]? =some (X[s].name,X[s].gs[i]):=by
 obtain⟨Z,h⟩:=zdy hs hi
 rw[h,List.getElem?_append_right (by simp;omega)]
 simp[Nat.min_eq_left (Nat.le_of_lt hi)]
theorem qpk(hC:bC C)(hN:l9 C){j:Nat}(hj:20<=j){sv:AV}{X:List aS}{ib pb:Nat}{Hb:Hp}(hX:dF Hb sv X)(hI:vR Hb ib sv X)(hV:eT X){s:Nat}(hs:s<X.length)(hp:Hb.get pb=aD 0 [.str X[s].name.n X[s].name.a,X[s].rv])(hpl:pb<Hb.nx){Q:AV->Hp->Prop}{q:AV->Hp->R1}{qr:AV->Hp->R1}
  (hq:∀ H,Fm No Hb H->Ok (q (iN (((dS X s).length+X[s].gs.length))) H) Q) :
  ∀(k i:Nat) (H:Hp),i<=X[s].gs.length->X[s].gs.length-i<k->Fm No Hb H->Ok (qqg (C j) qr q (.ptr ib 0) (.ptr pb 0) (iN (X[s].gs.length)) k (iN (((dS X s).length+i))) (iN i) H) Q
 |0,i,_,_,h,_=>by omega
 |k+1,i,H,hi,hk,hf=>by
  show Ok (qxs (C j) _ _ _ _ _ (qqg (C j) _ _ _ _ _ k) _ _ H) Q
  unfold qxs
  have iX:=hV.pr.len
  have aLU:=q20 X s
  by_cases hlt:i<X[s].gs.length
  ·have h16:=(hV.pr.r _ (List.getElem_mem hs)).1
   simp only[go_sem,hlt]
   unfold q9d
   have hp1:=(hf.keep hpl).trans hp
   simp only[go_sem,hp1]
   refine Ok.ve (qwr hC hN hj (hX.fm hf) (hI.fm hf) hV (zkz hs hlt) ⟨List.getElem_mem hs,List.getElem_mem hlt⟩) ?_
   rintro _ H2 ⟨rfl,f2⟩
   unfold q9e
   unfold q9f
   simp(disch:=omega) only[go_sem]
   exact qpk hC hN hj hX hI hV hs hp hpl hq k (i+1) H2 (by omega) (by omega) (hf.trans f2)
  ·simp only[go_sem,hlt]
   have he:i=X[s].gs.length:=by omega
   simp_all
theorem qwb(hC:bC C)(hN:l9 C){j:Nat}(hj:20<=j){sv:AV}{X:List aS}{ib:Nat}{Hb:Hp}(hX:dF Hb sv X)(hI:vR Hb ib sv X)(hV:eT X){Q:AV->Hp->Prop}{q:Hp->R1}{qr:AV->Hp->R1}
  (hq:∀ H,Fm No Hb H->Ok (q H) Q) :
  ∀(k s:Nat) (H:Hp),s<=X.length->X.length-s<k->Fm No Hb H->Ok (qtw (C j) qr q (.ptr ib 0) sv (iN (X.length)) k (iN ((dS X s).length)) (iN s) H) Q
 |0,i,_,_,h,_=>by omega
 |k+1,s,H,hi,hk,hf=>by
  show Ok (q9g (C j) _ _ _ _ _ (qtw (C j) _ _ _ _ _ k) _ _ H) Q
  unfold q9g
  have hn:=hV.pr.n
  by_cases hlt:s<X.length
  ·simp only[go_sem,hlt]
   unfold q9c
   have h1:=hX.fm hf
   obtain⟨b1,o1,e1,e2,_,e3,_⟩:=h1.rs.at' s hlt
   unfold u6 SS.v at e3
   have hsp:=h1.sp _ (List.getElem_mem hlt)
   have hl:=hsp.len
   have h16:=(hV.pr.r _ (List.getElem_mem hlt)).1
   simp(disch:=first|omega|exact ti rfl) only[go_sem,seval,e1,e3,hl]
   have fp:Fm No H ((aR H (aD 0 [.str 0 0,.aA])).put H.nx (aD 0 [.str X[s].name.n X[s].name.a,X[s].rv])):=by exact kI
   unfold q9h
   rw[dI]
   refine qpk hC hN hj (h1.fm fp) ((hI.fm hf).fm fp) hV hlt (pb:=H.nx) (eP _ _ _) (by simp only[np,nq];omega) (fun H3 f3=> ?_) cK 0 _ (Nat.zero_le _) (by rw[dK];omega) (Fm.refl _ _)
   unfold qxr
   simp(disch:=omega) only[go_sem]
   have hx:(dS X s).length+X[s].gs.length=(dS X (s+1)).length:=by
    unfold dS eO
    rw[List.take_succ_eq_append_getElem hlt,List.flatMap_append,List.flatMap_singleton,List.length_append,List.length_map]
   rw[hx]
   exact qwb hC hN hj hX hI hV hq k (s+1) H3 (by omega) (by omega) ((hf.trans fp).trans f3)
  ·simp only[go_sem,hlt]
   exact hq H hf
theorem qm5(hC:bC C)(hN:l9 C){k:Nat}(hk:21<=k){H:Hp}{sv:AV}{X:List aS}(hX:dF H sv X)(hV:eT X) :
  Ok (C k (.f 40) [.agg [sv]] H) fun r H'=>r=iN 0/\Fm No H H':=by
 obtain⟨j,rfl⟩:=aW hk
 rw[(hC j).zBj]
 unfold zBj zre
 simp(disch:=omega) only[go_sem]
 have f:Fm No H (aR H (aD 0 [sv])):=by exact jW
 refine Ok.ve (zgu hC hN (k:=j) (by omega) (hX.fm f) hV.pr) ?_
 rintro _ H1 ⟨rfl,f1⟩
 unfold q9a
 have n1:=f1.nx
 simp only[np]at n1
 have k1:H1.get H.nx=aD 0 [sv]:=(f1.keep (by simp only[np];omega)).trans (kL _ _)
 simp only[go_sem,seval,k1]
 have hX1:=(hX.fm f).fm f1
 refine Ok.ve (zgr hC (k:=j) (by omega) hX1 hV.pr hV.al hV.sp) ?_
 rintro _ H2 ⟨ib,rfl,hI,f2⟩
 have k2:=(f2.keep (by omega)).trans k1
 have hX2:=hX1.fm f2
 obtain⟨mb,nb,av,iv,qs,g1,g2,_⟩:=hI.ex
 have hlm:=g2.len
 have hls:=hX2.rs.len
 have hn:=hV.pr.n
 simp only[go_sem,g1,hlm,k2,hls,Nat.lt_irrefl]
 unfold q9b
 simp only[go_sem,k2,hls]
 unfold zoc
 rw[dI]
 have h0:(0:Nat)=(dS X 0).length:=by unfold dS eO;simp
 have main:=qwb hC hN (j:=j) (by omega) hX2 hI hV (Q:=fun r H'=>r=iN 0/\Fm No H H') (q:=fun H=>q0x (C j) H) (qr:=fun x2 H=> .ok x2 H) (fun H3 f3=>by
  exact Ok.ret ⟨rfl,((f.trans f1).trans f2).trans f3⟩) cK 0 H2 (Nat.zero_le _) (by rw[dK];omega) (Fm.refl _ _)
 trivial
theorem qz9(hC:bC C)(hN:l9 C){k:Nat}(hk:22<=k){H:Hp}{sv:AV}{X:List aS}(hX:dF H sv X)(hV:eT X)(a b to:SS)(hab:(a,b)∈aF X)(hne:qW X a b to≠[]) :
  Ok (C k (.f 43) [.agg [sv],.str a.n a.a,.str b.n b.a,.str to.n to.a] H) fun r H'=>∃ tv,r= .aZ [tv,iN 0]/\Ac 1 sC H H' tv (qW X a b to):=by
 obtain⟨j,rfl⟩:=aW hk
 rw[(hC j).zBm]
 unfold zBm zrb
 simp(disch:=omega) only[go_sem]
 have f:Fm No H (aR H (aD 0 [sv])):=by exact jW
 refine Ok.ve (qm5 hC hN (k:=j) (by omega) (hX.fm f) hV) ?_
 rintro _ H1 ⟨rfl,f1⟩
 unfold q89
 have n1:=f1.nx
 have k1:H1.get H.nx=aD 0 [sv]:=(f1.keep (by simp only[np];omega)).trans (kL _ _)
 simp only[go_sem,k1]
 have hX1:=(hX.fm f).fm f1
 refine Ok.ve (zgr hC (k:=j) (by omega) hX1 hV.pr hV.al hV.sp) ?_
 rintro _ H2 ⟨ib,rfl,hI,f2⟩
 obtain⟨q,x,_,ec,_⟩:=qf9 hC (k:=j) (by omega) hI hV.al hV.sp hab
 simp only[go_sem,ec]
 refine Ok.ve (qm6 hC (k:=j) (by omega) (hX1.fm f2) hV.pr.sml hI hV.al hV.sp a b to hab) ?_
 intro tv H3 ha
 have hl:=ha.cO
 have h0:¬(qW X a b to).length=0:=fun h=>hne (List.length_eq_zero_iff.1 h)
 simp only[go_sem,hl,h0]
 exact Ok.ret ⟨tv,rfl,ha.trans ((f.trans f1).trans f2)⟩
theorem zex(p q:SS×SS):lT (fun xs ys=>wQ p1 ⟨iB⟩ 1 xs ys 2 0) (kyP p) (kyP q)=some (decide (p=q)):=zfk p q
theorem iR.aDM{H:Hp}{b:Nat}{ps:List (SS×SS)}(h:iR H b ps)(z:AV)(x y:SS)(hp:(x,y)∈ps) :
  qP ⟨lT fun xs ys=>wQ p1 ⟨iB⟩ 1 xs ys 2 0,some 2⟩ z false H (.map b) (.agg [.str x.n x.a,.str y.n y.a])= .val (iN ((ps.findIdx fun q=>decide (q=(x,y))))):=by
 have:=h.look (s:=some 2) zex (fun _=>rfl) z false (x,y)
 rw[if_pos hp]at this
 exact this
theorem iR.aW1{H:Hp}{b:Nat}{ps:List (SS×SS)}(h:iR H b ps)(x y:SS)(hp:(x,y)∉ps) :
  ∃k,pE ⟨lT fun xs ys=>wQ p1 ⟨iB⟩ 1 xs ys 2 0,some 2⟩ H (.map b) (.agg [.str x.n x.a,.str y.n y.a]) (iN (ps.length))= .ok .undef (H.put b k)/\iR (H.put b k) b (ps++[(x,y)]) :=
 h.upd (s:=some 2) zex (fun _=>rfl) hp
structure oN(Hb:Hp)(iP:AV)(H:Hp)(gb N:Nat)(ev:AV)(es:List Edge):Prop where
 blk:H.get gb=aD 0 [iN N,ev]
 lt:gb<Hb.nx
 gl:Gl 3 H ev es.length (es.flatMap Edge.cells)
 fm:Fm (fun c=>c=gb\/In iP c) Hb H
 nw:∀ c,In ev c->In iP c\/Hb.nx<=c
 nin:∀ c,In ev c->gb<c
theorem oN.no{Hb H H':Hp}{iP ev:AV}{gb N:Nat}{es:List Edge}(h:oN Hb iP H gb N ev es)(f:Fm No H H'):oN Hb iP H' gb N ev es :=
 ⟨(f.keep (Nat.lt_of_lt_of_le h.lt h.fm.nx)).trans h.blk,h.lt,h.gl.no f,h.fm.then f fun _ _ h=>absurd h id,h.nw,h.nin⟩
theorem oN.base{Hb H H':Hp}{iP ev:AV}{gb N:Nat}{es:List Edge}(h:oN Hb iP H gb N ev es)(f:Fm No H H'):oN H' ev H' gb N ev es :=
 ⟨(f.keep (Nat.lt_of_lt_of_le h.lt h.fm.nx)).trans h.blk,Nat.lt_of_lt_of_le h.lt (Nat.le_trans h.fm.nx f.nx),h.gl.no f,Fm.refl _ _,fun _ h=> .inl h,h.nin⟩
theorem oN.comp{Hb H H1 H2:Hp}{iP ev ev2:AV}{gb N:Nat}{es es2:List Edge}(h:oN Hb iP H gb N ev es)(f:Fm No H H1)(h2:oN H1 ev H2 gb N ev2 es2):oN Hb iP H2 gb N ev2 es2 :=
 ⟨h2.blk,h.lt,h2.gl,(h.fm.then f fun _ _ h=>absurd h id).then h2.fm fun c hc hs=>by
  rcases hs with hs|hs
  ·omega
  ·rcases h.nw c hs with h|h
   ·exact .inr h
   ·omega,fun c hc=>by
  have n1:=h.fm.nx
  have n2:=f.nx
  rcases h2.nw c hc with h'|h'
  ·exact h.nw c h'
  ·exact .inr (by omega),h2.nin⟩
structure ToR(X:List aS)(g:aS)(x:aY)(y:Nd×AV)(nb mb pb rb yb:Nat)(H:Hp):Prop where
 n:H.get nb=aD 0 [.map mb]
 m:iR H mb (aF X)
 p:H.get pb=aD 0 [.str g.name.n g.name.a,g.rv]
 r:∃ c1 c2 c3 c4 c5,H.get rb=aD 0 [.str x.r.name.n x.r.name.a,c1,c2,c3,c4,c5]
 y:H.get yb=aD 0 (jZ y)
theorem zsi(hC:bC C){k:Nat}(hk:1<=k){Hb H:Hp}{iP ev:AV}{gb N:Nat}{es:List Edge}(hG:oN Hb iP H gb N ev es)(hes:es.length<=1000000){X:List aS}{g:aS}{x:aY}{y:Nd×AV}{nb mb pb rb yb:Nat}(hR:ToR X g x y nb mb pb rb yb H)
  (hself:(g.name,x.r.name)∈aF X) {a b:SS} (hab:(a,b)∈aF X) (iX:(aF X).length<=256) :
  Ok (C k (.f 42) [.str a.n a.a,.str b.n b.a,.ptr gb 0,.ptr nb 0,.ptr pb 0,.ptr rb 0,.ptr yb 0] H) fun _ H'=>∃ ev',oN Hb iP H' gb N ev' (es++[⟨bJ X g.name x.r.name,bJ X a b,y.1.neg⟩]):=by
 obtain⟨j,rfl⟩:=aW hk
 rw[(hC j).zBl]
 unfold zBl zrc
 have e0:=hG.blk
 have hn:=hR.n
 have hp:=hR.p
 obtain⟨c1,c2,c3,c4,c5,hr⟩:=hR.r
 have hy:=hR.y
 have m1:=hR.m.aDM (iN 0) g.name x.r.name hself
 have m2:=hR.m.aDM (iN 0) a b hab
 have i1:(List.findIdx (fun q=>decide (q=(g.name,x.r.name))) (aF X))=bJ X g.name x.r.name:=rfl
 have i2:(List.findIdx (fun q=>decide (q=(a,b))) (aF X))=bJ X a b:=rfl
 have m1':qP ⟨lT fun xs ys=>wQ p1 ⟨iB⟩ 1 xs ys 2 0,some 2⟩ (iN 0) false ⟨H.t,H.nx+21⟩ (.map mb) (.agg [.str g.name.n g.name.a,.str x.r.name.n x.r.name.a])= .val (iN ((bJ X g.name x.r.name))):=m1
 have m2':qP ⟨lT fun xs ys=>wQ p1 ⟨iB⟩ 1 xs ys 2 0,some 2⟩ (iN 0) false ⟨H.t,H.nx+21⟩ (.map mb) (.agg [.str a.n a.a,.str b.n b.a])= .val (iN ((bJ X a b))):=m2
 unfold jZ SS.v at hy
 simp(disch:=first|omega|exact ti rfl|(simp only[np,nq];first|done|omega)) only[go_sem,reduceAdd,reduceMul,reduceLeDiff,reduceShiftRight,reduceAnd,e0,hn,hp,hr,hy,m1',m2']
 have hbl:=Nat.lt_of_lt_of_le hG.lt hG.fm.nx
 have fp:Fm No H ((Hp.mk H.t (H.nx+21)).put (H.nx+17) (aD 0 [iN ((bJ X g.name x.r.name)),iN ((bJ X a b)),.bool y.1.neg])):=by(repeat(first|exact Fm.refl _ _|assumption|refine Fm.push ?_ _|refine Fm.uF ?_ (by(first|omega|(simp only[np,nq];omega)))|refine Fm.aM ?_ _ _ (by(first|omega|(simp only[np,nq];omega)))))
 obtain⟨H2,e2,g2,_,f2,n2⟩:=(hG.gl.no fp).append (k:=1) (w:=24) (x:=Edge.cells ⟨bJ X g.name x.r.name,bJ X a b,y.1.neg⟩) (by omega) rfl (by omega) (by omega)
 simp only[nq]at e2 g2 n2
 refine Ok.y7 e2 ?_
 have nig:¬ In ev gb:=fun h=>by have:=hG.nin gb h;omega
 have k2:H2.get gb=aD 0 [iN N,ev]:=(f2.get gb (show gb<H.nx+21 by omega) nig).trans ((fp.keep hbl).trans e0)
 simp only[go_sem,seval,k2]
 have hnb:=hG.fm.nx
 refine Ok.ret ⟨.sl (H.nx+21) 0 (es.length+1) (es.length+1) false,eP _ _ _,hG.lt,?_,?_,?_,?_⟩
 ·rw[List.length_append,List.flatMap_append,List.flatMap_singleton]
  refine g2.keep (Nat.le_refl _) fun c hc _=> ?_
  obtain⟨_,_,_,_,hc⟩:=hc
  injection hc with hc
  rw[dZ _ _ _ _ (by omega)]
 ·refine((hG.fm.then fp fun _ _ h=>absurd h id).then f2 fun c hc h=> ?_).put _ _ fun _=> .inl rfl
  rcases hG.nw c h with h|h
  ·exact .inr h
  ·omega
 ·rintro c ⟨_,_,_,_,hc⟩
  injection hc with hc
  omega
 ·rintro c ⟨_,_,_,_,hc⟩
  injection hc with hc
  omega
def eE(X:List aS)(n:Nat)(neg:Bool)(p:SS×SS):Edge:=⟨n,bJ X p.1 p.2,neg⟩
def toF(gb nb pb rb yb:Nat):AV:= .fn 42 [] [.ptr gb 0,.ptr nb 0,.ptr pb 0,.ptr rb 0,.ptr yb 0]
theorem qyz(l:List kF):(vY l).length<=l.length:=by unfold vY;rw[List.length_map];exact List.length_filter_le _ _
theorem qs6(hC:bC C){j:Nat}(hj:1<=j){Hb:Hp}{iP tv:AV}{gb N nb mb pb rb yb:Nat}{X:List aS}{g:aS}{x:aY}{y:Nd×AV}(hR:∀ H,Fm (fun c=>c=gb\/In iP c) Hb H->ToR X g x y nb mb pb rb yb H)(hT:∀ H,Fm (fun c=>c=gb\/In iP c) Hb H->Rs 2 tC H tv x.r.types)(htl:x.r.types.length<=8)
  (hself:(g.name,x.r.name)∈aF X) (iX:(aF X).length<=256) (hin:∀ p∈vY x.r.types,p∈aF X) {E:List Edge} (hE:E.length<=900000) {Q:AV->Hp->Prop} {q:Hp->R1}
  (hq:∀ H ev,oN Hb iP H gb N ev (E++(vY x.r.types).map (eE X (bJ X g.name x.r.name) y.1.neg))->Ok (q H) Q) :
  ∀(k i:Nat) (H:Hp) (ev:AV),i<=x.r.types.length->x.r.types.length-i<k->oN Hb iP H gb N ev (E++(vY (x.r.types.take i)).map (eE X (bJ X g.name x.r.name) y.1.neg)) ->
   Ok (qqw (C j) q (toF gb nb pb rb yb) tv (iN (x.r.types.length)) k (iN i) H) Q
 |0,i,_,_,_,h,_=>by omega
 |k+1,i,H,ev,hi,hk,hG=>by
  show Ok (qx8 (C j) _ _ _ _ (qqw (C j) _ _ _ _ k) _ H) Q
  unfold qx8
  by_cases hlt:i<x.r.types.length
  ·simp only[go_sem,hlt]
   unfold q99
   obtain⟨b1,o1,e1,e2,_,e3,_⟩:=(hT H hG.fm).at' i hlt
   unfold tC SS.v at e3
   have hs:=q11 hlt
   have fp:Fm No H ((aR H (aD 0 [.str 0 0,.str 0 0])).put H.nx (aD 0 [.str x.r.types[i].sp.n x.r.types[i].sp.a,.str x.r.types[i].rl.n x.r.types[i].rl.a])):=by exact kI
   have hll:=qyz (x.r.types.take i)
   rw[List.length_take]at hll
   by_cases hz:x.r.types[i].rl.n=0/\x.r.types[i].rl.a=0
   ·have hzt:=eq_true hz
    rw[if_pos ((nI _ _).2 hz),List.append_nil]at hs
    simp(disch:=first|omega|exact ti rfl) only[go_sem,seval,e1,e3,hzt]
    unfold qqx
    simp(disch:=omega) only[go_sem]
    exact qs6 hC hj hR hT htl hself iX hin hE hq k (i+1) _ ev (by omega) (by omega) (by rw[hs];exact hG.no fp)
   ·have hz':¬ x.r.types[i].rl=sE:=fun h=>hz ((nI _ _).1 h)
    rw[if_neg hz']at hs
    have hpm:(x.r.types[i].sp,x.r.types[i].rl)∈aF X:=hin _ (by
     unfold vY
     rw[List.mem_map]
     exact⟨x.r.types[i],by rw[List.mem_filter];exact⟨List.getElem_mem hlt,by simpa using hz'⟩,rfl⟩)
    simp(disch:=first|omega|exact ti rfl) only[go_sem,seval,e1,e3,hz]
    refine Ok.ve (zsi hC hj (hG.no fp) (by rw[List.length_append,List.length_map];omega) (hR _ (hG.no fp).fm) hself hpm iX) ?_
    rintro _ H3 ⟨ev3,hG3⟩
    unfold qqx
    simp(disch:=omega) only[go_sem]
    refine qs6 hC hj hR hT htl hself iX hin hE hq k (i+1) _ ev3 (by omega) (by omega) ?_
    rw[hs,List.map_append,<-List.append_assoc]
    exact hG3
  ·simp only[go_sem,hlt]
   have he:i=x.r.types.length:=by omega
   rw[he,List.take_length]at hG
   exact hq H ev hG
theorem q3i(hC:bC C){j:Nat}(hj:1<=j){Hb:Hp}{iP tv:AV}{gb N nb mb pb rb yb:Nat}{X:List aS}{g:aS}{x:aY}{y:Nd×AV}(hR:∀ H,Fm (fun c=>c=gb\/In iP c) Hb H->ToR X g x y nb mb pb rb yb H){ts:List SS}(hT:∀ H,Fm (fun c=>c=gb\/In iP c) Hb H->Rs 1 sC H tv ts)(htl:ts.length<=100)
  (hself:(g.name,x.r.name)∈aF X) (iX:(aF X).length<=256) (hin:∀ s∈ts,(s,y.1.to)∈aF X) {E:List Edge} (hE:E.length<=900000) {Q:AV->Hp->Prop} {q:Hp->R1}
  (hq:∀ H ev,oN Hb iP H gb N ev (E++(ts.map fun s=>(s,y.1.to)).map (eE X (bJ X g.name x.r.name) y.1.neg))->Ok (q H) Q) :
  ∀(k i:Nat) (H:Hp) (ev:AV),i<=ts.length->ts.length-i<k->oN Hb iP H gb N ev (E++((ts.take i).map fun s=>(s,y.1.to)).map (eE X (bJ X g.name x.r.name) y.1.neg)) ->
   Ok (qqv (C j) q (.ptr yb 0) (toF gb nb pb rb yb) tv (iN (ts.length)) k (iN i) H) Q
 |0,i,_,_,_,h,_=>by omega
 |k+1,i,H,ev,hi,hk,hG=>by
  show Ok (qx7 (C j) _ _ _ _ _ (qqv (C j) _ _ _ _ _ k) _ H) Q
  unfold qx7
  by_cases hlt:i<ts.length
  ·simp only[go_sem,hlt]
   unfold q1b
   obtain⟨b1,o1,e1,e2,e3⟩:=(hT H hG.fm).at1 (g:=SS.v) (fun _=>rfl) hlt
   have r:=hR H hG.fm
   have hy:=r.y
   simp only[go_sem,e1,e3,hy]
   refine Ok.ve (zsi hC hj hG (by rw[List.length_append,List.length_map,List.length_map,List.length_take];omega) r hself (hin ts[i] (List.getElem_mem hlt)) iX) ?_
   rintro _ H3 ⟨ev3,hG3⟩
   unfold q98
   simp(disch:=omega) only[go_sem]
   refine q3i hC hj hR hT htl hself iX hin hE hq k (i+1) _ ev3 (by omega) (by omega) ?_
   rw[List.take_succ_eq_append_getElem hlt,List.map_append,List.map_append,<-List.append_assoc]
   exact hG3
  ·simp only[go_sem,hlt]
   have he:i=ts.length:=by omega
   rw[he,List.take_length]at hG
   exact hq H ev hG
def yY(X:List aS)(g:aS)(x:aY)(y:Nd):List Edge:=(vU X g.name x y).map (eE X (bJ X g.name x.r.name) y.neg)
structure NdR(X:List aS)(g:aS)(x:aY)(sv nv:AV)(l:List (Nd×AV))(xb nb mb pb rb:Nat)(H:Hp):Prop where
 oG:dF H sv X
 x1:H.get xb=aD 0 [sv]
 n:H.get nb=aD 0 [.map mb]
 m:iR H mb (aF X)
 p:H.get pb=aD 0 [.str g.name.n g.name.a,g.rv]
 r:∃ c2 c3 c4 c5,H.get rb=aD 0 [.str x.r.name.n x.r.name.a,x.tv,c2,c3,c4,c5]
 nd:Rs 5 jZ H nv l
theorem ztk{X:List aS}(hS:rM X){a:SS}{x:aY}(hx:x.r.types.length<=100)(y:Nd):(vU X a x y).length<=100:=by
 unfold vU
 split
 ·have:=qyz x.r.types;omega
 split
 ·simp
 split
 ·rw[List.length_map];exact qlg hS _ _ _
 ·simp
theorem ztl{X:List aS}(hS:rM X){g:aS}{x:aY}(hx:x.r.types.length<=100)(y:Nd):(yY X g x y).length<=100:=by
 unfold yY
 rw[List.length_map];exact ztk hS hx y
theorem q3n(hC:bC C)(hN:l9 C){j:Nat}(hj:22<=j){Hb:Hp}{iP sv nv:AV}{gb N xb nb mb pb rb:Nat}{X:List aS}(hV:eT X){g:aS}{x:aY}(hm:g∈X/\x∈g.gs){l:List (Nd×AV)}(hR:∀ H,Fm (fun c=>c=gb\/In iP c) Hb H->NdR X g x sv nv l xb nb mb pb rb H)
  (hlt':xb<Hb.nx/\nb<Hb.nx/\mb<Hb.nx/\pb<Hb.nx/\rb<Hb.nx) (hll:l.length<=32) (hln:l.map Prod.fst=x.r.rule.nodes false) (hin:∀ y∈l,∀p∈vU X g.name x y.1,p∈aF X) {E:List Edge} (hE:E.length<=800000) {Q:AV->Hp->Prop} {q:Hp->R1}
  (hq:∀ H ev,oN Hb iP H gb N ev (E++l.flatMap fun y=>yY X g x y.1)->Ok (q H) Q) :
  ∀(k i:Nat) (H:Hp) (ev:AV),i<=l.length->l.length-i<k->oN Hb iP H gb N ev (E++(l.take i).flatMap fun y=>yY X g x y.1) ->
   Ok (qie (C j) q (.ptr xb 0) (.ptr nb 0) (.ptr gb 0) (.ptr pb 0) (.ptr rb 0) nv (iN (l.length)) k (iN i) H) Q
 |0,i,_,_,_,h,_=>by omega
 |k+1,i,H,ev,hi,hk,hG=>by
  show Ok (qx9 (C j) _ _ _ _ _ _ _ _ (qie (C j) _ _ _ _ _ _ _ _ k) _ H) Q
  unfold qx9
  obtain⟨t1,t2,t3,t4,t5⟩:=hlt'
  by_cases hlt:i<l.length
  ·simp only[go_sem,hlt]
   unfold q1a
   have r:=hR H hG.fm
   obtain⟨b1,o1,e1,e2,_,e3,_⟩:=r.nd.at' i hlt
   unfold jZ SS.v at e3
   have hSm:=hV.pr.sml
   have htx:=(hV.pr.x _ hm.1 _ hm.2).1
   have hself:(g.name,x.r.name)∈aF X:=qh2.2 ⟨g,hm.1,x,hm.2,rfl,rfl⟩
   have iX:(aF X).length<=256:=by have:=hV.pr.len;rw[<-uL,List.length_map];exact this
   have fp:Fm No H ((aR H (aD 0 [.int .u8 (.ofNat 0),.str 0 0,.str 0 0,.aA,.bool false])).put H.nx (aD 0 [.int .u8 (.ofNat l[i].1.k),.str l[i].1.rl.n l[i].1.rl.a,.str l[i].1.to.n l[i].1.to.a,l[i].2,.bool l[i].1.neg])):=by exact kI
   obtain⟨H1,hH1⟩:∃ H1,H1=(aR H (aD 0 [.int .u8 (.ofNat 0),.str 0 0,.str 0 0,.aA,.bool false])).put H.nx (aD 0 [.int .u8 (.ofNat l[i].1.k),.str l[i].1.rl.n l[i].1.rl.a,.str l[i].1.to.n l[i].1.to.a,l[i].2,.bool l[i].1.neg]):=⟨_,rfl⟩
   rw[<-hH1]at fp
   have kb:H1.get H.nx=aD 0 (jZ l[i]):=by rw[hH1];exact eP _ _ _
   have n1:H1.nx=H.nx+1:=by rw[hH1];rfl
   have hG1:=hG.no fp
   have nx0:=hG.fm.nx
   have hEl:(E++(l.take i).flatMap fun y=>yY X g x y.1).length<=900000:=by
    have h1:=qb4 (fun y:Nd×AV=>yY X g x y.1) 100 (l.take i) fun y _=>ztl hSm (by omega) _
    rw[List.length_append]
    have h2:(l.take i).length<=32:=by rw[List.length_take];omega
    omega
   have next:∀ H' ev',oN Hb iP H' gb N ev' ((E++(l.take i).flatMap fun y=>yY X g x y.1)++yY X g x l[i].1)->Ok (qgp (C j) (qie (C j) q (.ptr xb 0) (.ptr nb 0) (.ptr gb 0) (.ptr pb 0) (.ptr rb 0) nv (iN (l.length)) k) (iN i) H') Q:=fun H' ev' h=>by
    unfold qgp
    simp(disch:=omega) only[go_sem]
    refine q3n hC hN hj hV hm hR ⟨t1,t2,t3,t4,t5⟩ hll hln hin hE hq k (i+1) H' ev' (by omega) (by omega) ?_
    rw[List.take_succ_eq_append_getElem hlt,List.flatMap_append,List.flatMap_singleton,<-List.append_assoc]
    exact h
   have nE:∀ c,In ev c->c<H.nx:=fun c hc=>hG.gl.lt hc
   have gbl:=hG.lt
   have hTo:∀ H2,Fm No H1 H2->∀ H',Fm (fun c=>c=gb\/In ev c) H2 H'->ToR X g x l[i] nb mb pb rb H.nx H':=fun H2 f2 H' f'=>by
    have ft:Fm (fun c=>c=gb\/In iP c) Hb H':=((hG1.fm).then f2 fun _ _ h=>absurd h id).then f' fun c hc hs=>by
     rcases hs with hs|hs
     ·omega
     ·rcases hG.nw c hs with h|h
      ·exact .inr h
      ·omega
    have r':=hR H' ft
    refine⟨r'.n,r'.m,r'.p,?_,?_⟩
    ·obtain⟨c2,c3,c4,c5,h⟩:=r'.r
     exact⟨_,_,_,_,_,h⟩
    ·have:=f2.nx
     refine(f'.get H.nx (by omega) fun hs=> ?_).trans ((f2.keep (by omega)).trans kb)
     rcases hs with hs|hs
     ·omega
     ·have:=nE _ hs;omega
   have r1:=hR H1 hG1.fm
   have jQ:=hin _ (List.getElem_mem hlt)
   have hnf:yY X g x l[i].1=(vU X g.name x l[i].1).map (eE X (bJ X g.name x.r.name) l[i].1.neg):=rfl
   unfold vU at jQ hnf
   by_cases q1:l[i].1.k=1
   ·have q1t:=eq_true q1
    rw[if_pos q1]at jQ hnf
    obtain⟨c2,c3,c4,c5,hrb⟩:=r.r
    have rr:=(fp.keep (show rb<H.nx by omega)).trans hrb
    rw[hH1]at rr
    have hty:=((r.oG.sp _ hm.1).rel _ hm.2).ty
    have hl:=hty.len
    simp(disch:=first|omega|exact ti rfl|(simp only[np,nq];first|done|omega)) only[go_sem,reduceAdd,reduceLeDiff,e1,e3,q1t,rr,hl]
    unfold zab
    rw[dI,<-hH1]
    have hGb:=hG1.base (Fm.refl No H1)
    refine qs6 hC (by omega) (N:=N) (Hb:=H1) (iP:=ev) (y:=l[i]) (hTo H1 (Fm.refl _ _)) (fun H' f'=> ?_) htx hself iX jQ hEl (fun H' ev' h=> ?_) cK 0 H1 ev (Nat.zero_le _) (by rw[dK];omega) ?_
    ·have ft:Fm (fun c=>c=gb\/In iP c) Hb H':=(hG1.fm).then f' fun c hc hs=>by
      rcases hs with hs|hs
      ·omega
      ·rcases hG.nw c hs with h|h
       ·exact .inr h
       ·omega
     exact(((hR H' ft).oG.sp _ hm.1).rel _ hm.2).ty
    ·refine next H' ev' ?_
     rw[hnf]
     exact hG1.comp (Fm.refl _ _) h
    ·rw[List.take_zero]
     simpa [vY] using hGb
   ·rw[if_neg q1]at jQ hnf
    by_cases q2:l[i].1.k=2
    ·have q2t:=eq_true q2
     rw[if_pos q2]at jQ hnf
     have rp:=(fp.keep (show pb<H.nx by omega)).trans r.p
     rw[hH1]at rp
     simp(disch:=first|omega|exact ti rfl|(simp only[np,nq];first|done|omega)) only[go_sem,reduceAdd,reduceLeDiff,e1,e3,q1,q2t,rp]
     rw[<-hH1]
     have hGb:=hG1.base (Fm.refl No H1)
     refine Ok.ve (zsi hC (by omega) hGb (by omega) (hTo H1 (Fm.refl _ _) H1 (Fm.refl _ _)) hself (jQ _ List.mem_cons_self) iX) ?_
     rintro _ H3 ⟨ev3,hG3⟩
     refine next H3 ev3 ?_
     rw[hnf]
     exact hG1.comp (Fm.refl _ _) hG3
    ·rw[if_neg q2]at jQ hnf
     by_cases q3:l[i].1.k=3
     ·have q3t:=eq_true q3
      rw[if_pos q3]at jQ hnf
      have rp:=(fp.keep (show pb<H.nx by omega)).trans r.p
      have rx:=(fp.keep (show xb<H.nx by omega)).trans r.x1
      rw[hH1]at rp rx
      simp(disch:=first|omega|exact ti rfl|(simp only[np,nq];first|done|omega)) only[go_sem,reduceAdd,reduceLeDiff,e1,e3,q1,q2,q3t,rp,rx]
      rw[<-hH1]
      have hnd:=hV.nd _ hm.1 _ hm.2 l[i].1 (by rw[<-hln];exact List.mem_map_of_mem (List.getElem_mem hlt))
      refine Ok.ve (qz9 hC hN (k:=j) (by omega) r1.oG hV g.name l[i].1.rl l[i].1.to (hnd.1 (.inr q3)) (hnd.2 q3)) ?_
      rintro _ H2 ⟨tv,rfl,ha⟩
      have hl:=ha.cO
      simp only[go_sem,hl]
      unfold zaa
      rw[dI]
      have hGb:=hG1.base ha.fm
      have htl:=qlg hSm g.name l[i].1.rl l[i].1.to
      refine q3i hC (by omega) (N:=N) (Hb:=H2) (iP:=ev) (y:=l[i]) (hTo H2 ha.fm) (fun H' f'=>(ha.rs zde).iD f' fun c hc hs=> ?_) htl hself iX (fun s hs=>jQ _ (List.mem_map_of_mem hs)) hEl (fun H' ev' h=> ?_) cK 0 H2 ev (Nat.zero_le _) (by rw[dK];omega) ?_
      ·have:=ha.nw c hc
       rcases hs with hs|hs
       ·omega
       ·have:=nE c hs;omega
      ·refine next H' ev' ?_
       rw[hnf]
       exact hG1.comp ha.fm h
      ·simp_all
     ·rw[if_neg q3]at hnf
      simp(disch:=first|omega|exact ti rfl|(simp only[np,nq];first|done|omega)) only[go_sem,reduceAdd,reduceLeDiff,e1,e3,q1,q2,q3]
      rw[<-hH1]
      refine next H1 ev ?_
      simp_all
  ·simp only[go_sem,hlt]
   have he:i=l.length:=by omega
   rw[he,List.take_length]at hG
   exact hq H ev hG
theorem eT.tg{X:List aS}(hV:eT X){a b to s:SS}(h:s∈qW X a b to):(s,to)∈aF X:=by
 unfold qW at h
 cases hf:pI X a b with
 |none=>rw[hf]at h;cases h
 |some x =>
  rw[hf]at h
  unfold tgL at h
  rw[List.mem_map]at h
  obtain⟨t,ht,rfl⟩:=h
  rw[List.mem_filter]at ht
  have h2:=ht.2
  unfold tgP at h2
  rw[Bool.and_eq_true,qi0 hV.al hV.sp]at h2
  simp_all
theorem eT.ndt{X:List aS}(hV:eT X){g:aS}{x:aY}(hm:g∈X/\x∈g.gs){y:Nd}(hy:y∈x.r.rule.nodes false):∀ p∈vU X g.name x y,p∈aF X:=by
 intro p hp
 unfold vU at hp
 have hnd:=hV.nd _ hm.1 _ hm.2 y hy
 split at hp
 ·unfold vY at hp
  rw[List.mem_map]at hp
  obtain⟨t,ht,rfl⟩:=hp
  rw[List.mem_filter]at ht
  rcases((hV.ty _ hm.1 _ hm.2).2 t ht.1).2 with h|h
  ·simp[h]at ht
  ·exact h
 split at hp
 ·simp_all
 split at hp
 ·rw[List.mem_map]at hp
  obtain⟨s,hs,rfl⟩:=hp
  exact hV.tg hs
 ·cases hp
theorem q4m{X:List aS}(hP:xR X)(a b to:SS):(qW X a b to).length<=8:=by
 unfold qW
 cases h:pI X a b with
 |none=>simp
 |some g =>
  refine Nat.le_trans (qr9 X to _) ?_
  obtain⟨p,hp,hx,_,_⟩:=qhu h
  exact(hP.x p hp g hx).1
theorem zk9{X:List aS}(hP:xR X){g:aS}{x:aY}(hx:x.r.types.length<=8)(y:Nd):(yY X g x y).length<=8:=by
 unfold yY vU
 rw[List.length_map]
 split
 ·have:=qyz x.r.types;omega
 split
 ·simp
 split
 ·rw[List.length_map];exact q4m hP _ _ _
 ·simp
def relE(X:List aS)(g:aS)(x:aY):List Edge:=(x.r.rule.nodes false).flatMap (yY X g x)
theorem q2s{X:List aS}(hP:xR X){g:aS}{x:aY}(hm:g∈X/\x∈g.gs):(relE X g x).length<=256:=by
 unfold relE
 have h1:=qb4 (yY X g x) 8 (x.r.rule.nodes false) fun y _=>zk9 hP (hP.x _ hm.1 _ hm.2).1 y
 have h2:=qbw x.r.rule false
 have h3:=(hP.x _ hm.1 _ hm.2).2.2.1.sz
 omega
def vL(X:List aS)(l:List aS):List Edge:=l.flatMap fun g=>g.gs.flatMap (relE X g)
structure RlR(X:List aS)(sv:AV)(xb nb mb:Nat)(H:Hp):Prop where
 oG:dF H sv X
 x1:H.get xb=aD 0 [sv]
 n:H.get nb=aD 0 [.map mb]
 m:iR H mb (aF X)
theorem q3k(hC:bC C)(hN:l9 C){j:Nat}(hj:22<=j){Hb:Hp}{iP sv:AV}{gb N xb nb mb pb:Nat}{X:List aS}(hV:eT X){g:aS}(hm:g∈X)(hR:∀ H,Fm (fun c=>c=gb\/In iP c) Hb H->RlR X sv xb nb mb H/\H.get pb=aD 0 [.str g.name.n g.name.a,g.rv])
  (hlt':xb<Hb.nx/\nb<Hb.nx/\mb<Hb.nx/\pb<Hb.nx) {E:List Edge} (hE:E.length<=100000) {Q:AV->Hp->Prop} {q:Hp->R1}
  (hq:∀ H ev,oN Hb iP H gb N ev (E++g.gs.flatMap (relE X g))->Ok (q H) Q) :
  ∀(k i:Nat) (H:Hp) (ev:AV),i<=g.gs.length->g.gs.length-i<k->oN Hb iP H gb N ev (E++(g.gs.take i).flatMap (relE X g)) ->
   Ok (qks (C j) q (.ptr xb 0) (.ptr nb 0) (.ptr gb 0) (.ptr pb 0) g.rv (iN (g.gs.length)) k (iN i) H) Q
 |0,i,_,_,_,h,_=>by omega
 |k+1,i,H,ev,hi,hk,hG=>by
  show Ok (qya (C j) _ _ _ _ _ _ _ (qks (C j) _ _ _ _ _ _ _ k) _ H) Q
  unfold qya
  obtain⟨t1,t2,t3,t4⟩:=hlt'
  by_cases hlt:i<g.gs.length
  ·simp only[go_sem,hlt]
   unfold q09
   obtain⟨r,rp⟩:=hR H hG.fm
   have hsp:=r.oG.sp _ hm
   obtain⟨b1,o1,e1,e2,_,_,_,e6⟩:=hsp.at' i hlt
   have hx:=List.getElem_mem hlt
   have hrr:=hsp.rel _ hx
   obtain⟨c0,c1,c2,c3,hcs,hrc⟩:=qsl hrr
   have hpr:=hV.pr.x _ hm _ hx
   rw[hrc]at e6
   have h16:=(hV.pr.r _ hm).1
   obtain⟨H1,hH1⟩:∃ H1,H1=(aR H (aD 0 [.str 0 0,.aA,.int .u8 (.ofNat 0),.str 0 0,.str 0 0,.aA])).put H.nx (aD 0 [.str g.gs[i].r.name.n g.gs[i].r.name.a,g.gs[i].tv,c0,c1,c2,c3]):=⟨_,rfl⟩
   have fp:Fm No H H1:=by rw[hH1];exact kI
   have kb:H1.get H.nx=aD 0 [.str g.gs[i].r.name.n g.gs[i].r.name.a,g.gs[i].tv,c0,c1,c2,c3]:=by rw[hH1];exact eP _ _ _
   have n1:H1.nx=H.nx+1:=by rw[hH1];rfl
   have lI:=hrr.ru.fm fp
   rw[hcs]at lI
   have call:=qm7 hC hN (k:=j) (by omega) lI hpr.2.2.1
   simp(disch:=first|omega|exact ti rfl|(simp only[np,nq];first|done|omega)) only[go_sem,reduceAdd,reduceLeDiff,e1,e6]
   rw[<-hH1]
   refine Ok.ve call ?_
   rintro _ H2 ⟨nv,l,rfl,ha,hl⟩
   have hla:=ha.cO
   simp only[go_sem,hla]
   unfold zac
   rw[dI]
   have f2:=ha.fm
   have n2:=f2.nx
   have nx0:=hG.fm.nx
   have gbl:=hG.lt
   have nE:∀ c,In ev c->c<H.nx:=fun c hc=>hG.gl.lt hc
   have hln:l.length<=32:=by
    have:=congrArg List.length hl
    simp only[List.length_map,qbw]at this
    have:=hpr.2.2.1.sz
    omega
   have hEl:(E++(g.gs.take i).flatMap (relE X g)).length<=800000:=by
    have h1:=qb4 (relE X g) 256 (g.gs.take i) fun x hx=>q2s hV.pr ⟨hm,List.mem_of_mem_take hx⟩
    rw[List.length_append]
    have h2:(g.gs.take i).length<=16:=by rw[List.length_take];omega
    omega
   have hG2:=hG.base (fp.trans f2)
   refine q3n hC hN hj (N:=N) (Hb:=H2) (iP:=ev) (sv:=sv) (mb:=mb) hV (x:=g.gs[i]) ⟨hm,hx⟩ (l:=l) (fun H' f'=> ?_) ⟨by omega,by omega,by omega,by omega,by omega⟩ hln hl (fun y hy=>hV.ndt ⟨hm,hx⟩ (by rw[<-hl];exact List.mem_map_of_mem hy)) hEl (fun H' ev' h=> ?_) cK 0 H2 ev (Nat.zero_le _) (by rw[dK];omega) (by simpa using hG2)
   ·have ft:Fm (fun c=>c=gb\/In iP c) Hb H':=(hG.fm.then (fp.trans f2) fun _ _ h=>absurd h id).then f' fun c hc hs=>by
     rcases hs with hs|hs
     ·exact .inl hs
     ·rcases hG.nw c hs with h|h
      ·exact .inr h
      ·omega
    obtain⟨r',rp'⟩:=hR H' ft
    refine⟨r'.oG,r'.x1,r'.n,r'.m,rp',⟨c0,c1,c2,c3,?_⟩,(ha.rs wO).iD f' fun c hc hs=> ?_⟩
    ·refine(f'.get H.nx (by omega) fun hs=> ?_).trans ((f2.keep (by omega)).trans kb)
     rcases hs with hs|hs
     ·omega
     ·have:=nE _ hs;omega
    ·have:=ha.nw c hc
     rcases hs with hs|hs
     ·omega
     ·have:=nE c hs;omega
   ·unfold qx6
    simp(disch:=omega) only[go_sem]
    refine q3k hC hN hj hV hm hR ⟨t1,t2,t3,t4⟩ hE hq k (i+1) H' ev' (by omega) (by omega) ?_
    have hre:relE X g g.gs[i]=l.flatMap fun y=>yY X g g.gs[i] y.1:=by
     unfold relE
     rw[<-hl,List.flatMap_map]
    rw[List.take_succ_eq_append_getElem hlt,List.flatMap_append,List.flatMap_singleton,<-List.append_assoc,hre]
    exact hG.comp (fp.trans f2) h
  ·simp only[go_sem,hlt]
   have he:i=g.gs.length:=by omega
   rw[he,List.take_length]at hG
   exact hq H ev hG
theorem q3m{X:List aS}(hP:xR X)(i:Nat):(vL X (X.take i)).length<=65536:=by
 unfold vL
 have h1:=qb4 (fun g:aS=>g.gs.flatMap (relE X g)) 4096 (X.take i) fun g hg=>by
  have hgx:=List.mem_of_mem_take hg
  have h2:=qb4 (relE X g) 256 g.gs fun x hx=>q2s hP ⟨hgx,hx⟩
  have:=(hP.r g hgx).1
  omega
 have h2:(X.take i).length<=16:=by rw[List.length_take];have:=hP.n;omega
 omega
theorem q3j(hC:bC C)(hN:l9 C){j:Nat}(hj:22<=j){Hb:Hp}{iP sv:AV}{gb N xb nb mb:Nat}{X:List aS}(hV:eT X)(hR:∀ H,Fm (fun c=>c=gb\/In iP c) Hb H->RlR X sv xb nb mb H)
  (hlt':xb<Hb.nx/\nb<Hb.nx/\mb<Hb.nx) {Q:AV->Hp->Prop} {q:Hp->R1}
  (hq:∀ H ev,oN Hb iP H gb N ev (vL X X)->Ok (q H) Q) :
  ∀(k s:Nat) (H:Hp) (ev:AV),s<=X.length->X.length-s<k->oN Hb iP H gb N ev (vL X (X.take s)) ->
   Ok (qif (C j) q (.ptr xb 0) (.ptr nb 0) (.ptr gb 0) sv (iN (X.length)) k (iN s) H) Q
 |0,i,_,_,_,h,_=>by omega
 |k+1,s,H,ev,hi,hk,hG=>by
  show Ok (qyb (C j) _ _ _ _ _ _ (qif (C j) _ _ _ _ _ _ k) _ H) Q
  unfold qyb
  obtain⟨t1,t2,t3⟩:=hlt'
  have hn:=hV.pr.n
  by_cases hlt:s<X.length
  ·simp only[go_sem,hlt]
   unfold q08
   have r:=hR H hG.fm
   obtain⟨b1,o1,e1,e2,_,e3,_⟩:=r.oG.rs.at' s hlt
   unfold u6 SS.v at e3
   have hm:=List.getElem_mem hlt
   have hl:=(r.oG.sp _ hm).len
   have h16:=(hV.pr.r _ hm).1
   obtain⟨H1,hH1⟩:∃ H1,H1=(aR H (aD 0 [.str 0 0,.aA])).put H.nx (aD 0 [.str X[s].name.n X[s].name.a,X[s].rv]):=⟨_,rfl⟩
   have fp:Fm No H H1:=by rw[hH1];exact kI
   have kb:H1.get H.nx=aD 0 [.str X[s].name.n X[s].name.a,X[s].rv]:=by rw[hH1];exact eP _ _ _
   have n1:H1.nx=H.nx+1:=by rw[hH1];rfl
   simp(disch:=first|omega|exact ti rfl) only[go_sem,seval,e1,e3,hl]
   rw[<-hH1]
   unfold zad
   rw[dI]
   have nx0:=hG.fm.nx
   have gbl:=hG.lt
   have nE:∀ c,In ev c->c<H.nx:=fun c hc=>hG.gl.lt hc
   have hG1:=hG.base fp
   refine q3k hC hN hj (N:=N) (Hb:=H1) (iP:=ev) (sv:=sv) (mb:=mb) hV hm (fun H' f'=> ?_) ⟨by omega,by omega,by omega,by omega⟩ (E:=vL X (X.take s)) (by have:=q3m hV.pr s;omega) (fun H' ev' h=> ?_) cK 0 H1 ev (Nat.zero_le _) (by rw[dK];omega) (by simpa using hG1)
   ·have ft:Fm (fun c=>c=gb\/In iP c) Hb H':=(hG.fm.then fp fun _ _ h=>absurd h id).then f' fun c hc hs=>by
     rcases hs with hs|hs
     ·omega
     ·rcases hG.nw c hs with h|h
      ·exact .inr h
      ·omega
    refine⟨hR H' ft,(f'.get H.nx (by omega) fun hs=> ?_).trans kb⟩
    rcases hs with hs|hs
    ·omega
    ·have:=nE _ hs;omega
   ·unfold qqy
    simp(disch:=omega) only[go_sem]
    refine q3j hC hN hj hV hR ⟨t1,t2,t3⟩ hq k (s+1) H' ev' (by omega) (by omega) ?_
    unfold vL at h ⊢
    rw[List.take_succ_eq_append_getElem hlt,List.flatMap_append,List.flatMap_singleton]
    exact hG.comp fp h
  ·simp only[go_sem,hlt]
   have he:s=X.length:=by omega
   rw[he,List.take_length]at hG
   exact hq H ev hG
end Go.Di
end
section
namespace Go.Di
open Go.Ev
def kT(n:Nat)(e:T3):Nat:=(e.f*n+e.t)*2+e.s
theorem zfn{n:Nat}{ms:List Nat}{i k:Nat}{e:T3}(h:e∈ent n ms i k):e.f=i/\e.t=k/\e.s<2/\0<ms.getD (i*n+k) 0:=by
 rcases List.mem_append.1 h with h|h
 ·split at h
  ·rw[List.mem_singleton]at h;subst h
   refine⟨rfl,rfl,Nat.zero_lt_two,?_⟩
   omega
  ·cases h
 ·split at h
  ·rename_i h1
   rw[List.mem_singleton]at h;subst h
   exact⟨rfl,rfl,Nat.one_lt_two,by omega⟩
  ·cases h
theorem zxp(n:Nat)(ms:List Nat)(i k:Nat):(ent n ms i k).Pairwise (fun a b=>kT n a<kT n b):=by
 unfold ent
 split<;>split<;>simp[kT]
theorem qv9{n:Nat}{ms:List Nat}{i:Nat}{e:T3}:∀{k:Nat},e∈eR n ms i k->e.f=i/\e.t<k/\e.s<2/\0<ms.getD (i*n+e.t) 0
 |0,h=>by cases h
 |k+1,h=>by
  rcases List.mem_append.1 h with h|h
  ·obtain⟨h1,h2,h3,h4⟩:=qv9 h
   omega
  ·obtain⟨h1,h2,h3,h4⟩:=zfn h
   simp_all
theorem zxw(n:Nat)(ms:List Nat)(i:Nat):∀ k,(eR n ms i k).Pairwise (fun a b=>kT n a<kT n b)
 |0=>List.Pairwise.nil
 |k+1=>by
  refine List.pairwise_append.2 ⟨zxw n ms i k,zxp n ms i k,fun a ha b hb=> ?_⟩
  obtain⟨a1,a2,a3,_⟩:=qv9 ha
  obtain⟨b1,b2,b3,_⟩:=zfn hb
  unfold kT
  rw[a1,b1,b2];omega
theorem qpi{n:Nat}{ms:List Nat}{e:T3}:∀{i:Nat},e∈eM n ms i->e.f<i/\e.t<n/\e.s<2/\0<ms.getD (e.f*n+e.t) 0
 |0,h=>by cases h
 |i+1,h=>by
  rcases List.mem_append.1 h with h|h
  ·obtain⟨h1,h2,h3,h4⟩:=qpi h
   omega
  ·obtain⟨h1,h2,h3,h4⟩:=qv9 h
   simp_all
theorem zxy(n:Nat)(ms:List Nat):∀ i,(eM n ms i).Pairwise (fun a b=>kT n a<kT n b)
 |0=>List.Pairwise.nil
 |i+1=>by
  refine List.pairwise_append.2 ⟨zxy n ms i,zxw n ms i n,fun a ha b hb=> ?_⟩
  obtain⟨a1,a2,a3,_⟩:=qpi ha
  obtain⟨b1,b2,b3,_⟩:=qv9 hb
  have h1:(a.f+1)*n<=i*n:=Nat.mul_le_mul_right n a1
  rw[Nat.add_mul,Nat.one_mul]at h1
  unfold kT
  rw[b1];omega
theorem zf6{a b:Int}(h:a<b):iK a b= -1:=by unfold iK;rw[if_pos h]
theorem qz2(a:Int):iK a a=0:=by unfold iK;rw[if_neg (Int.lt_irrefl a),if_neg (Int.lt_irrefl a)]
theorem zxb{n:Nat}{a b:T3}(ha:a.t<n)(hb:b.t<n)(sa:a.s<2)(sb:b.s<2)(h:kT n a<kT n b):p9 (toE a) (toE b)<0:=by
 unfold kT at h
 rcases Nat.lt_trichotomy a.f b.f with hf|hf|hf
 ·show orI [iK (.ofNat a.f) (.ofNat b.f),_,_]<0
  rw[zf6 (by simp only[Int.ofNat_eq_natCast];omega)];exact Int.negSucc_lt_zero 0
 ·have hft:a.f*n=b.f*n:=by rw[hf]
  rcases Nat.lt_trichotomy a.t b.t with ht|ht|ht
  ·show orI [iK (.ofNat a.f) (.ofNat b.f),iK (.ofNat a.t) (.ofNat b.t),_]<0
   rw[hf,qz2,zf6 (a:= .ofNat a.t) (by simp only[Int.ofNat_eq_natCast];omega)];exact Int.negSucc_lt_zero 0
  ·have hs:a.s=0/\b.s=1:=by omega
   show orI [iK (.ofNat a.f) (.ofNat b.f),iK (.ofNat a.t) (.ofNat b.t),iK (sgn (decide (a.s=1))) (sgn (decide (b.s=1)))]<0
   rw[hf,ht,qz2,qz2,hs.1,hs.2];decide
  ·omega
 ·have h1:(b.f+1)*n<=a.f*n:=Nat.mul_le_mul_right n hf
  rw[Nat.add_mul,Nat.one_mul]at h1
  omega
theorem q33(n:Nat)(ms:List Nat):qdt n (zY n ms):=by
 refine⟨fun e he=> ?_,fun i hi=> ?_⟩
 ·obtain⟨x,hx,rfl⟩:=List.mem_map.1 he
  obtain⟨h1,h2,_⟩:=qpi hx
  exact⟨h1,h2⟩
 ·unfold zY at hi ⊢
  rw[List.length_map]at hi
  rw[List.getElem_map,List.getElem_map]
  have hp:=zxy n ms n
  have:=List.pairwise_iff_getElem.1 hp i (i+1) (by omega) hi (Nat.lt_succ_self i)
  obtain⟨_,a2,a3,_⟩:=qpi (List.getElem_mem (show i<(eM n ms n).length by omega))
  obtain⟨_,b2,b3,_⟩:=qpi (List.getElem_mem hi)
  exact zxb a2 b2 a3 b3 this
theorem ztx{n i j i' j':Nat}(hj:j<n)(hj':j'<n)(h:i*n+j=i'*n+j'):i=i'/\j=j':=by
 have h1:(i*n+j) / n=i:=by rw[Nat.mul_comm,Nat.mul_add_div (by omega),Nat.div_eq_of_lt hj,Nat.add_zero]
 have h2:(i'*n+j') / n=i':=by rw[Nat.mul_comm,Nat.mul_add_div (by omega),Nat.div_eq_of_lt hj',Nat.add_zero]
 simp_all
def ltE(x y:Edge):Bool:=decide (p9 x y<0)
theorem qmm(cs:List Nat)(a c v:Nat)(hc:c<cs.length):(cs.set a v).getD c 0=if a=c then v else cs.getD c 0:=by
 rw[List.getD_eq_getElem?_getD,List.getD_eq_getElem?_getD,List.getElem?_set]
 by_cases h:a=c
 ·simp_all
 ·simp_all
theorem zkw(n:Nat)(ms:List Nat)(f t:Nat)(s:Bool):(jN n ms f t s).length=ms.length:=by
 unfold jN
 generalize (if s=true then 2 else 1)=d
 by_cases hd:ms.getD (f*n+t) 0 / d%2=0
 ·simp_all
 ·rw[if_neg hd]
theorem zkx{n:Nat}{ms:List Nat}(hl:ms.length=n*n){f t:Nat}(s:Bool){i k:Nat}(hi:i<n)(hk:k<n)(ht:t<n)(h3:ms.getD (i*n+k) 0<=3) :
  (jN n ms f t s).getD (i*n+k) 0<=3/\((jN n ms f t s).getD (i*n+k) 0%2=1↔ms.getD (i*n+k) 0%2=1\/(f=i/\t=k/\s=false))/\(1<(jN n ms f t s).getD (i*n+k) 0↔1<ms.getD (i*n+k) 0\/(f=i/\t=k/\s=true)):=by
 have hx:=ze3 hi hk
 by_cases e:f=i/\t=k
 ·obtain⟨rfl,rfl⟩:=e
  unfold jN
  generalize hv:ms.getD (f*n+t) 0=v at *
  cases s
  ·simp only[Bool.false_eq_true,if_false]
   by_cases h:v / 1%2=0
   ·rw[if_pos h,qmm _ _ _ _ (by omega),if_pos rfl]
    refine⟨by omega,?_,?_⟩
    ·simp;omega
    ·simp;omega
   ·simp_all
  ·simp only[if_true]
   by_cases h:v / 2%2=0
   ·rw[if_pos h,qmm _ _ _ _ (by omega),if_pos rfl]
    refine⟨by omega,?_,?_⟩
    ·simp
    ·simp
   ·rw[if_neg h,hv]
    refine⟨by omega,?_,?_⟩
    ·simp
    ·simp;omega
 ·have:(jN n ms f t s).getD (i*n+k) 0=ms.getD (i*n+k) 0:=by
   unfold jN
   generalize (if s=true then 2 else 1)=d
   by_cases hd:ms.getD (f*n+t) 0 / d%2=0
   ·rw[if_pos hd,qmm _ _ _ _ (by omega),if_neg fun h=>e (ztx ht hk h)]
   ·rw[if_neg hd]
  omega
theorem qlu{n i k:Nat}(hi:i<n)(hk:k<n):∀(ts:List T3) (ms:List Nat),ms.length=n*n->(∀e∈ts,e.f<n/\e.t<n)->ms.getD (i*n+k) 0<=3 ->
  ((nT n ms ts).getD (i*n+k) 0%2=1↔ms.getD (i*n+k) 0%2=1\/∃ e∈ts,e.f=i/\e.t=k/\decide (e.s=1)=false)/\(1<(nT n ms ts).getD (i*n+k) 0↔1<ms.getD (i*n+k) 0\/∃ e∈ts,e.f=i/\e.t=k/\decide (e.s=1)=true)
 | [],ms,_,_,_=>by simp[nT]
 |e::l,ms,hl,hT,h3=>by
  obtain⟨a1,a2,a3⟩:=zkx hl (f:=e.f) (t:=e.t) (decide (e.s=1)) hi hk (hT e List.mem_cons_self).2 h3
  obtain⟨b1,b2⟩:=qlu hi hk l (jN n ms e.f e.t (decide (e.s=1))) (by rw[zkw,hl]) (fun x hx=>hT x (List.mem_cons_of_mem _ hx)) a1
  show((nT n (jN n ms e.f e.t (decide (e.s=1))) l).getD _ 0%2=1↔_)/\_
  rw[b1,a2]
  show _/\(1<(nT n (jN n ms e.f e.t (decide (e.s=1))) l).getD _ 0↔_)
  rw[b2,a3]
  simp only[List.mem_cons,exists_eq_or_imp,or_assoc,and_self]
def bn(b:Bool):Nat:=if b then 1 else 0
theorem zyc{a b:Bool}(h:bn a=bn b):a=b:=by cases a<;>cases b<;>first|rfl|(simp[bn]at h)
theorem zpc(b:Bool):sgn b=(bn b:Int):=by cases b<;>rfl
def mE(x y:Edge):Prop:=x.f<y.f\/(x.f=y.f/\(x.t<y.t\/(x.t=y.t/\bn x.s<bn y.s)))
theorem zej(x y:Edge):ltE x y=true↔mE x y:=by
 unfold ltE p9 mE
 rw[zpc,zpc]
 simp only[orI,iK,Int.ofNat_eq_natCast,decide_eq_true_eq]
 omega
theorem qzn(x y:Edge):ltE x y=false↔¬ mE x y:=by
 rw[<-zej];cases ltE x y<;>simp
theorem mE.tri{x y:Edge}(h1:¬ mE x y)(h2:¬ mE y x):x=y:=by
 unfold mE at h1 h2
 obtain⟨a,b,c⟩:=x
 obtain⟨d,e,f⟩:=y
 simp only at h1 h2
 have e1:a=d:=by omega
 have e2:b=e:=by omega
 have e3:bn c=bn f:=by omega
 subst e1;subst e2
 rw[zyc e3]
theorem mE.irr(x:Edge):¬ mE x x:=by unfold mE;omega
theorem mE.trans{x y z:Edge}:mE x y->mE y z->mE x z:=by unfold mE;omega
abbrev Asc(l:List Edge):Prop:=l.Pairwise mE
theorem Asc.nodup{l:List Edge}(h:Asc l):l.Nodup:=List.Pairwise.imp (fun{a b} (h:mE a b) (e:a=b)=>mE.irr b (e▸h)) h
theorem Asc.uniq:∀{l l':List Edge},Asc l->Asc l'->l.Perm l'->l=l'
 | [],l',_,_,hp=>by rw[List.nil_perm.1 hp]
 |x::l,[],_,_,hp=>by have:=hp.length_eq;simp at this
 |x::l,y::l',h,h',hp=>by
  have h:=List.pairwise_cons.1 h
  have h':=List.pairwise_cons.1 h'
  have exy:x=y:=by
   have hx:x∈y::l':=hp.mem_iff.1 (List.mem_cons.2 (Or.inl rfl))
   have hy:y∈x::l:=hp.mem_iff.2 (List.mem_cons.2 (Or.inl rfl))
   rcases List.mem_cons.1 hx with e|hx
   ·exact e
   ·rcases List.mem_cons.1 hy with e|hy
    ·exact e.symm
    ·exact absurd ((h.1 y hy).trans (h'.1 x hx)) (mE.irr _)
  subst exy
  rw[Asc.uniq h.2 h'.2 ((List.perm_cons x).1 hp)]
theorem qtk{x y:Edge}:p9 x y<0↔mE x y:=by rw[<-zej];unfold ltE;simp
theorem qdt.asc{n:Nat}{es:List Edge}(h:qdt n es):Asc es:=by
 refine List.pairwise_iff_getElem.2 ?_
 intro i j hi hj hij
 obtain⟨k,rfl⟩:∃ k,j=i+1+k:=⟨j-i-1,by omega⟩
 clear hij
 induction k with
 |zero=>exact qtk.1 (h.ord i hj)
 |succ k ih=>exact(ih (by omega)).trans (qtk.1 (h.ord (i+1+k) (by omega)))
theorem Asc.ok{n:Nat}{es:List Edge}(h:Asc es)(hr:∀ e∈es,e.f<n/\e.t<n):qdt n es :=
 ⟨hr,fun i hi=>qtk.2 (List.pairwise_iff_getElem.1 h i (i+1) (by omega) hi (by omega))⟩
def aFT(n:Nat)(ms:List Nat)(f t:Nat)(s:Bool):Prop:=if s then 1<ms.getD (f*n+t) 0 else ms.getD (f*n+t) 0%2=1
theorem qmu{n:Nat}{ms:List Nat}{i k:Nat}{e:T3}:e∈ent n ms i k↔e.f=i/\e.t=k/\((e.s=0/\ms.getD (i*n+k) 0%2=1)\/(e.s=1/\1<ms.getD (i*n+k) 0)):=by
 obtain⟨f,t,s⟩:=e
 unfold ent
 rw[List.mem_append]
 constructor
 ·rintro (h|h)
  ·simp_all
  ·simp_all
 ·rintro ⟨rfl,rfl,⟨h1,h2⟩|⟨h1,h2⟩⟩
  ·simp_all
  ·simp_all
theorem zpq{n:Nat}{ms:List Nat}{i:Nat}{e:T3}:∀{k:Nat},e∈eR n ms i k↔e.t<k/\e∈ent n ms i e.t
 |0=>by constructor;(intro h;cases h);(intro h;omega)
 |k+1=>by
  show e∈eR n ms i k++ent n ms i k↔_
  rw[List.mem_append,zpq]
  constructor
  ·rintro (⟨h1,h2⟩|h)
   ·exact⟨by omega,h2⟩
   ·have h':=(qmu.1 h).2.1
    simp_all
  ·rintro ⟨h1,h2⟩
   by_cases h:e.t<k
   ·simp_all
   ·have:e.t=k:=by omega
    simp_all
theorem q35{n:Nat}{ms:List Nat}{e:T3}:∀{m:Nat},e∈eM n ms m↔e.f<m/\e.t<n/\e∈ent n ms e.f e.t
 |0=>by constructor;(intro h;cases h);(intro h;omega)
 |m+1=>by
  show e∈eM n ms m++eR n ms m n↔_
  rw[List.mem_append,q35,zpq]
  constructor
  ·rintro (⟨h1,h2,h3⟩|⟨h1,h2⟩)
   ·exact⟨by omega,h2,h3⟩
   ·have h':=(qmu.1 h2).1
    simp_all
  ·rintro ⟨h1,h2,h3⟩
   by_cases h:e.f<m
   ·simp_all
   ·have:e.f=m:=by omega
    simp_all
theorem qzy{n:Nat}{ms:List Nat}{e:Edge}:e∈zY n ms↔e.f<n/\e.t<n/\aFT n ms e.f e.t e.s:=by
 unfold zY aFT
 rw[List.mem_map]
 constructor
 ·rintro ⟨t,ht,rfl⟩
  obtain⟨h1,h2,h3⟩:=q35.1 ht
  refine⟨h1,h2,?_⟩
  rcases(qmu.1 h3).2.2 with⟨h4,h5⟩|⟨h4,h5⟩
  ·show(if decide (t.s=1)=true then _ else _)
   rw[h4,if_neg (by decide)];exact h5
  ·show(if decide (t.s=1)=true then _ else _)
   rw[h4,if_pos (by decide)];exact h5
 ·rintro ⟨h1,h2,h3⟩
  obtain⟨f,t,s⟩:=e
  cases s
  ·exact⟨⟨f,t,0⟩,q35.2 ⟨h1,h2,qmu.2 ⟨rfl,rfl,.inl ⟨rfl,by simpa using h3⟩⟩⟩,rfl⟩
  ·exact⟨⟨f,t,1⟩,q35.2 ⟨h1,h2,qmu.2 ⟨rfl,rfl,.inr ⟨rfl,by simpa using h3⟩⟩⟩,rfl⟩
theorem q5u{n:Nat}{ts:List T3}(hT:∀ e∈ts,e.f<n/\e.t<n){e:Edge}:e∈zY n (nT n (List.replicate (n*n) 0) ts)↔e∈ts.map toE:=by
 rw[qzy,List.mem_map]
 have h0:∀ x,(List.replicate (n*n) 0).getD x 0=0:=fun x=>by
  rw[List.getD_eq_getElem?_getD,List.getElem?_replicate]
  split<;>rfl
 constructor
 ·rintro ⟨h1,h2,h3⟩
  obtain⟨g1,g2⟩:=qlu h1 h2 ts _ (List.length_replicate) hT (by rw[h0];omega)
  rw[h0]at g1 g2
  unfold aFT at h3
  obtain⟨f,t,s⟩:=e
  cases s
  ·simp only[Bool.false_eq_true,if_false]at h3
   rw[g1]at h3
   rcases h3 with h3|⟨x,hx,a,b,c⟩
   ·omega
   ·exact⟨x,hx,by unfold toE;rw[a,b,c]⟩
  ·simp only[if_true]at h3
   rw[g2]at h3
   rcases h3 with h3|⟨x,hx,a,b,c⟩
   ·omega
   ·exact⟨x,hx,by unfold toE;rw[a,b,c]⟩
 ·rintro ⟨x,hx,rfl⟩
  obtain⟨h1,h2⟩:=hT x hx
  obtain⟨g1,g2⟩:=qlu (i:=x.f) (k:=x.t) h1 h2 ts _ (List.length_replicate) hT (by rw[h0];omega)
  refine⟨h1,h2,?_⟩
  show if decide (x.s=1)=true then _ else _
  cases hs:decide (x.s=1)
  ·rw[if_neg (by simp)]
   exact g1.2 (.inr ⟨x,hx,rfl,rfl,hs⟩)
  ·rw[if_pos rfl]
   exact g2.2 (.inr ⟨x,hx,rfl,rfl,hs⟩)
def zN(S:List Edge)(i:Nat):Bool:=decide (i=0)|| !decide (S[i]? =S[i-1]?)
def lS(S:List Edge)(m:Nat):List Edge:=(List.range m).filterMap fun i=>if zN S i then S[i]? else none
def jE(S:List Edge):List Edge:=lS S S.length
theorem qtg(S:List Edge){m:Nat}(h:m<S.length):lS S (m+1)=lS S m++if zN S m then[S[m]]else[]:=by
 unfold lS
 rw[List.range_succ,List.filterMap_append]
 congr 1
 rw[List.filterMap_cons,List.filterMap_nil,List.getElem?_eq_getElem h]
 cases zN S m<;>rfl
theorem zf1{S:List Edge}{x:Edge}:x∈jE S↔x∈S:=by
 unfold jE lS
 rw[List.mem_filterMap]
 constructor
 ·rintro ⟨i,hi,h⟩
  split at h
  ·exact List.mem_of_getElem? h
  ·cases h
 ·intro hx
  have hlt:S.findIdx (fun y=>decide (y=x))<S.length:=by rw[List.findIdx_lt_length];exact⟨x,hx,by simp⟩
  have hp:=List.findIdx_getElem (w:=hlt)
  refine⟨S.findIdx fun y=>decide (y=x),List.mem_range.2 hlt,?_⟩
  have he:S[S.findIdx fun y=>decide (y=x)]=x:=by simpa using hp
  have hk:zN S (S.findIdx fun y=>decide (y=x))=true:=by
   unfold zN
   rw[Bool.or_eq_true]
   by_cases h0:(S.findIdx fun y=>decide (y=x))=0
   ·simp_all
   ·right
    rw[Bool.not_eq_true',decide_eq_false_iff_not]
    intro h
    have hn:=List.not_of_lt_findIdx (xs:=S) (p:=fun y=>decide (y=x)) (i:=(S.findIdx fun y=>decide (y=x))-1) (by omega)
    rw[List.getElem?_eq_getElem hlt,List.getElem?_eq_getElem (by omega),he]at h
    injection h with h
    rw[<-h]at hn
    simp at hn
  simp_all
theorem zuj{S:List Edge}(hS:S.Pairwise fun x y=>¬ mE y x):Asc (jE S):=by
 unfold jE lS
 show List.Pairwise mE _
 rw[List.pairwise_filterMap]
 refine List.Pairwise.imp_of_mem ?_ List.pairwise_lt_range
 intro i j hi hj hij x hx y hy
 have hjl:j<S.length:=List.mem_range.1 hj
 have hil:i<S.length:=List.mem_range.1 hi
 split at hy
 ·rename_i hk
  split at hx
  ·rw[List.getElem?_eq_getElem hil]at hx
   rw[List.getElem?_eq_getElem hjl]at hy
   injection hx with hx
   injection hy with hy
   subst hx hy
   have hp:=List.pairwise_iff_getElem.1 hS
   have h1:=hp i j hil hjl hij
   by_cases hlt:mE S[i] S[j]
   ·exact hlt
   ·exfalso
    have e:=mE.tri hlt h1
    have h2:=hp (j-1) j (by omega) hjl (by omega)
    have h3:¬ mE S[j-1] S[j]:=by
     rw[<-e]
     by_cases he:i=j-1
     ·simp_all
     ·exact hp i (j-1) hil (by omega) (by omega)
    have e2:=mE.tri h3 h2
    unfold zN at hk
    rw[Bool.or_eq_true,Bool.not_eq_true',decide_eq_false_iff_not,List.getElem?_eq_getElem hjl,List.getElem?_eq_getElem (by omega),e2]at hk
    rcases hk with hk|hk
    ·simp at hk;omega
    ·exact hk rfl
  ·cases hx
 ·cases hy
theorem Asc.ext{l l':List Edge}(h:Asc l)(h':Asc l')(hm:∀ x,x∈l↔x∈l'):l=l' :=
 Asc.uniq h h' ((List.perm_ext_iff_of_nodup h.nodup h'.nodup).2 hm)
def sortE(S:List Edge):List Edge:=S.mergeSort fun x y=> !ltE y x
theorem zkc(S:List Edge):(sortE S).Pairwise fun x y=>¬ mE y x:=by
 have h:=List.pairwise_mergeSort (le:=fun x y=> !ltE y x) (fun a b c=>by
  simp only[Bool.not_eq_true',qzn]
  unfold mE
  omega) (fun a b=>by
  simp only[Bool.or_eq_true,Bool.not_eq_true',qzn]
  unfold mE
  omega) S
 refine List.Pairwise.imp ?_ h
 intro a b h
 rwa [Bool.not_eq_true',qzn]at h
theorem quk{S:List Edge}{x:Edge}:x∈sortE S↔x∈S:=(List.mergeSort_perm _ _).mem_iff
theorem qul(S:List Edge):(sortE S).length=S.length:=List.length_mergeSort _
theorem qzh{n:Nat}{ts:List T3}(hT:∀ e∈ts,e.f<n/\e.t<n):zY n (nT n (List.replicate (n*n) 0) ts)=jE (sortE (ts.map toE)) :=
 Asc.ext (q33 n _).asc (zuj (zkc _)) fun x=>by rw[q5u hT,zf1,quk]
end Go.Di
end
section
namespace Go.Di
open Go.Ev
variable {C:Nat->Ev.Call}
abbrev lG(S:List Edge):List AV:=S.flatMap Edge.cells
theorem cells3(e:Edge):e.cells.length=3:=rfl
theorem qe2(S:List Edge):(lG S).length=S.length*3:=by
 induction S with
 |nil=>rfl
 |cons a S ih=>unfold lG at *;rw[List.flatMap_cons,List.length_append,ih,cells3,List.length_cons];omega
theorem qwd(q:Nat)(A Z:List AV)(S:List Edge){i:Nat}(h:i<S.length):iZ (aD q (A++lG S++Z)) (A.length+i*3) 3=some S[i].cells:=by
 have hl:=qe2 S
 rw[qb2,if_pos (by simp only[List.length_append];omega),List.append_assoc,<-List.drop_drop,List.drop_left' rfl,List.drop_append_of_le_length (by omega),List.take_append_of_le_length (by rw[List.length_drop];omega),qmn cells3 S i h]
theorem zuo(A Z:List AV)(e:Edge):∀(S:List Edge) (i:Nat),i<S.length->bD (A++lG S++Z) (A.length+i*3) e.cells=A++lG (S.set i e)++Z:=by
 have core:∀(S:List Edge) (i:Nat),i<S.length->bD (lG S++Z) (i*3) e.cells=lG (S.set i e)++Z:=by
  intro S
  induction S with
  |nil=>intro i h;simp at h
  |cons a S ih =>
   intro i h
   cases i with
   |zero=>simp[bD,lG,Edge.cells]
   |succ i =>
    have:=ih i (by simpa using h)
    unfold lG at *
    rw[List.set_cons_succ,List.flatMap_cons,List.flatMap_cons,List.append_assoc,List.append_assoc,<-this]
    unfold bD
    rw[show(i+1)*3=a.cells.length+i*3 by rw[cells3];omega,List.take_length_add_append,List.append_assoc,List.append_assoc,List.append_assoc,Nat.add_assoc,List.drop_length_add_append]
 intro S i h
 rw[List.append_assoc,List.append_assoc,<-core S i h]
 unfold bD
 rw[List.take_length_add_append,Nat.add_assoc,List.drop_length_add_append]
 simp
theorem qj9(neg:Bool)(x y:Edge):qZ neg (lT (eqFields [(p1,⟨qjm⟩,0),(p1,⟨qjm⟩,1),(p1,⟨qfo⟩,2)]) (.agg x.cells) (.agg y.cells))= .val (.bool (bif neg then !decide (x=y)else decide (x=y))):=by
 have e:lT (eqFields [(p1,⟨qjm⟩,0),(p1,⟨qjm⟩,1),(p1,⟨qfo⟩,2)]) (.agg x.cells) (.agg y.cells)=some (decide (x=y)):=by
  show andThen (some (pK (.ofNat x.f) (.ofNat y.f))) (andThen (some (pK (.ofNat x.t) (.ofNat y.t))) (andThen (some (x.s==y.s)) (some true)))=_
  obtain⟨a,b,c⟩:=x
  obtain⟨d,e,f⟩:=y
  simp only[qek,q28]
  by_cases h1:a=d
  ·by_cases h2:b=e
   ·cases c<;>cases f<;>simp[andThen,h1,h2]
   ·simp[andThen,h1,h2]
  ·simp[andThen,h1]
 rw[e];rfl
theorem zgc(n m i:Nat)(h:i<=n)(h2:n<=m):bounds n m (some (iN i)) none none=some ⟨i,n,m⟩:=by
 show(match(bif Nat.ble i n then some i else none)with|none=>none|some l=>some (Bd.mk l n m))=_
 rw[ble_eq,decide_eq_true h];rfl
theorem q2c(b o n i:Nat)(e:Bool)(h:i<n):lH 3 (.sl b o n n e) (some (iN i)) none none= .val (.sl b (o+i*3) (n-i) (n-i) e):=by
 show(match bounds n n (some (iN i)) none none with|some bd=>gU b o 3 bd e|none=>R0.bad)=_
 rw[zgc _ _ _ (by omega) (Nat.le_refl _)]
 unfold gU
 simp only[beq_eq]
 rw[decide_eq_false (by omega)];rfl
theorem zkd(b o n i:Nat)(e:Bool)(h:i<=n)(h0:0<n):lH 3 (.sl b o n n e) none (some (iN i)) none= .val (.sl b o i n e):=by
 show(match bounds n n none (some (iN i)) none with|some bd=>gU b o 3 bd e|none=>R0.bad)=_
 rw[qwh _ _ _ h]
 unfold gU
 simp only[beq_eq]
 rw[decide_eq_false (by omega),cond_false]
 rfl
structure CpO(H:Hp)(b q:Nat)(A:List AV)(l:List Edge)(w:AV)(e:Bool)(H':Hp):Prop where
 is:∃ m Z,w= .sl b A.length l.length m e/\l.length<=m/\0<m/\H'.get b=aD q (A++lG l++Z)
 fm:Fm (· =b) H H'
 nx:H'.nx=H.nx
theorem qwa{call:Ev.Call}{H0:Hp}{b q k0:Nat}{A:List AV}{S:List Edge}{e:Bool}(hb:b<H0.nx)(hk0:0<k0/\k0<S.length)(hn:S.length<900000){Q:AV->Hp->Prop}{qe:AV->Hp->R1}
  (hq:∀ H cur,cur.length=S.length->H.get b=aD q (A++lG cur++[])->cur.take (jE S).length=jE S->(jE S).length<S.length->0<(jE S).length->Fm (· =b) H0 H->H.nx=H0.nx->Ok (qe (iN ((jE S).length)) H) Q) :
  ∀(k k2:Nat) (H:Hp) (cur:List Edge),1<=k2->k0+k2<=S.length->S.length-(k0+k2)<k->cur.length=S.length->H.get b=aD q (A++lG cur++[])->(∀p (h:p<S.length) (h':p<cur.length),k0+k2-1<=p->cur[p]=S[p]) ->
   cur.take (lS S (k0+k2)).length=lS S (k0+k2)->(lS S (k0+k2)).length<k0+k2->0<(lS S (k0+k2)).length->Fm (· =b) H0 H->H.nx=H0.nx ->
   Ok (qki call qe (.sl b A.length S.length S.length e) (.sl b (A.length+k0*3) (S.length-k0) (S.length-k0) e) k (iN ((lS S (k0+k2)).length)) (iN k2) H) Q
 |0,k2,_,_,_,_,h,_,_,_,_,_,_,_,_=>by omega
 |k+1,k2,H,cur,h1,h2,h3,hc,hg,hp,ht,hl,h0,hf,hx=>by
  show Ok (qxd call _ _ _ (qki call _ _ _ k) _ _ H) Q
  unfold qxd
  obtain⟨k01,k02⟩:=hk0
  by_cases hlt:k0+k2<S.length
  ·have hlt':k2<S.length-k0:=by omega
   have hlt2:k2-1<S.length-k0:=by omega
   unfold q8e
   have r1:=qwd q A [] cur (i:=k0+k2) (by omega)
   have r2:=qwd q A [] cur (i:=k0+k2-1) (by omega)
   rw[hp (k0+k2) hlt (by omega) (by omega)]at r1
   rw[hp (k0+k2-1) (by omega) (by omega) (by omega)]at r2
   rw[show A.length+(k0+k2)*3=A.length+k0*3+k2*3 by omega]at r1
   rw[show A.length+(k0+k2-1)*3=A.length+k0*3+(k2-1)*3 by omega]at r2
   rw[List.append_nil]at r1 r2
   have hg':H.get b=aD q (A++lG cur):=by rw[hg,List.append_nil]
   have hsucc:=qtg S hlt
   have next:∀(H':Hp) (cur':List Edge) (i':Nat),i'=(lS S (k0+k2+1)).length->cur'.length=S.length->H'.get b=aD q (A++lG cur'++[])->(∀p (h:p<S.length) (h':p<cur'.length),k0+(k2+1)-1<=p->cur'[p]=S[p]) ->
     cur'.take (lS S (k0+(k2+1))).length=lS S (k0+(k2+1))->(lS S (k0+(k2+1))).length<k0+(k2+1)->0<(lS S (k0+(k2+1))).length->Fm (· =b) H0 H'->H'.nx=H0.nx ->
     Ok (qqa call (qki call qe (.sl b A.length S.length S.length e) (.sl b (A.length+k0*3) (S.length-k0) (S.length-k0) e) k) (iN i') (iN k2) H') Q:=fun H' cur' i' hi' a1 a2 a3 a4 a5 a6 a7 a8=>by
    subst hi'
    unfold qqa
    simp(disch:=omega) only[go_sem]
    exact qwa hb ⟨k01,k02⟩ hn hq k (k2+1) H' cur' (by omega) (by omega) (by omega) a1 a2 a3 a4 a5 a6 a7 a8
   have hke:zN S (k0+k2)= !decide (S[k0+k2]=S[k0+k2-1]):=by
    unfold zN
    rw[decide_eq_false (show ¬k0+k2=0 by omega),Bool.false_or,List.getElem?_eq_getElem hlt,List.getElem?_eq_getElem (by omega)]
    simp
   by_cases hd:S[k0+k2]=S[k0+k2-1]
   ·have hdt:=eq_true hd
    rw[hke,decide_eq_true hd]at hsucc
    rw[show lS S (k0+k2)++(if(!true)=true then[S[k0+k2]]else[])=lS S (k0+k2)by simp]at hsucc
    simp(disch:=omega) only[go_sem,hlt',hg',r1,r2,qj9,hdt]
    exact next H cur _ (by rw[hsucc]) hc hg (fun p a b c=>hp p a b (by omega)) (by rw[<-Nat.add_assoc,hsucc];exact ht) (by rw[<-Nat.add_assoc,hsucc];omega) (by rw[<-Nat.add_assoc,hsucc];exact h0) hf hx
   ·rw[hke,decide_eq_false hd]at hsucc
    rw[show lS S (k0+k2)++(if(!false)=true then[S[k0+k2]]else[])=lS S (k0+k2)++[S[k0+k2]]by simp]at hsucc
    have hil:(lS S (k0+k2)).length<S.length:=by omega
    have hle:=eq_true (show A.length+(lS S (k0+k2)).length*3+S[k0+k2].cells.length<=(A++lG cur).length by
     have:=qe2 cur
     rw[List.length_append,cells3];omega)
    have hset:=zuo A [] S[k0+k2] cur (lS S (k0+k2)).length (by omega)
    rw[List.append_nil,List.append_nil]at hset
    have hc3:S[k0+k2].cells.length=3:=rfl
    simp(disch:=omega) only[go_sem,hlt',hg',r1,r2,qj9,hd,q15,hc3]
    rw[hc3]at hle
    simp only[go_sem,hle,hset]
    have hcl:(cur.set (lS S (k0+k2)).length S[k0+k2]).length=S.length:=by rw[List.length_set,hc]
    have hl1:(lS S (k0+k2+1)).length=(lS S (k0+k2)).length+1:=by rw[hsucc];simp
    refine next _ (cur.set (lS S (k0+k2)).length S[k0+k2]) _ hl1.symm hcl ?_ (fun p a b c=> ?_) ?_ ?_ ?_ (hf.put _ _ fun _=>rfl) hx
    ·rw[List.append_nil];exact eP _ _ _
    ·rw[List.getElem_set_ne (by omega)]
     exact hp p a (by omega) (by omega)
    ·rw[<-Nat.add_assoc,hl1,hsucc]
     rw[List.take_succ_eq_append_getElem (by omega),List.take_set_of_le (Nat.le_refl _),ht,List.getElem_set_self]
    ·rw[<-Nat.add_assoc,hl1];omega
    ·rw[<-Nat.add_assoc,hl1];omega
  ·have he:k0+k2=S.length:=by omega
   have hlt':¬ k2<S.length-k0:=by omega
   simp only[go_sem,hlt']
   rw[he]at ht hl h0 ⊢
   exact hq H cur hc hg ht hl h0 hf hx
theorem qth{S:List Edge}:∀{m:Nat},m<=S.length->(∀i,i<m->zN S i=true)->lS S m=S.take m
 |0,_,_=>rfl
 |m+1,h,hk=>by
  rw[qtg S h,qth (by omega) fun i hi=>hk i (by omega),hk m (by omega),List.take_succ_eq_append_getElem h];rfl
theorem q38{call:Ev.Call}{H0:Hp}{b q:Nat}{A:List AV}{S:List Edge}{e:Bool}(hb:b<H0.nx)(hn:S.length<900000)(hg:H0.get b=aD q (A++lG S++[])){Q:AV->Hp->Prop}{qe:Hp->R1}{qr:AV->Hp->R1}
  (hr:∀ w H,CpO H0 b q A (jE S) w e H->Ok (qr w H) Q) (hq:jE S=S->Ok (qe H0) Q) :
  ∀(k i:Nat),0<i->i<=S.length->S.length-i<k->(∀p,p<i->zN S p=true)->Ok (q0u call qr qe (.sl b A.length S.length S.length e) k (iN i) H0) Q
 |0,i,_,_,h,_=>by omega
 |k+1,i,h0,hi,hk,hp=>by
  show Ok (q8f call _ _ _ (q0u call _ _ _ k) _ H0) Q
  unfold q8f
  by_cases hlt:i<S.length
  ·have hlt2:i-1<S.length:=by omega
   unfold q8d
   have r1:=qwd q A [] S hlt
   have r2:=qwd q A [] S hlt2
   rw[List.append_nil]at r1 r2
   have hg':H0.get b=aD q (A++lG S):=by rw[hg,List.append_nil]
   have hke:zN S i= !decide (S[i]=S[i-1]):=by
    unfold zN
    rw[decide_eq_false (show ¬i=0 by omega),Bool.false_or,List.getElem?_eq_getElem hlt,List.getElem?_eq_getElem hlt2]
    simp
   by_cases hd:S[i]=S[i-1]
   ·have hdt:=eq_true hd
    have hsl:=q2c b A.length S.length i e hlt
    rw[decide_eq_true hd]at hke
    have hsucc:=qtg S hlt
    rw[hke]at hsucc
    have hall:=qth (Nat.le_of_lt hlt) hp
    have hdd:lS S (i+1)=S.take i:=by rw[hsucc,hall];simp
    have hl1:(lS S (i+1)).length=i:=by rw[hdd,List.length_take];omega
    simp(disch:=omega) only[go_sem,hlt,hg',r1,r2,qj9,hdt,hsl]
    unfold q8g
    rw[dI]
    have main:=qwa (call:=call) (Q:=Q) (e:=e) (qe:=fun x3 H=>qqb call qr (.sl b A.length S.length S.length e) x3 H) hb (k0:=i) (S:=S) (A:=A) (q:=q) ⟨h0,hlt⟩ hn (fun H cur hc hgc ht hl hp0 f hx=>by
     unfold qqb
     have s1:=q2c b A.length S.length (jE S).length e hl
     have s2:=zkd b A.length S.length (jE S).length e (by omega) (by omega)
     have hz:¬ S.length-(jE S).length=0:=by omega
     have hcl:qg3 [iN 0,iN 0,.bool false] H (.sl b (A.length+(jE S).length*3) (S.length-(jE S).length) (S.length-(jE S).length) e)= .ok .undef (H.put b (aD q (A++lG (jE S)++bB [iN 0,iN 0,.bool false] (S.length-(jE S).length)))):=by
      show(bif Nat.beq (S.length-(jE S).length) 0 then _ else storeAt H b (A.length+(jE S).length*3) (bB [iN 0,iN 0,.bool false] (S.length-(jE S).length)) .undef)=_
      rw[beq_eq,decide_eq_false hz,cond_false]
      have hrl:∀ n,(bB [AV.int .i64 (.ofNat 0),iN 0,.bool false] n).length=n*3:=fun n=>by
       induction n with
       |zero=>rfl
       |succ n ih=>show(_++bB _ n).length=_;rw[List.length_append,ih];simp;omega
      have hcn:=qe2 cur
      have bPG:=qe2 (jE S)
      have hsplit:lG cur=lG (jE S)++lG (cur.drop (jE S).length):=by
       rw[<-List.flatMap_append]
       congr 1
       conv=>lhs;rw[<-List.take_append_drop (jE S).length cur,ht]
      rw[qcg H b _ _ _ q _ hgc (by rw[List.length_append,List.length_append,hrl,List.length_nil];omega)]
      congr 3
      unfold bD
      rw[hsplit,List.append_nil,<-List.append_assoc,List.take_left' (by rw[List.length_append];omega),hrl]
      rw[List.drop_eq_nil_of_le (by rw[List.length_append,List.length_append,qe2,qe2,List.length_drop];omega),List.append_nil]
     simp only[go_sem,s1,hcl,s2]
     exact hr _ _ ⟨⟨S.length,_,rfl,by omega,by omega,eP _ _ _⟩,f.put _ _ fun _=>rfl,hx⟩) cK 1 H0 S (Nat.le_refl _) (by omega) (by rw[dK];omega) rfl hg (fun _ _ _ _=>rfl) (by rw[hl1,hdd]) (by omega) (by omega) (Fm.refl _ _) rfl
    simp_all
   ·rw[decide_eq_false hd]at hke
    simp(disch:=omega) only[go_sem,hlt,hg',r1,r2,qj9,hd]
    unfold zn5
    simp(disch:=omega) only[go_sem]
    refine q38 hb hn hg hr hq k (i+1) (by omega) (by omega) (by omega) fun p hpi=> ?_
    by_cases he:p=i
    ·simp_all
    ·exact hp p (by omega)
  ·simp only[go_sem,hlt]
   refine hq ?_
   have:=qth (Nat.le_refl S.length) fun p hpi=>hp p (by omega)
   rw[List.take_length]at this
   exact this
theorem q6m(hC:bC C){k:Nat}(hk:1<=k){H:Hp}{b q:Nat}{A:List AV}{S:List Edge}{e:Bool}(hb:b<H.nx)(hn:S.length<900000)(h0:0<S.length)(hg:H.get b=aD q (A++lG S++[])) :
  Ok (C k (.f 70) [.sl b A.length S.length S.length e] H) fun w H'=>CpO H b q A (jE S) w e H':=by
 obtain⟨j,rfl⟩:=aW hk
 rw[(hC j).zCb]
 unfold zCb zq0
 have same:jE S=S->CpO H b q A (jE S) (.sl b A.length S.length S.length e) e H:=fun h=>by
  rw[h]
  exact⟨⟨S.length,[],rfl,Nat.le_refl _,h0,hg⟩,Fm.refl _ _,rfl⟩
 have k0:zN S 0=true:=rfl
 by_cases h:S.length<2
 ·simp only[go_sem,h]
  refine Ok.ret (same ?_)
  have:=qth (S:=S) (Nat.le_refl S.length) fun p hp=>by
   obtain rfl:p=0:=by omega
   exact k0
  rw[List.take_length]at this
  exact this
 ·simp only[go_sem,h]
  unfold q8c zn7
  rw[dI]
  refine q38 hb hn hg (fun w H' h=>Ok.ret h) (fun h=> ?_) cK 1 (by omega) (by omega) (by rw[dK];omega) (fun p hp=>by
   obtain rfl:p=0:=by omega
   exact k0)
  exact Ok.ret (same h)
end Go.Di
end
