/-
 For ReachesGoals: the evaluator and its soundness, part 4 of 4: what a run of the abstract evaluator answers, the model's run answers, in every world and on every schedule. No conditions beyond those that each theorem states.
-/
import Derived.Test.YtnojgpkbpnimhaaGreatEv3
import Derived.Sort.Defs
import Derived.Lib.BitFns
import Derived.Shelf.GgSortFunc.InsertionK
import Derived.WideKeyArgs
import Derived.Carry
import Derived.OpenShut
import Derived.ProofKit
import Derived.WalkKit
noncomputable section
namespace Go.Ev
open Go.RowKit Go.Sort
variable {P:Program} {w:World} {ι:Im} {H:Hp}
def headA(H:Hp):AV->Option Int
 | .sl b o n _ _=>bif Nat.blt 0 n then(match bX (H.get b) o with| .val (.int .i64 z)=>some z|_=>none)else none
 |_=>none
def qpz(H:Hp):List AV->Option (List Int)
 | []=>some []
 |v::l=>match headA H v,qpz H l with|some z,some r=>some (z::r)|_,_=>none
def aCV(zs:List Int)(i j:Fin zs.length):Bool:=decide (zs[i]-zs[j]<0)
def eB(zs:List Int)(h:0<zs.length):Array (Fin zs.length):=
 letI:Inhabited (Fin zs.length):=⟨⟨0,h⟩⟩
 pdq (aCV zs) (Array.finRange zs.length) 0 (Array.finRange zs.length).size (Go.Lib.bitLen (Array.finRange zs.length).size) true true
structure aIV(zs:List Int):Prop where
 pos:0<zs.length
 len:zs.length<4611686018427387904
 rng:∀ z∈zs,0<=z/\z<4611686018427387904
open Classical in
def qoz(H:Hp)(b o n:Nat):Option R1:=
 match fD (H.get b) o n with
 |some l=>match qpz (H.put b .dead) l with
  |some zs=>if h:aIV zs then(match storeAt H b o ((eB zs h.pos).toList.map fun i:Fin zs.length=>l.getD i.1 .undef) (.bA [])with
   | .ok v H'=>bif Nat.beq (eB zs h.pos).size zs.length then some (.ok v H')else none
   | .bad=>none)else none
  |none=>none
 |none=>none
def qnc(f fc:FuncId)(e:Ext):Ext:=fun g args H=>
 bif Nat.beq g f then(match args with
 | [.sl b o n _ _,.fn c [] []]=>bif Nat.beq c fc then(bif Nat.beq n 0 then some (.ok (.bA []) H)else qoz H b o n)else none
 | [.aA,.fn c [] []]=>bif Nat.beq c fc then some (.ok (.bA []) H)else none
 |_=>none)else e g args H
def pW(P:Program)(f:FuncId):Prop:=∀ p cap fv w,Calls P f #[.slice p 0 cap,fv] w fun e w'=>e=.returned (.tuple #[])/\w'=w
theorem qoy{f:FuncId}(b:pW P f){p:Option Addr}{a:Nat}{fv:Value}(c:HR ι H w):Calls P f #[.slice p 0 a,fv] w (Post ι H w (.bA []) H):=
 (b p a fv w).mono fun e w' d=>by obtain⟨rfl,rfl⟩:=d;exact⟨ι,by simp[aO,aL],c,Fr.refl _ _ _⟩
def oH(P:Program)(f fc:FuncId):Prop:=∀(zs:List Int) (h:aIV zs) (enc:Fin zs.length->Value) (blk off cap:Nat) (w:World),
 letI:Inhabited (Fin zs.length):=⟨⟨0,h.pos⟩⟩
 (∀i:Fin zs.length,∃ba oa na ca,enc i=.slice (some ⟨ba,oa,none⟩) na ca/\0<na/\ba≠blk/\ba<w.heap.size/\w.cell? ⟨ba,oa,none⟩=some (.int .i64 zs[i])) ->
 Holds enc w blk off (Array.finRange zs.length)->blk<w.heap.size ->
 Calls P f #[.slice (some ⟨blk,off,none⟩) zs.length cap,.func (.func fc) #[] #[]] w fun e w'=>e=.returned (.tuple #[])/\∃ n os,w'=Go.Sort.grow (putRow enc (Sort.ahead w n) blk off (eB zs h.pos)) os
theorem qsl{H:Hp}:∀{l:List AV} {zs:List Int},qpz H l=some zs->l.length=zs.length/\∀ i (h:i<l.length) (a:i<zs.length),headA H l[i]=some zs[i]
 | [],zs,h=>by cases h;exact⟨rfl,fun i h=>absurd h (lAD _)⟩
 |v::l,zs,h=>by
  unfold qpz at h;split at h
  ·rename_i z r b c;cases h;obtain⟨d,e⟩:=qsl c;refine⟨by simp[d],fun i h a=>?_⟩;cases i with
   |zero=>exact b
   |succ i=>exact e i (by simpa using h) (by simpa using a)
  ·cases h
theorem zk9{H:Hp}{v:AV}{z:Int}(h:headA H v=some z):∃ b o n m x,v=.sl b o n m x/\0<n/\bX (H.get b) o=.val (.int .i64 z):=by
 unfold headA at h;split at h
 ·rename_i b o n m x;cases a:Nat.blt 0 n with
  |false=>rw[a]at h;cases h
  |true=>
   rw[a]at h;simp only[uB]at h;split at h
   ·rename_i d c;cases h;exact⟨_,_,_,_,_,rfl,pK a,c⟩
   ·cases h
 ·cases h
theorem zi6{f W:FuncId}(hf:oH P f W){b o n m:Nat}{x:Bool}{v:AV}{X:Hp}(h:qoz H b o n=some (.ok v X)){Y:List Value}(u:HR ι H w)(Z:aL ι [.sl b o n m x,.fn W [] []] Y):Calls P f Y.toArray w (Post ι H w v X):=by
 simp only[aL,aO]at Z;obtain⟨V,r,rfl,⟨hnm,loc,E,rfl⟩,V2,r2,rfl,⟨_,_,rfl,rfl,rfl⟩,rfl⟩:=Z;unfold qoz at h;split at h
 ·rename_i l hl;split at h
  ·rename_i zs hz;split at h
   ·rename_i g;split at h
    ·rename_i v' H2 R;cases p:Nat.beq (eB zs g.pos).size zs.length with
     |false=>rw[p]at h;cases h
     |true=>
      rw[p]at h;cases h;have p:=rf p;obtain⟨dd,nn,c,ro,zz,F,hle,hll,G⟩:=qe5 hl;obtain⟨rfl,rfl,rfl,_⟩:=qfm F R;obtain⟨hlz,hh⟩:=qsl hz
      letI:Inhabited (Fin zs.length):=⟨⟨0,g.pos⟩⟩
      have A:=u.lt E;have hB:=u.blk b A;rw[F]at hB;obtain⟨l',b1,b2,b3,b4⟩:=hB;rw[E]at b1;cases b1;have hn:n=zs.length:=by omega
      subst hn;have N:loc.blk<w.heap.size:=u.low b loc A (by rw[F];rfl) E;have hV:∀ i:Fin zs.length,∃V,w.cell? ⟨loc.blk,loc.base+o+i,none⟩=some V/\aO ι (l.getD i .undef) V/\V.oneCell=true/\w.frozen? ⟨loc.blk,loc.base+o+i,none⟩=false:=fun i=>by obtain⟨V,c1,c2,c3,c4⟩:=b3 (o+i) (by have:=i.2;omega);rw[<-uu]at c1 c4;refine⟨V,c1,?_,c3,c4 rfl⟩;rw[gy,G i i.2];exact c2
      let enc:Fin zs.length->Value:=fun i=>Classical.choose (hV i)
      have q:∀ i:Fin zs.length,w.cell? ⟨loc.blk,loc.base+o+i,none⟩=some (enc i)/\aO ι (l.getD i .undef) (enc i)/\(enc i).oneCell=true/\w.frozen? ⟨loc.blk,loc.base+o+i,none⟩=false:=fun i=>uw (hV i);have O:∀ j (h:j<(Array.finRange zs.length).size),((Array.finRange zs.length)[j]! :Fin zs.length)=⟨j,by simpa using h⟩:=fun j h=>by rw[getElem!_pos _ j h];simp
      have B:Holds enc w loc.blk (loc.base+o) (Array.finRange zs.length):=fun j z=>by obtain⟨S,_,_,e4⟩:=q ⟨j,by simpa using z⟩;rw[O j z];exact⟨S,e4⟩
      have Q:∀ i:Fin zs.length,∃K oa na ca,enc i=.slice (some ⟨K,oa,none⟩) na ca/\0<na/\K≠loc.blk/\K<w.heap.size/\w.cell? ⟨K,oa,none⟩=some (.int .i64 zs[i]):=fun i=>by
       have hi:=i.2;obtain⟨I,J,ni,mi,xi,S,L,a⟩:=zk9 (hh i (by omega) i.2);obtain⟨_,y,_,_⟩:=q i;rw[gy,lq (by omega)]at y;have y:aO ι (l[(i:Nat)]'(by omega)) (enc i):=y;rw[S]at y;simp only[aO]at y;obtain⟨_,M,T,k2⟩:=y;have C:I≠b:=fun e=>by subst e;rw[Hp.get_put _ _ _ _ p8 p8,qj rfl]at a;cases a
       rw[Hp.get_put _ _ _ _ p8 p8,pg C]at a;have D:=u.blk I p8;cases t:H.get I with
       |cells di ni' ci ri zi=>
        rw[t]at a D;have a:(bif Nat.blt J ni' then R0.val ((dR di J).f ci)else .bad)=.val (.int .i64 zs[i]):=a;cases s:Nat.blt J ni' with
        |false=>rw[s]at a;cases a
        |true=>rw[s]at a;simp only[uB,R0.val.injEq]at a;have s:=pK s;obtain⟨li',q1,q2,q3,_⟩:=D;rw[T]at q1;cases q1;obtain⟨Vi,p1,U,_,_⟩:=q3 J s;rw[a]at U;simp only[aO]at U;subst U;exact⟨M.blk,M.base+J,ni,_,k2,L,fun e=>C (u.inj b I loc M p8 p8 (by rw[F];rfl) (by rw[t];rfl) E T e.symm).symm,u.low I M p8 (by rw[t];rfl) T,p1⟩
       |_=>rw[t]at a;cases a
      refine(hf zs g enc loc.blk (loc.base+o) (if x then m else m+loc.ext) w Q B N).mono fun e w' hp=>?_;obtain⟨rfl,k,os,rfl⟩:=hp;obtain⟨g1,g2⟩:=quz enc u F E B (d:=eB zs g.pos) (l:=(eB zs g.pos).toList.map fun i:Fin zs.length=>l.getD i.1 .undef) (by rw[p];simp) (by simp) (by omega) (fun j z=>by obtain⟨_,L,a,_⟩:=q (eB zs g.pos)[j]!;refine⟨?_,a⟩;rw[getElem!_pos _ j z]at L ⊢;rw[gy (l:=(eB zs g.pos).toList.map _),xy,lq (by simpa using z)];exact L) k os;exact⟨ι,by simp only[aO,aL];exact⟨[],rfl,rfl⟩,g1,g2⟩
    ·cases h
   ·cases h
  ·cases h
 ·cases h
theorem q3e{e:Ext}(u:xC P e){f i:FuncId}(y:oH P f i)(s:pW P f)(t:qfv P f=true):xC P (qnc f i e):=by
 refine⟨fun g args H r a v z l ι w A j d=>?_⟩;unfold qnc at a;cases p:Nat.beq g f with
 |false=>rw[p]at a;exact u.fn g _ H r a v z l ι w A j d
 |true=>
  rw[p]at a;obtain rfl:=rf p;refine⟨qea t _,fun k=>callsIn_wide.2 ?_⟩;simp only[uB]at a;split at a
  ·rename_i b o n m x c;cases h:Nat.beq c i with
   |false=>rw[h]at a;cases a
   |true=>
    rw[h]at a;obtain rfl:=rf h;subst l;cases q:Nat.beq n 0 with
    |false=>rw[q]at a;exact zi6 y a j d
    |true=>rw[q]at a;cases a;obtain rfl:=rf q;simp only[aL,aO]at d;obtain⟨V,r,rfl,⟨B,loc,t,rfl⟩,V2,C,rfl,⟨_,_,rfl,rfl,rfl⟩,rfl⟩:=d;exact qoy s j
  ·rename_i c;cases h:Nat.beq c i with
   |false=>rw[h]at a;cases a
   |true=>rw[h]at a;cases a;cases l;simp only[aL,aO]at d;obtain⟨V,r,rfl,rfl,V2,C,rfl,⟨_,_,rfl,rfl,rfl⟩,rfl⟩:=d;exact qoy s j
  ·cases a
abbrev B3:=(ByteArray×ByteArray)×ByteArray
abbrev Tb:=B3×B3
def aD2(s:ByteArray):AV:=.str s.data.toList.length (kD s.data.toList)
def b3V(e:B3):List AV:=[aD2 e.1.1,aD2 e.1.2,aD2 e.2]
def yC(e:Tb):List AV:=b3V e.1++b3V e.2
def b3U(e:B3):List Value:=[.string e.1.1,.string e.1.2,.string e.2]
def tbU(e:Tb):List Value:=b3U e.1++b3U e.2
theorem qhe{s t:ByteArray}(h:aD2 s=aD2 t):s=t:=by injection h with h1 h2;have:=pack_inj h1 h2;cases s;cases t;simp only at this;rw[Array.toList_inj.1 this]
theorem zil:∀{l m:List Tb},l.flatMap yC=m.flatMap yC->l=m
 | [],[],_=>rfl
 | [],_::_,h=>by cases h
 |_::_,[],h=>by cases h
 |a::l,b::m,h=>by rw[uA,uA]at h;obtain⟨c,h⟩:=List.append_inj h rfl;injection c with h1 c;injection c with h2 c;injection c with h3 c;injection c with h4 c;injection c with h5 c;injection c with h6 _;rw[zil h,show a=b from Prod.ext (Prod.ext (Prod.ext (qhe h1) (qhe h2)) (qhe h3)) (Prod.ext (Prod.ext (qhe h4) (qhe h5)) (qhe h6))]
open Classical in
def zin(l:List AV):Option (List Tb):=if h:∃ es:List Tb,l=es.flatMap yC then some h.choose else none
theorem zim{l:List AV}{es:List Tb}(h:zin l=some es):l=es.flatMap yC:=by
 unfold zin at h;split at h
 ·rename_i a;injection h with h;rw[<-h];exact a.choose_spec
 ·cases h
theorem zru(es:List Tb):zin (es.flatMap yC)=some es:=by have a:∃ b:List Tb,es.flatMap yC=b.flatMap yC:=⟨es,rfl⟩;unfold zin;rw[dif_pos a];exact congrArg some (zil a.choose_spec).symm
structure aCN{α:Type}(c:α->α->Int):Prop where
 z:∀{x y},c x y=0↔x=y
 n:∀{x y},c x y<0↔0<c y x
 t:∀{x y w},c x y<0->c y w<0->c x w<0
def uI(x y:Int):Int:=if x=0 then y else x
def qY{α β:Type}(c:α->α->Int)(d:β->β->Int)(x y:α×β):Int:=uI (c x.1 y.1) (d x.2 y.2)
theorem aCN.lex{α β:Type}{c:α->α->Int}{d:β->β->Int}(h:aCN c)(g:aCN d):aCN (qY c d):=by
 have z:∀ x y,c x y=0↔c y x=0:=fun x y=>by rw[h.z,h.z];exact eq_comm
 refine⟨fun{x y}=>?_,fun{x y}=>?_,fun{x y w}=>?_⟩
 ·unfold qY uI;obtain⟨x,u⟩:=x;obtain⟨y,v⟩:=y;rw[Prod.mk.injEq,<-h.z,<-g.z];split<;>simp_all
 ·have e:=z x.1 y.1;have:=h.n (x:=x.1) (y:=y.1);have:=g.n (x:=x.2) (y:=y.2);unfold qY uI;split<;>split<;>omega
 ·obtain⟨x,u⟩:=x;obtain⟨y,v⟩:=y;obtain⟨w,s⟩:=w;have e:∀ p,c p p=0:=fun _=>h.z.2 rfl;show(if c x y=0 then d u v else c x y)<0->(if c y w=0 then d v s else c y w)<0->(if c x w=0 then d u s else c x w)<0;by_cases b:x=y
  ·subst b;rw[qj (e x)];by_cases a:x=w
   ·subst a;rw[qj (e x),qj (e x)];exact g.t
   ·rw[pg fun k=>a (h.z.1 k),pg fun k=>a (h.z.1 k)];exact fun _ k=>k
  ·rw[pg fun k=>b (h.z.1 k)];by_cases a:y=w
   ·subst a;rw[pg fun k=>b (h.z.1 k),qj (e y)];exact fun k _=>k
   ·rw[pg fun k=>a (h.z.1 k)];intro p q;have r:=h.t p q;rw[pg fun k=>by rw[k]at r;cases r];exact r
theorem q9j:∀(x y:List UInt8),Op.bytesLess x y=decide (x<y)
 | [],[]=>by simp[Op.bytesLess]
 |_::_,[]=>by simp[Op.bytesLess]
 | [],_::_=>by simp[Op.bytesLess]
 |a::x,b::y=>by rw[Op.bytesLess,q9j x y];simp only[List.cons_lt_cons_iff];by_cases c:a<b<;>by_cases d:a=b<;>by_cases e:x<y<;>simp[c,d,e]
def lD(s t:ByteArray):Int:=Lib.compareBytes s.data.toList t.data.toList
theorem qv8:aCN lD:=by
 have e:∀ s t:ByteArray,s.data.toList=t.data.toList->s=t:=fun s t h=>by cases s;cases t;simp only at h;rw[Array.toList_inj.1 h]
 have a:∀ s t:ByteArray,(s.data.toList<t.data.toList/\lD s t= -1)\/(s=t/\lD s t=0)\/(t.data.toList<s.data.toList/\lD s t=1):=fun s t=>by
  unfold lD;rw[qiu,q9j];by_cases h:s.data.toList<t.data.toList
  ·rw[qc h];exact .inl ⟨h,rfl⟩
  ·rw[ql h];by_cases k:s.data.toList=t.data.toList
   ·rw[qc k];exact .inr (.inl ⟨e s t k,rfl⟩)
   ·rw[ql k];exact .inr (.inr ⟨Classical.byContradiction fun w=>k (List.le_antisymm w h),rfl⟩)
 have c:∀{x y:List UInt8},x<y->y<x->False:=fun h k=>List.lt_irrefl _ (List.lt_trans h k);refine⟨fun{x y}=>?_,fun{x y}=>?_,fun{x y w}=>?_⟩
 ·rcases a x y with⟨h,k⟩|⟨h,k⟩|⟨h,k⟩
  ·exact⟨fun q=>by omega,fun q=>absurd h (by rw[q];exact List.lt_irrefl _)⟩
  ·exact⟨fun _=>h,fun _=>k⟩
  ·exact⟨fun q=>by omega,fun q=>absurd h (by rw[q];exact List.lt_irrefl _)⟩
 ·rcases a x y with⟨h,k⟩|⟨h,k⟩|⟨h,k⟩<;>rcases a y x with⟨b,d⟩|⟨b,d⟩|⟨b,d⟩
  all_goals first|omega|(exfalso;first|exact c h b|exact List.lt_irrefl _ (h▸b)|exact List.lt_irrefl _ (b▸h))
 ·rcases a x y with⟨h,k⟩|⟨h,k⟩|⟨h,k⟩<;>rcases a y w with⟨b,d⟩|⟨b,d⟩|⟨b,d⟩<;>rcases a x w with⟨f,k2⟩|⟨f,k2⟩|⟨f,k2⟩
  all_goals first|omega|(intros;exfalso;first|exact c (List.lt_trans h b) f|exact c h (List.lt_trans b (f▸List.lt_trans h b))|(subst f;exact c h b))
def yN:Tb->Tb->Int:=qY (qY (qY lD lD) lD) (qY (qY lD lD) lD)
theorem qcg:aCN yN:=have h:=(qv8.lex qv8).lex qv8;h.lex h
def qei(l:List Tb):List Tb:=l.mergeSort fun x y=> !decide (yN y x<0)
theorem qku(l:List Tb):(qei l).length=l.length:=lE6 _
theorem qjg(es:List Tb):(es.flatMap yC).length=es.length*6:=by
 induction es with
 |nil=>rfl
 |cons a l ih=>rw[uA,lL,ih,pq];show 6+_=_;omega
theorem q26:∀(es:List Tb) (t:Nat) (h:t<es.length*6),(es.flatMap yC)[t]? =(yC (es[t / 6]'(by omega)))[t%6]?
 | [],t,h=>by simp at h
 |a::l,t,h=>by
  rw[uA];by_cases d:t<6
  ·rw[uj (by show t<6;exact d)];have b:t / 6=0:=by omega
   have c:t%6=t:=by omega
   simp only[b,c,List.getElem_cons_zero]
  ·rw[uh (by show 6<=t;omega)];show(l.flatMap yC)[t-6]? =_;rw[pq]at h;rw[q26 l (t-6) (by omega)];have b:t / 6=(t-6) / 6+1:=by omega
   have c:t%6=(t-6)%6:=by omega
   simp only[b,c,List.getElem_cons_succ]
theorem zxo(e:Tb){i:Nat}(b:i<6){V:Value}:aO ι ((yC e).getD i .undef) V↔V=(tbU e)[i]!:=by
 have a:∀ s:ByteArray,aO ι (.str s.data.toList.length (kD s.data.toList)) V↔V=.string s:=fun s=>by
  simp only[aO];constructor
  ·rintro ⟨c,rfl,d,f⟩;have:=pack_inj d f;cases s;cases c;simp only at this;rw[Array.toList_inj.1 this]
  ·rintro rfl;exact⟨s,rfl,rfl,rfl⟩
 match i,b with
 |0,_=>exact a e.1.1.1
 |1,_=>exact a e.1.1.2
 |2,_=>exact a e.1.2
 |3,_=>exact a e.2.1.1
 |4,_=>exact a e.2.1.2
 |5,_=>exact a e.2.2
theorem z2c(e:Tb){i:Nat}(a:i<6):((tbU e)[i]!).oneCell=true:=by
 match i,a with
 |0,_|1,_|2,_|3,_|4,_|5,_=>rfl
def qxn(H:Hp)(b o n:Nat):Option R1:=
 match fD (H.get b) o (n*6)with
 |some l=>match zin l with
  |some es=>match storeAt H b o ((qei es).flatMap yC) (.bA [])with
   | .ok v H'=>bif Nat.blt n 4611686018427387904 then some (.ok v H')else none
   | .bad=>none
  |none=>none
 |none=>none
def oC(P:Program)(f fc:FuncId):Prop:=∀(d:Array Tb) (blk off cap:Nat) (w:World),Go.Sort.HoldsK tbU 6 w blk off d->blk<w.heap.size->d.size<4611686018427387904 ->
 Calls P f #[.slice (some ⟨blk,off,none⟩) d.size cap,.func (.func fc) #[] #[]] w fun e w'=>e=.returned (.tuple #[])/\∃ n os,w'=Go.Proofs.sortWorldK tbU 6 w blk off n (qei d.toList).toArray os
def wO(P:Program)(f:FuncId):Prop:=∀ p cap fv w,Calls P f #[.slice p 0 cap,fv] w fun e w'=>e=.returned (.tuple #[])/\w'=w
def qhf(f fc:FuncId)(e:Ext):Ext:=fun g args H=>
 bif Nat.beq g f then(match args with
 | [.sl b o n _ _,.fn c [] []]=>bif Nat.beq c fc then qxn H b o n else none
 | [.aA,.fn c [] []]=>bif Nat.beq c fc then some (.ok (.bA []) H)else none
 |_=>none)else e g args H
theorem zi5{f I:FuncId}(T:oC P f I){b o n m:Nat}{x:Bool}{v:AV}{J:Hp}(h:qxn H b o n=some (.ok v J)){K:List Value}(z:HR ι H w)(L:aL ι [.sl b o n m x,.fn I [] []] K):Calls P f K.toArray w (Post ι H w v J):=by
 simp only[aL,aO]at L;obtain⟨V,r,rfl,⟨Z,loc,B,rfl⟩,V2,r2,rfl,⟨_,_,rfl,rfl,rfl⟩,rfl⟩:=L;unfold qxn at h;split at h
 ·rename_i l hl;split at h
  ·rename_i es hz;have p:=zim hz;split at h
   ·rename_i v' H2 F;cases A:Nat.blt n 4611686018427387904 with
    |false=>rw[A]at h;cases h
    |true=>
     rw[A]at h;cases h;have A:=pK A;obtain⟨dd,nn,c,ro,zz,C,hle,G,y⟩:=qe5 hl;obtain⟨rfl,rfl,rfl,_⟩:=qfm C F;have q:=z.lt B;have M:=z.blk b q;rw[C]at M;obtain⟨l',Q,b2,b3,b4⟩:=M;rw[B]at Q;cases Q;have D:es.length=n:=by rw[p,qjg]at G;omega
     subst D;have N:∀(d:List Tb) (t:Nat),t<d.length*6->(Go.Sort.flatK tbU 6 d.toArray)[t]! =(tbU (d[t / 6]!))[t%6]! :=fun d t U=>by rw[Go.Sort.get_flatK tbU 6 d.toArray t (by simpa using U)];simp
     have s:Go.Sort.HoldsK tbU 6 w loc.blk (loc.base+o) es.toArray:=fun j a=>by
      have a:j<es.length*6:=by simpa using a
      obtain⟨V,R,S,c3,c4⟩:=b3 (o+j) (by omega);have X:=y j a;have O:=q26 es j a;rw[<-p,X]at O;have g:j%6<6:=xq _ (by omega);have Y:(dR dd (o+j)).f c=(yC (es[j / 6]'(by omega))).getD (j%6) .undef:=by rw[gy,<-O];rfl
      rw[Y,zxo _ g]at S;subst S;rw[<-uu]at R c4;refine⟨?_,c4 rfl⟩;rw[R];show some _=some (Go.Sort.flatK tbU 6 es.toArray)[j]!;rw[N es j a,getElem!_pos es (j / 6) (by omega)]
     have E:loc.blk<w.heap.size:=z.low b loc q (by rw[C];rfl) B;have i:=T es.toArray loc.blk (loc.base+o) (if x then m else m+loc.ext) w s E (by rw[List.size_toArray];omega);refine i.mono fun e w' W=>?_;obtain⟨rfl,k,os,rfl⟩:=W;have u:=qku es;obtain⟨g1,g2⟩:=quz (α:=Value) id z C B s (d:=Go.Sort.flatK tbU 6 (qei es).toArray) (l:=(qei es).flatMap yC) (by simp[u]) (by rw[qjg];simp) (by simp[u];omega) (fun j a=>by
      have a:j<(qei es).length*6:=by simpa using a
      have g:j%6<6:=xq _ (by omega);rw[N _ j a,getElem!_pos (qei es) (j / 6) (by omega)];refine⟨?_,z2c _ g⟩;rw[gy,q26 _ j a,<-gy];exact(zxo _ g).2 rfl) k os
     exact⟨ι,by simp only[aO,aL];exact⟨[],rfl,rfl⟩,g1,g2⟩
   ·cases h
  ·cases h
 ·cases h
theorem q3c{e:Ext}(q:xC P e){f h:FuncId}(s:oC P f h)(t:wO P f)(u:qfv P f=true):xC P (qhf f h e):=by
 refine⟨fun g args H r a v y j ι w z l i=>?_⟩;unfold qhf at a;cases p:Nat.beq g f with
 |false=>rw[p]at a;exact q.fn g _ H r a v y j ι w z l i
 |true=>
  rw[p]at a;obtain rfl:=rf p;refine⟨qea u _,fun k=>callsIn_wide.2 ?_⟩;simp only[uB]at a;split at a
  ·rename_i b o n m x c;cases d:Nat.beq c h with
   |false=>rw[d]at a;cases a
   |true=>rw[d]at a;obtain rfl:=rf d;subst j;exact zi5 s a l i
  ·rename_i c;cases d:Nat.beq c h with
   |false=>rw[d]at a;cases a
   |true=>rw[d]at a;cases a;cases j;simp only[aL,aO]at i;obtain⟨V,r,rfl,rfl,V2,B,rfl,⟨_,_,rfl,rfl,rfl⟩,rfl⟩:=i;exact(t none 0 _ w).mono fun e w' A=>by obtain⟨rfl,rfl⟩:=A;exact⟨ι,by simp[aO,aL],l,Fr.refl _ _ _⟩
  ·cases a
theorem q94(l:List Tb):(qei l).Perm l/\(qei l).Pairwise fun x y=>¬ yN y x<0:=by
 have d:∀ x y:Tb,(!decide (yN y x<0))=true↔¬ yN y x<0:=fun x y=>by rw[yh,zf]
 refine⟨List.mergeSort_perm _ _,(List.pairwise_mergeSort (fun a b c g f=>?_) (fun a b=>?_) l).imp fun h=>(d _ _).1 h⟩
 ·rw[d]at g f ⊢;intro h;by_cases k:yN a b<0
  ·exact f (qcg.t h k)
  ·have e:=qcg.n (x:=a) (y:=b);have i:=qcg.n (x:=b) (y:=a);have:a=b:=qcg.z.1 (by omega);subst this;exact f h
 ·rw[ah,d,d];have:=qcg.n (x:=a) (y:=b);omega
end Go.Ev
end
noncomputable section
namespace Go.Ev
open Go.RowKit
variable {P:Program} {w:World} {ι:Im} {H:Hp}
/- blocks that say the same -/
def q4g{d d':Nat}(c:TT AV d)(c':TT AV d')(k:Nat):Nat->Bool:=
 Nat.rec (motive:=fun _=>Nat->Bool) (fun _=>true) (fun _ ih o=>@Bool.rec (fun _=>Bool) false (ih (Nat.succ o)) (nC 64 ((dR d o).f c) ((dR d' o).f c'))) k
def q86:List gD->List gD->Bool
 | [],[]=>true
 |x::l,y::m=>nC 64 x.key y.key&&nC 64 x.val y.val&&Nat.beq x.born y.born&&q86 l m
 |_,_=>false
def zts(x y:bW):Bool:=
 match x,y with
 | .cells _ n c ro z,.cells d' n' c' ro' z'=>Nat.beq n n'&&Nat.ble n (8 ^ d')&&(ro==ro')&&Nat.beq z z'&&q4g c c' n 0
 | .map es k,.map es' k'=>Nat.beq k k'&&q86 es es'
 |_,_=>false
theorem qsr{d b:Nat}{c:TT AV d}{a:TT AV b}:∀(k o:Nat),q4g c a k o=true->∀ i,i<k->(dR d (o+i)).f c=(dR b (o+i)).f a
 |0,o,_,i,hi=>by omega
 |k+1,o,h,i,hi=>by
  have e:@Bool.rec (fun _=>Bool) false (q4g c a k (o+1)) (nC 64 ((dR d o).f c) ((dR b o).f a))=true:=h;cases f:nC 64 ((dR d o).f c) ((dR b o).f a)with
  |false=>rw[f]at e;cases e
  |true=>
   rw[f]at e;cases i with
   |zero=>exact(qd9 64).1 _ _ f
   |succ i=>have:=qsr k (o+1) e i (by omega);rw[show o+(i+1)=o+1+i by omega];exact this
theorem qzg:∀(l m:List gD),q86 l m=true->l=m
 | [],[],_=>rfl
 | [],_::_,h=>by cases h
 |_::_,[],h=>by cases h
 |x::l,y::m,h=>by simp only[q86,qh]at h;obtain⟨⟨⟨d,e⟩,f⟩,g⟩:=h;obtain⟨i,j,k⟩:=x;obtain⟨n,o,p⟩:=y;have a:=(qd9 64).1 _ _ d;have b:=(qd9 64).1 _ _ e;have c:=rf f;simp only at a b c;rw[a,b,c,qzg l m g]
structure Alike(x y:bW):Prop where
 br:∀(ι:Im) (w:World) (b:Nat),BR ι w b x->BR ι w b y
 dead:x.bD=y.bD
 wr:x.wr=y.wr
theorem Alike.refl(x:bW):Alike x x:=⟨fun _ _ _ h=>h,rfl,rfl⟩
theorem qp8{x y:bW}(h:zts x y=true):Alike x y:=by
 unfold zts at h;split at h
 ·rename_i d n c C z D E F m G;simp only[qh,beq_iff_eq]at h;obtain⟨⟨⟨⟨a,e⟩,o⟩,f⟩,p⟩:=h;have a:=rf a;have e:=yg e;have f:=rf f;subst a;subst o;subst f;refine⟨fun ι w b j=>?_,rfl,rfl⟩;obtain⟨l,q,r,s,t⟩:=j;refine⟨l,q,⟨e,r.2⟩,fun i g=>?_,t⟩;obtain⟨V,u,v,A⟩:=s i g;have:=qsr n 0 p i g;simp only[qg]at this;exact⟨V,u,by rw[<-this];exact v,A⟩
 ·rename_i es k B H;simp only[qh]at h;have a:=rf h.1;have e:=qzg _ _ h.2;subst a;subst e;exact Alike.refl _
 ·cases h
structure Part(Hv G:Hp):Prop where
 nx:Hv.nx=G.nx
 get:∀ c,eT (c)->Hv.get c=.dead\/Alike (G.get c) (Hv.get c)
theorem HR.part{f G:Hp}(h:HR ι G w)(p:Part f G):HR ι f w:=by
 have d:∀ c,eT (c)->(f.get c).bD=false->Alike (G.get c) (f.get c):=fun c j o=>by
  rcases p.get c j with e|e
  ·rw[e]at o;cases o
  ·exact e
 refine⟨by rw[p.nx];exact h.top,fun b a=>?_,fun b l a g k=>?_,fun b c l m a j g k q r s=>?_,fun b a=>h.fresh b (by rw[<-p.nx];exact a),fun b a i=>?_⟩
 ·rcases p.get b a with e|e
  ·rw[e];trivial
  ·exact e.br _ _ _ (h.blk b a)
 ·exact h.low b l a (by rw[(d b a g).dead];exact g) k
 ·exact h.inj b c l m a j (by rw[(d b a (bW.aW g)).wr];exact g) (by rw[(d c j k).dead];exact k) q r s
 ·rcases p.get b i with e|e
  ·exact e
  ·have:=h.free b (by rw[<-p.nx];exact a) i;have n:=e.dead;rw[this]at n;cases t:f.get b<;>first|rfl|(rw[t]at n;cases n)
theorem HR.frame{F:Im}{o G H1 G':Hp}{w':World}(h:HR ι G w)(p:Part o G)(H:HR F H1 w')(f:Fr ι F o H1 w w')(K:G'.nx=H1.nx)(L:∀ c,eT (c)->(o.get c).bD=true->c<G.nx->G'.get c=G.get c)(C:∀ c,eT (c)->((o.get c).bD=false\/G.nx<=c)->G'.get c=.dead\/Alike (H1.get c) (G'.get c)):HR F G' w'/\Fr ι F G G' w w':=by
 have N:∀ c,eT (c)->(o.get c).bD=false->Alike (G.get c) (o.get c):=fun c d g=>by
  rcases p.get c d with e|e
  ·rw[e]at g;cases g
  ·exact e
 -- every block of the new heap: kept from the old one, or one of the step's
 have split:∀ c,eT (c)->(G'.get c).bD=false->(G'.get c=G.get c/\(o.get c).bD=true/\c<G.nx)\/Alike (H1.get c) (G'.get c):=fun c d g=>by
  cases r:(o.get c).bD with
  |true=>
   by_cases E:c<G.nx
   ·exact .inl ⟨L c d r E,r▸rfl,E⟩
   ·rcases C c d (.inr (lAI E))with e|e
    ·rw[e]at g;cases g
    ·exact .inr e
  |false=>
   rcases C c d (.inl r)with e|e
   ·rw[e]at g;cases g
   ·exact .inr e
 have z:∀ b,eT (b)->(o.get b).wr=true->(G.get b).wr=true:=fun b n j=>by rw[(N b n (bW.aW j)).wr];exact j
 have O:∀ b,eT (b)->(o.get b).bD=false->(G.get b).bD=false:=fun b n g=>by rw[(N b n g).dead];exact g
 have J:∀ c,eT (c)->(G.get c).bD=false->∃ l,ι c=some l:=fun c d g=>(h.blk c d).some g
 -- a kept block lies apart from what the step wrote
 have R:∀ c l,eT (c)->(G.get c).bD=false->(o.get c).bD=true->ι c=some l->∀ b m,eT (b)->(H1.get b).wr=true->F b=some m->m.blk≠l.blk:=fun c l d B q i b m n j s e=>by
  rcases f.new b m n j s with P|⟨t,u,v,A,D,c4⟩
  ·have:=h.low c l d B i;omega
  ·have:=h.inj t c u l v d (z t v A) B D i (c4.trans e);subst this;rw[bW.aW A]at q;cases q
 have S:∀ c l,eT (c)->(G.get c).wr=true->(o.get c).bD=true->ι c=some l->∀ b m,eT (b)->(H1.get b).bD=false->F b=some m->m.blk≠l.blk:=fun c l d B q i b m n j s e=>by
  rcases f.live b m n j s with P|⟨t,u,v,A,D,c4⟩
  ·have:=h.low c l d (bW.aW B) i;omega
  ·have:=h.inj c t l u d v B (O t v A) i D (e.symm.trans c4.symm);subst this;rw[A]at q;cases q
 have T:∀ c l,eT (c)->(G.get c).bD=false->(o.get c).bD=true->ι c=some l->w'.heap[l.blk]? =w.heap[l.blk]? :=fun c l d B q i=>
  f.keep l.blk (h.low c l d B i) fun b m n j s e=>by have:=h.inj b c m l n d (z b n j) B s i e;subst this;rw[bW.aW j]at q;cases q
 refine⟨⟨by rw[K];exact H.top,fun c d=>?_,fun c l d g i=>?_,fun b c l m n d j g i s e=>?_,fun c d=>H.fresh c (by rw[<-K];exact d),fun c d M=>?_⟩,
  ⟨f.le,by rw[K,<-p.nx];exact f.nx,fun b I y=>by rw[<-p.nx];exact f.dom b I y,f.os,f.tape,f.output,f.size,fun c d W=>f.keep c d fun b l n j i=>W b l n (z b n j) i,fun c l d j i=>?_,fun c l d g i=>?_⟩⟩
 ·cases r:(G'.get c).bD with
  |true=>cases V:G'.get c<;>first|trivial|(rw[V]at r;cases r)
  |false=>
   rcases split c d r with⟨e,q,_⟩|e
   ·rw[e];rw[e]at r;exact((h.blk c d).keep fun l _ g=>T c l d r q g).mono f.le
   ·exact e.br _ _ _ (H.blk c d)
 ·rcases split c d g with⟨e,q,_⟩|e
  ·rw[e]at g;obtain⟨u,k⟩:=J c d g;rw[f.le _ _ k]at i;cases i;exact ku (h.low c l d g k) f.size
  ·exact H.low c l d (by rw[e.dead];exact g) i
 ·rcases split b n (bW.aW j)with⟨I,hv1,_⟩|I
  ·rw[I]at j;obtain⟨u,k⟩:=J b n (bW.aW j);rw[f.le _ _ k]at i;cases i;rcases split c d g with⟨y,Q,_⟩|y
   ·rw[y]at g;obtain⟨m0,x⟩:=J c d g;rw[f.le _ _ x]at s;cases s;exact h.inj b c l m n d j g k x e
   ·exact absurd e.symm (S b l n j hv1 k c m d (by rw[y.dead];exact g) s)
  ·rcases split c d g with⟨y,Q,_⟩|y
   ·rw[y]at g;obtain⟨m0,x⟩:=J c d g;rw[f.le _ _ x]at s;cases s;exact absurd e (R c m d g Q x b l n (by rw[I.wr];exact j) i)
   ·exact H.inj b c l m n d (by rw[I.wr];exact j) (by rw[y.dead];exact g) i s e
 ·have U:G.nx<=c:=by have:=f.nx;rw[K]at d;rw[p.nx]at this;omega
  rcases C c M (.inr U)with e|e
  ·exact e
  ·have X:=H.free c (by rw[<-K];exact d) M;have r:=e.dead;rw[X]at r;cases V:G'.get c<;>first|rfl|(rw[V]at r;cases r)
 ·rcases split c d (bW.aW j)with⟨e,q,_⟩|e
  ·rw[e]at j;obtain⟨u,k⟩:=J c d (bW.aW j);rw[f.le _ _ k]at i;cases i;exact .inr ⟨c,l,d,j,k,rfl⟩
  ·rcases f.new c l d (by rw[e.wr];exact j) i with P|⟨t,u,v,A,D,c4⟩
   ·exact .inl P
   ·exact .inr ⟨t,u,v,z t v A,D,c4⟩
 ·rcases split c d g with⟨e,q,_⟩|e
  ·rw[e]at g;obtain⟨u,k⟩:=J c d g;rw[f.le _ _ k]at i;cases i;exact .inr ⟨c,l,d,g,k,rfl⟩
  ·rcases f.live c l d (by rw[e.dead];exact g) i with P|⟨t,u,v,A,D,c4⟩
   ·exact .inl P
   ·exact .inr ⟨t,u,v,O t v A,D,c4⟩
/- known calls -/
structure Pb where
 b:Nat
 k:bW
def qgo(l:List Pb)(H:Hp):Hp:=
 List.rec (motive:=fun _=>Hp) H (fun p _ ih=>ih.put p.b p.k) l
def qlc(c:Nat):List Pb->Option bW
 | []=>none
 |p::l=>bif Nat.beq p.b c then some p.k else qlc c l
theorem qo9(H:Hp):∀ l,(qgo l H).nx=H.nx
 | []=>rfl
 |_::l=>qo9 H l
theorem qk1{H:Hp}{c:Nat}(a:eT (c)):∀ l:List Pb,(∀p∈l,eT (p.b))->(qgo l H).get c=match qlc c l with|some k=>k|none=>H.get c
 | [],_=>rfl
 |p::l,h=>by
  have ih:=qk1 (H:=H) a l fun q b=>h q (by simp[b]);show((qgo l H).put p.b p.k).get c=_;rw[Hp.get_put _ _ _ _ (h p (by simp)) a];unfold qlc;by_cases e:c=p.b
  ·subst e;rw[qj rfl,lE7];rfl
  ·rw[pg e,ih];have:Nat.beq p.b c=false:=by
    cases d:Nat.beq p.b c with
    |false=>rfl
    |true=>exact absurd (rf d).symm e
   rw[this];rfl
theorem qfc{c:Nat}{k:bW}:∀{l:List Pb},qlc c l=some k->⟨c,k⟩∈l
 | [],h=>by cases h
 |p::l,h=>by
  unfold qlc at h;cases a:Nat.beq p.b c with
  |true=>rw[a]at h;have e:=rf a;subst e;cases h;simp
  |false=>rw[a]at h;exact uk _ (qfc h)
theorem qlb{c:Nat}:∀{l:List Pb},(∃p∈l,p.b=c)->∃ k,qlc c l=some k
 | [],h=>by obtain⟨p,d,_⟩:=h;cases d
 |p::l,h=>by
  unfold qlc;cases b:Nat.beq p.b c with
  |true=>exact⟨p.k,rfl⟩
  |false=>
   refine qlb ?_;obtain⟨q,a,e⟩:=h;rcases su.1 a with rfl|a
   ·rw[e,lE7]at b;cases b
   ·exact⟨q,a,e⟩
structure Kn where
 f:FuncId
 args:List AV
 nx:Nat
 pre:List Pb
 v:AV
 nx':Nat
 post:List Pb
def Kn.hp(e:Kn):Hp:=qgo e.pre ⟨Hp.empty.t,e.nx⟩
def q38:bW->Bool
 | .dead=>true
 |_=>false
def z8i:bW->Bool
 | .cells .. | .map .. =>true
 |_=>false
def Kn.wf(e:Kn):Bool:=
 e.pre.all (fun p=>Nat.blt p.b e.nx&&z8i p.k&&e.post.any (fun q=>Nat.beq q.b p.b)) &&
 e.post.all (fun q=>Nat.blt q.b e.nx'&&(Nat.ble e.nx q.b||e.pre.any (fun p=>Nat.beq p.b q.b)))
def runK(P:Program)(ext:Ext)(k:Nat)(e:Kn):Bool:=
 match gT P ext k (.f e.f) e.args e.hp with
 | .ok v H1=>nC 64 v e.v&&Nat.beq H1.nx e.nx'&&e.post.all (fun p=>q38 p.k||zts (H1.get p.b) p.k)
 | .bad=>false
def xac(e:Kn)(ι:Im)(w:World):Ending->World->Prop
 | .returned V,w'=>∃ ι' H1,aO ι' e.v V/\HR ι' H1 w'/\Fr ι ι' e.hp H1 w w'/\H1.nx=e.nx'/\∀ p∈e.post,q38 p.k=true\/Alike (H1.get p.b) p.k
 |_,_=>False
def aIY(P:Program)(e:Kn):Prop:=∀ ι w bC,HR ι e.hp w->aL ι e.args bC ->
 (callFunc e.f bC.toArray).run P w=.ok (.enter e.f bC.toArray) w/\∀ m,CallsIn Fence.wide m P e.f bC.toArray w (xac e ι w)
theorem qy0(c:P.follows .mixedOrders=true){ext:Ext}(d:xC P ext){k:Nat}{e:Kn}(h:runK P ext k e=true):aIY P e:=by
 intro ι w g i j;unfold runK at h;split at h
 ·rename_i v H1 l;simp only[qh,vk,ah]at h;obtain⟨⟨b,n⟩,o⟩:=h;have b:=(qd9 64).1 _ _ b;subst b;obtain⟨q,r⟩:=(qhv c d k).fn _ _ _ _ _ l ι w g i j;refine⟨q,fun m=>(r m).mono fun f w' a=>?_⟩;cases f with
  |returned V=>obtain⟨s,t,u,x⟩:=a;exact⟨s,H1,t,u,x,rf n,fun p a=>(o p a).imp id qp8⟩
  |panicked=>exact a.elim
  |outgrown=>exact a.elim
 ·cases h
def zlf(e:Kn)(f:FuncId)(args:List AV)(H:Hp):Bool:=
 Nat.beq f e.f&&(Nat.beq H.nx e.nx&&(qW 64 args e.args&&e.pre.all (fun p=>zts (H.get p.b) p.k)))
def qq0:List Kn->Ext
 | [],_,_,_=>none
 |e::l,f,args,H=>bif zlf e f args H then some (.ok e.v (qgo e.post ⟨H.t,e.nx'⟩))else qq0 l f args H
theorem zax{k:bW}(h:z8i k=true):k.bD=false:=by cases k<;>first|rfl|cases h
theorem za1{k:bW}(h:q38 k=true):k=.dead:=by cases k<;>first|rfl|cases h
theorem zk2{e:Kn}(J:aIY P e)(t:e.wf=true){args:List AV}{H:Hp}(u:zlf e e.f args H=true){ι:Im}{w:World}{l:List Value}(v:HR ι H w)(K:aL ι args l):(callFunc e.f l.toArray).run P w=.ok (.enter e.f l.toArray) w/\∀ m,CallsIn Fence.wide m P e.f l.toArray w (Post ι H w e.v (qgo e.post ⟨H.t,e.nx'⟩)):=by
 unfold zlf at u;simp only[qh,vk]at u;obtain⟨_,x,y,N⟩:=u;have x:=rf x;have y:=(qd9 64).2 _ _ y;subst y;unfold Kn.wf at t;simp only[qh,vk,ah,dC]at t;obtain⟨B,G⟩:=t;have D:∀ p∈e.pre,p.b<e.nx:=fun p g=>yg (B p g).1.1;have z:∀ p∈e.post,p.b<e.nx':=fun p g=>yg (G p g).1;have j:∀ c,eT (c)->e.hp.get c=match qlc c e.pre with|some k=>k|none=>.dead:=fun c d=>by have:=qk1 (H:=⟨Hp.empty.t,e.nx⟩) d e.pre fun p g=>p8;have a:Hp.get ⟨Hp.empty.t,e.nx⟩ c=.dead:=qj2 _ c;rw[a]at this;exact this
 have n:∀ c,eT (c)->(qgo e.post ⟨H.t,e.nx'⟩).get c=match qlc c e.post with|some k=>k|none=>H.get c:=fun c d=>
  qk1 (H:=⟨H.t,e.nx'⟩) d e.post fun p g=>p8
 have h:Part e.hp H:=by
  refine⟨(qo9 _ _).trans x.symm,fun c d=>?_⟩;rw[j c d];cases b:qlc c e.pre with
  |none=>exact .inl rfl
  |some k=>have i:=N ⟨c,k⟩ (qfc b);dsimp only at i;exact .inr (qp8 i)
 obtain⟨O,Q⟩:=J ι w l (v.part h) K;refine⟨O,fun m=>(Q m).mono fun L w' g=>?_⟩;cases L with
 |panicked=>exact g.elim
 |outgrown=>exact g.elim
 |returned V=>
  obtain⟨R,H1,S,T,U,W,X⟩:=g;have o:∀ c,eT (c)->(e.hp.get c).bD=true->c<H.nx->(qgo e.post ⟨H.t,e.nx'⟩).get c=H.get c:=fun c d a M=>by
   rw[n c d];cases b:qlc c e.post with
   |none=>rfl
   |some k=>
    have E:=G ⟨c,k⟩ (qfc b);dsimp only at E;rcases E.2 with i|⟨q,C,r⟩
    ·have:=yg i;omega
    ·have r:=rf r;obtain⟨I,f⟩:=qlb (c:=c) ⟨q,C,r⟩;rw[j c d,f]at a;have:=zax (B ⟨c,I⟩ (qfc f)).1.2;dsimp only at this a;rw[this]at a;cases a
  have A:∀ c,eT (c)->((e.hp.get c).bD=false\/H.nx<=c)->(qgo e.post ⟨H.t,e.nx'⟩).get c=.dead\/Alike (H1.get c) ((qgo e.post ⟨H.t,e.nx'⟩).get c):=fun c d a=>by
   rw[n c d];cases b:qlc c e.post with
   |some k=>
    have F:=X ⟨c,k⟩ (qfc b);dsimp only at F;rcases F with i|i
    ·exact .inl (za1 i)
    ·exact .inr i
   |none=>
    rcases a with a|a
    ·rw[j c d]at a;cases s:qlc c e.pre with
     |none=>rw[s]at a;cases a
     |some k=>obtain⟨q,C,r⟩:=(B ⟨c,k⟩ (qfc s)).2;obtain⟨I,f⟩:=qlb (c:=c) ⟨q,C,rf r⟩;rw[b]at f;cases f
    ·exact .inl (v.free c a d)
  obtain⟨Y,k2⟩:=v.frame (G':=qgo e.post ⟨H.t,e.nx'⟩) h T U ((qo9 _ _).trans W.symm) o A;exact⟨R,S,Y,k2⟩
theorem qvq:∀{l:List Kn},(∀e∈l,aIY P e/\e.wf=true)->xC P (qq0 l)
 | [],_=>⟨fun _ _ _ _ h=>by cases h⟩
 |e::l,h=>by
  refine⟨fun f args H r a v j d ι w k g i=>?_⟩;unfold qq0 at a;cases b:zlf e f args H with
  |false=>rw[b]at a;exact(qvq fun x m=>h x (by simp[m])).fn f args H r a v j d ι w k g i
  |true=>
   rw[b]at a;simp only[uB,qo]at a;subst a;cases d;have c:f=e.f:=by unfold zlf at b;simp only[qh]at b;exact rf b.1
   subst c;obtain⟨n,o⟩:=h e (by simp);exact zk2 n o b g i
end Go.Ev
end
noncomputable section
namespace Go.Ev
open Go.RowKit Go.WideShapes Go.ChangeShapes Go.ChangeAt
variable {P:Program} {Hd:Type} {enc:TypeId×Value->Hd}
theorem qj6(b:laidOutB P=true){W c:World}{sp:Nat->Bool}:∀{ts:List TypeId} {vs:List Value} {ds:List (DataW Hd)} {ps:List MemPlace},(∀t∈ts,P.readableRec t=true/\t<P.types.size) -> DataW.TrodAll enc P W 0 (fun _=>true) true ts vs ds ps->(∀p∈ps,W.sameAt c p)->(∀p∈ps,sp p.block=true)->DataW.TrodAll enc P c 0 sp true ts vs ds ps
 | [],[],[],_,_,h,_,_=>h
 |_::_,_::_,_::_,_,hT,⟨p,q,h1,h2,e⟩,hs,hb=>
  ⟨p,q,WideElems.Trod_stays b (hT _ (su.2 (Or.inl rfl))).1 (hT _ (su.2 (Or.inl rfl))).2 h1 (fun x a=>hs x (by rw[e];exact bz _ a)) (fun x a=>hb x (by rw[e];exact bz _ a)),
   qj6 b (fun t d=>hT t (su.2 (Or.inr d))) h2 (fun x a=>hs x (by rw[e];exact ny _ a)) (fun x a=>hb x (by rw[e];exact ny _ a)),e⟩
def z7h(P:Program)(ts:List TypeId):Bool:=ts.all fun t=>P.readableRec t&&decide (t<P.types.size)
theorem zsp(B:laidOutB P=true){f:Func}{s:ChangeSpec}{a g c h:Bool}{W v:World}{args:Array Value}{ds C:List (DataW Hd)}{d:List MemPlace}{tb:TypeId}(w:DataW.Whole enc P f.params.toList s.vars a W args.toList ds C d)(y:s.vars=[])(D:z7h P f.params.toList=true)(i:s.fn Hd ds={results:=[.lit (.bool true)],args:=ds})(e:f.resultTypes= #[tb])(l:P.underlying tb=some .bool)(z:Below W.heap.size W v):s.post enc P f a g c h W args (.bool true) v:=by
 have m:=w;obtain⟨p,q,F,A,u,_,_⟩:=w;rw[y]at A;obtain⟨rfl,rfl⟩:=trodVars_none A;have j:∀ t∈f.params.toList,P.readableRec t=true/\t<P.types.size:=fun t E=>by have:=vk.1 D t E;simp_all
 have k:ds++[]=ds:=uf ds;refine zak (pa:=p) (pv:=[]) m (fun b sp G=>?_) (fun sp o=>?_) (fun sp _=>?_) u z ?_
 ·rw[k,i,e];exact trodAll_cons_mk (shut_bool l _) trodAll_mk0
 ·rw[k,i];have n:=m.lt;exact qj6 B j F (fun x r=>z.same (n x (by rw[u];simpa using r))) (fun x r=>o x (by rw[u];simpa using r))
 ·rw[k,i,y];rfl
 ·exact ok_one e rfl (okWide_bool_mk l _)
end Go.Ev
end
