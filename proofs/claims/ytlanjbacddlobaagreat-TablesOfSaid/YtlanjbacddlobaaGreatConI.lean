/-
 For TablesOf: functions in direct style, their contracts, and the plain mathematics, part 9 of 10. No conditions beyond those that each theorem states.
-/
import Derived.Test.YtlanjbacddlobaaGreatConA
import Derived.Test.YtlanjbacddlobaaGreatConH
set_option linter.unusedSimpArgs false
set_option linter.unusedVariables false
open Nat renaming reduceAdd->rB,reduceMul->rI,reduceSub->rK,reduceLeDiff->rL,reduceEqDiff->rN,reduceShiftRight->rS,reduceAnd->r8
section
namespace Go.Di
open Go.Ev
variable {C:Nat->Ev.Call}
abbrev Key:=Nat×SS×SS×List Nat
variable {H H':Hp} {S:Nat->Prop} {av nv:AV} {b j k n z:Nat} {cs l:List AV} {neg:Bool}
def Fo.iI:Fo->Nat->List Key
 | .nil,_=>[]
 | .cons k rl to a r,p=>(k,rl,to,a.ixs (p+1))::(a.iI (p+1)++r.iI (p+1+a.size))
theorem Fo.gQ:∀(f:Fo) (p:Nat),(f.iI p).length=f.size
 | .nil,_=>rfl
 | .cons k rl to a r,p=>by rw[Fo.iI,lEX,lEP,gQ a,gQ r,Fo.size];omega
structure NE where
 k:Nat
 rl:SS
 to:SS
 args:List Nat
 av:AV
 ng:Bool
def kV(x:NE):List AV:=[.int .u8 (.ofNat x.k),x.rl.v,x.to.v,x.av,.bool x.ng]
theorem qe6(x:NE):(kV x).length=5:=rfl
def NE.key(x:NE):Key:=(x.k,x.rl,x.to,x.args)
structure NE.Ar(P:Nat->Prop)(H:Hp)(x:NE):Prop where
 gl:Gl 1 H x.av x.args.length (aI x.args)
 nw:∀ b,In x.av b->P b
theorem NE.Ar.fm{P Q S:Nat->Prop}{x:NE}(h:x.Ar P H)(f:Fm S H H')(d:∀ b,b<H.nx->P b->¬ S b)(e:∀ b,b<H.nx->P b->Q b):x.Ar Q H':=
 ⟨h.gl.keep f.nx fun b a c=>f.get b c (d b c (h.nw b a)),fun b a=>e b (h.gl.lt a) (h.nw b a)⟩
theorem zp3(a:AV):∀(l:List NE) (i:Nat) (x:NE),l[i]? =some x->aY (l.flatMap kV) (i*5+3) [a]=(l.set i ⟨x.k,x.rl,x.to,x.args,a,x.ng⟩).flatMap kV
 | [],_,_,h=>by simp at h
 |y::l,0,x,h=>by
  obtain rfl:y=x:=by simpa using h
  simp[aY,kV]
 |y::l,i+1,x,h=>by
  have:=zp3 a l i x (by simpa using h);rw[lXN,lIQ,lIQ,<-this];unfold aY;have e:(i+1)*5+3=(kV y).length+(i*5+3):=by rw[qe6];omega
  rw[e,lOU,lI5,lI5];congr 1;rw[lI5];congr 2;rw[lIP,lOV]
theorem set_mid{α:Type}(lo a:List α)(h x:α):(lo++[h]++a).set lo.length x=lo++([x]++a):=by rw[lI5,List.set_append_right _ _ (lEO _),lUV];rfl
structure NoI(S0:Nat->Prop)(H0 H:Hp)(ib kd:Nat)(rl to:SS)(av w xa:AV)(lo ln:List NE)(done:List Nat):Prop where
 fm:Fm S0 H0 H
 bx:H0.nx<=ib/\ib<H.nx/\H.get ib=aB 0 [.int .u8 (.ofNat kd),.str rl.n rl.a,.str to.n to.a,av]
 gl:Gl 5 H w (lo++ln).length ((lo++ln).flatMap kV)
 nw:∀ b,In w b->H0.nx<=b/\b≠ib
 xl:Gl 1 H xa done.length (aI done)
 xw:∀ b,In xa b->H0.nx<=b/\b≠ib/\¬ In w b
 ar:∀ e∈ln,e.Ar (fun b=>H0.nx<=b/\b≠ib/\¬ In w b/\¬ In xa b) H
def aLc(C:Nat->Ev.Call)(f:Fo):Prop:=
 ∀(j:Nat),f.depth<=j->∀(S0:Nat->Prop) (H0:Hp) (ib kd n i:Nat) (rl to:SS) (av w xa:AV) (lo ln:List NE) (done:List Nat) (pre rest:List AV) (neg:Bool) (H:Hp) (q:AV->pH) (Q:pS) (k:Nat),n-i<k->n=i+f.len->done.length=i->n<=1000->(lo++ln).length+f.size<=1000 ->
  Gl 4 H0 av n (pre++rest)->pre.length=i*4->(∀b,In av b->¬ S0 b)->eD (fun b=>¬ S0 b) H0 f rest->NoI S0 H0 H ib kd rl to av w xa lo ln done ->
  (∀w' xa' H' ln',NoI S0 H0 H' ib kd rl to av w' xa' lo (ln++ln') (done++f.ixs (lo++ln).length)->ln'.map NE.key=f.iI (lo++ln).length->Ok (q w' xa' H') Q) ->
  Ok (qft (C j) q (.bool neg) (.ptr ib 0) k w xa (iN i) H) Q
theorem zc8(F:aU C){a:Fo}(G:aLc C a)(I:a.depth<=j){kd:Nat}{rl to:SS}{av w:AV}{ca:List AV}{lo:List NE}(r:Gl 5 H w lo.length (lo.flatMap kV))(J:Gl 4 H av a.len ca)(K:∀ b,In av b->¬ In w b)(z:eD (fun b=>¬ In w b) H a ca)(V:lo.length+a.size+1<=1000):Ok (C (j+1) (.f 43) [w,.agg [.int .u8 (.ofNat kd),.str rl.n rl.a,.str to.n to.a,av],.bool neg] H) fun w' H'=>∃ i,Gl 5 H' w' (lo++i).length ((lo++i).flatMap kV)/\i.map NE.key=(Fo.cons kd rl to a .nil).iI lo.length/\(∀e∈i,e.Ar (fun b=>H.nx<=b/\¬ In w' b) H')/\Fm (In w) H H'/\∀ b,In w' b->H.nx<=b:=by
 rw[(F j).zAz];unfold zAz zlv;have M:=r.aX;simp(disch:=go_size)only[go_sem,rB,rI,rK,rL,rN,rS,r8,M];have N:=Fo.eO a;have A:Fm No H (aK (aK H (aB 0 [.int .u8 (.ofNat kd),.str rl.n rl.a,.str to.n to.a,av])) (aB 0 (kV ⟨kd,rl,to,[],.aA,neg⟩))):=by(repeat(first|exact Fm.refl _ _|assumption|refine Fm.push ?_ _|refine Fm.up2 ?_ (by go_size)|refine Fm.aH ?_ _ _ (by go_size)))
 obtain⟨H1,S,g1,X,B,T⟩:=(r.no A).append (k:=1) (w:=72) (x:=kV ⟨kd,rl,to,[],.aA,neg⟩) (by omega) rfl (by omega) (by omega);refine Ok.veE S ?_;simp only[np]at T;unfold qxy;rw[dD];have O:Fm (In w) H H1:=(A.mono fun _ _ h=>absurd h id).then B fun _ _ h=>h;have t:¬ In w H.nx:=fun h=>by have:=r.lt h;omega
 have P:H1.get H.nx=aB 0 [.int .u8 (.ofNat kd),.str rl.n rl.a,.str to.n to.a,av]:=(B.get _ (by(first|go_size|omega)) t).trans (by simp(disch:=first|go_size|omega)only[go_sem,rB,rI,rK,rL,rN,rS,r8]);have u:∀ b,In (.sl (aK (aK H (aB 0 [.int .u8 (.ofNat kd),.str rl.n rl.a,.str to.n to.a,av])) (aB 0 (kV ⟨kd,rl,to,[],.aA,neg⟩))).nx 0 (lo.length+1) (lo.length+1) false) b->b=H.nx+1+1:=fun b h=>by obtain⟨_,_,_,_,h⟩:=h;injection h with h;rw[<-h];simp only[np]
 have Q:NoI (In w) H H1 H.nx kd rl to av (.sl (aK (aK H (aB 0 [.int .u8 (.ofNat kd),.str rl.n rl.a,.str to.n to.a,av])) (aB 0 (kV ⟨kd,rl,to,[],.aA,neg⟩))).nx 0 (lo.length+1) (lo.length+1) false) .aA (lo++[⟨kd,rl,to,[],.aA,neg⟩]) [] []:=by
  refine⟨O,⟨lEO _,by omega,P⟩,?_,fun b h=>?_,Gl.nil 1 _,fun b h=>absurd h (notNil b),fun e m=>by cases m⟩
  ·rw[lIM,lEP,lIC,lIE];exact g1
  ·have:=u b h;omega
 refine G j I (In w) H H.nx kd a.len 0 rl to av _ .aA _ [] [] [] ca neg H1 _ _ bZ (by rw[yR];omega) (by omega) rfl (by omega) (by simp;omega) J rfl K z Q fun L f W l d n=>?_;unfold qqe;simp only[lOX,lIM]at d n;have v:lo.length<(lo++[(⟨kd,rl,to,[],.aA,neg⟩:NE)]++l).length:=by simp
 obtain⟨b,o,U,D,E,g3,y,Y⟩:=d.gl.set1 v (j:=3) (by omega) f;rw[zp3 f _ lo.length ⟨kd,rl,to,[],.aA,neg⟩ (by simp),set_mid]at g3;have p:Ok (.ok L U) fun w' H'=>∃ i,Gl 5 H' w' (lo++i).length ((lo++i).flatMap kV)/\i.map NE.key=(Fo.cons kd rl to a .nil).iI lo.length/\(∀e∈i,e.Ar (fun b=>H.nx<=b/\¬ In w' b) H')/\Fm (In w) H H'/\∀ b,In w' b->H.nx<=b:=by
  refine Ok.ret ⟨⟨kd,rl,to,a.ixs (lo.length+1),f,neg⟩::l,?_,?_,?_,d.fm.then y fun c z s=>by have:=(d.nw c s).1;omega,fun b g=>(d.nw b g).1⟩
  ·have R:∀ x:NE,kV x=kV {x with args:=a.ixs (lo.length+1)}:=fun _=>rfl;have:(lo++([(⟨kd,rl,to,[],f,neg⟩:NE)]++l)).flatMap kV=(lo++(⟨kd,rl,to,a.ixs (lo.length+1),f,neg⟩::l)).flatMap kV:=by
    rw[lIC,lIC,lIC,lIE,lIQ,R ⟨kd,rl,to,[],f,neg⟩]
   rw[<-this];have q:(lo++(⟨kd,rl,to,a.ixs (lo.length+1),f,neg⟩::l)).length=(lo++[(⟨kd,rl,to,[],.aA,neg⟩:NE)]++l).length:=by simp
   rw[q];exact g3
  ·rw[lUJ,n];simp[NE.key,Fo.iI]
  ·intro e m;rcases lI8.1 m with rfl|m
   ·refine⟨?_,fun b g=>⟨(d.xw b g).1,(d.xw b g).2.2⟩⟩;have:=d.xl.fm y fun b g s=>(d.xw b g).2.2 s;simpa using this
   ·exact(d.ar e m).fm y (fun b _ g=>g.2.2.1) fun b _ g=>⟨g.1,g.2.2.1⟩
 rcases d.xl.is with⟨h,_⟩|⟨_,_,_,_,_,h,_⟩
 ·subst h;simp(disch:=go_size)only[go_sem,rB,rI,rK,rL,rN,rS,r8,D,E];exact p
 ·subst h;simp(disch:=go_size)only[go_sem,rB,rI,rK,rL,rN,rS,r8,D,E];exact p
theorem eD.flat{P:Nat->Prop}{H:Hp}:∀{g:Fo} {cs:List AV},eD P H g cs->cs.all rH=true
 | .nil,_,h=>by rw[show _=_ from h];rfl
 | .cons _ _ _ _ _,_,⟨av,ca,cr,h1,h2,_,_,h5⟩=>by rw[h1];simp only[lXK,eD.flat h5,Gl.flat h2];rfl
theorem zyb(hC:aU C):∀ f:Fo,aLc C f:=by
 intro f
 induction f with
 |nil=>intro j hj X H0 ib kd n i rl to av w xa lo g done pre A neg H q Q k hk hn E Y M F hp xM N l hq;obtain⟨k,rfl⟩:∃ m,k=m+1:=⟨k-1,om⟩;show Ok (qec (C j) _ _ _ (qft (C j) _ _ _ k) _ _ _ H) Q;unfold qec;simp only[Fo.len]at hn;have G:¬ i<n:=om;have hl:=F.aX;have P:=l.bx.2.2;simp(disch:=go_size)only[go_sem,rB,rI,rK,rL,rN,rS,r8,P,hl,G];exact hq w xa H [] (by simpa [Fo.ixs] using l) rfl
 |cons k1 r1 t1 a r iha ihr=>
  intro j hj X H0 ib kd n i rl to av w xa lo g done pre A neg H q Q k hk hn E Y M F hp xM N l hq;obtain⟨k,rfl⟩:∃ m,k=m+1:=⟨k-1,om⟩;show Ok (qec (C j) _ _ _ (qft (C j) _ _ _ k) _ _ _ H) Q;unfold qec;simp only[Fo.len]at hn;simp only[Fo.depth]at hj;simp only[Fo.size]at M;have G:i<n:=om;have hl:=F.aX;have P:=l.bx.2.2;simp(disch:=go_size)only[go_sem,rB,rI,rK,rL,rN,rS,r8,P,hl,G];unfold qxx;have hlw:=l.gl.aX;simp(disch:=go_size)only[go_sem,rB,rI,rK,rL,rN,rS,r8,hlw];obtain⟨j,rfl⟩:∃ m,j=m+1:=⟨j-1,om⟩;have fp:Fm No H (aK H (aB 0 [iN ((lo++g).length)])):=fm;obtain⟨B,e2,g2,q2,f2,n2⟩:=(l.xl.no fp).append (k:=1) (w:=8) (x:=[iN ((lo++g).length)]) om rfl om om;simp only[np]at n2;rw[E]at e2 g2;refine Ok.veE e2 ?_;have n0:=l.fm.nx;have W:=l.bx;have fA:Fm (In xa) H B:=(fp.mono (T:=In xa) (fun _ _ h=>absurd h id)).then f2 fun _ _ h=>h;have jU:Fm X H0 B:=l.fm.then fA fun c N h=>by have:=(l.xw c h).1;omega
  have k2:B.get ib=aB 0 [.int .u8 (.ofNat kd),.str rl.n rl.a,.str to.n to.a,av]:=(fA.get ib W.2.1 fun h=>(l.xw ib h).2.1 rfl).trans P;have g02:Gl 4 B av n (pre++A):=F.fm jU xM;have c02:eD (fun b=>¬ X b/\b<H0.nx) B (.cons k1 r1 t1 a r) A:=(N.mono (Q:=fun b=>¬ X b/\b<H0.nx) fun b P h2=>⟨h2,P⟩).dJ jU fun b h=>h.1;obtain⟨_,b,o,Z,ca,cr,i1,i2,i3,i4,_,i5,c1,c2,c3,c4,_⟩:=g02.rule hp c02;have hbw:¬ In w b:=fun h=>by have h5:=(l.nw b h).1;have:=F.lt i3;omega
  have hwk:Gl 5 B w (lo++g).length ((lo++g).flatMap kV):=l.gl.fm fA fun b z h=>(l.xw b h).2.2 z;have I:∀ b,b<H0.nx->¬ In w b:=fun b z h=>by have:=(l.nw b h).1;omega
  have O:∀ ng:Bool,Ok (C (j+1) (.f 43) [w,.agg [.int .u8 (.ofNat k1),.str r1.n r1.a,.str t1.n t1.a,Z],.bool ng] B) _:=fun ng=>zc8 hC iha (j:=j) om (kd:=k1) (rl:=r1) (to:=t1) (neg:=ng) hwk c1 (fun b z=>I b (c2 b z).2) (c3.mono fun b _ z=>I b z.2) om;have fin:∀(u:AV) (d:Hp) (v:List NE),Gl 5 d u (lo++g++v).length ((lo++g++v).flatMap kV)->v.map NE.key=(Fo.cons k1 r1 t1 a .nil).iI (lo++g).length->(∀e∈v,e.Ar (fun b=>B.nx<=b/\¬ In u b) d)->Fm (In w) B d->(∀b,In u b->B.nx<=b) ->
    Ok (qft (C (j+1)) q (.bool neg) (.ptr ib 0) k u (.sl (aK H (aB 0 [iN ((lo++g).length)])).nx 0 (i+1) (i+1) false) (iN ((i+1))) d) Q:=by
   intro u d v g3 t y s p;have D:∀ b,In (.sl (aK H (aB 0 [iN ((lo++g).length)])).nx 0 (i+1) (i+1) false) b->b=H.nx+1:=fun b h=>by obtain⟨_,_,_,_,h⟩:=h;injection h with h;rw[<-h];simp only[np]
   have l3:v.length=1+a.size:=by have:=congrArg List.length t;rw[lET,Fo.gQ]at this;rw[this];simp only[Fo.size];omega
   refine ihr (j+1) om X H0 ib kd n (i+1) rl to av u _ lo (g++v) (done++[(lo++g).length]) (pre++[.int .u8 (.ofNat k1),r1.v,t1.v,Z]) cr neg d q Q k om om (by simp[E]) Y (by simp at M ⊢;omega) (by rw[i5]at F;simpa using F) (by simp[hp];omega) xM ?_ ⟨jU.then s fun c N h=>absurd h (I c N),⟨W.1,by have:=s.nx;omega,?_⟩,by rw[<-lI5];exact g3,fun b z=>?_,?_,fun b z=>?_,fun e R=>?_⟩ fun w4 xa4 H4 ln4 S U=>?_
   ·obtain⟨_,_,cr',d1,_,_,_,d5⟩:=N;rw[i5]at d1;simp only[List.cons.injEq]at d1;rw[d1.2.2.2.2];exact d5
   ·exact(s.get ib om fun h=>(l.nw ib h).2 rfl).trans k2
   ·have:=p b z;omega
   ·have:(done++[(lo++g).length]).length=i+1:=by simp[E]
    rw[this];have e:aI (done++[(lo++g).length])=aI done++[iN ((lo++g).length)]:=by simp[aI]
    rw[e];exact g2.fm s fun b z h=>by have:=D b z;have:=l.gl.lt h;omega
   ·have:=D b z;exact⟨om,om,fun h=>by have:=p b h;omega⟩
   ·rcases lEY.1 R with R|R
    ·refine((l.ar e R).fm fA (Q:=fun b=>H0.nx<=b/\b≠ib/\¬ In w b/\b<H.nx) (fun b _ h=>h.2.2.2) fun b z h=>⟨h.1,h.2.1,h.2.2.1,z⟩).fm s (fun b _ h=>h.2.2.1) fun b _ h=>⟨h.1,h.2.1,fun V=>?_,fun V=>?_⟩
     ·have:=p b V;have:=h.2.2.2;omega
     ·have:=D b V;have:=h.2.2.2;omega
    ·refine(y e R).fm (Fm.refl No d) (fun b _ _ h=>h) fun b _ h=>⟨om,om,h.2,fun V=>?_⟩;have:=D b V;omega
   ·have l4:(lo++(g++v)).length=(lo++g).length+1+a.size:=by simp[l3];omega
    rw[l4]at S U;refine hq w4 xa4 H4 (v++ln4) ?_ ?_
    ·have:(done++[(lo++g).length])++r.ixs ((lo++g).length+1+a.size)=done++(Fo.cons k1 r1 t1 a r).ixs (lo++g).length:=by simp[Fo.ixs]
     rw[<-this,<-lI5];exact S
    ·rw[lID,t,U];simp[Fo.iI]
  have J:oD 64 (.agg [.int .u8 (.ofNat k1),.str r1.n r1.a,.str t1.n t1.a,Z]) (.agg [.int .u8 (.ofNat k1),.str r1.n r1.a,.str t1.n t1.a,Z])=true:=by refine qgc _ ?_;unfold Tr;simp only[lXK,Gl.flat c1];rfl
  have K:=qP (Gl.flat F) 63;have L:∀(_:AV) (d:Hp),Fm (In w) B d->d.get ib=aB 0 [.int .u8 (.ofNat kd),.str rl.n rl.a,.str to.n to.a,av]/\iF (d.get b) o 4=some [.int .u8 (.ofNat k1),.str r1.n r1.a,.str t1.n t1.a,Z]:=fun _ d s=>
   ⟨(s.get ib om fun h=>(l.nw ib h).2 rfl).trans k2,by rw[s.get b i2 hbw];exact i4⟩
  cases neg
  ·by_cases h6:kd=6
   ·subst h6;simp(disch:=go_size)only[go_sem,rB,rI,rK,rL,rN,rS,r8,k2,i1,i4];refine Ok.iR (O (decide (i=1))) ?_;rintro u d ⟨v,g3,t,y,s,p⟩;obtain⟨k3,r3⟩:=L u d s;simp(disch:=go_size)only[go_sem,rB,rI,rK,rL,rN,rS,r8,k3,r3,J,K];unfold qhk;simp(disch:=go_size)only[go_sem,rB,rI,rK,rL,rN,rS,r8];exact fin u d v g3 t y s p
   ·simp(disch:=go_size)only[go_sem,rB,rI,rK,rL,rN,rS,r8,k2,i1,i4,h6];refine Ok.iR (O false) ?_;rintro u d ⟨v,g3,t,y,s,p⟩;obtain⟨k3,r3⟩:=L u d s;simp(disch:=go_size)only[go_sem,rB,rI,rK,rL,rN,rS,r8,k3,r3,J,K];unfold qhk;simp(disch:=go_size)only[go_sem,rB,rI,rK,rL,rN,rS,r8];exact fin u d v g3 t y s p
  ·simp(disch:=go_size)only[go_sem,rB,rI,rK,rL,rN,rS,r8,k2,i1,i4];refine Ok.iR (O true) ?_;rintro u d ⟨v,g3,t,y,s,p⟩;obtain⟨k3,r3⟩:=L u d s;simp(disch:=go_size)only[go_sem,rB,rI,rK,rL,rN,rS,r8,k3,r3,J,K];unfold qhk;simp(disch:=go_size)only[go_sem,rB,rI,rK,rL,rN,rS,r8];exact fin u d v g3 t y s p
theorem zz5(d:aU C){f:Fo}(i:f.depth<=k)(l:f.len=1)(n:f.size<=900){P:Nat->Prop}(o:eD P H f cs):Ok (C k (.f 43) [.aA,.agg cs,.bool false] H) fun w' H'=>∃ c:List NE,Gl 5 H' w' c.length (c.flatMap kV)/\c.map NE.key=f.iI 0/\(∀e∈c,e.Ar (fun b=>H.nx<=b/\¬ In w' b) H')/\Fm No H H'/\∀ b,In w' b->H.nx<=b:=by obtain⟨kd,rl,to,a,av,ca,rfl,rfl,g,g2,g3⟩:=o.one l;simp only[Fo.depth,Fo.size]at i n;obtain⟨j,rfl⟩:∃ m,k=m+1:=⟨k-1,om⟩;refine(zc8 d (zyb d a) (j:=j) (by omega) (lo:=[]) (neg:=false) (Gl.nil 5 H) g (fun b _=>notNil b) (g3.mono fun b _ _=>notNil b) (by simp;omega)).mono ?_;rintro w' H' ⟨c,p,q,r,s,t⟩;exact⟨c,by simpa using p,q,r,s.mono fun b _ h=>notNil b h,t⟩
attribute [go_sem] z3f z3a zre
theorem zed(a:aU C)(c:1<=k){v:AV}(h:Gl 4 H v n l):∃w,C k (.f 90) [v] H=.ok w H/\Gl 4 H w n l/\dA w=.val (iN n)/\(∀b,In w b->In v b):=by obtain⟨j,rfl⟩:=aT c;obtain⟨w,e,d,f,g⟩:=h.clip;refine⟨w,?_,d,f,g⟩;rw[(a j).zHx];unfold zHx z3z;simp only[go_sem,h.aX,e]
def aFo(k:Nat)(rl to:SS)(m:Nat):Prop:=(k=1/\rl=sE/\to=sE/\m=0)\/(k=2/\Nm rl/\to=sE/\m=0)\/(k=3/\Nm rl/\Nm to/\m=0)\/((k=4\/k=5)/\rl=sE/\to=sE/\2<=m)\/(k=6/\rl=sE/\to=sE/\m=2)
theorem Fo.Rt.one{rl to:SS}{a r:Fo}(h:(Fo.cons k rl to a r).Rt Nm):aFo k rl to a.len:=by
 rcases h.1 with⟨b,c,d,rfl⟩|⟨b,c,d,rfl⟩|⟨b,c,d,rfl⟩|⟨b,c,d,e⟩|⟨b,c,d,e⟩|⟨b,c,d,e⟩
 ·exact .inl ⟨b,c,d,rfl⟩
 ·exact .inr (.inl ⟨b,c,d,rfl⟩)
 ·exact .inr (.inr (.inl ⟨b,c,d,rfl⟩))
 ·exact .inr (.inr (.inr (.inl ⟨.inl b,c,d,e⟩)))
 ·exact .inr (.inr (.inr (.inl ⟨.inr b,c,d,e⟩)))
 ·exact .inr (.inr (.inr (.inr ⟨b,c,d,e⟩)))
theorem zrb(t:aU C)(l:iL C)(z:2<=k){b o kd m:Nat}{rl to:SS}(e:pF H b o [.int .u8 (.ofNat kd),.str rl.n rl.a,.str to.n to.a,av])(f:aD av=.val (iN m))(u:aFo kd rl to m):Ok (C k (.f 112) [.ptr b o] H) fun v H'=>v=iN 0/\Fm No H H':=by
 obtain⟨j,rfl⟩:∃ j,k=j+1+1:=⟨k-2,om⟩;rw[(t (j+1)).zDb];unfold zDb zun;have w:=e.lt;have a:bI (H.get b) o=.val (.int .u8 (.ofNat kd)):=e.at' 0 g3;have c:bI (H.get b) (o+1)=.val (.str rl.n rl.a):=e.at' 1 g3;have d:bI (H.get b) (o+2)=.val (.str to.n to.a):=e.at' 2 g3;have g:bI (H.get b) (o+3)=.val av:=e.at' 3 g3;rcases u with⟨rfl,rfl,rfl,rfl⟩|⟨rfl,i,rfl,rfl⟩|⟨rfl,i,s,rfl⟩|⟨q,rfl,rfl,y⟩|⟨rfl,rfl,rfl,rfl⟩
 ·unfold sE at c d;simp(disch:=first|go_size|omega)only[go_sem,seval,a,c,d,g,f,and_self];unfold qcj;simp(disch:=first|omega|exact ti rfl|simp only[np,nq];first|done|omega)only[go_sem,rB,rI,rK,rL,rN,rS,r8,a,qdh,and_self];unfold qdo qea;exact Ok.ret ⟨rfl,fm⟩
 ·have n:=i.ne;have h:=(l j).r rl i;unfold SS.v at h;simp(disch:=first|go_size|omega)only[go_sem,rB,rI,rK,rL,rN,rS,r8,a,c,d,g,f,n,and_self];unfold qcj;simp(disch:=first|go_size|omega)only[go_sem,rB,rI,rK,rL,rN,rS,r8,a,c,qdh,h];unfold qdo qea;exact Ok.ret ⟨rfl,fm⟩
 ·have n:=i.ne;have x:=s.ne;have h:=(l j).r rl i;have r:=(l j).r to s;unfold SS.v at h r;simp(disch:=first|go_size|omega)only[go_sem,seval,a,c,d,g,f,n,x];unfold qcj;simp(disch:=first|go_size|omega)only[go_sem,rB,rI,rK,rL,rN,rS,r8,a,c,d,qdh,h,r];unfold qdo qea;exact Ok.ret ⟨rfl,fm⟩
 ·unfold sE at c d;have p:=lO5 y;rcases q with rfl|rfl<;>(
   simp(disch:=first|go_size|omega)only[go_sem,seval,a,c,d,g,f,and_self];unfold qp0;simp(disch:=go_size)only[go_sem,rB,rI,rK,rL,rN,rS,r8,p];unfold qcj;simp(disch:=first|go_size|omega)only[go_sem,rB,rI,rK,rL,rN,rS,r8,a,qdh,and_self];unfold qdo qea;exact Ok.ret ⟨rfl,fm⟩)
 ·unfold sE at c d;simp(disch:=first|go_size|omega)only[go_sem,rB,rI,rK,rL,rN,rS,r8,a,c,d,g,f,and_self];unfold qp0;unfold qcj;simp(disch:=first|omega|exact ti rfl|simp only[np,nq];first|done|omega)only[go_sem,rB,rI,rK,rL,rN,rS,r8,a,qdh,and_self];unfold qdo qea;exact Ok.ret ⟨rfl,fm⟩
structure WkF(H:Hp)(nb db fb vb:Nat)(l:List NE)(nv:AV)(d:Nat):Prop where
 n:H.get nb=aB 0 [nv]
 d:H.get db=aB 0 [iN d]
 f:H.get fb=aB 0 [iN 0]
 v:H.get vb=aB 0 [.fn 111 [] [.ptr nb 0,.ptr db 0,.ptr fb 0,.ptr vb 0]]
 o:nb<db/\db<fb/\fb<vb/\vb<H.nx
 gl:Gl 5 H nv l.length (l.flatMap kV)
 nin:∀ c,In nv c->vb<c
def Lns(l:List NE):Prop:=∀ e∈l,aD e.av=.val (iN (e.args.length))/\rH e.av=true
theorem Lns.of{P:Nat->Prop}{l:List NE}(h:∀ e∈l,e.Ar P H):Lns l:=fun e a=>⟨(h e a).gl.aX,Gl.flat (h e a).gl⟩
def aZ2(C:Nat->Ev.Call)(a:Fo)(k:Nat):Prop:=
 ∀(b o lv kd:Nat) (rl to:SS) (av:AV) (neg:Bool) (H:Hp) (nb db fb vb:Nat) (lo:List NE) (nv:AV) (d:Nat) (ca:List AV),WkF H nb db fb vb lo nv d->pF H b o [.int .u8 (.ofNat kd),.str rl.n rl.a,.str to.n to.a,av]->b<nb->Gl 4 H av a.len ca->(∀b,In av b->b<nb)->eD (· < nb) H a ca ->
  aFo kd rl to a.len->a.Rt Nm->lv+a.depth<=8->lo.length+a.size<32->d<=8 ->
  Ok (C k (.f 111) [.ptr b o,iN lv,.bool neg,.ptr nb 0,.ptr db 0,.ptr fb 0,.ptr vb 0] H) fun v H'=>v=.bool true/\∃ ln rX d',WkF H' nb db fb vb (lo++ln) rX d'/\ln.map NE.key=(Fo.cons kd rl to a .nil).iI lo.length/\(∀e∈ln,e.Ar (fun c=>H.nx<=c/\¬ In rX c) H')/\d'<=8/\Fm (WkS nb db fb nv) H H'/\∀ c,In rX c->H.nx<=c
theorem q3l(V:aU C)(W:iL C)(X:2<=j){b o lv:Nat}{nb i f vb:Nat}{l:List NE}{d:Nat}{kd m:Nat}{rl to:SS}(n:WkF H nb i f vb l nv d)(r:pF H b o [.int .u8 (.ofNat kd),.str rl.n rl.a,.str to.n to.a,av])(s:aD av=.val (iN m))(Y:aFo kd rl to m)(hb:b<nb)(Z:lv<=8)(hll:l.length<32)(hd:d<=8){Q:pS}(hg:∀ H' w P,WkF H' nb i f vb (l++[⟨kd,rl,to,[],.aA,neg⟩]) w P->P<=8->Fm (WkS nb i f nv) H H'->(∀c,In w c->H.nx<=c) -> Ok (qkr (C j) (fun A H=>.ok A H) (fun bE H=>qfs (C j) (.ptr nb 0) (iN (l.length)) bE H) (.ptr b o) (iN lv) (.bool neg) (.ptr nb 0) (.ptr vb 0) (iN m) .aA (iN 0) H') Q):Ok (zeh (C j) (.ptr b o) (iN lv) (.bool neg) (.ptr nb 0) (.ptr i 0) (.ptr f 0) (.ptr vb 0) H) Q:=by
 unfold zeh;obtain⟨o1,o2,o3,o4⟩:=n.o;have R:=n.n;have ed:=n.d;have S:=n.f;have z:=n.gl.aX;have D:¬ l.length=32:=om;have h8:¬ 8<lv:=om;have u:∀ c,c<=vb->¬ In nv c:=fun c a h=>by have:=n.nin c h;omega
 simp(disch:=go_size)only[go_sem,rB,rI,rK,rL,rN,rS,r8,R,z,D,h8];unfold q54;simp(disch:=go_size)only[go_sem,rB,rI,rK,rL,rN,rS,r8,ed,S];have T:Fm (fun c=>c=i) H (H.put i (aB 0 [iN ((max d lv))])):=(Fm.refl _ _).put _ _ fun _=>rfl;refine Ok.ve (zrb V W (k:=j) X (r.keep T.nx (T.get _ om om)) s Y) ?_;rintro _ e ⟨rfl,N⟩;have n2:H.nx<=e.nx:=N.nx;have d2:e.get i=aB 0 [iN ((max d lv))]:=(N.keep (show i<H.nx by omega)).trans (dL _ _ _);have q:∀ c,c<H.nx->c≠i->e.get c=H.get c:=fun c h1 B=>(N.keep (show c<H.nx by omega)).trans (dS _ _ _ _ B);have E:=(q f om om).trans S;simp(disch:=go_size)only[go_sem,rB,rI,rK,rL,rN,rS,r8,E];unfold qxh;have v:=(q nb om om).trans R;have F:=(q vb om om).trans n.v;have p:=q b om om;have r0:bI (e.get b) o=.val (.int .u8 (.ofNat kd)):=by rw[p];exact r.at' 0 g3
 have r1:bI (e.get b) (o+1)=.val (.str rl.n rl.a):=by rw[p];exact r.at' 1 g3
 have r2:bI (e.get b) (o+2)=.val (.str to.n to.a):=by rw[p];exact r.at' 2 g3
 have r3:bI (e.get b) (o+3)=.val av:=by rw[p];exact r.at' 3 g3
 simp(disch:=go_size)only[go_sem,rB,rI,rK,rL,rN,rS,r8,v,z,r0,r1,r2];have hlt:∀ c,In nv c->c<H.nx:=fun c a=>n.gl.lt a;have g2:Gl 5 ((Hp.mk (e.put f (aB 0 [iN 0])).t (e.nx+18)).put (e.nx+15) (aB 0 [.int .u8 (.ofNat kd),.str rl.n rl.a,.str to.n to.a,.aA,.bool neg])) nv l.length (l.flatMap kV):=by refine n.gl.keep (show H.nx<=e.nx+18 by omega) fun c a z=>?_;have:=n.nin c a;rw[dS _ _ _ _ om];show(e.put f _).get c=_;rw[dS _ _ _ _ om];exact q c z om
 obtain⟨y,U,g3,q3,O,n3⟩:=g2.append (k:=1) (w:=72) (x:=[.int .u8 (.ofNat kd),.str rl.n rl.a,.str to.n to.a,.aA,.bool neg]) om rfl om om;simp only[nq]at U g3 q3 n3 O;refine Ok.tT U ?_;have g:∀ c,c<e.nx->c≠f->¬ In nv c->y.get c=e.get c:=fun c h1 B h3=>by refine(O.get c (show c<e.nx+18 by omega) h3).trans ?_;rw[dS _ _ _ _ om];show(e.put f _).get c=_;rw[dS _ _ _ _ B]
 have G:y.get f=aB 0 [iN 0]:=by refine(O.get f (show f<e.nx+18 by omega) (u _ om)).trans ?_;rw[dS _ _ _ _ om];exact dL _ _ _
 have I:=(g nb om om (u _ om)).trans v;have J:=(g i om om (u _ om)).trans d2;have K:=(g vb om om (u _ om)).trans F;have L:=g b om om (u _ om);have M:bI (y.get b) (o+3)=.val av:=by rw[L];exact r3
 simp(disch:=go_size)only[go_sem,rB,rI,rK,rL,rN,rS,r8,I,M,s];refine hg _ _ (max d lv) ⟨dL _ _ _,?_,?_,?_,⟨o1,o2,o3,show vb<y.nx by omega⟩,?_,?_⟩ om ⟨show H.nx<=y.nx by omega,fun c a t=>?_⟩ ?_
 ·rw[dS _ _ _ _ om];exact J
 ·rw[dS _ _ _ _ om];exact G
 ·rw[dS _ _ _ _ om];exact K
 ·rw[lEP,lIC,lIE];exact g3.keep (lEO _) fun c a _=>by obtain⟨_,_,_,_,a⟩:=a;injection a with a;rw[dS _ _ _ _ om]
 ·rintro c ⟨_,_,_,_,a⟩;injection a with a;omega
 ·unfold WkS at t;rw[dS _ _ _ _ (fun h=>t (.inl h))];exact(g c om (fun h=>t (.inr (.inr (.inl h)))) fun h=>t (.inr (.inr (.inr h)))).trans (q c a fun h=>t (.inr (.inl h)))
 ·rintro c ⟨_,_,_,_,a⟩;injection a with a;omega
theorem zfq(F:aU C)(G:1<=j){nb q s vb:Nat}{lo i:List NE}{d:Nat}{kd:Nat}{rl to:SS}(a:WkF H nb q s vb (lo++[⟨kd,rl,to,[],.aA,neg⟩]++i) nv d){x:AV}{xs:List Nat}(I:Gl 1 H x xs.length (aI xs))(t:∀ c,In x c->¬ In nv c):Ok (qfs (C j) (.ptr nb 0) (iN (lo.length)) x H) fun r H'=>r=.bool true/\∃ u,WkF H' nb q s vb (lo++(⟨kd,rl,to,xs,u,neg⟩::i)) nv d/\Gl 1 H' u xs.length (aI xs)/\(∀c,In u c->In x c)/\Fm (In nv) H H':=by
 unfold qfs;obtain⟨w,e,B,_,l⟩:=qz1 F (k:=j) G I;have v:=a.n;have A:=qP (Gl.flat a.gl) 63;have y:lo.length<(lo++[(⟨kd,rl,to,[],.aA,neg⟩:NE)]++i).length:=g3;obtain⟨b,o,H',D,E,g,f,nx⟩:=a.gl.set1 y (j:=3) om w;rw[zp3 w _ lo.length ⟨kd,rl,to,[],.aA,neg⟩ g3,set_mid]at g;obtain⟨J,K,L,M⟩:=a.o;have p:∀ c,c<=vb->¬ In nv c:=fun c z h=>by have:=a.nin c h;omega
 have fin:WkF H' nb q s vb (lo++(⟨kd,rl,to,xs,w,neg⟩::i)) nv d:=by
  refine⟨(f.get _ om (p _ om)).trans a.n,(f.get _ om (p _ om)).trans a.d,(f.get _ om (p _ om)).trans a.f,(f.get _ om (p _ om)).trans a.v,⟨J,K,L,om⟩,?_,a.nin⟩;have:(lo++([(⟨kd,rl,to,[],w,neg⟩:NE)]++i)).flatMap kV=(lo++(⟨kd,rl,to,xs,w,neg⟩::i)).flatMap kV:=by simp[kV]
  rw[<-this];have m:(lo++(⟨kd,rl,to,xs,w,neg⟩::i)).length=(lo++[(⟨kd,rl,to,[],.aA,neg⟩:NE)]++i).length:=g3;rw[m];exact g
 have n:=B.fm f fun c z=>t c (l c z);simp(disch:=go_size)only[go_sem,seval,v];refine Ok.tT e ?_;rcases B.is with⟨h,_⟩|⟨_,_,_,_,_,h,_⟩
 ·subst h;simp(disch:=go_size)only[go_sem,seval,v,A,D,E];exact Ok.ret ⟨rfl,_,fin,n,l,f⟩
 ·subst h;simp(disch:=go_size)only[go_sem,seval,v,A,D,E];exact Ok.ret ⟨rfl,_,fin,n,l,f⟩
structure VsI(nb db fb vb:Nat)(S0:Nat->Prop)(H0 H:Hp)(nv xa:AV)(lo ln:List NE)(done:List Nat)(d:Nat):Prop where
 wk:WkF H nb db fb vb (lo++ln) nv d
 fm:Fm S0 H0 H
 nw:∀ c,In nv c->H0.nx<=c
 xl:Gl 1 H xa done.length (aI done)
 xw:∀ c,In xa c->H0.nx<=c/\¬ In nv c
 d8:d<=8
 ar:∀ e∈ln,e.Ar (fun c=>H0.nx<=c/\¬ In nv c/\¬ In xa c) H
def aMT(C:Nat->Ev.Call)(f:Fo):Prop:=
 ∀(j:Nat),f.depth+2<=j->∀(nb db fb vb:Nat) (S0:Nat->Prop) (H0:Hp) (b o lv kd n i:Nat) (rl to:SS) (av:AV) (pre rest:List AV) (neg:Bool) (H:Hp) (nv xa:AV) (lo ln:List NE) (done:List Nat) (d:Nat) (qr:pH) (q:pH) (Q:pS) (k:Nat),n-i<k->n=i+f.len->done.length=i->n<=1000 ->
  (lo++ln).length+f.size<=32->lv+f.depth<=8->(∀c,S0 c->nb<=c)->S0 nb->S0 db->S0 fb->vb<H0.nx->pF H0 b o [.int .u8 (.ofNat kd),.str rl.n rl.a,.str to.n to.a,av]->b<nb->Gl 4 H0 av n (pre++rest)->pre.length=i*4->(∀b,In av b->b<nb)->eD (· < nb) H0 f rest->f.Rt Nm->VsI nb db fb vb S0 H0 H nv xa lo ln done d ->
  (∀rX xa' H' ln' d',VsI nb db fb vb S0 H0 H' rX xa' lo (ln++ln') (done++f.ixs (lo++ln).length) d'->ln'.map NE.key=f.iI (lo++ln).length->Ok (q xa' H') Q) ->
  Ok (qfr (C j) qr q (.ptr b o) (iN lv) (.bool neg) (.ptr nb 0) (.ptr vb 0) (iN n) k xa (iN i) H) Q
theorem qvb(q:aU C)(F:iL C){a:Fo}(G:aMT C a)(X:a.depth+3<=k):aZ2 C a k:=by
 obtain⟨j,rfl⟩:∃ m,k=m+1:=⟨k-1,om⟩;intro b o lv kd rl to av neg H nb y z vb lo nv d ca v A B D O i P Q x R S;rw[(q j).zCo];unfold zCo;obtain⟨o1,o2,o3,T⟩:=v.o;have N:=Fo.eO a;refine q3l q F om v A D.aX P B om om S fun H' w I s t J K=>?_;unfold qkr;rw[dD];refine G j om nb y z vb (WkS nb y z nv) H b o lv kd a.len 0 rl to av [] ca neg H' w .aA (lo++[⟨kd,rl,to,[],.aA,neg⟩]) [] [] I _ _ _ bZ lf om rfl om g2 x (fun c h=>?_) (.inl rfl) (.inr (.inl rfl)) (.inr (.inr (.inl rfl))) T A B D rfl O i Q ⟨by rw[lIM];exact s,J,K,Gl.nil 1 H',fun c h=>absurd h (notNil c),t,fun e l=>by cases l⟩ fun u L Y Z M f g=>?_
 ·rcases h with h|h|h|h
  ·omega
  ·omega
  ·omega
  ·have:=v.nin c h;omega
 ·simp only[lOX,lIM]at f g;have n:(lo++[(⟨kd,rl,to,[],.aA,neg⟩:NE)]).length=lo.length+1:=g3;rw[n]at f g;refine(zfq q (j:=j) om f.wk f.xl fun c i=>(f.xw c i).2).mono ?_;rintro r H3 ⟨rfl,x',U,V,W,E⟩;refine⟨rfl,_,u,M,U,?_,?_,f.d8,f.fm.then E fun c i h=>by have:=f.nw c h;omega,f.nw⟩
  ·rw[lUJ,g];simp[NE.key,Fo.iI]
  ·intro e l;rcases lI8.1 l with rfl|l
   ·exact⟨V,fun c i=>f.xw c (W c i)⟩
   ·exact(f.ar e l).fm E (fun c _ p=>p.2.1) fun c _ p=>⟨p.1,p.2.1⟩
theorem zel(hC:aU C)(hN:iL C):∀ f:Fo,aMT C f:=by
 intro f
 induction f with
 |nil=>intro j hj nb M N vb S0 H0 b o lv kd n i rl to av pre B neg H nv xa lo l done d qr q Q k hk hn I Y P Z s1 s2 s3 s4 hvb h4 hb hg hp xM z hr A hq;obtain⟨k,rfl⟩:∃ m,k=m+1:=⟨k-1,om⟩;show Ok (qeb (C j) _ _ _ _ _ _ _ _ (qfr (C j) _ _ _ _ _ _ _ _ k) _ _ H) Q;unfold qeb;simp only[Fo.len]at hn;have L:¬ i<n:=om;simp(disch:=go_size)only[go_sem,rB,rI,rK,rL,rN,rS,r8,L];exact hq nv xa H [] d (by simpa [Fo.ixs] using A) rfl
 |cons k1 r1 t1 a r iha ihr=>
  intro j hj nb M N vb S0 H0 b o lv kd n i rl to av pre B neg H nv xa lo l done d qr q Q k hk hn I Y P Z s1 s2 s3 s4 hvb h4 hb hg hp xM z hr A hq;obtain⟨k,rfl⟩:∃ m,k=m+1:=⟨k-1,om⟩;show Ok (qeb (C j) _ _ _ _ _ _ _ _ (qfr (C j) _ _ _ _ _ _ _ _ k) _ _ H) Q;unfold qeb;simp only[Fo.len]at hn;simp only[Fo.depth]at hj Z;simp only[Fo.size]at P;have L:i<n:=om;simp(disch:=go_size)only[go_sem,rB,rI,rK,rL,rN,rS,r8,L];unfold qxi;have F:=A.wk;obtain⟨o1,o2,o3,o4⟩:=F.o;have e0:=F.n;have hl:=F.gl.aX;simp(disch:=go_size)only[go_sem,rB,rI,rK,rL,rN,rS,r8,e0,hl];have fp:Fm No H (aK H (aB 0 [iN ((lo++l).length)])):=fm;obtain⟨s,e2,g2,q2,f2,n2⟩:=(A.xl.no fp).append (k:=1) (w:=8) (x:=[iN ((lo++l).length)]) om rfl om om;simp only[np]at n2;rw[I]at e2 g2;refine Ok.veE e2 ?_;have n0:=A.fm.nx;have fA:Fm (In xa) H s:=(fp.mono (T:=In xa) (fun _ _ h=>absurd h id)).then f2 fun _ _ h=>h;have W:Fm S0 H0 s:=A.fm.then fA fun c z h=>by have:=(A.xw c h).1;omega
  have kx:∀ c,c<H0.nx->s.get c=H.get c:=fun c z=>fA.get c om fun h=>by have:=(A.xw c h).1;omega
  have X:pF s b o [.int .u8 (.ofNat kd),.str rl.n rl.a,.str to.n to.a,av]:=h4.keep W.nx (W.get b h4.lt fun h=>by have:=s1 b h;omega);have g02:Gl 4 s av n (pre++B):=hg.fm W fun c z h=>by have:=s1 c h;have:=xM c z;omega
  have c02:eD (· < nb) s (.cons k1 r1 t1 a r) B:=z.dJ W fun c z h=>by have:=s1 c h;omega
  obtain⟨_,b1,p1,vS,ca,cr,i1,i2,i3,i4,_,i5,c1,c2,c3,c4,i6⟩:=g02.rule hp c02;have b1n:=xM b1 i3;have I2:WkF s nb M N vb (lo++l) nv d:=⟨(kx _ om).trans F.n,(kx _ om).trans F.d,(kx _ om).trans F.f,(kx _ om).trans F.v,⟨o1,o2,o3,om⟩,F.gl.fm fA fun c z h=>(A.xw c h).2 z,F.nin⟩;have v2:=I2.v;have r0:bI (s.get b) o=.val (.int .u8 (.ofNat kd)):=X.at' 0 g3;have r3:bI (s.get b) (o+3)=.val av:=X.at' 3 g3;have a4:pF s b1 p1 [.int .u8 (.ofNat k1),.str r1.n r1.a,.str t1.n t1.a,vS]:=⟨i2,fun m hm=>i6 m _ (gp hm)⟩;have O:∀ ng:Bool,Ok (C j (.f 111) [.ptr b1 p1,iN ((lv+1)),.bool ng,.ptr nb 0,.ptr M 0,.ptr N 0,.ptr vb 0] s) _:=fun ng=>qvb hC hN iha (k:=j) om b1 p1 (lv+1) k1 r1 t1 vS ng s nb M N vb (lo++l) nv d ca I2 a4 b1n c1 c2 c3 hr.one hr.2.1 om om A.d8;have fin:∀(y:Hp) (v:List NE) (g:AV) (D:Nat),WkF y nb M N vb (lo++l++v) g D->v.map NE.key=(Fo.cons k1 r1 t1 a .nil).iI (lo++l).length->(∀e∈v,e.Ar (fun c=>s.nx<=c/\¬ In g c) y)->D<=8->Fm (WkS nb M N nv) s y->(∀c,In g c->s.nx<=c) ->
    Ok (qfr (C j) qr q (.ptr b o) (iN lv) (.bool neg) (.ptr nb 0) (.ptr vb 0) (iN n) k (.sl (aK H (aB 0 [iN ((lo++l).length)])).nx 0 (i+1) (i+1) false) (iN ((i+1))) y) Q:=by
   intro y v g D R p t u J K;have G:∀ b,In (.sl (aK H (aB 0 [iN ((lo++l).length)])).nx 0 (i+1) (i+1) false) b->b=H.nx+1:=fun b h=>by obtain⟨_,_,_,_,h⟩:=h;injection h with h;rw[<-h];simp only[np]
   have l3:v.length=1+a.size:=by have:=congrArg List.length p;rw[lET,Fo.gQ]at this;rw[this];simp only[Fo.size];omega
   refine ihr j om nb M N vb S0 H0 b o lv kd n (i+1) rl to av (pre++[.int .u8 (.ofNat k1),r1.v,t1.v,vS]) cr neg y g _ lo (l++v) (done++[(lo++l).length]) D qr q Q k om om (by simp[I]) Y (by simp at P ⊢;omega) om s1 s2 s3 s4 hvb h4 hb (by rw[i5]at hg;simpa using hg) (by simp[hp];omega) xM ?_ hr.2.2 ⟨by rw[<-lI5];exact R,W.then J fun c z h=>?_,fun c h=>by have:=K c h;omega,?_,fun c h=>?_,u,fun e S=>?_⟩ fun nv4 xa4 H4 ln4 d4 U V=>?_
   ·obtain⟨_,_,cr',e1,_,_,_,e5⟩:=z;rw[i5]at e1;simp only[List.cons.injEq]at e1;rw[e1.2.2.2.2];exact e5
   ·rcases h with h|h|h|h
    ·exact h▸s2
    ·exact h▸s3
    ·exact h▸s4
    ·have:=A.nw c h;omega
   ·have:(done++[(lo++l).length]).length=i+1:=by simp[I]
    rw[this];have e:aI (done++[(lo++l).length])=aI done++[iN ((lo++l).length)]:=by simp[aI]
    rw[e];exact g2.fm J fun c z h=>by
     have:=G c z;rcases h with h|h|h|h
     ·omega
     ·omega
     ·omega
     ·have:=F.gl.lt h;omega
   ·have:=G c h;exact⟨om,fun h'=>by have:=K c h';omega⟩
   ·rcases lEY.1 S with S|S
    ·refine((A.ar e S).fm (Q:=fun c=>c<H.nx/\H0.nx<=c/\¬ In nv c) fA (fun c _ E=>E.2.2) fun c hl E=>⟨hl,E.1,E.2.1⟩).fm J (fun c _ E h=>?_) fun c _ E=>⟨E.2.1,fun h=>by have:=K c h;omega,fun h=>by have:=G c h;omega⟩;rcases h with h|h|h|h
     ·omega
     ·omega
     ·omega
     ·exact E.2.2 h
    ·exact(t e S).fm (Fm.refl No y) (fun _ _ _ h=>h) fun c _ E=>⟨om,E.2,fun h=>by have:=G c h;omega⟩
   ·have l4:(lo++(l++v)).length=(lo++l).length+1+a.size:=by simp[l3];omega
    rw[l4]at U V;refine hq nv4 xa4 H4 (v++ln4) d4 ?_ ?_
    ·have:(done++[(lo++l).length])++r.ixs ((lo++l).length+1+a.size)=done++(Fo.cons k1 r1 t1 a r).ixs (lo++l).length:=by simp[Fo.ixs]
     rw[<-this,<-lI5];exact U
    ·rw[lID,p,V];simp[Fo.iI]
  cases neg
  ·by_cases h6:kd=6
   ·have h6t:=lO5 h6;simp(disch:=go_size)only[go_sem,rB,rI,rK,rL,rN,rS,r8,v2,r0,r3,h6t,i1];refine Ok.iR (O (decide (i=1))) ?_;rintro _ y ⟨rfl,v,g,D,R,p,t,u,J,K⟩;simp(disch:=go_size)only[go_sem,rB,rI,rK,rL,rN,rS,r8];unfold qhi;simp(disch:=go_size)only[go_sem,rB,rI,rK,rL,rN,rS,r8];exact fin y v g D R p t u J K
   ·simp(disch:=go_size)only[go_sem,rB,rI,rK,rL,rN,rS,r8,v2,r0,r3,h6,i1];refine Ok.iR (O false) ?_;rintro _ y ⟨rfl,v,g,D,R,p,t,u,J,K⟩;simp(disch:=go_size)only[go_sem,rB,rI,rK,rL,rN,rS,r8];unfold qhi;simp(disch:=go_size)only[go_sem,rB,rI,rK,rL,rN,rS,r8];exact fin y v g D R p t u J K
  ·simp(disch:=go_size)only[go_sem,rB,rI,rK,rL,rN,rS,r8,v2,r0,r3,i1];refine Ok.iR (O true) ?_;rintro _ y ⟨rfl,v,g,D,R,p,t,u,J,K⟩;simp(disch:=go_size)only[go_sem,rB,rI,rK,rL,rN,rS,r8];unfold qhi;simp(disch:=go_size)only[go_sem,rB,rI,rK,rL,rN,rS,r8];exact fin y v g D R p t u J K
structure Fo.zV(f:Fo):Prop where
 one:f.len=1
 rt:f.Rt Nm
 dp:f.depth<=8
 sz:f.size<=32
theorem qof(s:aU C)(G:iL C)(R:12<=k){f:Fo}{P:Nat->Prop}(I:pF H b 0 cs)(g:eD P H f cs)(o:f.zV):Ok (C k (.f 91) [.ptr b 0] H) fun v H'=>∃(nv:AV) (t:List NE) (d:Nat),v=.bB [nv,iN d,iN 0]/\Gl 5 H' nv t.length (t.flatMap kV)/\t.map NE.key=f.iI 0/\(∀e∈t,e.Ar (fun c=>H.nx<=c/\¬ In nv c) H')/\(∀c,In nv c->H.nx<=c)/\Fm No H H':=by
 obtain⟨j,rfl⟩:=aT R;rw[(s j).zBw];unfold zBw zvl;simp(disch:=go_size)only[go_sem,rB,rI,rK,rL,rN,rS,r8];obtain⟨kd,rl,to,a,av,ca,rfl,rfl,g1,g2,g3⟩:=g.one o.one;generalize m:(aK ((aK (aK (aK H (aB 0 [.aA])) (aB 0 [iN 0])) (aB 0 [iN 0])).put (H.nx+1+1) (aB 0 [iN 0])) (aB 0 [.jE])).put (H.nx+1+1+1) (aB 0 [.fn 111 [] [.ptr H.nx 0,.ptr (H.nx+1) 0,.ptr (H.nx+1+1) 0,.ptr (H.nx+1+1+1) 0]])=H1;have u:Fm No H H1:=by rw[<-m];(repeat(first|exact Fm.refl _ _|assumption|refine Fm.push ?_ _|refine Fm.up2 ?_ (by go_size)|refine Fm.aH ?_ _ _ (by go_size)))
 have n1:H1.nx=H.nx+4:=by rw[<-m];rfl
 have k0:H1.get H.nx=aB 0 [.aA]:=by rw[<-m];simp(disch:=first|go_size|omega)only[go_sem,rB,rI,rK,rL,rN,rS,r8]
 have T:H1.get (H.nx+1)=aB 0 [iN 0]:=by rw[<-m];simp(disch:=first|go_size|omega)only[go_sem,rB,rI,rK,rL,rN,rS,r8]
 have k2:H1.get (H.nx+1+1)=aB 0 [iN 0]:=by rw[<-m];simp(disch:=first|go_size|omega)only[go_sem,rB,rI,rK,rL,rN,rS,r8]
 have U:H1.get (H.nx+1+1+1)=aB 0 [.fn 111 [] [.ptr H.nx 0,.ptr (H.nx+1) 0,.ptr (H.nx+1+1) 0,.ptr (H.nx+1+1+1) 0]]:=by rw[<-m];exact dL _ _ _
 have V:WkF H1 H.nx (H.nx+1) (H.nx+1+1) (H.nx+1+1+1) [] .aA 0:=⟨k0,T,k2,U,⟨om,om,om,om⟩,Gl.nil 5 _,fun c h=>absurd h (notNil c)⟩;have W:=o.dp;have X:=o.sz;simp only[Fo.depth,Fo.size]at W X;refine Ok.ve (qvb s G (zel s G a) (k:=j) (by omega) b 0 1 kd rl to av false H1 _ _ _ _ [] .aA 0 ca V (I.fm u) I.lt (g1.no u) (fun c g=>g1.lt g) ((g3.mono (Q:=fun c=>c<H.nx) fun c h _=>h).fm u) o.rt.one o.rt.2.1 (by omega) (by simp;omega) (by omega)) ?_;rintro _ z ⟨rfl,l,nv,d,i,n,E,hd2,N,F⟩;simp only[lOX,lIT]at i n;have n2:=N.nx;have A:=i.n;have B:=i.d;have Y:=i.f;simp(disch:=go_size)only[go_sem,rB,rI,rK,rL,rN,rS,r8];unfold q6c;simp(disch:=go_size)only[go_sem,rB,rI,rK,rL,rN,rS,r8,Y];unfold q6d;obtain⟨w,e,O,_,r⟩:=zee s (k:=j) om i.gl;have p:=qP (Gl.flat i.gl) 63;simp(disch:=go_size)only[go_sem,rB,rI,rK,rL,rN,rS,r8,A,B];refine Ok.tT e ?_;have Z:Fm No H z:=u.then N fun c g h=>by
  rcases h with h|h|h|⟨_,_,_,_,h⟩
  ·omega
  ·omega
  ·omega
  ·cases h
 have q:∀ c,In w c->H.nx+4<=c:=fun c g=>by have:=F c (r c g);omega
 have J:∀(x y:bX),Gl 5 ((z.put H.nx x).put (H.nx+1) y) w l.length (l.flatMap kV):=fun x y=>O.keep (lEO _) fun c g _=>by have:=q c g;rw[dS _ _ _ _ om,dS _ _ _ _ om]
 have K:∀(x y:bX),Fm No H ((z.put H.nx x).put (H.nx+1) y):=fun x y=>(Z.aH _ _ om).aH _ _ om;have L:∀(x y:bX),∀e∈l,e.Ar (fun c=>H.nx<=c/\¬ In w c) ((z.put H.nx x).put (H.nx+1) y):=fun x y e S=>by
  have D:=E e S;refine⟨D.gl.keep (lEO _) fun c g _=>?_,fun c g=>?_⟩
  ·have:=(D.nw c g).1;rw[dS _ _ _ _ om,dS _ _ _ _ om]
  ·have:=D.nw c g;exact⟨om,fun h=>this.2 (r c h)⟩
 have M:∀ c,In w c->H.nx<=c:=fun c g=>by have:=q c g;omega
 rcases O.is with⟨h,_⟩|⟨_,_,_,_,_,h,_⟩
 ·subst h;simp(disch:=go_size)only[go_sem,rB,rI,rK,rL,rN,rS,r8,A,B,p];exact Ok.ret ⟨_,l,d,rfl,J _ _,n,L _ _,M,K _ _⟩
 ·subst h;simp(disch:=go_size)only[go_sem,rB,rI,rK,rL,rN,rS,r8,A,B,p];exact Ok.ret ⟨_,l,d,rfl,J _ _,n,L _ _,M,K _ _⟩
theorem zrc(i:aU C)(r:iL C)(s:13<=k){f:Fo}{P:Nat->Prop}(m:eD P H f cs)(n:f.zV):Ok (C k (.f 78) [.agg cs] H) fun v H'=>∃(nv:AV) (b:List NE),v=.bB [nv,iN 0]/\Gl 5 H' nv b.length (b.flatMap kV)/\b.map NE.key=f.iI 0/\(∀e∈b,e.Ar (fun c=>H.nx<=c/\¬ In nv c) H')/\(∀c,In nv c->H.nx<=c)/\Fm No H H':=by obtain⟨j,rfl⟩:=aT s;rw[(i j).zBk];unfold zBk zvz;obtain⟨kd,rl,to,a,av,ca,u,g,_⟩:=m.one n.one;have o:Fm No H (aK H (aB 0 cs)):=fm;have O:=qof i r (k:=j) om (pF.push (H:=H) (cs:=cs)) (m.fm o) n;subst g;simp(disch:=go_size)only[go_sem,seval];refine Ok.ve O ?_;rintro _ H1 ⟨nv,l,d,rfl,g1,w,p,q,x⟩;simp only[np]at p q;simp(disch:=go_size)only[go_sem,seval];exact Ok.ret ⟨nv,l,rfl,g1,w,fun e t=>(p e t).fm (Fm.refl No H1) (fun _ _ _ h=>h) fun c _ h=>⟨om,h.2⟩,fun c h=>by have:=q c h;omega,o.trans x⟩
theorem qlk(c:aU C)(i:iL C)(m:13<=k){f:Fo}{P:Nat->Prop}(e:eD P H f cs)(g:f.zV):Ok (C k (.f 49) [.agg cs] H) fun v H'=>v=iN 0/\Fm No H H':=by obtain⟨j,rfl⟩:=aT m;rw[(c j).zCx];unfold zCx zus;obtain⟨kd,rl,to,a,av,ca,n,b,_⟩:=e.one g.one;have h:Fm No H (aK H (aB 0 cs)):=fm;have O:=qof c i (k:=j) om (pF.push (H:=H) (cs:=cs)) (e.fm h) g;subst b;simp(disch:=go_size)only[go_sem,seval];refine Ok.ve O ?_;rintro _ H1 ⟨nv,l,d,rfl,_,_,_,_,o⟩;simp(disch:=go_size)only[go_sem,seval];exact Ok.ret ⟨rfl,h.trans o⟩
theorem xab(a b:SS):kU (fun xs c=>xH p1 ⟨iA⟩ 1 xs c 2 0) (.agg [.str a.n a.a,.str b.n b.a]) (.agg [.str a.n a.a,.str b.n b.a])=some true:=by show andThen (iA a.v a.v) (andThen (iA b.v b.v) (some true))=_;rw[qj7,qj7];simp[andThen]
theorem zz0(f:aU C)(g:1<=k){x y:NE}(a:x.key=y.key)(h:aD x.av=.val (iN (x.args.length))/\rH x.av=true)(i:aD y.av=.val (iN (y.args.length))/\rH y.av=true):Ok (C k (.f 93) [.agg (kV x),.agg (kV y)] H) fun v H'=>v=.bool true/\Fm No H H':=by
 obtain⟨j,rfl⟩:=aT g;rw[(f j).zHz];unfold zHz z3x kV SS.v;obtain⟨n,b,c,o,p,q⟩:=x;obtain⟨r,s,t,u,w,z⟩:=y;simp only[NE.key,Prod.mk.injEq]at a;obtain⟨rfl,rfl,rfl,rfl⟩:=a;have d:=h.1;have e:=i.1;simp only at d e;have m:jR false (kU (fun xs l=>xH p1 ⟨iA⟩ 1 xs l 2 0) (.agg [.str b.n b.a,.str c.n c.a]) (.agg [.str b.n b.a,.str c.n c.a]))=.val (.bool true):=by rw[xab];rfl
 simp(disch:=first|go_size|omega)only[go_sem,seval,d,e,m];exact Ok.ret ⟨rfl,fm⟩
theorem zdv(c:aU C){j:Nat}(d:1<=j){v u:AV}{l m:List NE}{Hb:Hp}(f:Gl 5 Hb v l.length (l.flatMap kV))(g:Gl 5 Hb u m.length (m.flatMap kV))(b:l.map NE.key=m.map NE.key)(n:Lns l)(o:Lns m)(w:l.length<=1000){qr:pH}{q:pL}{Q:pS}(p:∀ H,Fm No Hb H->Ok (q H) Q):∀(k i:Nat) (H:Hp),i<=l.length->l.length-i<k->Fm No Hb H->Ok (qz3 (C j) qr q u (.fn 93 [] []) v (iN (l.length)) k (iN i) H) Q
 |0,i,_,_,h,_=>om
 |k+1,i,H,hi,hk',hf=>by
  show Ok (zgw (C j) _ _ _ _ _ _ (qz3 (C j) _ _ _ _ _ _ k) _ H) Q;unfold zgw;have r:l.length=m.length:=by simpa using congrArg List.length b
  by_cases a:i<l.length
  ·simp(disch:=go_size)only[go_sem,rB,rI,rK,rL,rN,rS,r8,a];unfold q4n;obtain⟨D,E,y,F,_,s,_⟩:=((f.no hf).rs qe6).at' i a;obtain⟨G,I,A,J,_,t,_⟩:=((g.no hf).rs qe6).at' i om;have e:=congrArg (fun z=>z[i]?) b;simp only[lO6,gp a,gp (show i<m.length by omega),lY0,lI4]at e;have O:=fun H=>zz0 c (k:=j) d (H:=H) e (n _ (lEQ a)) (o _ (lEQ om));unfold kV SS.v at s t O;have x:=hf.nx;simp(disch:=first|go_size|omega)only[go_sem,rB,rI,rK,rL,rN,rS,r8,y,s,A,t];refine Ok.ve (O _) ?_;rintro _ K ⟨rfl,B⟩;simp(disch:=go_size)only[go_sem,rB,rI,rK,rL,rN,rS,r8];unfold zgu;simp(disch:=go_size)only[go_sem,rB,rI,rK,rL,rN,rS,r8];exact zdv c d f g b n o w p k (i+1) _ om om ((hf.trans fm).trans B)
  ·simp(disch:=go_size)only[go_sem,rB,rI,rK,rL,rN,rS,r8,a];exact p H hf
theorem xa3(b:aU C)(z:iL C)(K:13<=k){f g:Fo}{cs ds:List AV}{P R:Nat->Prop}(A:eD P H f cs)(B:eD R H g ds)(n:f.zV)(D:g.zV)(o:f.iI 0=g.iI 0):Ok (C k (.f 50) [.agg cs,.agg ds] H) fun v H'=>v=.bool true/\Fm No H H':=by
 obtain⟨j,rfl⟩:=aT K;rw[(b j).zHp];unfold zHp z4f;obtain⟨kd,rl,to,a,av,ca,Q,u,_⟩:=A.one n.one;obtain⟨S,T,U,Y,Z,tY,V,w,_⟩:=B.one D.one;have X:Fm No H (aK H (aB 0 cs)):=fm;have q:Fm No H (aK (aK H (aB 0 cs)) (aB 0 ds)):=fm;have M:=qof b z (k:=j) om ((pF.push (H:=H) (cs:=cs)).fm ((Fm.refl No _).push (aB 0 ds))) (A.fm q) n;have N:pF (aK (aK H (aB 0 cs)) (aB 0 ds)) (aK H (aB 0 cs)).nx 0 ds:=pF.push;have E:=fun H' (h:Fm No (aK (aK H (aB 0 cs)) (aB 0 ds)) H')=>qof b z (k:=j) om (N.fm h) (B.fm (q.trans h)) D;simp only[np]at E;subst u;subst w;simp(disch:=go_size)only[go_sem,seval];refine Ok.ve M ?_;rintro _ H1 ⟨nv,l,d,rfl,g1,I,r,_,J⟩;have r:=Lns.of r;simp(disch:=go_size)only[go_sem,seval];refine Ok.ve (E H1 J) ?_;rintro _ x ⟨W,m,d2,rfl,g2,k2,s,_,y⟩;have s:=Lns.of s;simp(disch:=go_size)only[go_sem,seval];obtain⟨i,rfl⟩:∃ i,j=i+1:=⟨j-1,om⟩;have c:l.map NE.key=m.map NE.key:=by rw[I,k2,o]
 have t:l.length=m.length:=by simpa using congrArg List.length c
 have O:l.length<=32:=by have:=congrArg List.length I;rw[lET,Fo.gQ]at this;rw[this];exact n.sz
 have e:Ok (C (i+1) (.f 92) [nv,W,.fn 93 [] []] x) fun v H'=>v=.bool true/\Fm No x H':=by rw[(b i).zHy];unfold zHy z3y;have F:=(g1.no y).aX;have G:=g2.aX;rw[<-t]at G;simp(disch:=go_size)only[go_sem,seval,F,G];unfold q4m zgx;simp(disch:=go_size)only[go_sem,seval,F];rw[dD];refine zdv b om (g1.no y) g2 c r s om (fun L p=>?_) bZ 0 x (lEV _) lf (Fm.refl _ _);unfold q9e;exact Ok.ret ⟨rfl,p⟩
 refine Ok.ve e ?_;rintro _ L ⟨rfl,p⟩;exact Ok.ret ⟨rfl,((q.trans J).trans y).trans p⟩
theorem q12(a b c d x:AV):aY [a,b,c,d] 3 [x]=[a,b,c,x]:=id rfl
def aM3(C:Nat->Ev.Call)(f:Fo):Prop:=
 ∀(j:Nat),f.depth+1<=j->∀(H0:Hp) (ib kd n i:Nat) (rl to:SS) (av:AV) (pre rest:List AV) (w:AV) (g:Fo) (H:Hp) (q:pH) (Q:pS) (k:Nat),n-i<k->n=i+f.len->f.Rt Nm->(kd=4\/kd=5\/(3<kd->kd=6))->(kd<4->f=.nil)->g.len+f.size<=1000->n<=1000 ->
  Gl 4 H0 av n (pre++rest)->pre.length=i*4->eD (fun _=>True) H0 f rest->H0.nx<=ib->ib+1<H.nx->H.get ib=aB 0 [.int .u8 (.ofNat kd),.str rl.n rl.a,.str to.n to.a,av]->H.get (ib+1)=aB 0 [.int .u8 (.ofNat 0),.str 0 0,.str 0 0,.aA]->vB (fun b=>b=ib\/b=ib+1) H0 H w g->Fm No H0 H ->
  (∀w H,vB (fun b=>b=ib\/b=ib+1) H0 H w (g.app (Fo.spl kd f.flat))->H.get ib=aB 0 [.int .u8 (.ofNat kd),.str rl.n rl.a,.str to.n to.a,av]->H.get (ib+1)=aB 0 [.int .u8 (.ofNat 0),.str 0 0,.str 0 0,.aA]->ib+1<H.nx->Fm No H0 H->Ok (q w H) Q) ->
  Ok (qfj (C j) q (.ptr ib 0) av (iN n) k w (iN i) H) Q
theorem zcy(p:aU C){a:Fo}(B:aM3 C a)(D:a.depth+1<=j){kd:Nat}{rl to:SS}{ca:List AV}(q:Gl 4 H av a.len ca)(E:eD (fun _=>True) H a ca)(n:(Fo.cons kd rl to a .nil).Rt Nm)(O:a.size<=1000):Ok (C (j+1) (.f 77) [.agg [.int .u8 (.ofNat kd),.str rl.n rl.a,.str to.n to.a,av]] H) fun r H'=>∃ f i,r=.agg [.int .u8 (.ofNat kd),.str rl.n rl.a,.str to.n to.a,f]/\Gl 4 H' f (Fo.spl kd a.flat).len i/\(∀b,In f b->H.nx<=b)/\eD (fun b=>H.nx<=b) H' (Fo.spl kd a.flat) i/\Fm No H H':=by
 rw[(p j).zHr];unfold zHr z4d;have G:=(q.no ((Fm.refl No H).push (aB 0 [.int .u8 (.ofNat kd),.str rl.n rl.a,.str to.n to.a,av]))).aX;simp(disch:=first|go_size|omega)only[go_sem,rB,rI,rK,rL,rN,rS,r8,G];unfold q4p;rw[dD];obtain⟨H1,c⟩:∃ H1,H1=(aK (aK H (aB 0 [.int .u8 (.ofNat kd),.str rl.n rl.a,.str to.n to.a,av])) (aB 0 [.int .u8 (.ofNat 0),.str 0 0,.str 0 0,.aA])):=⟨_,rfl⟩;rw[<-c];have I:Fm No H H1:=by rw[c];exact xE
 have Q:H1.nx=H.nx+1+1:=by rw[c];simp only[np]
 have J:=Fo.eO a;have K:H1.get (H.nx+1)=aB 0 [.int .u8 (.ofNat 0),.str 0 0,.str 0 0,.aA]:=by rw[c];simp(disch:=go_size)only[go_sem,rB,rI,rK,rL,rN,rS,r8]
 refine B j D H H.nx kd a.len 0 rl to av [] ca .aA .nil H1 _ _ bZ lf om n.2.1 ?_ ?_ (by simp only[Fo.len];omega) om q rfl E (lEO _) om (by rw[c];simp(disch:=first|go_size|omega)only[go_sem,rB,rI,rK,rL,rN,rS,r8]) K (vB.nil _ _ _) I fun w g s t u P F=>?_
 ·rcases n.1 with h|h|h|h|h|h<;>omega
 ·intro R;rcases n.1 with h|h|h|h|h|h
  ·exact h.2.2.2
  ·exact h.2.2.2
  ·exact h.2.2.2
  ·omega
  ·omega
  ·omega
 obtain⟨cs,L,M⟩:=s.ex;obtain⟨j,rfl⟩:∃ m,j=m+1:=⟨j-1,om⟩;obtain⟨w',e,A,_,N⟩:=zed p (k:=j+1) om L;refine Ok.veE e ?_;have v:∀ b,In w' b->H.nx<=b/\¬(b=H.nx\/b=H.nx+1):=fun b d=>s.nw b (N b d);have l:∀ x y:bX,∃f i,AV.agg [.int .u8 (.ofNat kd),.str rl.n rl.a,.str to.n to.a,w']=.agg [.int .u8 (.ofNat kd),.str rl.n rl.a,.str to.n to.a,f]/\Gl 4 ((g.put H.nx x).put (H.nx+1) y) f (Fo.spl kd a.flat).len i/\(∀b,In f b->H.nx<=b)/\eD (fun b=>H.nx<=b) ((g.put H.nx x).put (H.nx+1) y) (Fo.spl kd a.flat) i/\Fm No H ((g.put H.nx x).put (H.nx+1) y):=fun x y=>by have z:Fm (fun b=>b=H.nx\/b=H.nx+1) g ((g.put H.nx x).put (H.nx+1) y):=((Fm.refl _ _).put _ _ fun _=>.inl rfl).put _ _ fun _=>.inr rfl;exact⟨w',cs,rfl,A.fm z fun b d o=>(v b d).2 o,fun b d=>(v b d).1,(M.dJ z fun b d o=>d.2.2 o).mono fun b _ d=>d.1,(F.aH _ _ (lEO _)).aH _ _ om⟩
 rcases A.is with⟨h,_⟩|⟨_,_,_,_,_,h,_⟩
 ·subst h;simp(disch:=omega)only[go_sem,seval,t,u,q12];exact Ok.ret (l _ _)
 ·subst h;simp(disch:=omega)only[go_sem,seval,t,u,q12];exact Ok.ret (l _ _)
theorem zx3(hC:aU C):∀ f:Fo,aM3 C f:=by
 intro f
 induction f with
 |nil=>intro j hj H0 ib kd n i rl to av pre s w g H q Q k hk hn B L y M N hg hp A i1 b1 T S D O U;obtain⟨k,rfl⟩:∃ m,k=m+1:=⟨k-1,om⟩;show Ok (qom (C j) _ _ _ _ (qfj (C j) _ _ _ _ k) _ _ H) Q;unfold qom;simp only[Fo.len]at hn;have v:¬ i<n:=om;simp only[go_sem,v];refine U w H ?_ T S b1 O;simp only[Fo.flat,Fo.spl,Fo.rA];exact D
 |cons k1 r1 t1 a r iha ihr=>
  intro j hj H0 ib kd n i rl to av pre s w g H q Q k hk hn B L y M N hg hp A i1 b1 T S D O U;obtain⟨k,rfl⟩:∃ m,k=m+1:=⟨k-1,om⟩;show Ok (qom (C j) _ _ _ _ (qfj (C j) _ _ _ _ k) _ _ H) Q;unfold qom;simp only[Fo.len]at hn;simp only[Fo.depth]at hj;simp only[Fo.size]at M;have v:i<n:=om;obtain⟨_,b,o,V,ca,cr,e1,e2,e3,e4,_,e5,g1,g2,g3,g4,_⟩:=(hg.no O).rule hp (A.fm O);simp only[go_sem,v];unfold q4o;simp(disch:=go_size)only[go_sem,rB,rI,rK,rL,rN,rS,r8,e1,e4];obtain⟨j,rfl⟩:∃ m,j=m+1:=⟨j-1,om⟩;have fsz:(Fo.spl k1 a.flat).len<=a.size:=lI7 (Fo.eO _) (lI7 (Fo.oG _ _) (Fo.kD _));obtain⟨u,l⟩:∃ u,u=(aK H (aB 0 [.int .u8 (.ofNat 0),.str 0 0,.str 0 0,.aA])).put H.nx (aB 0 [.int .u8 (.ofNat k1),.str r1.n r1.a,.str t1.n t1.a,V]):=⟨_,rfl⟩;have e:Fm No H u:=by rw[l];exact jW
  have nHH:u.nx=H.nx+1:=by rw[l];simp only[nq,np]
  have Z:u.get H.nx=aB 0 [.int .u8 (.ofNat k1),.str r1.n r1.a,.str t1.n t1.a,V]:=by rw[l];exact dL _ _ _
  rw[<-l];refine Ok.ve (zcy hC iha (j:=j) om (kd:=k1) (g1.no e) (g3.fm e) ⟨B.1,B.2.1,trivial⟩ om) ?_;rintro _ E ⟨W,tY,rfl,c1,c2,c3,f2⟩;have q2:=(f2.keep (show ib<u.nx by omega)).trans ((e.keep (show ib<H.nx by omega)).trans T);have k2:=(f2.keep (show H.nx<u.nx by omega)).trans Z;have fin:∀(t:Fo) (X:List AV) (R:Hp),Fm No H R->0<t.len->eD (fun b=>H.nx<=b) R t X->t.app (Fo.spl kd r.flat)=Fo.spl kd (Fo.cons k1 r1 t1 a r).flat->t.len<=a.size+1 ->
    Ok (ve (kJ 4 64 R w (some ⟨t.len,X⟩)) fun Y H=>qol (C (j+1)) (qfj (C (j+1)) q (.ptr ib 0) av (iN n) k) Y (iN i) H) Q:=by
   intro t X R p hl0 hff hap hln;have hnw:∀ b,In w b->b<H.nx:=fun b d=>by obtain⟨cs,d1,_⟩:=D.ex;exact d1.lt d
   have nA:=p.nx;refine Ok.ve ((D.no p).add (hff.mono fun b _ d=>⟨om,fun F=>by have:=hnw b F;omega,om⟩) (fun b d=>om) om hl0 om) ?_;rintro w' H4 ⟨w4,f4,n4,hw4⟩;have kp:∀ c,c<H.nx->(c=ib\/c=ib+1)->H4.get c=H.get c:=fun c A hx=>by rw[f4.get c om (fun F=>(D.nw c F).2 hx),p.keep A]
   subst hw4;unfold qol;simp(disch:=go_size)only[go_sem,rB,rI,rK,rL,rN,rS,r8];have f6:Fm No H0 H4:=(O.trans p).then f4 fun c A F=>by have:=(D.nw c F).1;omega
   have e5':pre++s=(pre++[.int .u8 (.ofNat k1),r1.v,t1.v,V])++cr:=by rw[e5];simp
   refine ihr (j+1) om H0 ib kd n (i+1) rl to av (pre++[.int .u8 (.ofNat k1),r1.v,t1.v,V]) cr _ (g.app t) _ q Q k om om B.2.2 L (fun h=>by cases y h) (by rw[Fo.jT];omega) N (e5'▸hg) (by simp[hp];omega) ?_ i1 om ((kp ib om (.inl rfl)).trans T) ((kp (ib+1) b1 (.inr rfl)).trans S) w4 f6 ?_
   ·obtain⟨_,_,cr',d1,_,_,_,d5⟩:=A;simp_all
   ·rw[<-hap,<-Fo.mP]at U;exact U
  have f3:∀ x,Fm (fun b=>b=H.nx) E (E.put H.nx x):=fun x=>(Fm.refl _ _).put _ _ fun h=>rfl;have p:∀ x,Fm No H (E.put H.nx x):=fun x=>(e.trans f2).aH _ _ (lEO _);have G:∀ x,Gl 4 (E.put H.nx x) W (Fo.spl k1 a.flat).len tY:=fun x=>c1.fm (f3 x) fun b d he=>by have:=c2 b d;omega
  have I:∀ x,eD (fun b=>H.nx<=b) (E.put H.nx x) (Fo.spl k1 a.flat) tY:=fun x=>(c3.dJ (f3 x) fun b d he=>om).mono fun b _ d=>om;have el:∀ x,eD (fun b=>H.nx<=b) (aK (E.put H.nx x) (aB 0 [.int .u8 (.ofNat k1),.str r1.n r1.a,.str t1.n t1.a,W])) (.cons k1 r1 t1 (Fo.spl k1 a.flat) .nil) [.int .u8 (.ofNat k1),.str r1.n r1.a,.str t1.n t1.a,W]:=fun x=>
   ⟨W,tY,[],rfl,(G x).no ((Fm.refl _ _).push _),fun b d=>by have:=c2 b d;omega,(I x).fm ((Fm.refl _ _).push _),rfl⟩
  have J:(Fo.cons k1 r1 t1 (Fo.spl k1 a.flat) .nil).len=1:=rfl;have K:k1=4\/k1=5->0<(Fo.spl k1 a.flat).len:=fun h=>by
   have S:2<=a.len:=by rcases B.1 with P|P|P|P|P|P<;>omega
   have:=(Fo.vO Nm k1 a.flat (Fo.oP Nm a B.2.1)).2;rw[Fo.jC]at this;omega
  have h4':¬ kd<4:=fun h=>by cases y h
  by_cases z:k1=kd
  ·subst z;by_cases h6:k1=6
   ·subst h6;simp(disch:=go_size)only[go_sem,seval,k2,q2];exact fin _ _ _ ((p _).push _) (lXQ Nat.one_pos J.symm) (el _) (by simp[Fo.flat,Fo.spl,Fo.app]) om
   ·simp(disch:=go_size)only[go_sem,rB,rI,rK,rL,rN,rS,r8,k2,q2,h6,(G _).src];exact fin _ _ _ (p _) (K om) (I _) (by simp[Fo.flat,Fo.spl];omega) om
  ·simp(disch:=go_size)only[go_sem,seval,k2,q2,z];exact fin _ _ _ ((p _).push _) (lXQ Nat.one_pos J.symm) (el _) (by simp[Fo.flat,Fo.spl,z,Fo.app]) om
theorem zsv(e:aU C)(s:iL C)(t:14<=k){f:Fo}(l:eD (fun _=>True) H f cs)(c:f.zV):Ok (C k (.f 36) [.agg cs] H) fun v H'=>∃ ds,v=.bB [.agg ds,iN 0]/\eD (fun b=>H.nx<=b) H' f.flat ds/\Fm No H H':=by
 obtain⟨j,rfl⟩:=aT t;rw[(e j).zHg];unfold zHg z4n;have m:Fm No H (aK (aK H (aB 0 cs)) (aB 0 [.int .u8 (.ofNat 0),.str 0 0,.str 0 0,.aA])):=by exact xE
 have O:=qlk e s (k:=j) om (l.fm m) c;obtain⟨kd,rl,to,a,av,ca,rfl,rfl,g1,g2,g3⟩:=l.one c.one;have w:=c.dp;have x:=c.sz;simp only[Fo.depth,Fo.size]at w x;simp(disch:=first|go_size|omega)only[go_sem,seval];refine Ok.ve O ?_;rintro _ H1 ⟨rfl,g⟩;unfold zhf;have y:=g.nx;simp only[np]at y;have k0:H1.get H.nx=aB 0 [.int .u8 (.ofNat kd),.str rl.n rl.a,.str to.n to.a,av]:=(g.keep (by(first|go_size|omega))).trans (by simp(disch:=first|go_size|omega)only[go_sem,seval]);have z:H1.get (H.nx+1)=aB 0 [.int .u8 (.ofNat 0),.str 0 0,.str 0 0,.aA]:=(g.keep gz).trans g5;simp only[go_sem,seval,k0];obtain⟨i,rfl⟩:∃ i,j=i+1:=⟨j-1,om⟩;have h:=m.trans g;refine Ok.ve (zcy e (zx3 e a) (j:=i) om (g1.no h) (g3.fm h) c.rt om) ?_;rintro _ o ⟨p,A,rfl,B,q,D,r⟩;have k2:=(r.keep (show H.nx+1<H1.nx by omega)).trans z;simp(disch:=go_size)only[go_sem,rB,rI,rK,rL,rN,rS,r8,k2];have n:Fm (fun b=>b=H.nx+1) o (o.put (H.nx+1) (aB 0 [.int .u8 (.ofNat kd),.str rl.n rl.a,.str to.n to.a,p])):=(Fm.refl _ _).put _ _ fun _=>rfl;exact Ok.ret ⟨_,rfl,⟨p,A,[],rfl,B.fm n fun b d u=>by have:=q b d;omega,fun b d=>by have:=q b d;omega,(D.dJ n fun b d u=>om).mono fun b _ d=>om,rfl⟩,(h.trans r).aH _ _ om⟩
def gT(l:List Key):Nat:=l.countP fun x=>decide (x.1<4)
def yE:List Key->Nat->List TN
 | [],_=>[]
 |(k,rl,to,as')::l,c=>⟨k,rl,to,as',if k<4 then some c else none⟩::yE l (c+if k<4 then 1 else 0)
theorem zp9:∀(l:List Key) (c:Nat),(yE l c).length=l.length
 | [],_=>rfl
 |(k,rl,to,as')::l,c=>by rw[yE,lEX,zp9 l,lEX]
theorem qet(x:Key)(l:List Key):gT (x::l)=gT l+if x.1<4 then 1 else 0:=by unfold gT;rw[List.countP_cons];simp
theorem qoi(l m:List Key):gT (l++m)=gT l+gT m:=List.countP_append
theorem q8j:∀(l m:List Key) (c:Nat),yE (l++m) c=yE l c++yE m (c+gT l)
 | [],m,c=>by simp[yE,gT]
 |(k,rl,to,as')::l,m,c=>by rw[lUS,yE,q8j l m,yE,qet,lUS];congr 3;simp only;omega
theorem q8n:∀(f:Fo) (p:Nat),f.Rt Nm->gT (f.iI p)=f.lv
 | .nil,_,_=>rfl
 | .cons k rl to a r,p,⟨h1,h2,h3⟩=>by
  rw[Fo.iI,qet,qoi,q8n a _ h2,q8n r _ h3,Fo.lv];by_cases b:k<4
  ·have:a=.nil:=by
    rcases h1 with h|h|h|h|h|h
    ·exact h.2.2.2
    ·exact h.2.2.2
    ·exact h.2.2.2
    ·omega
    ·omega
    ·omega
   subst this;rw[lEZ b,lEZ b];simp only[Fo.lv];omega
  ·rw[lEU b,lEU b];omega
theorem qrw:∀(f:Fo) (p c:Nat),f.Rt Nm->yE (f.iI p) c=f.dP p c
 | .nil,_,_,_=>rfl
 | .cons k rl to a r,p,c,⟨h1,h2,h3⟩=>by
  rw[Fo.iI,yE,q8j,qrw a _ _ h2,qrw r _ _ h3,q8n a _ h2,Fo.dP];have e:c+(if k<4 then 1 else 0)+a.lv=c+if k<4 then 1 else a.lv:=by
   by_cases b:k<4
   ·have:a=.nil:=by
     rcases h1 with h|h|h|h|h|h
     ·exact h.2.2.2
     ·exact h.2.2.2
     ·exact h.2.2.2
     ·omega
     ·omega
     ·omega
    subst this;rfl
   ·simp[b]
  by_cases b:k<4
  ·have:a=.nil:=by
    rcases h1 with h|h|h|h|h|h
    ·exact h.2.2.2
    ·exact h.2.2.2
    ·exact h.2.2.2
    ·omega
    ·omega
    ·omega
   subst this;rfl
  ·simp[b]
def xJ:Option Nat->AV
 |some c=>.int .i64 (.ofNat c)
 |none=>.int .i64 (.negSucc 0)
structure TE where
 t:TN
 av:AV
 sp:AV
def uT(e:TE):List AV:=[.int .u8 (.ofNat e.t.k),e.t.rl.v,e.t.to.v,e.sp,e.av,xJ e.t.leaf]
theorem qdq(e:TE):(uT e).length=6:=rfl
structure TE.Ok(tg:SS->SS->List SS)(H:Hp)(e:TE):Prop where
 gl:Gl 1 H e.av e.t.args.length (aI e.t.args)
 sp:(e.t.k=3/\Gl 1 H e.sp (tg e.t.rl e.t.to).length ((tg e.t.rl e.t.to).flatMap sC))\/(e.t.k≠3/\e.sp=.aA)
theorem TE.Ok.dJ{tg:SS->SS->List SS}{e:TE}(h:e.Ok tg H)(f:Fm S H H')(c:∀ b,In e.sp b\/In e.av b->¬ S b):e.Ok tg H':=⟨h.gl.fm f fun b a=>c b (.inr a),h.sp.imp (fun h=>⟨h.1,h.2.fm f fun b a=>c b (.inl a)⟩) id⟩
theorem TE.Ok.fm{tg:SS->SS->List SS}{e:TE}(h:e.Ok tg H)(f:Fm No H H'):e.Ok tg H':=h.dJ f fun _ _ h=>h
theorem TE.Ok.lt{tg:SS->SS->List SS}{e:TE}(h:e.Ok tg H)(a:In e.sp b\/In e.av b):b<H.nx:=by
 rcases a with a|a
 ·rcases h.sp with h|h
  ·exact h.2.lt a
  ·rw[h.2]at a;exact absurd a (notNil b)
 ·exact h.gl.lt a
structure TbR(tg:SS->SS->List SS)(H:Hp)(v:AV)(es:List TE)(f:Fo):Prop where
 gl:Gl 6 H v es.length (es.flatMap uT)
 is:es.map TE.t=f.dP 0 0
 ok:∀ e∈es,e.Ok tg H
theorem TbR.fm{tg:SS->SS->List SS}{v:AV}{es:List TE}{f:Fo}(h:TbR tg H v es f)(a:Fm No H H'):TbR tg H' v es f:=⟨h.gl.no a,h.is,fun e b=>(h.ok e b).fm a⟩
theorem Gl.cells{v:AV}(h:Gl z H v n l):wX v=some [v]:=by rcases h.is with⟨rfl,rfl⟩|⟨b,o,e,q,L,rfl,_⟩<;>rfl
theorem xb7(a b c d e f x:AV):aY [a,b,c,d,e,f] 5 [x]=[a,b,c,d,e,x]:=id rfl
def teZ:List AV:=[.int .u8 (.ofNat 0),.str 0 0,.str 0 0,.aA,.aA,iN 0]
def xK(es:List TE)(n:Nat):List AV:=es.flatMap uT++aZ teZ (n-es.length)
theorem te6(es:List TE):(es.flatMap uT).length=es.length*6:=by
 induction es with
 |nil=>rfl
 |cons a l ih=>rw[lIQ,lEP,ih,qdq,lEX];omega
theorem zcp(l:List AV):∀ n,(aZ l n).length=n*l.length
 |0=>by show([]:List AV).length=_;simp
 |n+1=>by show(l++aZ l n).length=_;rw[lEP,zcp l n,Nat.succ_mul];omega
theorem q7w{es:List TE}(h:es.length<=n):(xK es n).length=n*6:=by unfold xK;rw[lEP,te6,zcp];show es.length*6+(n-es.length)*6=_;omega
theorem zxe(A B D Z:List AV)(k:Nat)(a:k=A.length)(h:B.length=D.length):aY (A++(B++Z)) k D=A++(D++Z):=by subst a;unfold aY;simp_all
theorem z8c{es:List TE}(h:es.length<n)(e:TE):aY (xK es n) (es.length*6) (uT e)=xK (es++[e]) n:=by unfold xK;rw[show n-es.length=n-(es.length+1)+1 by omega,show ∀m,aZ teZ (m+1)=teZ++aZ teZ m from fun _=>rfl,zxe _ teZ (uT e) _ _ (te6 es).symm rfl,lIC,lIE,lI5,lEP];rfl
theorem zoi{es:List TE}(e a:TE)(x:AV)(h:aY (uT e) j [x]=uT a)(c:j<6):aY (xK (es++[e]) n) (es.length*6+j) [x]=xK (es++[a]) n:=by unfold xK;rw[lIC,lIE,lIC,lIE,lEP,lEP,<-h];have b:=te6 es;have d:=qdq e;generalize es.flatMap uT=A at *;generalize uT e=B at *;unfold aY;rw[<-b,lI5,lI5 A,lOU,lUX om,lIP,lOV,lO4 g2];simp
theorem qjq{b o:Nat}{v:AV}(h:wX v=some [v]):jN H (.ptr b o) v=storeAt H b o [v] .undef:=by cases v<;>first|rfl|cases h
end Go.Di
end
section
namespace Go.Di
open Go.Ev
variable {C:Nat->Ev.Call} {tg:SS->SS->List SS}
variable {H:Hp} {i j k:Nat}
theorem TbR.at{v:AV}{es:List TE}{f:Fo}(h:TbR tg H v es f){t:TN}(c:(f.dP 0 0)[i]? =some t):∃(b o:Nat) (e:TE),(i<es.length/\e∈es)/\e.t=t/\e.Ok tg H/\aG 6 v (iN i)=.val (.ptr b o)/\b<H.nx/\iF (H.get b) o 6=some [.int .u8 (.ofNat t.k),.str t.rl.n t.rl.a,.str t.to.n t.to.a,e.sp,e.av,xJ t.leaf]:=by
 rw[<-h.is,lO6]at c;have a:i<es.length:=by
  rcases lOI i es.length with h|h
  ·exact h
  ·simp_all
 rw[gp a]at c;obtain rfl:es[i].t=t:=by simpa using c
 obtain⟨b,o,d,g,_,j,_⟩:=(h.gl.rs qdq).at' i a;exact⟨b,o,es[i],⟨a,lEQ a⟩,rfl,h.ok _ (lEQ a),d,g,j⟩
def aKX(tg:SS->SS->List SS)(C:Nat->Ev.Call)(f:Fo):Prop:=
 ∀(j:Nat),f.depth+1<=j->∀(F:Fo) (v:AV) (es:List TE) (H0:Hp) (ob kd n i p c:Nat) (rl to:SS) (av w:AV) (pre post:List TN) (d:List Nat) (g:Fo) (H:Hp) (qr:AV->pH) (q:pH) (Q:pS) (k:Nat),TbR tg H0 v es F->es.length<=32->F.dP 0 0=pre++f.dP p c++post->pre.length=p ->
  n-i<k->n=i+f.len->d.length=i->n<=1000->g.len+f.size<=1000->p+f.size<=1000->f.Rt Nm->Gl 1 H0 av n (aI (d++f.ixs p))->H0.nx<=ob->ob<H.nx->H.get ob=aB 0 [.int .u8 (.ofNat kd),.str rl.n rl.a,.str to.n to.a,w]->vB (fun b=>b=ob) H0 H w g->Fm No H0 H ->
  (∀w H,vB (fun b=>b=ob) H0 H w (g.app f)->H.get ob=aB 0 [.int .u8 (.ofNat kd),.str rl.n rl.a,.str to.n to.a,w]->ob<H.nx->Fm No H0 H->Ok (q (iN ((p+f.size))) H) Q) ->
  Ok (qkh (C j) qr q v (.ptr ob 0) av (iN n) k (iN p) (iN i) H) Q
theorem q7x(K:aU C){a:Fo}(P:aKX tg C a)(Q:a.depth+1<=j){F:Fo}{v:AV}{es:List TE}{kd p c:Nat}{rl to:SS}{pre post:List TN}(t:TbR tg H v es F)(u:es.length<=32)(z:F.dP 0 0=pre++(Fo.cons kd rl to a .nil).dP p c++post)(A:pre.length=p)(R:a.Rt Nm)(S:kd<4->a=.nil):Ok (C (j+1) (.f 48) [v,iN p] H) fun r H'=>∃ cs,r=.bB [.agg cs,iN ((p+1+a.size)),.bool true]/\eD (fun b=>H.nx<=b) H' (.cons kd rl to a .nil) cs/\Fm No H H':=by
 rw[(K j).zHo];unfold zHo z4g;have D:(F.dP 0 0)[p]? =some ⟨kd,rl,to,a.ixs (p+1),if kd<4 then some c else none⟩:=by rw[z,lI5,lIJ om,A,lUV];rfl
 have E:(F.dP 0 0).length=es.length:=by rw[<-t.is,lET]
 have U:p+1+a.size<=32:=by have:=congrArg List.length z;rw[E,lEP,lEP,Fo.gP,A,Fo.size,Fo.size]at this;omega
 have V:Fm No H (aK H (aB 0 [.int .u8 (.ofNat 0),.str 0 0,.str 0 0,.aA])):=by exact kW
 obtain⟨b,o,e,⟨hi,_⟩,g,s,Z,e2,e3⟩:=t.at D;have W:=(t.fm V).gl.aX;have G:¬ es.length<=p:=om;have I:¬ 32<es.length:=om;simp only[go_sem,W,G,I];unfold q4s;have l:=s.gl.aX;have X:=Fo.eO a;rw[g,Fo.rC]at l;simp(disch:=first|go_size|omega)only[go_sem,rB,rI,rK,rL,rN,rS,r8,Z,e3,l];unfold q4x;rw[dD];have n:=s.gl;rw[g,Fo.rC]at n;obtain⟨H1,f⟩:∃ H1,H1=((aK ((aK H (aB 0 [.int .u8 (.ofNat 0),.str 0 0,.str 0 0,.aA]))) (aB 0 [.int .u8 (.ofNat 0),.str 0 0,.str 0 0,.aA,.aA,iN 0])).put (H.nx+1) (aB 0 [.int .u8 (.ofNat kd),.str rl.n rl.a,.str to.n to.a,e.sp,e.av,xJ (if kd<4 then some c else none)])).put H.nx (aB 0 [.int .u8 (.ofNat kd),.str rl.n rl.a,.str to.n to.a,.aA]):=⟨_,rfl⟩;rw[<-f];have Y:Fm No H H1:=by rw[f];repeat first|exact Fm.refl _ _|assumption|refine Fm.push ?_ _|refine Fm.aH ?_ _ _ om
 have n1:H1.nx=H.nx+1+1:=by rw[f];simp only[np,nq]
 have J:F.dP 0 0=(pre++[⟨kd,rl,to,a.ixs (p+1),if kd<4 then some c else none⟩])++a.dP (p+1) c++post:=by rw[z,Fo.dP,Fo.dP];simp
 refine P j Q F v es H H.nx kd a.len 0 (p+1) c rl to e.av .aA (pre++[⟨kd,rl,to,a.ixs (p+1),if kd<4 then some c else none⟩]) post [] .nil H1 _ _ _ bZ t u J (by simp[A]) lf om rfl om (by simp only[Fo.len];omega) om R ?_ (lEO _) om (by rw[f];exact dL _ _ _) (vB.nil _ _ _) Y fun w i L B b2 T=>?_
 ·exact n
 unfold qki;obtain⟨cs,c1,c2⟩:=L.ex;obtain⟨j,rfl⟩:∃ m,j=m+1:=⟨j-1,om⟩;obtain⟨w',e',O,_,d2⟩:=zed K (k:=j+1) om c1;have M:∀ b,In w' b->H.nx<=b/\¬ b=H.nx:=fun b d=>L.nw b (d2 b d);have q:∀ x y:bX,∃cs,AV.bB [.agg [.int .u8 (.ofNat kd),.str rl.n rl.a,.str to.n to.a,w'],iN ((p+1+a.size)),.bool true]=.bB [.agg cs,iN ((p+1+a.size)),.bool true]/\eD (fun b=>H.nx<=b) ((i.put H.nx x).put H.nx y) (.cons kd rl to a .nil) cs/\Fm No H ((i.put H.nx x).put H.nx y):=fun x y=>by have N:Fm (fun b=>b=H.nx) i ((i.put H.nx x).put H.nx y):=((Fm.refl (fun b=>b=H.nx) i).put _ _ fun _=>rfl).put _ _ fun _=>rfl;exact⟨_,rfl,⟨w',cs,[],rfl,O.fm N fun b d g=>(M b d).2 g,fun b d=>(M b d).1,(c2.dJ N fun b d g=>d.2.2 g).mono fun b _ d=>d.1,rfl⟩,(T.aH _ _ (lEO _)).aH _ _ (lEO _)⟩
 simp only[go_sem,B];refine Ok.veE e' ?_;rcases O.is with⟨h,_⟩|⟨_,_,_,_,_,h,_⟩
 ·subst h;simp only[go_sem,seval,B,q12];exact Ok.ret (q _ _)
 ·subst h;simp only[go_sem,seval,B,q12];exact Ok.ret (q _ _)
theorem zoj(hC:aU C):∀ f:Fo,aKX tg C f:=by
 intro f
 induction f with
 |nil=>intro j hj F v es H0 ob kd n i p c rl to av w pre post d g H qr q Q k Y o hF Z hk hn s B D E I J i1 K L y G M;obtain⟨k,rfl⟩:∃ m,k=m+1:=⟨k-1,om⟩;show Ok (qon (C j) _ _ _ _ _ _ (qkh (C j) _ _ _ _ _ _ k) _ _ H) Q;unfold qon;simp only[Fo.len]at hn;have l:¬ i<n:=om;simp only[go_sem,l];refine M w H ?_ L K G;rw[Fo.rA];exact y
 |cons k1 r1 t1 a r iha ihr=>
  intro j hj F v es H0 ob kd n i p c rl to av w pre post d g H qr q Q k Y o hF Z hk hn s B D E I J i1 K L y G M;obtain⟨k,rfl⟩:∃ m,k=m+1:=⟨k-1,om⟩;show Ok (qon (C j) _ _ _ _ _ _ (qkh (C j) _ _ _ _ _ _ k) _ _ H) Q;unfold qon;simp only[Fo.len]at hn;simp only[Fo.depth]at hj;simp only[Fo.size]at D E;have l:i<n:=om;obtain⟨b2,o2,e1,e2,_,e3⟩:=(J.no G).at (i:=i) (x:=iN p) (by simp[aI,Fo.ixs,<-s]);simp only[go_sem,l];unfold q4t;simp only[go_sem,e1,e3];unfold q4u;obtain⟨j,rfl⟩:∃ m,j=m+1:=⟨j-1,om⟩;have O:Fm No H (aK H (aB 0 [.int .u8 (.ofNat 0),.str 0 0,.str 0 0,.aA])):=by exact kW
  have P:k1<4->a=.nil:=fun h4=>by
   rcases I.1 with h|h|h|h|h|h
   ·exact h.2.2.2
   ·exact h.2.2.2
   ·exact h.2.2.2
   ·omega
   ·omega
   ·omega
  have A:F.dP 0 0=pre++(Fo.cons k1 r1 t1 a .nil).dP p c++(r.dP (p+1+a.size) (c+if k1<4 then 1 else a.lv)++post):=by rw[hF,Fo.dP,Fo.dP,Fo.dP];simp
  refine Ok.ve (q7x hC iha (j:=j) om (Y.fm (G.trans O)) o A Z I.2.1 P) ?_;rintro _ t ⟨cs,rfl,c1,N⟩;have R:=c1;obtain⟨u,tY,cr,rfl,g1,g2,g3,g4⟩:=c1;obtain rfl:cr=[]:=g4;have n2:=N.nx;simp only[np]at n2;have k2:t.get H.nx=aB 0 [.int .u8 (.ofNat 0),.str 0 0,.str 0 0,.aA]:=(N.keep gz).trans (by simp(disch:=omega)only[go_sem,seval]);have S:t.get ob=aB 0 [.int .u8 (.ofNat kd),.str rl.n rl.a,.str to.n to.a,w]:=((O.trans N).keep K).trans L;simp only[go_sem,k2];unfold q4v;simp(disch:=go_size)only[go_sem,seval,S];have T:Fm No H (aK (t.put H.nx (aB 0 [.int .u8 (.ofNat k1),.str r1.n r1.a,.str t1.n t1.a,u])) (aB 0 [.int .u8 (.ofNat k1),.str r1.n r1.a,.str t1.n t1.a,u])):=((O.trans N).aH _ _ (lEO _)).push _;have fB:Fm (fun b=>b=H.nx) t (aK (t.put H.nx (aB 0 [.int .u8 (.ofNat k1),.str r1.n r1.a,.str t1.n t1.a,u])) (aB 0 [.int .u8 (.ofNat k1),.str r1.n r1.a,.str t1.n t1.a,u])):=((Fm.refl (fun b=>b=H.nx) t).put _ _ fun _=>rfl).push _;have U:∀ b,In w b->b<H.nx:=fun b e=>by obtain⟨cs,d1,_⟩:=y.ex;exact d1.lt e
  have V:eD (fun b=>H0.nx<=b/\¬ In w b/\¬ b=ob) (aK (t.put H.nx (aB 0 [.int .u8 (.ofNat k1),.str r1.n r1.a,.str t1.n t1.a,u])) (aB 0 [.int .u8 (.ofNat k1),.str r1.n r1.a,.str t1.n t1.a,u])) (.cons k1 r1 t1 a .nil) [.int .u8 (.ofNat k1),.str r1.n r1.a,.str t1.n t1.a,u]:=
   (R.dJ fB fun b e he=>by simp only[np]at e;omega).mono fun b _ e=>⟨by simp only[np]at e;omega,fun z=>by have:=U b z;simp only[np]at e;omega,by simp only[np]at e;omega⟩
  refine Ok.ve ((y.no T).add V (fun b e=>gx) gx (by simp[Fo.len]) (by simp only[Fo.len];omega)) ?_;rintro w' H4 ⟨w4,f4,n4,hw4⟩;simp only[np,nq]at n4;have o4:H4.get ob=aB 0 [.int .u8 (.ofNat kd),.str rl.n rl.a,.str to.n to.a,w]:=by rw[f4.get ob gx (fun z=>(y.nw ob z).2 rfl),T.keep K];exact L
  subst hw4;simp only[go_sem,o4,q12];unfold q4w;simp(disch:=go_size)only[go_sem,rB,rI,rK,rL,rN,rS,r8];have f6:Fm No H0 H4:=(G.trans T).then f4 fun c hc z=>by have:=(y.nw c z).1;omega
  have e9:d++(Fo.cons k1 r1 t1 a r).ixs p=(d++[p])++r.ixs (p+1+a.size):=by simp[Fo.ixs]
  rw[e9]at J;have W:F.dP 0 0=(pre++(Fo.cons k1 r1 t1 a .nil).dP p c)++r.dP (p+1+a.size) (c+if k1<4 then 1 else a.lv)++post:=by rw[A];simp
  refine ihr (j+1) om F v es H0 ob kd n (i+1) (p+1+a.size) (c+if k1<4 then 1 else a.lv) rl to av _ (pre++(Fo.cons k1 r1 t1 a .nil).dP p c) post (d++[p]) (g.app (.cons k1 r1 t1 a .nil)) _ qr q Q k Y o W ?_ om om (by simp[s]) B ?_ om I.2.2 J i1 (by simp only[nq];omega) (dL _ _ _) (w4.dJ ((Fm.refl (fun b=>b=ob) H4).put ob _ (fun _=>rfl)) fun b e=>.inl e) (f6.aH _ _ i1) fun w5 H5 q1 q2 q3 q4=>?_
  ·rw[lEP,Fo.gP,Z];simp only[Fo.size];omega
  ·rw[Fo.jT];simp only[Fo.len];omega
  ·have X:p+(Fo.cons k1 r1 t1 a r).size=p+1+a.size+r.size:=by simp only[Fo.size];omega
   rw[X]at M;rw[Fo.mP]at q1;exact M w5 H5 q1 q2 q3 q4
theorem zqa:∀(l:List Key) (c i:Nat) (h:i<l.length),(yE l c)[i]? =some ⟨l[i].1,l[i].2.1,l[i].2.2.1,l[i].2.2.2,if l[i].1<4 then some (c+gT (l.take i))else none⟩
 | [],_,_,h=>by simp at h
 |(k,rl,to,as')::l,c,0,_=>by simp[yE,gT]
 |(k,rl,to,as')::l,c,i+1,h=>by rw[yE,lU3,zqa l _ i (by simpa using h),lUP,qet];simp only[List.getElem_cons_succ];congr 3;congr 1;omega
theorem zr0(l:List Key)(i:Nat)(h:i<l.length):gT (l.take (i+1))=gT (l.take i)+if l[i].1<4 then 1 else 0:=by rw[lER h,qoi,qet];show _+(0+_)=_;omega
theorem TbR.node{v:AV}{es:List TE}{f:Fo}(h:TbR tg H v es f)(g:f.Rt Nm)(q:i<es.length):∃(a:i<(f.iI 0).length) (b o:Nat) (e:TE),(e∈es/\e.t∈f.dP 0 0)/\e.t=⟨(f.iI 0)[i].1,(f.iI 0)[i].2.1,(f.iI 0)[i].2.2.1,(f.iI 0)[i].2.2.2,if(f.iI 0)[i].1<4 then some (gT ((f.iI 0).take i))else none⟩/\e.Ok tg H/\aG 6 v (iN i)=.val (.ptr b o)/\b<H.nx /\ iF (H.get b) o 6=some [.int .u8 (.ofNat (f.iI 0)[i].1),.str (f.iI 0)[i].2.1.n (f.iI 0)[i].2.1.a,.str (f.iI 0)[i].2.2.1.n (f.iI 0)[i].2.2.1.a,e.sp,e.av,xJ (if(f.iI 0)[i].1<4 then some (gT ((f.iI 0).take i))else none)]:=by
 have r:es.length=(f.iI 0).length:=by have:=congrArg List.length h.is;rw[lET,Fo.gP]at this;rw[this,Fo.gQ]
 have a:i<(f.iI 0).length:=om;have j:=qrw f 0 0 g;have c:=zqa (f.iI 0) 0 i a;rw[j,lEW]at c;obtain⟨b,o,e,⟨_,k⟩,d,l,m,n,p⟩:=h.at c;exact⟨a,b,o,e,⟨k,by rw[d];exact lIK c⟩,d,l,m,n,p⟩
theorem q1w{O:Ev.Call}{H:Hp}{v:AV}{l:List SS}{s:SS}(d:Rs 1 sC H v l)(f:l.length<1000000)(e:s∉l):∀(k i:Nat),i<=l.length->l.length-i<k -> qz2 O (fun x H=>.ok x H) (fun H=>q9d O H) v (.str s.n s.a) (iN (l.length)) k (iN i) H=.ok (.int .i64 (.negSucc 0)) H
 |0,i,_,h=>om
 |k+1,i,hi,hk=>by
  show zgs O _ _ _ _ _ (qz2 O _ _ _ _ _ k) _ H=_;unfold zgs;by_cases a:i<l.length
  ·obtain⟨b,o,j,_,_,_,m⟩:=d.at' i a;have g:bI (H.get b) o=.val (.str l[i].n l[i].a):=m 0 (by simp[sC]);have c:¬(s.n=l[i].n/\s.a=l[i].a):=fun h=>e (by rw[(o8 _ _).2 h];exact lEQ a);simp only[go_sem,a];unfold zgp;simp only[go_sem,j,g,c];unfold zgq;simp(disch:=go_size)only[go_sem,rB,rI,rK,rL,rN,rS,r8];exact q1w d f e k (i+1) om om
  ·simp only[go_sem,a];rfl
theorem zz8(a:aU C)(d:2<=k){v:AV}{l:List SS}{s:SS}(b:Rs 1 sC H v l)(e:l.length<900000)(c:s∉l):C k (.f 94) [v,.str s.n s.a] H=.ok (.bool false) H:=by obtain⟨j,rfl⟩:∃ j,k=j+1+1:=⟨k-2,om⟩;rw[(a (j+1)).zIa];unfold zIa z3w;simp only[go_sem];rw[(a j).zIb];unfold zIb z3v zgt;simp only[go_sem,b.len];rw[dD,q1w b om c bZ 0 (lEV _) lf];rfl
theorem qlu(d:aU C)(r:iL C){j:Nat}(z:14<=j){Hb:Hp}{v:AV}{l:List SS}(c:Gl 1 Hb v l.length (l.flatMap sC))(A:l.length<900)(t:∀ s∈l,Nm s)(w:l.Nodup){qr:pH}{q:pL}{Q:pS}(x:∀ H,Fm No Hb H->Ok (q H) Q):∀(k i:Nat) (H:Hp),i<=l.length->l.length-i<k->Fm No Hb H->Ok (qz4 (C j) qr q v v (iN (l.length)) k (iN i) H) Q
 |0,i,_,_,h,_=>om
 |k+1,i,H,hi,hk,hf=>by
  show Ok (zg0 (C j) _ _ _ _ _ (qz4 (C j) _ _ _ _ _ k) _ H) Q;unfold zg0;by_cases a:i<l.length
  ·simp only[go_sem,a];unfold q4q;obtain⟨b,o,E,_,_,_,F⟩:=((c.no hf).rs qq6).at' i a;have B:bI (H.get b) o=.val (.str l[i].n l[i].a):=F 0 (by simp[sC]);simp only[go_sem,E,B];have f:(Fo.cons 2 l[i] sE .nil .nil).zV:=⟨rfl,⟨.inr (.inl ⟨rfl,t _ (lEQ a),rfl,rfl⟩),trivial,trivial⟩,by simp[Fo.depth],by simp[Fo.size]⟩;have D:eD (fun _=>True) H (Fo.cons 2 l[i] sE .nil .nil) [.int .u8 (.ofNat 2),.str l[i].n l[i].a,.str 0 0,.aA]:=⟨.aA,[],[],rfl,Gl.nil 4 H,fun _ _=>trivial,rfl,rfl⟩;refine Ok.ve (qlk d r (k:=j) om D f) ?_;rintro _ G ⟨rfl,y⟩;have g:v=.aA\/∃ b o n m e,v=.sl b o n m e/\n<=m/\0<n:=by
    rcases c.is with⟨h,_⟩|⟨b,o,e,_,_,h,_⟩
    ·exact .inl h
    ·exact .inr ⟨b,o,_,_,e,h,lEO _,om⟩
   obtain⟨u,I,J⟩:=((c.no (hf.trans y)).rs qq6).pre g a;have p:=zz8 d (k:=j) om J (by rw[lI6];omega) (s:=l[i]) fun h=>by obtain⟨m,K,e⟩:=lOO h;rw[lI6]at K;rw[List.getElem_take]at e;have:=(List.getElem_inj w).1 e;omega
   simp only[go_sem,I,p];unfold zgz;simp(disch:=go_size)only[go_sem,rB,rI,rK,rL,rN,rS,r8];exact qlu d r z c A t w x k (i+1) G om om (hf.trans y)
  ·simp only[go_sem,a];exact x H hf
theorem zeo(c:aU C)(e:iL C)(f:15<=k){v:AV}{l:List SS}(d:Gl 1 H v l.length (l.flatMap sC))(g:l.length<900)(h:∀ s∈l,Nm s)(i:l.Nodup)(b:0<l.length):Ok (C k (.f 51) [v] H) fun w H'=>w=.bool true/\Fm No H H':=by obtain⟨j,rfl⟩:=aT f;rw[(c j).zHq];unfold zHq z4e zg1;have a:=d.aX;simp only[go_sem,a];rw[dD];refine qlu c e om d g h i (fun n m=>?_) bZ 0 H (lEV _) lf (Fm.refl _ _);unfold qs5;simp only[go_sem,a,b];exact Ok.ret ⟨rfl,m⟩
attribute [go_sem] q0b qwo q0a qwn qz9 qwm qth qmh qtg qmg qtf qmf qte qme qtd qmd qtc qmc qtb qmb qta qma qs9 ql9
structure aEi(tg:SS->SS->List SS)(f:Fo):Prop where
 ok:∀ t∈f.dP 0 0,t.k=3->(tg t.rl t.to).length<900/\(∀s∈tg t.rl t.to,Nm s)/\(tg t.rl t.to).Nodup/\0<(tg t.rl t.to).length
theorem xc4:jR true (xQ (.bool true) (.bool true))=.val (.bool false):=id rfl
theorem z3b:jR true (xQ (.bool false) (.bool (decide (0<0))))=.val (.bool false):=id rfl
theorem qv8(w:aU C)(x:iL C){j:Nat}(y:15<=j){v:AV}{es:List TE}{f:Fo}{Hb:Hp}(z:TbR tg Hb v es f)(A:f.Rt Nm)(K:es.length<=32)(B:aEi tg f){qr:pH}{q:pL}{Q:pS}(D:∀ H,Fm No Hb H->Ok (q H) Q):∀(k i:Nat) (H:Hp),i<=es.length->es.length-i<k->Fm No Hb H->Ok (qz8 (C j) qr q v (iN (es.length)) k (iN ((gT ((f.iI 0).take i)))) (iN i) H) Q
 |0,i,_,_,h,_=>om
 |k+1,i,H,hi,hk,hf=>by
  show Ok (zhq (C j) _ _ _ _ (qz8 (C j) _ _ _ _ k) _ _ H) Q;unfold zhq;by_cases d:i<es.length
  ·simp only[go_sem,d];obtain⟨t,b,o,e,⟨_,m⟩,F,u,G,V,l⟩:=(z.fm hf).node A d;have M:gT ((f.iI 0).take i)<=1000:=lI7 List.countP_le_length g2;have ih:=fun H' L=>qv8 w x y z A K B (qr:=qr) D k (i+1) H' om om L;rw[zr0 _ _ t]at ih;have a:=u.sp;rw[F]at a;simp only at a;by_cases J:(f.iI 0)[i].1<4
   ·rw[lEZ J]at l ih;unfold xJ at l;have n:=lO5 (show(f.iI 0)[i].1<=3 by omega);simp(disch:=go_size)only[go_sem,rB,rI,rK,rL,rN,rS,r8,G,l,n];rcases a with⟨g,c⟩|⟨g,c⟩
    ·have p:=lO5 g;have N:=c.aX;rw[F]at m;obtain⟨P,R,S,I⟩:=B.ok _ m g;have r:=lO5 I;simp(disch:=go_size)only[go_sem,rB,rI,rK,rL,rN,rS,r8,p,N,r,xc4];have E:Fm No H ((aK H (aB 0 [.int .u8 (.ofNat 0),.str 0 0,.str 0 0,.aA,.aA,iN 0])).put H.nx (aB 0 [.int .u8 (.ofNat (f.iI 0)[i].1),.str (f.iI 0)[i].2.1.n (f.iI 0)[i].2.1.a,.str (f.iI 0)[i].2.2.1.n (f.iI 0)[i].2.2.1.a,e.sp,e.av,iN ((gT ((f.iI 0).take i)))])):=by exact jW
     refine Ok.ve (zeo w x (k:=j) y (c.no E) P R S I) ?_;rintro _ W ⟨rfl,T⟩;simp(disch:=first|go_size|omega)only[go_sem,rB,rI,rK,rL,rN,rS,r8];exact ih _ ((hf.trans E).trans T)
    ·rw[c];simp(disch:=go_size)only[go_sem,rB,rI,rK,rL,rN,rS,r8,g,z3b];exact ih _ (hf.trans (by repeat first|exact Fm.refl _ _|assumption|refine Fm.push ?_ _|refine Fm.aH ?_ _ _ om))
   ·rw[lEU J]at l ih;unfold xJ at l;have s:¬(f.iI 0)[i].1<=3:=om;have g:¬(f.iI 0)[i].1=3:=om;have O:fO (lS .neq).f (.int .i64 (.negSucc 0)) (.int .i64 (.negSucc 0))=.val (.bool false):=rfl;simp(disch:=go_size)only[go_sem,rB,rI,rK,rL,rN,rS,r8,G,l,s];rcases a with⟨U,c⟩|⟨_,c⟩
    ·omega
    ·rw[c];simp(disch:=go_size)only[go_sem,rB,rI,rK,rL,rN,rS,r8,g,z3b,O];exact ih _ (hf.trans fm)
  ·simp only[go_sem,d];exact D H hf
theorem q4g(m:aU C)(u:iL C)(S:16<=k){v:AV}{es:List TE}{f:Fo}(x:TbR tg H v es f)(l:f.zV)(A:f.pI)(T:aEi tg f):Ok (C k (.f 16) [v] H) fun w H'=>w=iN 0/\Fm No H H':=by
 obtain⟨j,rfl⟩:=aT S;rw[(m j).zHc];have b:=l.one;have y:=l.rt;have O:=l.dp;have hs:=l.sz;have V:es.length=f.size:=by have:=congrArg List.length x.is;rwa [lET,Fo.gP]at this
 obtain⟨kd,rl,to,a,d⟩:∃ kd rl to a,f=.cons kd rl to a .nil:=by
  cases f with
  |nil=>cases b
  |cons k rl to a r=>
   cases r with
   |nil=>exact⟨_,_,_,_,rfl⟩
   |cons _ _ _ _ _=>simp[Fo.len]at b
 have B:kd<4->a=.nil:=fun h4=>by
  subst d;rcases y.1 with h|h|h|h|h|h
  ·exact h.2.2.2
  ·exact h.2.2.2
  ·exact h.2.2.2
  ·omega
  ·omega
  ·omega
 have W:f.size=1+a.size:=by rw[d];simp only[Fo.size];omega
 have X:a.depth+1<=8:=by rw[d]at O;simp only[Fo.depth]at O;omega
 have D:a.Rt Nm:=by rw[d]at y;exact y.2.1
 obtain⟨i,rfl⟩:∃ i,j=i+1:=⟨j-1,om⟩;refine Ok.ve (q7x m (zoj m a) (j:=i) om x om (kd:=kd) (p:=0) (c:=0) (rl:=rl) (to:=to) (pre:=[]) (post:=[]) (by rw[d];simp) rfl D B) ?_;rintro _ H1 ⟨cs,rfl,I,Q⟩;rw[<-d]at I;have n:=I;obtain⟨q,e,g,a',av,ca,cEY,rfl,g1,g2,g3⟩:=I.one b;have Y:=(x.fm Q).gl.aX;have Z:0+1+a.size=es.length:=om;rw[Z];simp(disch:=go_size)only[go_sem,seval,Y];have P:Fm No H1 ((aK H1 (aB 0 [.int .u8 (.ofNat 0),.str 0 0,.str 0 0,.aA])).put H1.nx (aB 0 [.int .u8 (.ofNat q),.str e.n e.a,.str g.n g.a,av])):=by exact jW
 refine Ok.ve (qlk m u (k:=i+1) om (n.fm P) l) ?_;rintro _ R ⟨rfl,J⟩;have k2:R.get H1.nx=aB 0 [.int .u8 (.ofNat q),.str e.n e.a,.str g.n g.a,av]:=(J.keep gx).trans (dL _ _ _);have E:=P.trans J;simp only[go_sem,seval,k2];refine Ok.ve (zsv m u (k:=i+1) om ((n.fm E).mono fun _ _ _=>trivial) l) ?_;rintro _ K ⟨ds,rfl,L,z⟩;rw[Fo.pK f A]at L;have n2:=J.nx;have n3:=z.nx;simp only[np,nq]at n2;have k3:=(z.keep (show H1.nx<R.nx by omega)).trans k2;have F:=L;obtain⟨M,s,t,a3,N,ca3,bY0,rfl,_,_,_⟩:=L.one b;simp(disch:=go_size)only[go_sem,seval,k3];have G:Fm No K ((aK K (aB 0 [.int .u8 (.ofNat 0),.str 0 0,.str 0 0,.aA])).put K.nx (aB 0 [.int .u8 (.ofNat M),.str s.n s.a,.str t.n t.a,N])):=by exact jW
 refine Ok.ve (xa3 m u (k:=i+1) om (F.fm G) (n.fm ((E.trans z).trans G)) l l rfl) ?_;rintro _ H4 ⟨rfl,f4⟩;have o:=((((Q.trans E).trans z).trans G).trans f4);unfold zhr;rw[dD];simp only[go_sem];refine qv8 m u (j:=i+1) om (x.fm o) y om T (fun H5 U=>?_) bZ 0 H4 (lEV _) lf (Fm.refl _ _);exact Ok.ret ⟨rfl,o.trans U⟩
end Go.Di
end
section
namespace Go.Di
open Go.Ev
variable {C:Nat->Ev.Call} {tg:SS->SS->List SS} {X:List aQ}
variable {H H1:Hp} {N j k n z:Nat} {O:Ev.Call} {cs l:List AV} {g:aQ}
def Ru.fo:Ru->Fo
 | .leaf k rl to=>.cons k rl to .nil .nil
 | .node k a b=>.cons k sE sE (a.fo.app b.fo) .nil
theorem Ru.r9:∀ r:Ru,r.fo.len=1
 | .leaf _ _ _=>rfl
 | .node _ _ _=>rfl
theorem jP.fo{P:Nat->Prop}{H:Hp}:∀{r:Ru} {cs:List AV},jP P H r cs->eD P H r.fo cs
 | .leaf k rl to,cs,h=>⟨.aA,[],[],h,Gl.nil 4 H,fun b i=>absurd i (notNil b),rfl,rfl⟩
 | .node k a b,cs,⟨bl,ca,cb,h1,h2,h6,h3,h4,h5⟩=>by
  have f:=(jP.fo h4).app (jP.fo h5);have e:(a.fo.app b.fo).len=2:=by rw[Fo.jT,a.r9,b.r9]
  have g:=f.len;rw[e]at g;refine⟨.sl bl 0 2 2 true,ca++cb,[],h1,?_,fun c d=>?_,f,rfl⟩
  ·rw[e];exact⟨g,.inr ⟨bl,0,true,0,ca++cb,rfl,h3,lEV _,rfl,.inl rfl,h2⟩⟩
  ·obtain⟨_,_,_,_,d⟩:=d;simp_all
theorem Ru.wH:∀ r:Ru,r.fo.size=r.size
 | .leaf _ _ _=>rfl
 | .node k a b=>by simp only[Ru.fo,Fo.size,Fo.sH,a.wH,b.wH,Ru.size,lO7]
theorem Ru.sQ:∀ r:Ru,r.fo.depth=r.depth
 | .leaf _ _ _=>rfl
 | .node k a b=>by simp only[Ru.fo,Fo.depth,Fo.p8,a.sQ,b.sQ,Ru.depth,Nat.max_zero]
theorem Ru.aCM:∀ r:Ru,r.Fit->r.fo.Rt Nm
 | .leaf k rl to,h=>by
  refine⟨?_,trivial,trivial⟩;rcases h with⟨c,d,e⟩|⟨c,d,e⟩|⟨c,d,e⟩
  ·simp_all
  ·simp_all
  ·simp_all
 | .node k a b,⟨hk,ha,hb⟩=>by
  have f:(a.fo.app b.fo).len=2:=by rw[Fo.jT,a.r9,b.r9]
  refine⟨?_,(Fo.aA6 _ _ _).2 ⟨a.aCM ha,b.aCM hb⟩,trivial⟩;simp_all
theorem Ru.Rt.ok1{r:Ru}(h:r.Rt):r.fo.zV:=⟨r.r9,r.aCM h.fit,by rw[r.sQ];exact h.dp,by rw[r.wH];exact h.sz⟩
theorem Fo.zV.flat{f:Fo}(h:f.zV):f.flat.zV:=⟨by rw[Fo.jC];exact h.one,Fo.oP Nm f h.rt,lI7 (Fo.nL f) h.dp,lI7 (Fo.kD f) h.sz⟩
def Fo.All(p:Nat->SS->SS->Prop):Fo->Prop
 | .nil=>True
 | .cons k rl to a r=>p k rl to/\a.All p/\r.All p
theorem Fo.vY(p:Nat->SS->SS->Prop):∀ f g:Fo,f.All p->g.All p->(f.app g).All p
 | .nil,_,_,h=>h
 | .cons _ _ _ _ r,g,⟨h1,h2,h3⟩,h=>⟨h1,h2,Fo.vY p r g h3 h⟩
theorem Fo.sJ(p:Nat->SS->SS->Prop)(k:Nat):∀ f:Fo,f.All p->(Fo.spl k f).All p
 | .nil,_=>trivial
 | .cons k' rl to a r,⟨h1,h2,h3⟩=>by
  unfold Fo.spl;split
  ·exact Fo.vY p _ _ h2 (Fo.sJ p k r h3)
  ·exact⟨h1,h2,Fo.sJ p k r h3⟩
theorem Fo.oH(p:Nat->SS->SS->Prop):∀ f:Fo,f.All p->f.flat.All p
 | .nil,_=>trivial
 | .cons k rl to a r,⟨h1,h2,h3⟩=>⟨h1,Fo.sJ p k _ (Fo.oH p a h2),Fo.oH p r h3⟩
theorem Fo.qW(p:Nat->SS->SS->Prop):∀(f:Fo) (i c:Nat),f.All p->∀ t∈f.dP i c,p t.k t.rl t.to
 | .nil,_,_,_,t,h=>by cases h
 | .cons k rl to a r,i,c,⟨h1,h2,h3⟩,t,h=>by
  rcases lI8.1 h with rfl|h
  ·exact h1
  rcases lEY.1 h with h|h
  ·exact Fo.qW p a _ _ h2 t h
  ·exact Fo.qW p r _ _ h3 t h
theorem Ru.wY(p:Nat->SS->SS->Prop):∀(r:Ru) (neg:Bool),(∀y∈r.nodes neg,p y.k y.rl y.to)->r.fo.All p
 | .leaf k rl to,neg,h=>⟨h ⟨k,rl,to,neg⟩ (by simp[Ru.nodes]),trivial,trivial⟩
 | .node k a b,neg,h=>⟨h ⟨k,sE,sE,neg⟩ (by simp[Ru.nodes]),Fo.vY p _ _ (a.wY p neg fun y c=>h y (by simp[Ru.nodes,c])) (b.wY p _ fun y c=>h y (by simp[Ru.nodes];exact .inr (.inr c))),trivial⟩
theorem zog{to:SS}{l:List jX}(h:l.Nodup):(tgL X to l).Nodup:=by unfold tgL;rw[List.Nodup,List.pairwise_map];refine List.Pairwise.imp_of_mem (fun{a b} e f g i=>?_) (List.Pairwise.filter (tgP X to) h);have c:=(lIV.1 e).2;have d:=(lIV.1 f).2;unfold tgP at c d;rw[lI0,lO8]at c d;obtain⟨j,k⟩:=a;obtain⟨m,n⟩:=b;simp_all
theorem dF.tgN(c:dF X)(a b to:SS):(nP X a b to).Nodup/\∀ s∈nP X a b to,Nm s:=by
 refine⟨?_,fun s d=>?_⟩
 ·unfold nP;cases h:qY X a b with
  |none=>exact List.nodup_nil
  |some g=>obtain⟨p,f,i,_,_⟩:=qgw h;exact zog (c.ty p f g i).1
 ·have:=c.tg d;rw[aF,lU7]at this;obtain⟨g,j,h⟩:=this;rw[lIB]at h;obtain⟨x,_,e⟩:=h;injection e with e1 e2;exact e1▸(c.pr.r g j).2
theorem dF.aPn(a:dF X){x:bC}(b:g∈X)(c:x∈g.gs):aEi (nP X g.name) x.r.rule.fo.flat:=⟨fun t d e=>by have h:=Fo.qW (fun k rl to=>k=3->nP X g.name rl to≠[]) _ 0 0 (Fo.oH _ _ (Ru.wY _ x.r.rule false fun y f=>(a.nd g b x c y f).2)) t d e;have l:=qej a.pr g.name t.rl t.to;obtain⟨i,j⟩:=a.tgN g.name t.rl t.to;exact⟨om,j,i,lUR.2 h⟩⟩
theorem zof{fv:AV}{e:NE}{H1 H f:Hp}{es:List TE}{n i c:Nat}{lf:Option Nat}{g:AV->pH}{Q:pS}(w:es.length=i)(y:i<n)(S:n<=32)(G:Gl 1 H1 e.av e.args.length (aI e.args))(O:N<=H1.nx)(z:∀ b,In e.av b->N<=b)(P:∀ H:Hp,e.k=3->Fm No H1 H->Ok (uF (C j) fv [.str e.rl.n e.rl.a,.str e.to.n e.to.a] H) fun r H'=>Ac 1 sC H H' r (tg e.rl e.to))(k:∀ e∈es,e.Ok tg H/\∀ b,In e.sp b\/In e.av b->b≠H1.nx/\N<=b)(T:H1.nx<H.nx)(v:Fm No H1 f)(U:H.nx<f.nx)(g2:∀ b,b<H.nx->b≠H1.nx->f.get b=H.get b)(I:f.get H.nx=aB 0 [.int .u8 (.ofNat e.k),.str e.rl.n e.rl.a,.str e.to.n e.to.a,e.av,.bool e.ng])(J:f.get H1.nx=aB 0 (xK (es++[⟨⟨e.k,e.rl,e.to,e.args,lf⟩,e.av,.aA⟩]) n))(ih:∀(K:AV) (l:Hp),Fm No H1 l->H1.nx<l.nx->l.get H1.nx=aB 0 (xK (es++[⟨⟨e.k,e.rl,e.to,e.args,lf⟩,e.av,K⟩]) n)->(∀x∈es++[⟨⟨e.k,e.rl,e.to,e.args,lf⟩,e.av,K⟩],x.Ok tg l/\∀ b,In x.sp b\/In x.av b->b≠H1.nx/\N<=b)->Ok (g (iN c) (iN ((i+1))) l) Q):Ok (qkk (C j) g fv (.sl H1.nx 0 n n true) (iN c) (iN i) (.ptr H.nx 0) (iN i) f) Q:=by
 unfold qkk;have p:=lO5 (show i*6+3+1<=n*6 by omega);have A:∀ e:TE,(xK (es++[e]) n).length=n*6:=fun e=>q7w (by simp;omega);have q:∀ e∈es,e.Ok tg f:=fun e d=>by have o:=k e d;have k2:∀ b,In e.sp b\/In e.av b->f.get b=H.get b:=fun b a=>g2 b (o.1.lt a) (o.2 b a).1;exact⟨o.1.gl.keep om fun b a _=>k2 b (.inr a),o.1.sp.imp (fun h=>⟨h.1,h.2.keep om fun b a _=>k2 b (.inl a)⟩) id⟩
 have s:=G.no v;have t:∀ b,In e.av b->b≠H1.nx/\N<=b:=fun b a=>⟨by have:=G.lt a;omega,z b a⟩;by_cases u:e.k=3
 ·have B:=lO5 u;simp only[go_sem,I,B];refine Ok.ve (P f u v) ?_;intro tv l m;have R:=(m.fm.keep (show H1.nx<f.nx by omega)).trans J;have D:=m.gl.cells;have E:=fun(H:Hp) (b o:Nat)=>qjq (H:=H) (b:=b) (o:=o) D;have L:=zoi (es:=es) (n:=n) (j:=3) ⟨⟨e.k,e.rl,e.to,e.args,lf⟩,e.av,.aA⟩ ⟨⟨e.k,e.rl,e.to,e.args,lf⟩,e.av,tv⟩ tv rfl om;rw[w]at L;simp only[go_sem,y,E,R,A,L,p,lU8];have V:=m.fm.nx;have M:Fm (fun b=>b=H1.nx) l (l.put H1.nx (aB 0 (xK (es++[⟨⟨e.k,e.rl,e.to,e.args,lf⟩,e.av,tv⟩]) n))):=(Fm.refl _ _).put _ _ fun _=>rfl;have F:∀ b,In tv b->b≠H1.nx/\N<=b:=fun b a=>by have:=m.nw b a;omega
  unfold qoo;simp(disch:=go_size)only[go_sem,rB,rI,rK,rL,rN,rS,r8];refine ih tv _ ((v.trans m.fm).aH _ _ om) (show H1.nx<l.nx by omega) (dL _ _ _) fun x d=>?_;rcases lEY.1 d with d|d
  ·exact⟨((q x d).fm m.fm).dJ M fun b a=>((k x d).2 b a).1,(k x d).2⟩
  ·obtain rfl:=lI3.1 d;have ob:∀ b,In tv b\/In e.av b->b≠H1.nx/\N<=b:=fun b a=>a.elim (F b) (t b);refine⟨TE.Ok.dJ ?_ M fun b a=>(ob b a).1,ob⟩;exact⟨s.no m.fm,.inl ⟨u,m.gl⟩⟩
 ·simp only[go_sem,I,u];unfold qoo;simp(disch:=go_size)only[go_sem,rB,rI,rK,rL,rN,rS,r8];refine ih .aA f v om J fun x d=>?_;rcases lEY.1 d with d|d
  ·exact⟨q x d,(k x d).2⟩
  ·obtain rfl:=lI3.1 d;refine⟨?_,fun b a=>a.elim (fun h=>absurd h (notNil b)) (t b)⟩;exact⟨s,.inr ⟨u,rfl⟩⟩
theorem zoe{nv fv:AV}{e:NE}{es:List TE}{n i c r s:Nat}{g:AV->pH}{Q:pS}(h:es.length=i)(k:i<n)(C:n<=32)(y:Gl 1 H1 e.av e.args.length (aI e.args))(z:c<=1000)(D:Fm No H1 H)(E:H1.nx<H.nx)(t:H.get H1.nx=aB 0 (xK es n))(u:aG 5 nv (iN i)=.val (.ptr r s))(o:iF (H.get r) s 5=some (kV e))(fin:∀(lf:Option Nat) (f:Hp),lf=(if e.k<4 then some c else none)->Fm No H1 f->H.nx<f.nx->(∀b,b<H.nx->b≠H1.nx->f.get b=H.get b)->f.get H.nx=aB 0 [.int .u8 (.ofNat e.k),.str e.rl.n e.rl.a,.str e.to.n e.to.a,e.av,.bool e.ng]->f.get H1.nx=aB 0 (xK (es++[⟨⟨e.k,e.rl,e.to,e.args,lf⟩,e.av,.aA⟩]) n) -> Ok (qkk O g fv (.sl H1.nx 0 n n true) (iN ((c+if e.k<4 then 1 else 0))) (iN i) (.ptr H.nx 0) (iN i) f) Q):Ok (qwk O g fv (.sl H1.nx 0 n n true) (iN c) nv (iN i) H) Q:=by
 unfold qwk;have v:=y.cells;unfold kV SS.v at o;have w:=q7w (es:=es) (n:=n) om;have a:=z8c (es:=es) (n:=n) om ⟨⟨e.k,e.rl,e.to,e.args,none⟩,e.av,.aA⟩;rw[h]at a;unfold uT SS.v xJ at a;have l:=lO5 (show i*6+6<=n*6 by omega);have p:=lO5 (show i*6+5+1<=n*6 by omega);have q:∀ e:TE,(xK (es++[e]) n).length=n*6:=fun e=>q7w (by simp;omega);by_cases m:e.k<4
 ·have d:=lO5 (show e.k<=3 by omega);have x:=zoi (es:=es) (n:=n) (j:=5) ⟨⟨e.k,e.rl,e.to,e.args,none⟩,e.av,.aA⟩ ⟨⟨e.k,e.rl,e.to,e.args,some c⟩,e.av,.aA⟩ (iN c) rfl om;rw[h]at x;simp(disch:=go_size)only[go_sem,rB,rI,rK,rL,rN,rS,r8,k,u,o,v,t,w,a,l,lU8,d,q,x,p];rw[lEZ m,lEZ m]at fin;refine fin (some c) _ rfl ?_ ?_ ?_ ?_ ?_
  ·repeat first|exact Fm.refl _ _|assumption|refine Fm.push ?_ _|refine Fm.aH ?_ _ _ om
  ·simp only[np,nq];omega
  ·intro b A B;simp(disch:=omega)only[go_sem,seval]
  ·simp(disch:=omega)only[go_sem,seval]
  ·exact dL _ _ _
 ·have d:¬ e.k<=3:=om;simp(disch:=go_size)only[go_sem,rB,rI,rK,rL,rN,rS,r8,k,u,o,v,t,w,a,l,lU8,d];rw[lEU m,lEU m]at fin;refine fin none _ rfl ?_ ?_ ?_ ?_ ?_
  ·repeat first|exact Fm.refl _ _|assumption|refine Fm.push ?_ _|refine Fm.aH ?_ _ _ om
  ·simp only[np,nq];omega
  ·intro b A B;simp(disch:=omega)only[go_sem,seval]
  ·simp(disch:=omega)only[go_sem,seval]
  ·exact dL _ _ _
theorem qqx{j N:Nat}{nv fv:AV}{a:List NE}{H1:Hp}(v:Gl 5 H1 nv a.length (a.flatMap kV))(l:N<=H1.nx)(n:∀ e∈a,e.Ar (fun c=>N<=c) H1)(o:a.length<=32)(w:∀(e:NE) (H:Hp),e∈a->e.k=3->Fm No H1 H->Ok (uF (C j) fv [.str e.rl.n e.rl.a,.str e.to.n e.to.a] H) fun r H'=>Ac 1 sC H H' r (tg e.rl e.to)){q:pL}{Q:pS}(x:∀ es H,Fm No H1 H->H1.nx<H.nx->H.get H1.nx=aB 0 (xK es a.length)->es.map TE.t=yE (a.map NE.key) 0->(∀e∈es,e.Ok tg H/\∀ b,In e.sp b\/In e.av b->b≠H1.nx/\N<=b)->Ok (q H) Q):∀(k i:Nat) (es:List TE) (H:Hp),i<=a.length->a.length-i<k->Fm No H1 H->H1.nx<H.nx->H.get H1.nx=aB 0 (xK es a.length)->es.map TE.t=yE ((a.take i).map NE.key) 0->(∀e∈es,e.Ok tg H/\∀ b,In e.sp b\/In e.av b->b≠H1.nx/\N<=b) -> Ok (qz6 (C j) q fv (.sl H1.nx 0 a.length a.length true) nv (iN (a.length)) k (iN ((gT ((a.take i).map NE.key)))) (iN i) H) Q
 |0,i,_,_,_,h,_,_,_,_,_=>om
 |k+1,i,es,H,hi,hk,hf,hx,hz,hes,hok=>by
  show Ok (zhd (C j) _ _ _ _ _ (qz6 (C j) _ _ _ _ _ k) _ _ H) Q;unfold zhd;have m:es.length=i:=by have:=congrArg List.length hes;rw[lET,zp9,lET,lI6]at this;omega
  by_cases d:i<a.length
  ·simp only[go_sem,d];obtain⟨R,S,L,T,_,M,U⟩:=((v.no hf).rs qe6).at' i d;have y:=(n _ (lEQ d)).gl;have s:gT ((a.take i).map NE.key)<=1000:=lI7 List.countP_le_length g2;have g:(a.take (i+1)).map NE.key=(a.take i).map NE.key++[a[i].key]:=by rw[lER d,lID];rfl
   have t:a[i].key=(a[i].k,a[i].rl,a[i].to,a[i].args):=rfl;have u:gT ((a.take i).map NE.key)+(if a[i].k<4 then 1 else 0)=gT ((a.take (i+1)).map NE.key):=by rw[g,qoi,qet];show _=_+(0+if a[i].k<4 then 1 else 0);simp
   refine zoe (e:=a[i]) m d o y s hf hx hz L M fun lf O p z A g2 B D=>?_;rw[u];refine zof (e:=a[i]) m d o y l (n _ (lEQ d)).nw (fun H h f=>w _ H (lEQ d) h f) hok hx z A g2 B D fun P E F G I J=>?_;refine qqx v l n o w x k (i+1) _ E om om F G I ?_ J;rw[lID,hes,g,q8j,t,p,lEW];rfl
  ·simp only[go_sem,d];have K:i=a.length:=om;subst K;rw[lIN]at hes;exact x es H hf hx hz hes hok
theorem zp8:∀(l:List Key) (c:Nat) (x:Key),x∈l->∃ t∈yE l c,t.k=x.1/\t.rl=x.2.1/\t.to=x.2.2.1
 | [],_,_,h=>by cases h
 |a::l,c,x,h=>by
  rcases lI8.1 h with rfl|h
  ·exact⟨_,lIH,rfl,rfl,rfl⟩
  ·obtain⟨t,b,e⟩:=zp8 l _ x h;exact⟨t,lIS _ b,e⟩
theorem zod(A:aU C)(G:iL C)(I:14<=k){f:Fo}{P:Nat->Prop}{fv:AV}(B:eD P H f cs)(l:f.zV)(J:∀(rl to:SS) (H':Hp),(∃t∈f.dP 0 0,t.k=3/\t.rl=rl/\t.to=to)->Fm No H H'->Ok (uF (C (k-1)) fv [.str rl.n rl.a,.str to.n to.a] H') fun r q=>Ac 1 sC H' q r (tg rl to)):Ok (C k (.f 39) [.agg cs,fv] H) fun w H'=>∃ es,TbR tg H' w es f/\Fm No H H'/\rH w=true/\∀ b,(In w b\/∃ x∈es,In x.sp b\/In x.av b)->H.nx<=b:=by
 obtain⟨j,rfl⟩:=aT I;rw[(A j).zHj];unfold zHj z4l;obtain⟨kd,rl,to,a,av,ca,S,y,_⟩:=B.one l.one;have E:Fm No H (aK H (aB 0 cs)):=by exact kW
 have O:=zrc A G (k:=j) om (B.fm E) l;subst y;simp(disch:=go_size)only[go_sem,rB,rI,rK,rL,rN,rS,r8];refine Ok.ve O ?_;rintro _ H1 ⟨nv,z,rfl,g1,p,T,W,U⟩;have Q:=g1.aX;have v:z.length<=32:=by have:=congrArg List.length p;rw[lET,Fo.gQ]at this;rw[this];exact l.sz
 simp(disch:=go_size)only[go_sem,rB,rI,rK,rL,rN,rS,r8,Q];unfold zhe;rw[dD];have F:=qck teZ 96 H1.nx z.length om om;unfold teZ at F;simp(disch:=go_size)only[go_sem,rB,rI,rK,rL,rN,rS,r8,F];have m:=E.trans U;refine qqx (N:=H.nx) g1 (by have:=m.nx;omega) (fun e g=>(T e g).fm (Fm.refl No H1) (fun _ _ _ h=>h) fun c _ h=>by have:=h.1;simp only[np]at this;omega) v (tg:=tg) (fun e H' g K s=>J e.rl e.to H' ?_ (m.trans s)) (fun es H' s L M u D=>?_) bZ 0 [] _ (lEV _) lf (by(repeat refine Fm.push ?_ _);exact Fm.refl _ _) gz (jQ _ _) rfl fun e g=>by cases g
 ·have R:e.key∈f.iI 0:=by rw[<-p];exact lIX g
  obtain⟨t,n,o⟩:=zp8 _ 0 _ R;rw[qrw f 0 0 l.rt]at n;exact⟨t,n,o.1.trans K,o.2⟩
 ·unfold qs8;rw[p,qrw f 0 0 l.rt]at u;have i:es.length=z.length:=by
   have n:=congrArg List.length u;have o:=congrArg List.length p;rw[lET,Fo.gP]at n;rw[lET,Fo.gQ]at o;omega
  refine Ok.ret ⟨es,⟨?_,u,fun e g=>(D e g).1⟩,m.trans s,rfl,fun b d=>?_⟩
  rotate_left
  ·rcases d with d|⟨x,V,d⟩
   ·obtain⟨_,_,_,_,d⟩:=d;injection d with d;have:=m.nx;omega
   ·exact((D x V).2 b d).2
  rw[i];refine⟨by rw[te6,i],.inr ⟨_,0,true,0,_,rfl,M,lEV _,?_,.inl rfl,L⟩⟩;unfold xK;rw[i,lUV];exact lIM _
theorem zpf{d:Nat}(c:TT AV d):∀(a b o:Nat),Ev.xO c (a+b) o=Ev.xO c a o++Ev.xO c b (o+a)
 |0,b,o=>by rw[lEW];rfl
 |a+1,b,o=>by rw[Nat.add_right_comm];show _::Ev.xO c (a+b) (o+1)=_::(Ev.xO c a (o+1)++Ev.xO c b (o+(a+1)));rw[zpf c a b (o+1),show o+1+a=o+(a+1)by omega]
theorem ze3{B:bX}{o a b:Nat}{l m:List AV}(h:iF B o a=some l)(d:iF B (o+a) b=some m):iF B o (a+b)=some (l++m):=by
 unfold iF at h d ⊢;split at h
 ·rename_i n c _ _;simp only[ble_eq]at h d ⊢;by_cases e:o+a+b<=n
  ·rw[lI9 e]at d;rw[lI9 om]at h;rw[lI9 om];injection h with h;injection d with d;rw[lII,zpf,h,d]
  ·simp_all
 ·cases h
theorem ze2{B:bX}{o a:Nat}(h:iF B o a=some l):iF B o 0=some []:=by
 unfold iF at h ⊢;split at h
 ·rename_i n c _ _;simp only[ble_eq]at h ⊢;by_cases b:o+a<=n
  ·rw[lI9 om];rfl
  ·simp_all
 ·cases h
theorem Rs.src{α:Type}{f:α->List AV}(t:∀ x,(f x).length=z){v:AV}{l:List α}(h:Rs z f H v l)(k:v=.aA\/∃ b o n m e,v=.sl b o n m e/\n<=m/\0<n):pJ z H v=some ⟨l.length,l.flatMap f⟩:=by
 have a:=h.len;rcases k with rfl|⟨b,o,n,m,e,rfl,_,r⟩
 ·have p:aD .aA=R0.val (iN 0):=rfl;injection a with a;injection a with _ a;injection a with a;have:l=[]:=lIG.1 a.symm;subst this;rfl
 ·have q:n=l.length:=by
   have p:aD (.sl b o n m e)=R0.val (iN n):=rfl;injection a with a;injection a with _ a;injection a
  subst q;have d:∀ i (c:i<l.length),iF (H.get b) (o+i*z) z=some (f l[i]):=fun i c=>by obtain⟨u,w,s,_,_,y,_⟩:=h.at' i c;rw[uY _ _ _ _ _ _ _ _ c]at s;simp_all
  have j:=ze2 (d 0 r);have g:∀ i,i<=l.length->iF (H.get b) o (i*z)=some ((l.take i).flatMap f):=fun i=>by
   induction i with
   |zero=>intro _;rw[lY4]at j ⊢;exact j
   |succ i ih=>intro c;have:=ze3 (ih om) (d i c);rw[lER c,lIC,lIE,lOS,lUB];exact this
  rw[q1n,g _ (lEO _),lIN]
structure Sr(z:Nat)(H:Hp)(v:AV)(n:Nat)(l:List AV):Prop where
 src:∀ H',Fm No H H'->pJ z H' v=some ⟨n,l⟩
 len:l.length=n*z
 sh:(v=.aA/\n=0)\/∃ b o m c e,v=.sl b o m c e
theorem Gl.sr{v:AV}(h:Gl z H v n l):Sr z H v n l:=⟨fun _ f=>(h.no f).src,h.len,by
 rcases h.is with h|⟨b,o,e,_,_,h,_⟩
 ·exact .inl h
 ·exact .inr ⟨b,o,_,_,e,h⟩⟩
theorem Rs.sr{α:Type}{f:α->List AV}(c:∀ x,(f x).length=z){v:AV}{l:List α}(h:Rs z f H v l)(d:v=.aA\/∃ b o n m e,v=.sl b o n m e/\n<=m/\0<n):Sr z H v l.length (l.flatMap f):=by
 refine⟨fun _ a=>(h.fm a).src c d,?_,?_⟩
 ·clear h d
  induction l with
  |nil=>simp
  |cons a l ih=>rw[lIQ,lEP,ih,c,lEX,Nat.succ_mul];omega
 ·rcases d with rfl|⟨b,o,n,m,e,rfl,_⟩
  ·have:=(h.src c (.inl rfl));injection this with this;simp_all
  ·simp
theorem Sr.cp{z w n:Nat}{v:AV}(h:Sr z H v n l)(f:n*w<=1099511627776)(o:n<=1099511627776):Ok (kJ z w (aK H (aB 0 [])) (.sl H.nx 0 0 0 true) (pJ z (aK H (aB 0 [])) v)) fun r H'=>Gl z H' r n l/\Fm No H H'/\∀ b,In r b->H.nx<=b:=by
 have e:Fm No H (aK H (aB 0 [])):=by exact kW
 rw[h.src _ e];by_cases m:n=0
 ·subst m;have g:l=[]:=lIG.1 (by rw[h.len];simp);subst g;have d:kJ z w (aK H (aB 0 [])) (.sl H.nx 0 0 0 true) (some ⟨0,[]⟩)=storeAt (aK H (aB 0 [])) H.nx (0+0*z) [] (.sl H.nx 0 0 0 true):=rfl;have i:=qb5 (aK H (aB 0 [])) H.nx (0+0*z) [] (.sl H.nx 0 0 0 true) 0 [] (jQ _ _) g3;refine⟨_,_,d.trans i,⟨g3,.inr ⟨H.nx,0,true,0,_,rfl,dL _ _ _,g3,by simp[aY],.inl rfl,gx⟩⟩,by exact jW,?_⟩;rintro b ⟨_,_,_,_,a⟩;simp_all
 ·have g0:Gl z (aK H (aB 0 [])) (.sl H.nx 0 0 0 true) 0 []:=⟨g3,.inr ⟨H.nx,0,true,0,[],rfl,jQ _ _,lEO _,rfl,.inl rfl,gx⟩⟩;obtain⟨p,d,g3,_,j,q⟩:=g0.append (k:=n) (w:=w) (x:=l) om h.len (by rw[lEW];exact f) om;rw[lEW,lOX]at g3;rw[lEW]at d;refine⟨_,_,d,g3,?_,?_⟩
  ·refine e.then j ?_;rintro c s ⟨_,_,_,_,a⟩;simp_all
  ·rintro b ⟨_,_,_,_,a⟩;injection a with a;simp only[np]at a;omega
theorem qzz{z w n:Nat}{v:AV}{l zs:List AV}(h:Sr z H v n l)(f:n*w<=1099511627776)(g:n<=1099511627776):Ok (vq (jR false ((⟨E2.f ⟨qQ⟩⟩:E2).f v .aA)) H fun i H=>cd i (.ok .aA H) (vq (vT 0 H.nx (cB (aZ zs 0) [])) H fun j H=>ve (kJ z w H j (pJ z H v)) fun k H=>.ok k H)) fun r H'=>Gl z H' r n l/\Fm No H H'/\∀ b,In r b->H.nx<=b:=by
 rcases h.sh with⟨rfl,q⟩|⟨b,o,m,c,e,s⟩
 ·have d:jR false (qQ .aA .aA)=.val (.bool true):=rfl;subst q;exact Ok.ret ⟨⟨h.len,.inl ⟨rfl,rfl⟩⟩,Fm.refl _ _,fun b p=>absurd p (notNil b)⟩
 ·have d:jR false (qQ v .aA)=.val (.bool false):=by rw[s];rfl
  have a:aZ zs 0=[]:=rfl;simp only[go_sem,d,a];refine Ok.ve (h.cp f g) ?_;intro r H' t;exact Ok.ret t
theorem q4j(a:aU C)(c:1<=k){v:AV}(h:Sr 2 H v n l)(d:n<=1000):Ok (C k (.f 38) [v] H) fun r H'=>Gl 2 H' r n l/\Fm No H H'/\∀ b,In r b->H.nx<=b:=by obtain⟨j,rfl⟩:=aT c;rw[(a j).zHh];exact qzz (zs:=[.str 0 0,.str 0 0]) (w:=32) h om om
theorem zsx(a:aU C)(c:1<=k){v:AV}(h:Sr 6 H v n l)(d:n<=1000):Ok (C k (.f 85) [v] H) fun r H'=>Gl 6 H' r n l/\Fm No H H'/\∀ b,In r b->H.nx<=b:=by obtain⟨j,rfl⟩:=aT c;rw[(a j).zHt];exact qzz (zs:=teZ) (w:=96) h om om
theorem zsw(a:aU C)(c:1<=k){v:AV}(h:Sr 1 H v n l)(d:n<=1000):Ok (C k (.f 87) [v] H) fun r H'=>Gl 1 H' r n l/\Fm No H H'/\∀ b,In r b->H.nx<=b:=by obtain⟨j,rfl⟩:=aT c;rw[(a j).zHv];exact qzz (zs:=[.str 0 0]) (w:=16) h om om
theorem zsy(a:aU C)(c:1<=k){v:AV}(h:Sr 1 H v n l)(d:n<=1000):Ok (C k (.f 89) [v] H) fun r H'=>Gl 1 H' r n l/\Fm No H H'/\∀ b,In r b->H.nx<=b:=by obtain⟨j,rfl⟩:=aT c;rw[(a j).zHw];exact qzz (zs:=[iN 0]) (w:=8) h om om
theorem zz9(c:aU C)(d:1<=k){v:AV}(h:Gl 2 H v n l):∃w,C k (.f 83) [v] H=.ok w H/\Gl 2 H w n l/\(∀b,In w b->In v b)/\dA w=aD w:=by obtain⟨j,rfl⟩:=aT d;obtain⟨w,e,a,f,g⟩:=h.clip;refine⟨w,?_,a,g,f.trans a.aX.symm⟩;rw[(c j).zHs];unfold zHs z4c;simp only[go_sem,h.aX,e]
theorem q4k(c:aU C)(d:1<=k){v:AV}(h:Gl 1 H v n l):∃w,C k (.f 86) [v] H=.ok w H/\Gl 1 H w n l/\(∀b,In w b->In v b)/\dA w=aD w:=by obtain⟨j,rfl⟩:=aT d;obtain⟨w,e,a,f,g⟩:=h.clip;refine⟨w,?_,a,g,f.trans a.aX.symm⟩;rw[(c j).zCq];unfold zCq zu0;simp only[go_sem,h.aX,e]
theorem zsz(c:aU C)(d:1<=k){v:AV}(h:Gl 6 H v n l):∃w,C k (.f 84) [v] H=.ok w H/\Gl 6 H w n l/\(∀b,In w b->In v b)/\dA w=aD w:=by obtain⟨j,rfl⟩:=aT d;obtain⟨w,e,a,f,g⟩:=h.clip;refine⟨w,?_,a,g,f.trans a.aX.symm⟩;rw[(c j).zHu];unfold zHu z4b;simp only[go_sem,h.aX,e]
end Go.Di
end
