/-
 For StrataTurns: functions in direct style, their contracts, and the plain mathematics, part 10 of 10. No conditions beyond those that each theorem states.
-/
import Derived.Test.YtighkibjecdbnaaGreatConI
import Derived.Test.YtighkibjecdbnaaGreatConH
import Derived.Test.YtighkibjecdbnaaGreatConF
import Derived.Test.YtighkibjecdbnaaGreatConD
import Derived.Test.YtighkibjecdbnaaGreatEv4
import Derived.ChangeArms
import Derived.DataReads
set_option linter.unusedSimpArgs false
set_option linter.unusedVariables false
open Nat renaming reduceAdd->rB,reduceMul->rI,reduceSub->rK,reduceLeDiff->rL,reduceEqDiff->rN,reduceShiftRight->rS,reduceAnd->r6
noncomputable section
namespace Go.Di
open Go.Ev
variable {n:Nat} {ms:List Nat}
theorem qm5(x y:Int):x<y\/y<=x:=by omega
theorem qpx(s r:List Nat)(a:Nat):hd (s++r) a=hd s (hd r a):=by cases s<;>rfl
theorem qtw{a:Nat}:∀{s r:List Nat},Rw n ms a r->Rw n ms (hd r a) s->Rw n ms a (s++r)
 | [],_,h,_=>h
 |v::s,r,h,⟨h1,h2,h3⟩=>⟨h1,by show sQ n ms (hd (s++r) a) v;rw[qpx];exact h2,qtw h h3⟩
theorem zbr{a:Nat}:∀{s r:List Nat},Rw n ms a (s++r)->Rw n ms a r/\Rw n ms (hd r a) s
 | [],_,h=>⟨h,trivial⟩
 |v::s,r,⟨h1,h2,h3⟩=>by obtain⟨b,c⟩:=zbr h3;exact⟨b,h1,by rw[<-qpx];exact h2,c⟩
theorem zor{a:Nat}:∀{s:List Nat},Rw n ms a s->∀ v∈s,v<n
 | [],_,_,h=>by cases h
 |v::s,⟨h1,_,h3⟩,w,h=>by
  rcases qm.1 h with rfl|h
  ·exact h1
  ·exact zor h3 w h
theorem zvd{a:Nat}(b:a<n):∀{s:List Nat},Rw n ms a s->wk (sQ n ms) n a (hd s a) s.length
 | [],_=>rfl
 |v::s,⟨h1,h2,h3⟩=>zjw (zvd b h3) (zmq b h3) (show wk (sQ n ms) n (hd s a) v 1 from h2)
theorem z5c{b:Nat}(c:b<n):∀(L a:Nat),wS (sQ n ms) n a b L->∃ w,w.length=L+1/\hd w a=b/\Rw n ms a w
 |0,a,h=>⟨[b],rfl,rfl,c,h,trivial⟩
 |L+1,a,⟨x,hx,h1,h2⟩=>by
  obtain⟨w,d,e,f⟩:=z5c c L x h2;refine⟨w++[x],by simp[d],?_,?_⟩
  ·rw[qpx];exact e
  ·exact qtw (r:=[x]) ⟨hx,h1,trivial⟩ f
theorem z0z{a b L:Nat}(c:b<n)(h:wk (sQ n ms) n a b L):∃ w,w.length=L/\hd w a=b/\Rw n ms a w:=by
 cases L with
 |zero=>exact⟨[],rfl,h,trivial⟩
 |succ L=>exact z5c c L a h
theorem zn4(B:Nat):∀(s r:List Nat),iM B (s++r)=iM B r*B ^ s.length+iM B s
 | [],r=>by simp[iM]
 |v::s,r=>by show iM B (s++r)*B+(v+1)=_;rw[zn4 B s r,gz,lE5,xk,Nat.mul_assoc];show _=_+(iM B s*B+(v+1));omega
theorem z3w(n:Nat):∀(s:List Nat),(∀v∈s,v<n)->iM (n+1) s+1<=(n+1) ^ s.length
 | [],_=>lh _
 |v::s,h=>by have b:=z3w n s (fun w a=>h w (uu _ a));have d:=h v (qy ..);have c:(iM (n+1) s+1)*(n+1)<=(n+1) ^ s.length*(n+1):=um _ b;rw[xk,zu]at c;rw[gz,lE5];show iM (n+1) s*(n+1)+(v+1)+1<=_;omega
theorem z9g(n:Nat):∀(v:Nat) (s:List Nat),(n+1) ^ s.length<=iM (n+1) (v::s)
 |v,[]=>by simp[iM]
 |v,w::s=>by have a:=z9g n w s;have b:(n+1) ^ s.length*(n+1)<=iM (n+1) (w::s)*(n+1):=um _ a;rw[gz,lE5];show _<=iM (n+1) (w::s)*(n+1)+(v+1);omega
theorem zuv{x w:List Nat}(a:∀ v∈w,v<n)(h:w.length<x.length):iM (n+1) w<iM (n+1) x:=by
 cases x with
 |nil=>simp at h
 |cons v x=>have b:=z3w n w a;have c:=z9g n v x;have d:(n+1) ^ w.length<=(n+1) ^ x.length:=lEF (by omega) (by simp at h;omega);omega
theorem z3x{s s' r:List Nat}{z z':Nat}(a:∀ v∈s',v<n)(b:s'.length=s.length)(f:z'<z):iM (n+1) (s'++z'::r)<iM (n+1) (s++z::r):=by
 rw[zn4,zn4,b];have c:=z3w n s' a;rw[b]at c;have d:iM (n+1) (z'::r)+1<=iM (n+1) (z::r):=by show iM (n+1) r*(n+1)+(z'+1)+1<=iM (n+1) r*(n+1)+(z+1);omega
 have e:=um ((n+1) ^ s.length) d;rw[xk,zu]at e;omega
theorem z9u{a:Nat}{T:List (List Nat)}(b:(T.map (hd · a)).Nodup){x y:List Nat}(g:x∈T)(k:y∈T)(h:hd x a=hd y a):x=y:=by
 obtain⟨i,d,rfl⟩:=mg.1 g;obtain⟨j,f,rfl⟩:=mg.1 k;have c:=uf.1 b;rcases dm i j with e|e|e
 ·exact absurd (by rw[zf,zf];exact h) (c i j (by simpa using d) (by simpa using f) e)
 ·subst e;rfl
 ·exact absurd (by rw[zf,zf];exact h.symm) (c j i (by simpa using f) (by simpa using d) e)
theorem znl(d:ms.length=n*n){y b k:Nat}(e:y<n)(c:b<n)(f:wk (sQ n ms) n y b k)(a:∀ w,Rw n ms y w->hd w y=b->k<=w.length):(dist n ms).getD (y*n+b) 0=k:=by obtain⟨g,j⟩:=qxx d y b k e c f;obtain⟨w,l,h,i⟩:=z0z c (qm8 d y b e c g);have:=a w i h;omega
theorem z97(A:ms.length=n*n){a b:Nat}(E:a<n)(q:b<n){x:List Nat}(F:Rw n ms a x)(i:hd x a=b)(c:∀ w,Rw n ms a w->hd w a=b->iM (n+1) x<=iM (n+1) w):∀(p r:List Nat),p.reverse++r=x->Gp n ms (dist n ms) b (hd r a) p
 | [],r,h=>by have:r=x:=h;subst this;rw[i];exact .nil
 |z::s,r,h=>by
  rw[List.reverse_cons,rf]at h;have N:s.reverse++z::r=x:=h;subst N;obtain⟨⟨v,D,y⟩,I⟩:=zbr F;have l:hd s.reverse z=b:=by rw[<-i,qpx];rfl
  have t:=zmq E y;have f:s.reverse.length=s.length:=List.length_reverse
  -- a shorter way on is none
  have m:∀(w j:List Nat),Rw n ms a j->Rw n ms (hd j a) w->hd w (hd j a)=b->(s.reverse++z::r).length<=(w++j).length:=by
   intro w j g o d;rcases xe (w++j).length (s.reverse++z::r).length with e|e
   ·have B:=c (w++j) (qtw g o) (by rw[qpx];exact d);have G:=zuv (zor (qtw g o)) e;omega
   ·exact e
  have dz:(dist n ms).getD (z*n+b) 0=s.length:=by
   refine znl A v q ?_ fun w o d=>?_
   ·have:=zvd v I;rw[f]at this;have P:hd s.reverse (hd (z::r) a)=b:=l;rw[show hd s.reverse z=b from l]at this;exact this
   ·have:=m w (z::r) ⟨v,D,y⟩ o d;simp only[ku,gz,f]at this;omega
  have H:(dist n ms).getD (hd r a*n+b) 0=(s.length+1:Nat):=by
   refine znl A t q ?_ fun w o d=>?_
   ·have B:Rw n ms (hd r a) (s.reverse++[z]):=qtw (r:=[z]) ⟨v,D,trivial⟩ I;have:=zvd t B;rw[qpx]at this;rw[show hd s.reverse (hd [z] (hd r a))=b from l]at this;rw[show(s.reverse++[z]).length=s.length+1 by simp]at this;exact this
   ·have:=m w r y o d;simp only[ku,gz,f]at this;omega
  refine .cons (fun e=>?_) ⟨v,⟨D,by rw[dz];omega,by rw[dz,H];omega⟩,fun k M C=>?_⟩ (z97 A E q F i c s (z::r) rfl)
  ·have:=m [] r y trivial e;simp only[ku,gz,uk]at this;omega
  ·obtain⟨B,G,J⟩:=C;rw[H]at J;have u:k<n:=by omega
   obtain⟨w,K,O,L⟩:=z0z q (qm8 A k b u q G);rw[J]at K;have g:Rw n ms a (k::r):=⟨u,B,y⟩;have Q:=c (w++k::r) (qtw g L) (by rw[qpx];exact O);have R:=z3x (s:=s.reverse) (s':=w) (r:=r) (z:=z) (z':=k) (zor L) (by rw[K,f];omega) M;omega
theorem xaa{a:Nat}(e:n<=256){T:List (List Nat)}{t:Nat}{s:Wk}(h:Inv n ms a T t s):∀(x:List Nat),x∈T->Ch s.f a (x++[a])
 | [],_=>.one
 |v::x,hx=>by
  obtain⟨c,d⟩:=h.par v x hx;obtain⟨i,_,f,_⟩:=h.fst v x hx;have ih:=xaa e h x (uB f);have b:v<256:=by have:v<n:=(h.rw' _ hx).1;omega
  cases x with
  |nil=>exact .cons c b d ih
  |cons w x=>exact .cons c b d ih
theorem zom{a:Nat}{T:List (List Nat)}{t:Nat}{s:Wk}(h:Inv n ms a T t s):∀(x:List Nat) (i:Nat),T[i]? =some x->x.length<=i
 | [],_,_=>gy _
 |v::x,i,hi=>by
  obtain⟨j,_,b,_⟩:=h.fst v x (uB hi);have ih:=zom h x j b;have c:i<T.length:=by
   rcases xe i T.length with h|h
   ·exact h
   ·rw[xn h]at hi;cases hi
  have d:j<T.length:=by
   rcases xe j T.length with h|h
   ·exact h
   ·rw[xn h]at b;cases b
  rw[lL c]at hi;rw[lL d]at b;have f:iM (n+1) x<iM (n+1) (v::x):=by show _<iM (n+1) x*(n+1)+(v+1);rw[Nat.mul_add,qg];omega
  rcases xe j i with e|e
  ·rw[gz];omega
  ·exfalso;rcases Nat.eq_or_lt_of_le e with e|e
   ·subst e;rw[qh]at hi b;rw[<-hi,<-b]at f;omega
   ·have:=uf.1 h.pw i j c d e;rw[qh]at hi b;rw[hi,b]at this;omega
theorem zjy{n:Nat}{ms:List Nat}(m:MOk n ms)(o:(eF n ms).length<1000):qx7 n ms:=by
 have B:=m.len;have O:=m.hn;refine fun a k=>?_;obtain⟨J,T,q,e⟩:=zyc (ms:=ms) m.hn k n [[]] 0 (jW a) (by omega) (Inv.start ms k m.hn);have g:∀ b,b<n->((jC (eF n ms) n (jW a)).getD b 0<0↔(dist n ms).getD (a*n+b) 0<0):=by
  intro b l;have z:=e.iff b (by omega);constructor
  ·intro h;rcases qm5 ((dist n ms).getD (a*n+b) 0) 0 with c|c
   ·exact c
   ·obtain⟨w,_,A,K⟩:=z0z l (qm8 B a b k l c);obtain⟨x,f,L,_⟩:=least e w K;have:=z.2 ⟨x,f,by rw[L,A]⟩;exact absurd this (Int.not_le.2 h)
  ·intro h;rcases qm5 ((jC (eF n ms) n (jW a)).getD b 0) 0 with c|c
   ·exact c
   ·obtain⟨x,f,u⟩:=z.1 c;have A:=zvd k (e.rw' x f);rw[u]at A;have:=(qxx B a b _ k l A).1;omega
 refine⟨n,⟨qdn n ms,m.hn,o,by omega,J⟩,?_,fun b l=>⟨g b l,fun p=>?_⟩⟩
 ·have r:∀ i,i<=256->qzw (jC (eF n ms) n (jW a)) i=zjx n (dist n ms) a (min i n):=by
   intro i
   induction i with
   |zero=>intro _;rw[Nat.zero_min];rfl
   |succ i ih=>
    intro G;rw[q6l,ih (by omega)];by_cases h:i<n
    ·rw[show min (i+1) n=min i n+1 by omega,show min i n=i by omega,zb0];by_cases c:(jC (eF n ms) n (jW a)).getD i 0<0
     ·rw[kz c,kz ((g i h).1 c)]
     ·rw[lu c,lu (fun u=>c ((g i h).2 u))]
    ·rw[show min (i+1) n=min i n by omega];have:(jC (eF n ms) n (jW a)).getD i 0<0:=by
      rcases qm5 ((jC (eF n ms) n (jW a)).getD i 0) 0 with c|c
      ·exact c
      ·obtain⟨x,f,u⟩:=(e.iff i (by omega)).1 c;have:=zmq k (e.rw' x f);omega
     rw[kz this,ut]
  rw[r 256 (lh _),show min 256 n=n by omega]
 ·have s:0<=(jC (eF n ms) n (jW a)).getD b 0:=by
   rcases qm5 ((jC (eF n ms) n (jW a)).getD b 0) 0 with c|c
   ·exact absurd ((g b l).1 c) p
   ·exact c
  obtain⟨x,f,j⟩:=(e.iff b (by omega)).1 s;have C:=xaa m.hn e x f;have t:∀ w,Rw n ms a w->hd w a=b->iM (n+1) x<=iM (n+1) w:=by intro w M E;obtain⟨y,N,z,c⟩:=least e w M;have:=z9u e.nd N f (by rw[z,E,j]);subst this;exact c
  have D:=z97 B k l (e.rw' x f) j t x.reverse [] (by rw[List.reverse_reverse,ut]);obtain⟨i,G,F⟩:=mg.1 f;have H:=zom e x i (by rw[lL G,F]);have I:=e.card k;have d:x++[a]=b::(x++[a]).tail:=by
   cases x with
   |nil=>rw[show b=a from j.symm];rfl
   |cons v x=>rw[show b=v from j.symm];rfl
  refine⟨(x++[a]).tail,x.reverse,by rw[<-d];exact C,?_,D,by rw[<-d,List.reverse_append];rfl⟩;simp only[List.length_tail,ku,gz,uk];omega
end Go.Di
end
noncomputable section
namespace Go.Di
open Go.Ev Go.Di.T Go.Sort
variable {C:Nat->Ev.Call} {LA LO:LP}
variable {H H0:Hp} {gv:AV} {ins ms:List Nat} {j k n:Nat} {l:List AV}
theorem app1{b:Nat}{x:AV}(d:H.get b=aB 0 [x])(f:b<H.nx)(j:l.length=k)(o:k<=1000000):∃w H',lI 1 8 H (.sl b 0 1 1 true) (some ⟨k,l⟩)=.ok w H'/\Gl 1 H' w (k+1) (x::l)/\Fm (fun c=>c=b) H H'/\(∀c,In w c->b<=c)/\H.nx<=H'.nx:=by
 have g:Gl 1 H (.sl b 0 1 1 true) 1 [x]:=⟨rfl,.inr ⟨b,0,true,0,_,rfl,d,gy _,rfl,.inl rfl,f⟩⟩;by_cases n:k=0
 ·subst n;have:=tq.1 j;subst this;refine⟨_,H.put b (aB 0 [x]),?_,⟨rfl,.inr ⟨b,0,true,0,_,rfl,dL _ _ _,gy _,rfl,.inl rfl,f⟩⟩,(Fm.refl _ _).put b _ fun _=>rfl,fun c a=>?_,lh _⟩
  ·show storeAt H b (0+1*1) [] (.sl b 0 1 1 true)=_;exact qch _ _ _ _ _ _ _ d (by simp)
  ·obtain⟨_,_,_,_,e⟩:=a;cases e;exact lh _
 ·obtain⟨H',h,i,_,m,p⟩:=g.append (w:=8) (k:=k) (x:=l) (by omega) (by omega) (by omega) (by omega);rw[show 1+k=k+1 by omega]at h i;refine⟨_,H',h,i,m.mono fun c _ a=>?_,fun c a=>?_,by omega⟩
  ·obtain⟨_,_,_,_,e⟩:=a;cases e;rfl
  ·obtain⟨_,_,_,_,e⟩:=a;cases e;omega
def zyh(es:List Edge)(p:Edge->Bool)(i:Nat):Prop:=∃ h:i<es.length,p es[i]=true/\(es.take i).any p=false
theorem qt1{O:Ev.Call}{f:FuncId}{d:List AV}{a:List Edge}{p:Edge->Bool}{H0:Hp}{w:AV}(m:iH H0 w a)(e:a.length<900000)(n:aGd O H0 f d a p){q:pB}{r:pD}{Q:pH}(g:∀ i H,zyh a p i->Fm No H0 H->Ok (q (.int .i64 (.ofNat i)) H) Q)(j:∀ H,a.any p=false->Fm No H0 H->Ok (r H) Q):∀(k i:Nat) (H:Hp),a.length-i<k->i<=a.length->(a.take i).any p=false->Fm No H0 H -> Ok (qq4 O q r w (.fn f [] d) (.int .i64 (.ofNat a.length)) k (.int .i64 (.ofNat i)) H) Q
 |0,i,H,h,_,_,_=>by omega
 |k+1,i,H,h,hi,ha,hF=>by
  show Ok (zeo O _ _ _ _ _ (qq4 O _ _ _ _ _ k) _ H) Q;unfold zeo;by_cases c:i<a.length
  ·obtain⟨b,o,x,z,y⟩:=(m.fm hF).at c;simp(disch:=go_size)only[go_sem,rB,rI,rK,rL,rN,rS,r6,c];unfold zem;simp(disch:=go_size)only[go_sem,rB,rI,rK,rL,rN,rS,r6,x,y];have u:(a.take (i+1)).any p=p a[i]:=by
    rw[lw c,ik,ha];simp
   have l:=n a[i] (lg _) H hF;refine Ok.ve l ?_;rintro v H' ⟨rfl,s⟩;cases t:p a[i]with
   |true=>simp(disch:=go_size)only[go_sem,rB,rI,rK,rL,rN,rS,r6];exact g i H' ⟨c,t,ha⟩ (hF.trans s)
   |false=>simp(disch:=go_size)only[go_sem,rB,rI,rK,rL,rN,rS,r6];unfold zen;simp(disch:=go_size)only[go_sem,rB,rI,rK,rL,rN,rS,r6];exact qt1 m e n g j k (i+1) H' (by omega) (by omega) (u.trans t) (hF.trans s)
  ·simp(disch:=go_size)only[go_sem,rB,rI,rK,rL,rN,rS,r6,c];have:i=a.length:=by omega
   subst this;rw[uz]at ha;exact j H ha hF
theorem zvj(g:aV C){f:FuncId}{a:List AV}{b:List Edge}{p:Edge->Bool}{w:AV}(e:iH H0 w b)(c:b.length<900000)(h:aGd (C j) H0 f a b p):Ok (C (j+1) (.f 49) [w,.fn f [] a] H0) fun v H'=>((∃i,v=.int .i64 (.ofNat i)/\zyh b p i)\/(v=.int .i64 (.negSucc 0)/\b.any p=false))/\Fm No H0 H':=by rw[(g j).zGg];unfold zGg zyr;have m:=e.len;simp(disch:=go_size)only[go_sem,rB,rI,rK,rL,rN,rS,r6,m];unfold zep;rw[bW];refine qt1 e c h (fun i H k d=>Ok.ret ⟨Or.inl ⟨i,rfl,k⟩,d⟩) (fun H l d=>?_) bL 0 H0 (by rw[bZ];omega) (gy _) (by simp) (Fm.refl _ _);unfold qnb;exact Ok.ret ⟨Or.inr ⟨rfl,l⟩,d⟩
theorem z00(i:qjt C){c n:Nat}{lv iv:AV}{f:List Edge}(k:∀ e∈f,e.f<n/\e.t<n)(d:Gl 1 H0 iv n (aI ins))(l:H0.get c=aB 0 [lv,iv])(g:c<H0.nx):aGd (C (j+1)) H0 50 [.ptr c 0] f (mP ins):=by
 intro e p H a;show Ok (C (j+1) (.f 50) [.agg e.cells,.ptr c 0] H) _;rw[(i j).zGf];unfold zGf zys Edge.cells;obtain⟨u,v⟩:=k e p;have m:ins.length=n:=by have:=d.len;rw[lV]at this;omega
 obtain⟨w,x,q,y,_,r⟩:=(d.no a).at (qqs ins e.f (by omega));obtain⟨z,A,s,B,_,t⟩:=(d.no a).at (qqs ins e.t (by omega));have h:H.get c=aB 0 [lv,iv]:=(a.keep g).trans l;have o:c<H.nx:=lq g a.nx;cases b:e.s with
 |true=>simp(disch:=go_size)only[go_sem,rB,rI,rK,rL,rN,rS,r6,h,q,r,s,t,b];refine Ok.ret ⟨?_,by(repeat(first|exact Fm.refl _ _|assumption|refine Fm.push ?_ _|refine Fm.fC ?_ (by go_size)|refine Fm.aD ?_ _ _ (by go_size)))⟩;unfold mP;rw[b,Bool.true_and]
 |false=>simp(disch:=go_size)only[go_sem,rB,rI,rK,rL,rN,rS,r6,h,b];refine Ok.ret ⟨?_,by(repeat(first|exact Fm.refl _ _|assumption|refine Fm.push ?_ _|refine Fm.fC ?_ (by go_size)|refine Fm.aD ?_ _ _ (by go_size)))⟩;unfold mP;rw[b,Bool.false_and]
def RM(n:Nat)(ms:List Nat)(e:Edge):Prop:=e.s=true/\¬(dist n ms).getD (e.t*n+e.f) 0<0
def z92(n:Nat)(ms:List Nat):Option (List Nat)->Prop
 |none=>∀ e∈eF n ms,¬RM n ms e
 |some s=>∃(i:Nat) (e:Edge) (l:List Nat),(eF n ms)[i]? =some e/\RM n ms e/\(∀e'∈(eF n ms).take i,¬RM n ms e')/\Gp n ms (dist n ms) e.f e.t l/\l.length<1000/\s=e.f::(e.t::l).dropLast
theorem Gp.uniq{n:Nat}{ms:List Nat}{d:List Int}{b:Nat}:∀{a:Nat} {l c:List Nat},Gp n ms d b a l->Gp n ms d b a c->l=c
 |_,_,_,.nil,.nil=>rfl
 |_,_,_,.nil,.cons h _ _=>absurd rfl h
 |_,_,_,.cons h _ _,.nil=>absurd rfl h
 |_,_,_,.cons (x:=x) _ h1 g1,.cons (x:=y) _ h2 g2=>by
  have:x=y:=by
   rcases dm x y with h|h|h
   ·exact absurd h1.is (h2.least x h)
   ·exact h
   ·exact absurd h2.is (h1.least y h)
  subst this;rw[Gp.uniq g1 g2]
theorem zkw(i:ms.length=n*n){c:List (List Nat)}(j:NmC n c ins)(k:jO n (iB (eF n ms)) [] c){e:Edge}(d:e∈eF n ms):mP ins e=true↔RM n ms e:=by
 obtain⟨g,h⟩:=(qdn n ms).rng e d;have l:Rc (iB (eF n ms)) e.f e.t:=.step (.refl _) (qcp.2 ⟨e,d,rfl,rfl⟩);have f:=(q7b i).2 e.t e.f h g;have m:=j.eq k g h;unfold mP RM;rw[qc,yc,m];constructor
 ·rintro ⟨a,_,b⟩;exact⟨a,lEN.2 (f.2 b)⟩
 ·rintro ⟨a,b⟩;exact⟨a,l,f.1 (lEN.1 b)⟩
theorem Gs.rd{b o n m:Nat}{e:Bool}(h:Gs 1 H (.sl b o n m e) n l):jG (H.get b) o (n*1)=some l:=by
 rcases h.is with⟨h,_⟩|⟨f,g,i,j,q,L,a,k,c,p,d,r,s⟩
 ·cases h
 ·cases a;rw[c,qb7,kz (by omega),d]
theorem zdx(K:aV C)(hY:qjt C)(hO:pI C)(hS:nV C)(hR:oZ LA LO C)(hk:1002<=k)(hM:MOk n ms)(hP:qx7 n ms)(hn:n<=256)(hlen:(eF n ms).length<900)(hg:iH H gv (eF n ms)):Ok (C k (.f 20) [.agg [.int .i64 (.ofNat n),gv]] H) fun r H'=>Fm No H H' /\ ((r=.aX [.aA,.int .i64 (.ofNat 8)]/\z92 n ms none) \/ ∃w s,r=.aX [w,.int .i64 (.ofNat 0)]/\Gl 1 H' w s.length (aI s)/\jM w=.val (.int .i64 (.ofNat s.length))/\s.length<=1001/\z92 n ms (some s)):=by
 obtain⟨j,rfl⟩:∃ j,k=j+3:=⟨k-3,by omega⟩;rw[(hY (j+2)).zGc];have L:=qdn n ms;have U:=hM.len;unfold zGc zyv;simp(disch:=go_size)only[go_sem,rB,rI,rK,rL,rN,rS,r6];have V:Fm No H (aN H (aB 0 [.int .i64 (.ofNat n),gv])):=by(repeat(first|exact Fm.refl _ _|assumption|refine Fm.push ?_ _|refine Fm.fC ?_ (by go_size)|refine Fm.aD ?_ _ _ (by go_size)))
 refine Ok.ve (z4l K hO hS hR (k:=j+2) (by omega) L hn (by omega) (hg.fm V)) ?_;rintro r H1 ⟨lv,iv,os,d9,out,ins,res,rfl,aCv,I,O⟩;have M:=aCv.ord L.rng;have W:=z2a M I.ins;have n1:H.nx+1<=H1.nx:=O.nx;have g1:H1.get H.nx=aB 0 [.int .i64 (.ofNat n),gv]:=(O.keep (by go_size)).trans (jA _ _);have X:∀ x y a b:AV,aY [a,b] 0 [x,y]=[x,y]:=fun _ _ _ _=>rfl;have N:Fm No H1 ((aN H1 (aB 0 [.aA,.aA])).put H1.nx (aB 0 [lv,iv])):=by(repeat(first|exact Fm.refl _ _|assumption|refine Fm.push ?_ _|refine Fm.fC ?_ (by go_size)|refine Fm.aD ?_ _ _ (by go_size)))
 simp(disch:=go_size)only[go_sem,rB,rI,rK,rL,rN,rS,r6,X,gz,uk];generalize J:(aN H1 (aB 0 [AV.aA,AV.aA])).put H1.nx (aB 0 [lv,iv])=H2 at *;have c2:H2.get H1.nx=aB 0 [lv,iv]:=by rw[<-J,dL]
 have n2:H2.nx=H1.nx+1:=by rw[<-J];rfl
 have g2:H2.get H.nx=aB 0 [.int .i64 (.ofNat n),gv]:=(N.keep (by omega)).trans g1;have A:iH H2 gv (eF n ms):=((hg.fm V).fm O).fm N;unfold q3g;simp(disch:=go_size)only[go_sem,rB,rI,rK,rL,rN,rS,r6,g2];refine Ok.ve (zvj K (j:=j+1) A (by omega) (z00 (j:=j) hY L.rng (I.gi.no N) c2 (by omega))) ?_;rintro v f ⟨u,P⟩;have B:=((V.trans O).trans N).trans P;rcases u with⟨i,rfl,hi,hp,ha⟩|⟨rfl,ha⟩
 ·simp(disch:=go_size)only[go_sem,rB,rI,rK,rL,rN,rS,r6,ak];unfold q3h;have D:=A.fm P;obtain⟨b,o,e1,_,e3⟩:=D.at hi;have g3:f.get H.nx=aB 0 [.int .i64 (.ofNat n),gv]:=(P.keep (by omega)).trans g2;have h3:H.nx<f.nx:=by have:=P.nx;omega
  have p:(eF n ms)[i]∈eF n ms:=lg _;have q:=(zkw U W M p).1 hp;have Y:∀ R∈(eF n ms).take i,¬RM n ms R:=fun R z h=>by have:=List.any_eq_false.1 ha R z;exact this ((zkw U W M (mf z)).2 h)
  have Z:(eF n ms)[i]? =some (eF n ms)[i]:=lL hi;obtain⟨l1,l2⟩:=L.rng _ p;generalize (eF n ms)[i]=e at *;have fb:Fm No f ((aN f (aB 0 [.int .i64 (.ofNat 0),.int .i64 (.ofNat 0),.bool false])).put f.nx (aB 0 e.cells)):=by(repeat(first|exact Fm.refl _ _|assumption|refine Fm.push ?_ _|refine Fm.fC ?_ (by go_size)|refine Fm.aD ?_ _ _ (by go_size)))
  simp(disch:=go_size)only[go_sem,rB,rI,rK,rL,rN,rS,r6,g3,e1,e3,Edge.cells];unfold Edge.cells at fb;obtain⟨m,hW,_,hWb⟩:=hP e.t l2;obtain⟨w1,w2⟩:=hWb e.f l1;have hnn:=fun h=>q.2 (w1.1 h);obtain⟨l,g,z1,z2,z3,z4⟩:=w2 q.2;refine Ok.ve (z4i K (k:=j+2) (by omega) (D.fm fb) hW l2 l1 (Q:=fun r H'=>∃ w,r=.aX [w,.int .i64 (.ofNat 0)]/\Fm No _ H'/\Gl 1 H' w (l.length+1) (aI (e.t::g))/\∀ b,In w b->f.nx+1<=b) (fun h=>absurd h hnn) (fun _=>⟨l,z1,z2,fun H' w S T a3 a4=>⟨w,rfl,S,by rw[<-z4];exact T,a4⟩⟩)) ?_;rintro r d ⟨w,rfl,f4,gw,hwn⟩;have t:g.length=l.length:=by have:=congrArg List.length z4;simpa using this.symm
  have n4:=f4.nx;have n4':f.nx+1<=d.nx:=n4;have g4:d.get f.nx=aB 0 [.int .i64 (.ofNat e.f),.int .i64 (.ofNat e.t),.bool e.s]:=(f4.keep (by go_size)).trans (dL _ _ _);have elw:=gw.bS;obtain⟨wb,wo,wm,we,u1,u2,u3⟩:=gw.gs.upto (k:=l.length) (by omega) (by omega);have u1':kL 1 w none (some (.int .i64 (.ofNat (l.length+1-1)))) none=.val (.sl wb wo l.length wm we):=by rw[iq];exact u1
  have hwb:wb<d.nx:=u2.lt ⟨_,_,_,_,rfl⟩;have hdl:(aI (e.t::g)).take (l.length*1)=aI (e.t::g).dropLast:=by unfold aI;rw[<-List.map_take,List.dropLast_eq_take,gz,t];simp
  rw[hdl]at u2;have hdn:(aI (e.t::g).dropLast).length=l.length:=by rw[lV,List.length_dropLast,gz,t];rfl
  have E:=u2.rd;have F:=E;rw[qg]at F;simp(disch:=go_size)only[go_sem,rB,rI,rK,rL,rN,rS,r6,g4,elw,u1',E,F,hwb];have bZr:l.length<1000:=z2;obtain⟨w5,H5,S,T,a3,a4,a5⟩:=app1 (H:=(Hp.mk d.t (d.nx+12)).put (d.nx+2) (aB 0 [AV.int .i64 (.ofNat e.f)])) (dL _ _ _) (by go_size) (l:=aI (e.t::g).dropLast) hdn (by omega);refine Ok.xW S ?_;have fP:Fm No d ((Hp.mk d.t (d.nx+12)).put (d.nx+2) (aB 0 [AV.int .i64 (.ofNat e.f)])):=by(repeat(first|exact Fm.refl _ _|assumption|refine Fm.push ?_ _|refine Fm.fC ?_ (by go_size)|refine Fm.aD ?_ _ _ (by go_size)))
  have f5:Fm No d H5:=fP.then a3 fun c hc h=>by omega
  have g5:H5.get f.nx=aB 0 [.int .i64 (.ofNat e.f),.int .i64 (.ofNat e.t),.bool e.s]:=(f5.keep (by omega)).trans g4;simp(disch:=go_size)only[go_sem,rB,rI,rK,rL,rN,rS,r6,g5];obtain⟨w6,b1,b2,b3,b4⟩:=qx9 K (k:=j+2) (by omega) T;refine Ok.xW b1 ?_;simp(disch:=go_size)only[go_sem,rB,rI,rK,rL,rN,rS,r6,g5];have G:(e.f::(e.t::g).dropLast).length=l.length+1:=by rw[gz,List.length_dropLast,gz,t];rfl
  refine Ok.ret ⟨((B.trans fb).trans f4).trans f5,Or.inr ⟨w6,e.f::(e.t::g).dropLast,rfl,by rw[G];exact b2,by rw[G];exact b3,by omega,i,e,g,Z,q,Y,z3,by omega,rfl⟩⟩
 ·simp(disch:=go_size)only[go_sem,rB,rI,rK,rL,rN,rS,r6];exact Ok.ret ⟨B,Or.inl ⟨rfl,fun e he h=>by have:=List.any_eq_false.1 ha e he;exact this ((zkw U W M he).2 h)⟩⟩
end Go.Di
end
noncomputable section
namespace Go.Di
open Go.Ev Go.Di.T Go.Sort
variable {C:Nat->Ev.Call} {LA LO:LP} {L:List (List Nat)} {X X':List aM}
variable {H:Hp} {k n:Nat} {o:List Nat} {sv:AV}
def NB(X:List aM):Prop:=∃ e∈rM X,e.s=true/\Rc (iB (rM X)) e.t e.f
open Classical in
def stC(X:List aM):Nat:=if Dp X then(if NB X then 12 else 0)else 3
theorem esB(a:bX X)(b:(aJ X).length<13):y7 (aJ X).length (rM X)/\(rM X).length<900:=by have e:rM X=eF (aJ X).length _:=a.same.symm;rw[e];exact⟨qdn _ _,qtn _ b⟩
theorem zdz(a:aV C)(b:kH C)(c:20<=k)(d:bM H sv X)(e:PrB X)(g:¬ Dp X):Ok (C k (.f 40) [.agg [sv]] H) fun r H'=>r=iN 3/\Fm No H H':=by
 obtain⟨j,rfl⟩:=aU c;rw[(a j).zBj];unfold zBj zrd;have f:Fm No H (aN H (aB 0 [sv])):=by(repeat(first|exact Fm.refl _ _|assumption|refine Fm.push ?_ _|refine Fm.fC ?_ (by go_size)|refine Fm.aD ?_ _ _ (by go_size)))
 simp(disch:=first|go_size|omega)only[go_sem,rB,rI,rK,rL,rN,rS,r6];refine Ok.ve (qtx a b (k:=j) (by omega) (d.fm f) e) ?_;rintro _ H1 ⟨rfl,h⟩;rw[lu g];simp(disch:=first|go_size|omega)only[go_sem,rB,rI,rK,rL,rN,rS,r6];exact Ok.ret ⟨rfl,f.trans h⟩
theorem zo0(b:aV C)(c:kH C)(d:21<=k)(e:bM H sv X)(g:PrB X)(h:¬ Dp X):Ok (C k (.f 18) [.agg [sv]] H) fun r H'=>r=.aX [.agg [iN 0,.aA],iN 3]/\Fm No H H':=by
 obtain⟨j,rfl⟩:=aU d;rw[(b j).zAt];unfold zAt zru;have f:Fm No H (aN (aN H (aB 0 [sv])) (aB 0 [iN 0,.aA])):=by(repeat(first|exact Fm.refl _ _|assumption|refine Fm.push ?_ _|refine Fm.fC ?_ (by go_size)|refine Fm.aD ?_ _ _ (by go_size)))
 simp(disch:=first|go_size|omega)only[go_sem,rB,rI,rK,rL,rN,rS,r6];refine Ok.ve (zdz b c (k:=j) (by omega) (e.fm f) g h) ?_;rintro _ H1 ⟨rfl,a⟩;have i:H1.get (H.nx+1)=aB 0 [iN 0,.aA]:=(a.keep (by go_size)).trans (by simp(disch:=go_size)only[go_sem,rB,rI,rK,rL,rN,rS,r6]);have l:=a.nx;simp only[np]at l;simp(disch:=go_size)only[go_sem,rB,rI,rK,rL,rN,rS,r6,i];exact Ok.ret ⟨rfl,(f.trans a).aD _ _ (by omega)⟩
theorem z8f(a:aV C)(d:kH C)(e:qho C)(f:pI C)(g:nV C)(i:oZ LA LO C)(j:bM H sv X)(c:bX X)(l:(aJ X).length<13):(∃o,Fit (aJ X).length (rM X) o/\∀ x,x<(aJ X).length->o.getD x 0<(aJ X).length)\/NB X:=by
 obtain⟨_,H1,_,w,_,m,_⟩:=zoz a d e (k:=1003) (by omega) j c;obtain⟨b,n⟩:=esB c l;obtain⟨_,_,_,_,h⟩:=qtz a a f g i (k:=1003) (by omega) b (by omega) n m;rcases h with⟨_,o,_,_,_,p,_,q⟩|⟨_,h⟩
 ·exact .inl ⟨o,p,q⟩
 ·exact .inr h
theorem zxr(h:Fit n (rM X) o):¬ NB X:=zlv (n:=n) (lv:=fun x=>o.getD x 0) fun e a=>by have:=h.2 e a;unfold vT at this;refine⟨by show o.getD e.t 0<=o.getD e.f 0;omega,fun b=>?_⟩;rw[b]at this;exact this
theorem zoq(a:aV C)(e:kH C)(n:qho C)(p:pI C)(q:nV C)(s:oZ LA LO C)(t:1003<=k)(g:bM H sv X)(u:PrB X)(v:Dp X->bX X)(w:(aJ X).length<13):Ok (C k (.f 8) [.agg [sv]] H) fun r H'=>r=iN ((stC X))/\Fm No H H':=by
 obtain⟨j,rfl⟩:=aU t;rw[(a j).zAe];unfold zAe z0w;have f:Fm No H (aN H (aB 0 [sv])):=by(repeat(first|exact Fm.refl _ _|assumption|refine Fm.push ?_ _|refine Fm.fC ?_ (by go_size)|refine Fm.aD ?_ _ _ (by go_size)))
 simp(disch:=first|go_size|omega)only[go_sem,rB,rI,rK,rL,rN,rS,r6];unfold stC;by_cases h:Dp X
 ·rw[kz h];have i:=v h;obtain⟨b,x⟩:=esB i w;refine Ok.ve (zoz a e n (k:=j) (by omega) (g.fm f) i) ?_;rintro _ H1 ⟨gv,rfl,y,_,c,_⟩;simp(disch:=go_size)only[go_sem,rB,rI,rK,rL,rN,rS,r6];have l:Fm No H1 ((aN H1 (aB 0 [iN 0,.aA])).put H1.nx (aB 0 [iN ((aJ X).length),gv])):=by(repeat(first|exact Fm.refl _ _|assumption|refine Fm.push ?_ _|refine Fm.fC ?_ (by go_size)|refine Fm.aD ?_ _ _ (by go_size)))
  refine Ok.ve (qtz a a p q s (k:=j) (by omega) b (by omega) x (y.fm l)) ?_;rintro _ B ⟨z,d⟩;have m:=((f.trans c).trans l).trans z;rcases d with⟨_,o,rfl,_,_,A,_⟩|⟨rfl,d⟩
  ·rw[lu (zxr A)];simp(disch:=go_size)only[go_sem,rB,rI,rK,rL,rN,rS,r6];unfold qyv;exact Ok.ret ⟨rfl,m⟩
  ·rw[kz (show NB X from d)];simp(disch:=go_size)only[go_sem,rB,rI,rK,rL,rN,rS,r6];unfold qyv;exact Ok.ret ⟨rfl,m⟩
 ·rw[lu h];refine Ok.ve (zo0 a e (k:=j) (by omega) (g.fm f) u h) ?_;rintro _ H1 ⟨rfl,c⟩;simp(disch:=go_size)only[go_sem,rB,rI,rK,rL,rN,rS,r6];unfold qyv;exact Ok.ret ⟨rfl,(f.trans c).trans (by(repeat(first|exact Fm.refl _ _|assumption|refine Fm.push ?_ _|refine Fm.fC ?_ (by go_size)|refine Fm.aD ?_ _ _ (by go_size))))⟩
theorem z6l(c:aV C)(z:kH C)(A:qho C)(B:pI C)(D:nV C)(E:oZ LA LO C)(F:qep C)(G:1003<=k)(g:bM H sv X)(I:PrB X)(s:Dp X->bX X)(t:(aJ X).length<13):Ok (C k (.f 17) [.agg [sv]] H) fun r H'=>r=iN ((stC X))/\Fm No H H':=by
 obtain⟨j,rfl⟩:=aU G;rw[(c j).zGa];unfold zGa zyx;have f:Fm No H (aN H (aB 0 [sv])):=by(repeat(first|exact Fm.refl _ _|assumption|refine Fm.push ?_ _|refine Fm.fC ?_ (by go_size)|refine Fm.aD ?_ _ _ (by go_size)))
 simp(disch:=first|go_size|omega)only[go_sem,rB,rI,rK,rL,rN,rS,r6];unfold stC;refine Ok.ve (zla c F (k:=j) (by omega) (g.fm f) I s) ?_;rintro _ H1 ⟨rfl,w⟩;have J:=(w.keep (by go_size)).trans (jA H (aB 0 [sv]));have a:=f.trans w;by_cases h:Dp X
 ·rw[kz h,kz h];have i:=s h;simp(disch:=go_size)only[go_sem,rB,rI,rK,rL,rN,rS,r6];unfold q3p;simp(disch:=go_size)only[go_sem,rB,rI,rK,rL,rN,rS,r6,J];refine Ok.ve (q93 c (k:=j) (by omega) (g.fm a) i.ofW) ?_;rintro r O ⟨b,y,_,K⟩;have e:rM X=eF (aJ X).length _:=i.same.symm;have u:=y.ok.le;refine Ok.ve (qw5 c (k:=j) (by omega) y t) ?_;rintro _ P ⟨L,m⟩;have v:=(a.trans K).trans L;rcases m with⟨_,o,rfl,_,_,n,M⟩|⟨rfl,m⟩
  ·have d:Fit (aJ X).length (rM X) o:=by
    rw[e];exact(za3 n.len u).1 M
   rw[lu (zxr d)];simp(disch:=go_size)only[go_sem,rB,rI,rK,rL,rN,rS,r6];unfold zez;exact Ok.ret ⟨rfl,v⟩
  ·have l:NB X:=by
    rcases z8f c z A B D E g i t with⟨o,p,q⟩|h
    ·obtain⟨x,N,Q⟩:=m o p.1 ((za3 p.1 u).2 (by rw[<-e];exact p));have:=q x N;omega
    ·exact h
   rw[kz l];simp(disch:=go_size)only[go_sem,rB,rI,rK,rL,rN,rS,r6];exact Ok.ret ⟨rfl,v⟩
 ·rw[lu h,lu h];simp(disch:=go_size)only[go_sem,rB,rI,rK,rL,rN,rS,r6];exact Ok.ret ⟨rfl,a⟩
end Go.Di
end
noncomputable section
namespace Go.Di
open Go.Ev Go.Di.T Go.Sort
variable {C:Nat->Ev.Call} {LA LO:LP} {L:List (List Nat)} {X X' Y:List aM}
variable {H H' H0 Hb:Hp} {O:Ev.Call} {gv sv:AV} {i k m n sb:Nat} {ms:List Nat}
theorem z4m(m:aV C)(z:21<=k){v:AV}{L:List (List Nat)}(A:gT H v L):Ok (C k (.f 6) [.agg [v]] H) fun r H'=>∃ sv X,r=.agg [sv]/\j6 H' sv X/\(∀b,In sv b->H.nx<=b)/\(∀g∈X,H.nx<=g.A)/\X.map aM.sp=aBH L/\Fm No H H':=by
 obtain⟨j,rfl⟩:=aU z;rw[(m j).zAc];unfold zAc z0x;simp(disch:=go_size)only[go_sem,seval];unfold zjn;rw[bW];have w:Fm No H (aN (aN H (aB 0 [v])) (aB 0 [.aA])):=by exact fP2
 have t:=A.fm w;refine zls m (by omega) (H0:=aN (aN H (aB 0 [v])) (aB 0 [.aA])) (cb:=H.nx) (sb:=H.nx+3) t (fun H1 sv l g e o=>?_) bL 0 [] ⟨sU,[],.aA,H.nx+4,H.nx+4⟩ (.sl (H.nx+2) 0 1 1 true) _ (gy _) (by have:bD L<=12:=xh _ _;rw[bZ];omega) ⟨?_,?_,?_,?_,?_,?_,?_,?_,?_,?_,?_,?_⟩ (.inl ⟨rfl,rfl,rfl⟩)
 ·rw[qsh];unfold qwd zjr;rw[bW];have f:=o.raw;refine qot m (by omega) (H0:=aN (aN H (aB 0 [v])) (aB 0 [.aA])) (sb:=H.nx+3) (sv:=sv) (S:=sH L) ?_ (fun p B=>?_) (fun X q D a=>?_) bL 1 (l++[g]) H1 ?_ ?_ ?_ ⟨e.m,fun x d=>⟨e.an x d,?_⟩,e.sbk,⟨e.sbl.1,e.sbl.2.2⟩,fun b i=>(e.tF b i).1,e.fm⟩
  ·unfold sH;have:bD L<=12:=xh _ _;simp;omega
  ·have u:=zk6 B;refine⟨by omega,fun r E=>?_⟩;obtain⟨n,_,rfl⟩:=u.2 r E;have:=qh8 L n;omega
  ·rw[qyw];unfold q5u;have F:=a.sbk;have G:=a.fm.nx;have I:q.get (H.nx+1)=aB 0 [.aA]:=(a.fm.keep (by go_size)).trans (by simp(disch:=go_size)only[go_sem,seval]);have y:Fm (fun b=>b=H.nx+1) q (q.put (H.nx+1) (aB 0 [sv])):=(Fm.refl _ _).put _ _ fun _=>rfl;have J:=a.sbl;simp only[go_sem,seval,F,I];refine Ok.ret ⟨sv,X,rfl,(a.m.gH y (fun b i h=>?_) (fun g s b u _ h=>?_)),fun b i=>?_,fun g s=>?_,D,(w.trans a.fm).then y fun c K h=>?_⟩
   ·have:=a.tF b i;simp only[np]at this;omega
   ·have:=(a.an g s).1;simp only[np]at this;omega
   ·have:=a.tF b i;simp only[np]at this;omega
   ·have:=(a.an g s).1;simp only[np]at this;omega
   ·omega
  ·have:=o.len (xh _ _);rw[<-f];simp
  ·rw[<-f];have:=o.len (xh _ _);rw[bZ];simp;omega
  ·trivial
  ·rw[pg,gq]at d;rcases d with d|rfl
   ·exact e.sbd x d
   ·have:=e.sbl;omega
 ·exact⟨by(first|go_size|omega),by simp(disch:=first|go_size|omega)only[go_sem,seval]⟩
 ·simp only[go_sem]
 ·simp only[np,nq];omega
 ·simp
 ·left;omega
 ·constructor<;>(rintro ⟨_,_,_,_,h⟩;injection h;omega)
 ·rintro b ⟨_,_,_,_,h⟩;cases h;simp only[np];omega
 ·simp
 ·refine⟨⟨rfl,.inr ⟨H.nx+2,0,true,0,_,rfl,?_,gy _,rfl,.inl rfl,?_⟩⟩,zn _ _,fun x d=>?_,fun x d b i=>?_⟩
  ·simp(disch:=first|go_size|omega)only[go_sem,seval];rfl
  ·simp only[np,nq];omega
  ·rw[og,gq]at d;subst d;exact⟨rJ.nil _ _ _,by simp only[np,nq];omega⟩
  ·simp_all
 ·intro x d;rw[og,gq]at d;subst d;simp only[np];omega
 ·simp only[np,nq];omega
 ·repeat first|exact Fm.refl _ _|assumption|refine Fm.push ?_ _|refine Fm.aD ?_ _ _ (by simp only[np,nq];omega)
theorem pJ.sz(h:pJ L X):∀ g∈X,∀x∈g.gs,x.r.rule.size<=21/\x.r.rule.depth<=7:=fun g a x b=>by obtain⟨i,n,_,_,_,_,_,c⟩:=h.x a b;rw[c,qbz];exact qh8 L n
theorem Tn.prb(h:Tn m X Y)(o:m<=6)(e:bX X)(f:∀ g∈X,∀x∈g.gs,x.r.rule.size<=21/\x.r.rule.depth<=7):PrB Y:=by
 have c:=e.pr;refine⟨by rw[<-F2.len h];exact c.n,fun p a=>?_,fun p a y i=>?_⟩
 ·obtain⟨g,b,j,d⟩:=h.xQ a;rw[<-d.len,j];exact c.r g b
 ·obtain⟨g,b,j,d⟩:=h.xQ a;obtain⟨x,k,s,t,n,A,l⟩:=d.mem i;obtain⟨p1,u,_,v⟩:=c.x g b x k;obtain⟨w,z⟩:=h.rt o e (fun g q x r=>(f g q x r).1) a i;obtain⟨B,C⟩:=f g b x k;rw[s,t];exact⟨p1,u,⟨w,z,by rw[l.depth];omega,by rw[l.size];omega⟩,v⟩
structure pW(L:List (List Nat))(Hb:Hp)(sb:Nat)(sv:AV)(X:List aM)(i:Nat)(H:Hp)(Y:List aM):Prop where
 c:pJ L X
 tu:TuI H sv Y
 tn:Tn i X Y
 rv:∀ b,Rv Y b->Hb.nx<=b/\b≠sb
 ms:H.get sb=aB 0 [sv]
 lt:sb<H.nx
 fm:Fm No Hb H
theorem pW.no(h:pW L Hb sb sv X i H Y)(f:Fm No H H'):pW L Hb sb sv X i H' Y:=⟨h.c,h.tu.fm f,h.tn,h.rv,(f.keep h.lt).trans h.ms,lq h.lt f.nx,h.fm.trans f⟩
theorem pW.up(h:pW L Hb sb sv X i H Y):pW L Hb sb sv X (i+1) H Y:=⟨h.c,h.tu,F2.mono h.tn fun _ _ r=>r.mono (lE1 i),h.rv,h.ms,h.lt,h.fm⟩
theorem pW.prb(h:pW L Hb sb sv X i H Y)(a:i<=6):PrB Y:=h.tn.prb a h.c.val h.c.sz
theorem pW.val(h:pW L Hb sb sv X i H Y)(a:i<=6)(b:Dp Y):bX Y:=h.tn.val a h.c.val (fun g c x d=>(h.c.sz g c x d).1) b
theorem pW.len(h:pW L Hb sb sv X i H Y):(aJ Y).length<13:=by rw[h.tn.all,h.c.len];exact qku L
theorem qy1(a:ms.length=n*n){e:Edge}(b:e∈eF n ms)(c:e.s=true)(d:Rc (iB (eF n ms)) e.t e.f):RM n ms e:=by obtain⟨f,g⟩:=(qdn n ms).rng e b;exact⟨c,lEN.2 (((q7b a).2 e.t e.f g f).2 d)⟩
theorem aOq(a:ms.length=n*n){e:Edge}(b:e∈eF n ms)(h:RM n ms e):Rc (iB (eF n ms)) e.t e.f:=by obtain⟨c,d⟩:=(qdn n ms).rng e b;exact((q7b a).2 e.t e.f d c).1 (lEN.1 h.2)
theorem z9t(g:aV C)(u:pI C)(v:nV C)(x:oZ LA LO C)(y:1002<=k)(j:bX X)(z:bM H0 sv X)(A:(aJ X).length<13)(o:iH H gv (rM X)):Ok (C k (.f 20) [.agg [iN ((aJ X).length),gv]] H) fun r H'=>Fm No H H' /\ ((r=.aX [.aA,iN 8]/\¬ NB X)\/∃ w n,r=.aX [w,iN 0]/\aF w=.val (iN n)/\0<n/\NB X):=by
 obtain⟨_,_,_,b,D,_⟩:=q93 g (k:=k) (by omega) z j.ofW;have a:=D.ok;have e:rM X=eF (aJ X).length _:=j.same.symm;have p:=(esB j A).2;rw[e]at o p;have c:=a.len;refine(zdx g g u v x y a (zjy a (by omega)) (by omega) p o).mono ?_;rintro r H1 ⟨E,h⟩;refine⟨E,?_⟩;unfold NB;rw[e];rcases h with⟨rfl,m⟩|⟨w,s,rfl,m,_,_,i,q,l,d,f,_,_,_,rfl⟩
 ·exact .inl ⟨rfl,fun⟨q,d,f,B⟩=>m q d (qy1 c d f B)⟩
 ·have t:=uB d;exact .inr ⟨w,_,rfl,m.bS,by simp,q,t,f.1,aOq c t f⟩
theorem z5o(c:aV C)(s:kH C)(z:qho C)(A:pI C)(B:nV C)(D:oZ LA LO C)(E:qep C)(U:1100<=k)(a:∀ k H,1<=k->C k (.f 5) [] H=.ok (.bool true) H)(h:pW L Hb sb sv X i H Y)(F:i<=6):Ok (pF (C k) (.ptr sb 0) H) fun r _=>r=.bool true:=by
 rw[qrs];unfold qmj;have l:=h.ms;have d:=h.tu.sr;have m:=h.prb F;have I:=h.len;simp(disch:=go_size)only[go_sem,rB,rI,rK,rL,rN,rS,r6,l];by_cases f:Dp Y
 ·have o:=h.val F f;refine Ok.ve (zoz c s z (k:=k) (by omega) d o) ?_;rintro _ H1 ⟨gv,rfl,P,_,v,_⟩;obtain⟨G,b⟩:∃ G,G=(aN H1 (aB 0 [iN 0,.aA])).put H1.nx (aB 0 [iN ((aJ Y).length),gv]):=⟨_,rfl⟩;have p:Fm No H1 G:=by rw[b];(repeat(first|exact Fm.refl _ _|assumption|refine Fm.push ?_ _|refine Fm.fC ?_ (by go_size)|refine Fm.aD ?_ _ _ (by go_size)))
  have M:G.get H1.nx=aB 0 [iN ((aJ Y).length),gv]:=by rw[b];exact dL _ _ _
  have V:G.nx=H1.nx+1:=by rw[b];rfl
  have e:=v.trans p;have t:=(e.keep h.lt).trans l;simp(disch:=go_size)only[go_sem,rB,rI,rK,rL,rN,rS,r6];rw[<-b,qj6];unfold qiv;simp(disch:=go_size)only[go_sem,rB,rI,rK,rL,rN,rS,r6,t];refine Ok.ve (zla c E (k:=k) (by omega) (d.fm e) m fun _=>o) ?_;rintro _ K ⟨rfl,q⟩;rw[kz f];have u:=e.trans q;have N:=(q.keep (by omega)).trans M;rw[qrt];unfold qmk;simp(disch:=go_size)only[go_sem,rB,rI,rK,rL,rN,rS,r6,N];refine Ok.ve (z9t c A B D (k:=k) (by omega) o d I (P.fm (p.trans q))) ?_;rintro _ W ⟨Q,R⟩;have g:=u.trans Q;have J:=(g.keep h.lt).trans l;have O:=zoq c s z A B D (k:=k) (by omega) (d.fm g) m (fun _=>o) I;unfold stC at O;rw[kz f]at O;rcases R with⟨rfl,x⟩|⟨w,n,rfl,S,T,x⟩
  ·rw[lu x]at O;rw[qj7];unfold qiw;simp(disch:=go_size)only[go_sem,rB,rI,rK,rL,rN,rS,r6,J];refine Ok.ve O ?_;rintro _ y ⟨rfl,_⟩;have j:=a k y (by omega);simp(disch:=first|go_size|omega)only[go_sem,rB,rI,rK,rL,rN,rS,r6,j,qem,xq];exact Ok.ret rfl
  ·rw[kz x]at O;rw[qj7];unfold qiw;simp(disch:=go_size)only[go_sem,rB,rI,rK,rL,rN,rS,r6,J];refine Ok.ve O ?_;rintro _ y ⟨rfl,_⟩;have j:=a k y (by omega);simp(disch:=first|go_size|omega)only[go_sem,rB,rI,rK,rL,rN,rS,r6,j,S,T,qem];exact Ok.ret rfl
 ·refine Ok.ve (zo0 c s (k:=k) (by omega) d m f) ?_;rintro _ H1 ⟨rfl,v⟩;obtain⟨G,b⟩:∃ G,G=(aN H1 (aB 0 [iN 0,.aA])).put H1.nx (aB 0 [iN 0,.aA]):=⟨_,rfl⟩;have p:Fm No H1 G:=by rw[b];(repeat(first|exact Fm.refl _ _|assumption|refine Fm.push ?_ _|refine Fm.fC ?_ (by go_size)|refine Fm.aD ?_ _ _ (by go_size)))
  have e:=v.trans p;have t:=(e.keep h.lt).trans l;simp(disch:=go_size)only[go_sem,rB,rI,rK,rL,rN,rS,r6];rw[<-b,qj6];unfold qiv;simp(disch:=go_size)only[go_sem,rB,rI,rK,rL,rN,rS,r6,t];refine Ok.ve (zla c E (k:=k) (by omega) (d.fm e) m fun h=>absurd h f) ?_;rintro _ K ⟨rfl,q⟩;rw[lu f];have j:=a k K (by omega);simp(disch:=go_size)only[go_sem,rB,rI,rK,rL,rN,rS,r6,j];exact Ok.ret rfl
theorem z5n(c:aV C)(d:kH C)(e:qho C)(f:pI C)(j:nV C)(l:oZ LA LO C)(u:qep C)(y:1100<=k)(h:pW L Hb sb sv X m H Y)(b:m<=6)(z:i<=6){Q:pH}{qr g:pB}(v:∀ H',pW L Hb sb sv X m H' Y->Ok (g (iN ((i+1))) H') Q):Ok (qhu (C k) qr g (.ptr sb 0) (iN i) H) Q:=by rw[qrq];unfold qmh;have n:=h.ms;have o:=h.tu.sr;have p:=h.prb b;have q:=h.len;have r:=h.lt;simp only[go_sem,seval,n];refine Ok.kF (z6l c d e f j l u (k:=k) (by omega) o p (h.val b) q) ?_;rintro _ H1 ⟨rfl,a⟩;have s:=(a.keep r).trans n;have w:oQ 64 (.agg [sv]) (.agg [sv])=true:=qk6 _ (ti (by rw[lEG,h.tu.fl];rfl));simp only[go_sem,seval,s,w];refine Ok.kF (zoq c d e f j l (k:=k) (by omega) (o.fm a) p (h.val b) q) ?_;rintro _ x ⟨rfl,t⟩;have A:=(t.keep (lq r a.nx)).trans s;rw[qrr];unfold qmi;rw[qj5];unfold qiu;simp(disch:=go_size)only[go_sem,rB,rI,rK,rL,rN,rS,r6];exact v x (h.no (a.trans t))
structure Q2 where
 f:Nat
 t:Nat
 hf:f<256
 ht:t<256
def Q2.cells(q:Q2):List AV:=[.int .u8 (.ofNat q.f),.int .u8 (.ofNat q.t)]
theorem z5m{sb pb i m s t b o:Nat}{sv lv:AV}{d:List Q2}(h:pW L Hb sb sv X m H Y)(p:s<Y.length)(j:t<Y[s].gs.length)(B:Y[s].gs.length<=16)(C:H.get pb=aB 0 [.str Y[s].name.n Y[s].name.a,Y[s].rv])(D:Rs 2 Q2.cells H lv d)(E:i<d.length)(x:aG 6 Y[s].rv (iN t)=.val (.ptr b o)){Q:pH}{qr g:pB}(F:∀ H' I,pW L Hb sb sv X (m+1) H' I->Ok (qhu O qr g (.ptr sb 0) (iN i) H') Q):Ok (qum O qr g lv (.ptr sb 0) (iN i) (.ptr pb 0) (.ptr b o) H) Q:=by
 rw[qrp];unfold qmg;have y:=lg p;have a:=h.tu.sr.sp _ y;have J:=a.len;obtain⟨R,S,e,q2,_,_,z,_⟩:=a.at' t j;rw[x]at e;injection e with e;injection e with e q3;subst e q3;obtain⟨c0,u,v,w,l,_⟩:=qfh (a.rel _ (lg j));rw[l]at z;obtain⟨T,U,V,W,_,_,Z⟩:=D.at' i E;have M:bK (H.get T) (U+1)=.val (.int .u8 (.ofNat d[i].t)):=Z 1 (by simp[Q2.cells]);have ht:=d[i].ht;have k:d[i].t%Y[s].gs.length<Y[s].gs.length:=xy _ (by omega);obtain⟨b3,o3,e3,lt3,A,_⟩:=a.at' _ k;obtain⟨nm,n⟩:∃ nm,nm=Y[s].gs[d[i].t%Y[s].gs.length].r.name:=⟨_,rfl⟩;rw[<-n]at A;have N:dF (bB [.int .u8 (.ofNat 0),.str 0 0,.str 0 0,.aA] 2) [(0,4,.agg [c0,u,v,w]),(4,4,.agg [.int .u8 (.ofNat 2),.str nm.n nm.a,.str 0 0,.aA])]=some [c0,u,v,w,.int .u8 (.ofNat 2),.str nm.n nm.a,.str 0 0,.aA]:=id rfl;obtain⟨K,r⟩:∃ K:Hp,K=(Hp.mk H.t (H.nx+26)).put (H.nx+21) (aB 0 [c0,u,v,w,.int .u8 (.ofNat 2),.str nm.n nm.a,.str 0 0,.aA]):=⟨_,rfl⟩;have fK:Fm No H K:=by rw[r];exact(Fm.up (Fm.refl _ _) 26).aD _ _ (by omega)
 have nK:K.nx=H.nx+26:=by rw[r];rfl
 obtain⟨R,S,q,f,i2,i3,i4,i5⟩:=h.tu.ex fK (nb:=H.nx+21) (to:=nm) p j ⟨by omega,by omega⟩ (by rw[r,dL,l];rfl);rw[x]at f;injection f with f;injection f with f i6;subst f i6;have P:uK (H.get b) (o+2) [.int .u8 (.ofNat 6),.str 0 0,.str 0 0,.sl (H.nx+21) 0 2 2 true]=some q:=by rw[<-fK.keep i3];exact i2
 obtain⟨v1,v2⟩:=h.rv b i4;simp(maxSteps:=2000000) (disch:=first|omega|exact ti rfl|(simp only[np,nq];done)|(simp only[np,nq];omega))only[go_sem,Nat.reduceAdd,Nat.reduceMul,Nat.reduceSub,Nat.reduceLeDiff,Nat.reduceEqDiff,Nat.reduceShiftRight,Nat.reduceAnd,C,J,z,V,M,e3,A,N,P];rw[<-r];refine F _ _ ⟨h.c,i5,h.tn.turn p j ?_,fun c G=>h.rv c ((zxu p j c).1 G),(eB _ _ _ _ (Ne.symm v2)).trans ((fK.keep h.lt).trans h.ms),by have:=h.lt;show sb<K.nx;omega,(h.fm.trans fK).aD _ _ v1⟩;rw[<-h.tn.all];exact qg6.2 ⟨_,y,_,lg k,rfl,n.symm⟩
theorem z5l{sb pb i m s:Nat}{sv lv:AV}{c:List Q2}(h:pW L Hb sb sv X m H Y)(j:s<Y.length)(r:0<Y[s].gs.length)(e:Y[s].gs.length<=16)(k:H.get pb=aB 0 [.str Y[s].name.n Y[s].name.a,Y[s].rv])(f:pb<H.nx)(l:Rs 2 Q2.cells H lv c)(n:i<c.length){Q:pH}{qr g:pB}(t:∀ H' u,pW L Hb sb sv X (m+1) H' u->Ok (qhu O qr g (.ptr sb 0) (iN i) H') Q):Ok (qul O qr g lv (.ptr sb 0) (iN i) (.ptr pb 0) H) Q:=by rw[qro];unfold qmf;have v:=lg j;have d:=h.tu.sr.sp _ v;have w:=d.len;obtain⟨y,z,A,B,_,_,C⟩:=l.at' i n;have x:bK (H.get y) z=.val (.int .u8 (.ofNat c[i].f)):=C 0 (by simp[Q2.cells]);have D:=c[i].hf;have p:c[i].f%Y[s].gs.length<Y[s].gs.length:=xy _ r;obtain⟨b,o,q,_⟩:=d.at' _ p;have a:Fm No H (Hp.mk H.t (H.nx+14)):=Fm.up (Fm.refl _ _) 14;simp(disch:=omega)only[go_sem,seval,k,w,A,x,q];exact z5m (h.no a) j p e ((a.keep f).trans k) (l.fm a) n q t
theorem z1a{sv lv:AV}{a:List Q2}(h:pW L Hb sb sv X m H Y)(d:m<=6)(e:Rs 2 Q2.cells H lv a)(p:i<a.length)(v:i<=6){Q:pH}{qr g:pB}(w:∀ H',pW L Hb sb sv X m H' Y->Ok (g (iN ((i+1))) H') Q)(x:∀ H' y,pW L Hb sb sv X (m+1) H' y->Ok (qhu O qr g (.ptr sb 0) (iN i) H') Q):Ok (qml O g qr lv (.ptr sb 0) (iN i) H) Q:=by
 rw[qnp];unfold qiz;have z:=h.ms;have A:=h.prb d;have f:=h.tu.sr;have B:=f.rs.len;have j:0<Y.length:=by have:=F2.len h.tn;have e:=congrArg List.length h.c.names;simp_all
 obtain⟨D,E,F,I,_,_,J⟩:=e.at' i p;have C:bK (H.get D) E=.val (.int .u8 (.ofNat a[i].f)):=J 0 (by simp[Q2.cells]);have N:=a[i].hf;have b:(1+a[i].f / 4)%Y.length<Y.length:=xy _ j;obtain⟨R,S,K,M,_,t,_⟩:=f.rs.at' _ b;unfold sI SS.v at t;simp(disch:=go_size)only[go_sem,rB,rI,rK,rL,rN,rS,r6,z,B,F,C,K,t];obtain⟨s,o⟩:∃ s,s=(1+a[i].f / 4)%Y.length:=⟨_,rfl⟩;simp only[<-o]at b ⊢;obtain⟨G,c⟩:∃ G:Hp,G=((Hp.mk H.t (H.nx+18)).put (H.nx+16) (aB 0 [.str 0 0,.aA])).put (H.nx+16) (aB 0 [.str Y[s].name.n Y[s].name.a,Y[s].rv]):=⟨_,rfl⟩;have k:Fm No H G:=by rw[c];exact((Fm.up (Fm.refl _ _) 18).aD _ _ (by omega)).aD _ _ (by omega)
 have l:G.get (H.nx+16)=aB 0 [.str Y[s].name.n Y[s].name.a,Y[s].rv]:=by rw[c];exact dL _ _ _
 have P:G.nx=H.nx+18:=by rw[c];rfl
 rw[<-c,qrn];unfold qme;have q:=lg b;have r:=(f.sp _ q).len;have n:=(A.r _ q).1;by_cases u:Y[s].gs.length=0
 ·simp only[go_sem,l,r,u];rw[qj4];unfold qit;rw[qj5];unfold qiu;simp(disch:=go_size)only[go_sem,rB,rI,rK,rL,rN,rS,r6];exact w G (h.no k)
 ·simp only[go_sem,l,r,u];rw[qj4];unfold qit;exact z5l (h.no k) b (by omega) n l (by omega) (e.fm k) p x
theorem qws(d:aV C)(e:kH C)(f:qho C)(g:pI C)(l:nV C)(m:oZ LA LO C)(n:qep C){j:Nat}(o:1100<=j){Hb:Hp}{sb:Nat}{sv lv:AV}{b:List Q2}(p:Rs 2 Q2.cells Hb lv b)(u:b.length<=6){Q:pH}{qr:pB}{q:pD}(s:∀ H Y,pW L Hb sb sv X 6 H Y->Ok (q H) Q):∀(k i:Nat) (H:Hp) (Y:List aM),i<=b.length->b.length-i<k->pW L Hb sb sv X i H Y->Ok (qbv (C j) qr q lv (.ptr sb 0) k (iN i) H) Q
 |0,i,_,_,_,h,_=>by omega
 |k+1,i,H,Y,hi,hk,h=>by
  show Ok (q3y (C j) _ _ _ _ (qbv (C j) _ _ _ _ k) _ H) Q;unfold q3y;have c:=p.fm h.fm;have v:=c.len;by_cases a:i<b.length
  ·simp only[go_sem,v,a];rw[qhv];unfold qf2;refine z1a h (by omega) c a (by omega) (fun H' t=>?_) fun H' w t=>?_
   ·exact qws d e f g l m n o p u s k (i+1) H' Y (by omega) (by omega) t.up
   ·refine z5n d e f g l m n o t (by omega) (by omega) fun x y=>?_;exact qws d e f g l m n o p u s k (i+1) x w (by omega) (by omega) y
  ·simp only[go_sem,v,a];rw[qhv];unfold qf2;exact s H Y ⟨h.c,h.tu,F2.mono h.tn fun _ _ r=>r.mono (by omega),h.rv,h.ms,h.lt,h.fm⟩
theorem qqx(f:aV C)(l:kH C)(m:qho C)(n:pI C)(o:nV C)(p:oZ LA LO C)(q:qep C)(s:1100<=k)(a:∀ k H,1<=k->C k (.f 5) [] H=.ok (.bool true) H){i lv:AV}{t:List Q2}(B:gT H i L)(u:Rs 2 Q2.cells H lv t):Ok (zFz (C k) (.agg [i]) lv H) fun r _=>r=.bool true:=by
 unfold zFz zyy;have w:=u.len;by_cases c:6<t.length
 ·simp only[go_sem,w,c];rw[a k _ (by omega)];exact Ok.ret rfl
 simp only[go_sem,w,c];rw[qnn];unfold qix;have x:Fm No H (aN H (aB 0 [i])):=by exact mG
 simp(disch:=omega)only[go_sem,seval];refine Ok.ve (z4m f (k:=k) (by omega) (B.fm x)) ?_;rintro _ H1 ⟨sv,X,rfl,z,j,d,I,A⟩;have E:=A.nx;simp only[np]at E j d;obtain⟨G,e⟩:∃ G,G=(aN H1 (aB 0 [.aA])).put H1.nx (aB 0 [sv]):=⟨_,rfl⟩;have y:Fm No H1 G:=by rw[e];exact nA
 have F:G.get H1.nx=aB 0 [sv]:=by rw[e];exact dL _ _ _
 have K:G.nx=H1.nx+1:=by rw[e];rfl
 simp(disch:=first|omega|exact ti rfl)only[go_sem,seval];rw[<-e,qno];unfold qiy q30;rw[bW];refine qws (L:=L) (X:=X) (Hb:=H) (sb:=H1.nx) (sv:=sv) f l m n o p q s u (by omega) (fun J Y h=>z5o f l m n o p q s a h (lh 6)) bL 0 G X (gy _) (by rw[bZ];omega) ⟨⟨I⟩,z.tu.fm y,Tn.refl X,fun b ⟨g,v,D⟩=>?_,F,by omega,(x.trans A).trans y⟩;have r:=(z.rel g v);have:=r.1.rQ b D;have:=d g v;omega
end Go.Di
end
noncomputable section
namespace Go.Di
open Go.Ev
variable {H:Hp} {i j k n z:Nat}
def egO(e:Edge):Eg:=⟨.ofNat e.f,.ofNat e.t,e.s⟩
theorem z3v(b:List Edge):(b.map egO).flatMap egV=ceE b:=by
 induction b with
 |nil=>rfl
 |cons a l ih=>rw[au,xF,ih];rfl
theorem znd:∀ b:List Edge,qp7 (ceE b)=some (b.map egO)
 | []=>rfl
 |a::l=>by show qp7 (iN (a.f)::iN (a.t):: .bool a.s::ceE l)=_;rw[qp7,znd l];rfl
theorem z9c(x y:Edge):jI (egO x) (egO y)=sD x y:=by unfold jI sD or3 egO yO sgn cI;simp only[yN,iQ];by_cases h:iQ (.ofNat x.f) (.ofNat y.f)=0<;>by_cases a:iQ (.ofNat x.t) (.ofNat y.t)=0<;>unfold iQ at h a<;>simp only[h,a,oh,lA9]<;>(try split)<;>simp_all
theorem zkn(c:List Edge):qlj (c.map egO)=(sortE c).map egO:=
 (List.map_mergeSort fun a _ b _=>by show(!decide (sD b a<0))=_;rw[z9c]).symm
theorem q6c(f d:FuncId)(e:Ext){v:AV}{a:List Edge}(h:Gl 3 H v a.length (ceE a))(y:a.length<=1000000):∃r,qgq f d e f [v,.fn d [] []] H=some r/\Ok r fun r H'=>r=.aX []/\Gl 3 H' v a.length (ceE (sortE a))/\Fm (In v) H H':=by
 have g:∀ n:Nat,Nat.beq n n=true:=fun n=>lEL n;rcases h.is with⟨rfl,s⟩|⟨b,o,x,q,L,rfl,i,t,j,u,w⟩
 ·have:a=[]:=tq.1 s;subst this;refine⟨.ok (.aX []) H,?_,?_⟩
  ·unfold qgq;simp only[g,uC]
  ·have k:sortE []=[]:=by simp[sortE]
   rw[k];exact Ok.ret ⟨rfl,h,Fm.refl _ _⟩
 ·have m:o+a.length*3=L.length:=by
   have:=congrArg List.length j;rw[xx,q7h]at this;omega
  have c:(ceE (sortE a)).length=a.length*3:=by rw[q7h,qzf]
  have p:qzg H b o a.length=some (.ok (.aX []) (H.put b (aB q (aY L o (ceE (sortE a)))))):=by
   unfold qzg;rw[i,qb7,kz (by omega),j,uh (by rw[q7h];omega)];simp only[znd,zkn,z3v];rw[qch H b o _ _ q L i (by omega)];have:Nat.blt a.length 4611686018427387904=true:=by rw[Nat.blt_eq];omega
   simp only[this,uC]
  refine⟨_,by unfold qgq;simp only[g,uC];exact p,Ok.ret ⟨rfl,⟨by rw[c],.inr ⟨b,o,x,q,aY L o (ceE (sortE a)),rfl,dL _ _ _,?_,?_,u,w⟩⟩,(Fm.refl _ _).put b _ fun _=>⟨_,_,_,_,rfl⟩⟩⟩
  ·rw[qdc _ _ _ (by omega)];exact t
  ·unfold aY;rw[List.drop_of_length_le (l:=L) (by omega),ut,xm (by rw[ry];omega),List.drop_of_length_le (by rw[ry];omega),og]
def zsu(l:List AV):bO:=.cells (iF l.length) l.length (cellsOf l) true 0
theorem zk5(l:List AV)(o z:Nat)(h:o+z<=l.length):jG (zsu l) o z=some ((l.drop o).take z):=by
 show(bif Nat.ble (o+z) l.length then some (Ev.rdN (cellsOf l) z o)else none)=_;rw[ble_eq,qw h,uC];congr 1
 induction z generalizing o with
 |zero=>simp;rfl
 |succ z ih=>show(dJ _ o).f (cellsOf l)::Ev.rdN (cellsOf l) z (o+1)=_;rw[ih (o+1) (by omega),qct _ _ (lq (show o<l.length by omega) (qb3 _)),uo (show o<l.length by omega),lA0];simp[kw,show o<l.length by omega]
theorem qzx(l:List AV)(o:Nat):bK (zsu l) o=match l[o]? with|some v=>.val v|none=>.bad:=by
 show(bif Nat.blt o l.length then R0.val ((dJ _ o).f (cellsOf l))else .bad)=_;rw[blt_eq];by_cases h:o<l.length
 ·rw[qw h,qct _ _ (lq h (qb3 _))];simp[h]
 ·rw[uA h];simp_all
theorem qp6(b:Nat):Hp.empty.get b=.dead:=by show(bif Nat.blt b 2097152 then(dJ HD b).f (same bO.dead HD)else bO.dead)=bO.dead;rw[qg0];cases Nat.blt b 2097152<;>rfl
theorem add_add(a:Addr)(x y:Nat):(a.add x).add y=a.add (x+y):=by
 unfold Addr.add;by_cases b:x=0
 ·subst b;simp
 ·by_cases c:y=0
  ·subst c;simp
  ·simp[b,c,ui]
theorem zbp{a:Addr}(h:a.spot=none)(x:Nat):a.add x=⟨a.block,a.off+x,none⟩:=by obtain⟨b,c,d⟩:=a;cases h;unfold Addr.add;simp
theorem qla{w:World}{a:Addr}{v:Value}(h:w.cell? a=some v):a.spot=none/\a.block<w.heap.size:=by
 unfold World.cell? at h;rcases hx:w.heap[a.block]? with _|o
 ·simp_all
 ·refine⟨?_,(ay.1 hx).1⟩;rw[hx]at h;cases o with
  |cells c e z=>simp_all
  |_=>cases h
structure Ro where
 l:List AV
 (b o:Nat)
def Ro.blk(k:Ro):bO:=if k.l=[]then .dead else zsu k.l
def qw2(ks:List Ro):Hp:=ks.foldl (fun H k=>aN H k.blk) Hp.empty
def aCE(ks:List Ro):Im:=fun b=>(ks[b]?).map fun k=>⟨k.b,k.o,0,0⟩
theorem qzp:∀(ks:List Ro) (H:Hp),(∀b,H.nx<=b->H.get b=.dead) -> (ks.foldl (fun H k=>aN H k.blk) H).nx=H.nx+ks.length/\∀ b,(ks.foldl (fun H k=>aN H k.blk) H).get b=if b<H.nx then H.get b else match ks[b-H.nx]? with|some k=>k.blk|none=>.dead
 | [],H,h=>⟨rfl,fun b=>by
  by_cases a:b<H.nx
  ·rw[kz a];rfl
  ·rw[lu a];exact h b (by omega)⟩
 |k::ks,H,h=>by
  obtain⟨e,f⟩:=qzp ks (aN H k.blk) (fun b a=>by have:H.nx+1<=b:=a;rw[qg1,lu (by omega)];exact h b (by omega));have d:(aN H k.blk).nx=H.nx+1:=rfl;rw[List.foldl_cons];refine⟨by rw[e,d,gz];omega,fun b=>?_⟩;rw[f,d,qg1];by_cases a:b<H.nx
  ·rw[kz (by omega),lu (by omega),kz a]
  ·by_cases c:b=H.nx
   ·subst c;rw[kz (dC _),kz rfl,lu (xq _),lEM];rfl
   ·rw[lu (by omega),lu a,show b-H.nx=(b-(H.nx+1))+1 by omega,zh]
theorem qdr(ks:List Ro):(qw2 ks).nx=ks.length/\∀ b,(qw2 ks).get b=match ks[b]? with|some k=>k.blk|none=>.dead:=by obtain⟨a,c⟩:=qzp ks Hp.empty fun b _=>qp6 b;refine⟨by show(ks.foldl _ Hp.empty).nx=_;rw[a];exact pq _,fun b=>?_⟩;show(ks.foldl _ Hp.empty).get b=_;rw[c,lu (show ¬b<Hp.empty.nx from ak b)];rfl
def aMu(w:World)(ι:Im)(k:Ro):Prop:=∀ j (hj:j<k.l.length),∃V,w.cell? ⟨k.b,k.o+j,none⟩=some V/\aL ι k.l[j] V/\V.oneCell=true
theorem z95{w:World}{ks:List Ro}(h:∀ k∈ks,aMu w (aCE ks) k):HR (aCE ks) (qw2 ks) w/\∀ b,((qw2 ks).get b).wr=false:=by
 have j:∀ b,((qw2 ks).get b).wr=false:=fun b=>by
  rw[(qdr ks).2];split
  ·unfold Ro.blk;split<;>rfl
  ·rfl
 refine⟨⟨oI,fun b _=>?_,fun b m _ hd e=>?_,fun b c m n _ _ h=>?_,fun b h=>?_,fun b h _=>?_⟩,j⟩
 ·rw[(qdr ks).2];by_cases a:b<ks.length
  ·rw[lL a];show BR _ _ _ ks[b].blk;unfold Ro.blk;by_cases d:ks[b].l=[]
   ·rw[kz d];trivial
   rw[lu d];refine⟨⟨ks[b].b,ks[b].o,0,0⟩,by unfold aCE;rw[lL a];rfl,⟨qb3 _,rfl⟩,fun i g=>?_,fun h=>by cases h⟩;obtain⟨V,f,o,l⟩:=h _ (lg a) i g;refine⟨V,f,?_,l,fun h=>by cases h⟩;rw[qct _ _ (lq g (qb3 _))];simp_all
  ·rw[xn (by omega)];trivial
 ·unfold aCE at e;by_cases a:b<ks.length
  ·rw[(qdr ks).2,lL a]at hd;rw[lL a]at e;cases e;have d:ks[b].l≠[]:=fun d=>by
    have:ks[b].blk=.dead:=by unfold Ro.blk;rw[kz d]
    simp only[this]at hd;cases hd
   obtain⟨V,f,_⟩:=h _ (lg a) 0 (lA5.2 d);exact(qla f).2
  ·simp_all
 ·simp_all
 ·rw[(qdr ks).1]at h;unfold aCE;rw[xn h];rfl
 ·rw[(qdr ks).1]at h;rw[(qdr ks).2,xn h]
theorem q9w{ks:List Ro}{r:Ro}(h:ks[k]? =some r)(a:r.l≠[]):(qw2 ks).get k=zsu r.l/\k<(qw2 ks).nx:=by rw[(qdr ks).2,(qdr ks).1,h];exact⟨lu a,(ql.1 h).1⟩
theorem flat_get{α:Type}{f:α->List AV}(a:∀ x,(f x).length=z)(l:List α)(b:i<l.length)(c:j<z):(l.flatMap f)[i*z+j]? =(f l[i])[j]?:=by rw[<-qgg a l i b,lAE,kz c,ae]
structure Fl{α:Type}(w:World)(z:Nat)(f:α->List AV)(v:Value)(k:Nat)(y:AV)(l:List α)(r:Ro):Prop where
 one:v.oneCell=true
 rep:∀ ι:Im,ι k=some ⟨r.b,r.o,0,0⟩->aL ι y v
 eq:r.l=l.flatMap f
 ok:∀ ι,aMu w ι r
 sl:((y=.aA\/y=.sle)/\l=[])\/∃ m,y=.sl k 0 l.length m true
theorem Fl.rs{α:Type}{w:World}{f:α->List AV}{v:Value}{y:AV}{l:List α}{r:Ro}(b:∀ x,(f x).length=z)(p:0<z)(h:Fl w z f v k y l r){ks:List Ro}(g:ks[k]? =some r):Rs z f (qw2 ks) y l:=by
 rcases h.sl with⟨rfl|rfl,rfl⟩|⟨m,rfl⟩
 ·exact⟨rfl,fun i a=>by simp at a⟩
 ·exact⟨rfl,fun i a=>by simp at a⟩
 ·refine⟨rfl,fun i a=>?_⟩;have e:=qdl b l;have q:i*z+z<=l.length*z:=by
   have:(i+1)*z<=l.length*z:=um z a;rw[xk,zu]at this;exact this
  obtain⟨d,n⟩:=q9w g (by rw[h.eq];intro o;rw[o]at e;simp only[uk]at e;omega);rw[h.eq]at d;refine⟨k,0+i*z,uT _ _ _ _ _ _ _ _ a,n,⟨_,_,_,_,rfl⟩,?_,fun j c=>?_⟩
  ·rw[d,pq,zk5 _ _ _ (by omega),qgg b l i a]
  ·rw[d,pq,qzx,flat_get b l a (by rw[b]at c;exact c),lL c]
theorem z8d{α:Type}{f:α->List AV}(L:∀ x,(f x).length=z)(M:0<z){D:Type}{enc:TypeId×Value->D}{P:Program}{w:World}{A:Nat}{t e:TypeId}{cs:List Value}{x:DataW D×List MemPlace}(R:P.underlying t=some (.slice e))(E:P.cellsOf e=z)(S:∀{n:Nat} {cs:List Value} {x:DataW D×List MemPlace},DataW.trod enc P w 0 (fun _=>true) true n e cs=some x->∃ a:α,∀j,j<z->∃ u V,(f a)[j]? =some u/\cs[j]? =some V/\(∀ι:Im,aL ι u V)/\V.oneCell=true)(h:DataW.trod enc P w 0 (fun _=>true) true A t cs=some x)(k:Nat):∃ v y l r,cs=[v]/\Fl w z f v k y l r:=by
 rcases DataW.trod_slice R h with⟨s,_⟩|⟨a,c,B,H,O,n,_,C,_,_,X,_,Q,I,_⟩
 ·exact⟨_,.aA,[],⟨[],0,0⟩,s,rfl,fun _ _=>by simp only[aL],rfl,fun _ j m=>by simp at m,.inl ⟨.inl rfl,rfl⟩⟩
 ·rcases lAW c with s|s
  ·subst s;exact⟨_,.sle,[],⟨[],0,0⟩,C,rfl,fun _ _=>by simp only[aL];exact⟨_,_,rfl⟩,rfl,fun _ j m=>by simp at m,.inl ⟨.inr rfl,rfl⟩⟩
  ·have d:∀ i,i<c->∃ b:α,∀j,j<z->∃ u V,(f b)[j]? =some u/\w.cell? (a.add (i*z+j))=some V/\(∀ι:Im,aL ι u V)/\V.oneCell=true:=by
    intro i p;have N:=I i p;rw[lL (by omega),E,Option.bind_eq_some_iff]at N;obtain⟨Y,Z,h3⟩:=N;obtain⟨b,K⟩:=S h3;refine⟨b,fun j m=>?_⟩;obtain⟨u,V,h5,o,h7⟩:=K j m;have F:=(World.cells?_some Z).2.2 j m;rw[add_add,o]at F;simp_all
   have q:a.spot=none:=by obtain⟨b,K⟩:=d 0 s;obtain⟨u,V,_,o,_⟩:=K 0 M;rw[lAS]at o;exact(qla (a:=a) o).1
   obtain⟨g,hg⟩:∃ g:Nat->α,∀i,i<c->∀ j,j<z->∃ u V,(f (g i))[j]? =some u/\w.cell? (a.add (i*z+j))=some V/\(∀ι:Im,aL ι u V)/\V.oneCell=true:=
    ⟨fun i=>if h:i<c then Classical.choose (d i h)else Classical.choose (d 0 s),fun i p=>by simp only[p,dif_pos];exact uq (d i p)⟩
   refine⟨_,.sl k 0 c B true,(List.range c).map g,⟨((List.range c).map g).flatMap f,a.block,a.off⟩,C,rfl,fun ι T=>?_,rfl,fun ι J U=>?_,.inr ⟨B,by simp⟩⟩
   ·simp only[aL];refine⟨X,_,T,?_⟩;obtain⟨ab,ao,az⟩:=a;simp_all
   ·have G:J<c*z:=by
     have:=qdl L ((List.range c).map g);simp_all
    have p:J / z<c:=Nat.div_lt_of_lt_mul (by rw[lAD];exact G);have m:=xy J M;have e:J / z*z+J%z=J:=by rw[lAD];exact Nat.div_add_mod J z
    obtain⟨u,V,h5,o,h7,F⟩:=hg _ p _ m;have W:=flat_get L ((List.range c).map g) (i:=J / z) (j:=J%z) (by simpa using p) m;rw[e]at W o;rw[zbp q]at o;refine⟨V,o,?_,F⟩;have:(((List.range c).map g).flatMap f)[J]? =some u:=by simp_all
    rw[lL U]at this;simp_all
def fB(x:Fin 256):List AV:=[.int .u8 (.ofNat x.val)]
structure Nq where
 v:Value
 y:AV
 l:List (Fin 256)
 r:Ro
def Nq.L(q:Nq):List Nat:=q.l.map Fin.val
structure Ns(w:World)(v:Value)(k b0:Nat)(y:AV)(qs:List Nq)(r:Ro):Prop where
 one:v.oneCell=true
 rep:∀ ι:Im,ι k=some ⟨r.b,r.o,0,0⟩->aL ι y v
 eq:r.l=qs.map Nq.y
 at':∀ j (h:j<qs.length),w.cell? ⟨r.b,r.o+j,none⟩=some qs[j].v/\Fl w 1 fB qs[j].v (b0+j) qs[j].y qs[j].l qs[j].r
 sl:((y=.aA\/y=.sle)/\qs=[])\/∃ m,y=.sl k 0 qs.length m true
theorem q7j{c:Type}{enc:TypeId×Value->c}{P:Program}{w:World}{u:TypeId}(d:P.underlying u=some (.int .u8)){cs:List Value}{x:DataW c×List MemPlace}(h:DataW.trod enc P w 0 (fun _=>true) true n u cs=some x):∃a:Fin 256,cs=[.int .u8 (.ofNat a.val)]:=by obtain⟨y,e,_,b⟩:=DataW.trod_int d h;simp only[Lit.wf,qc,yc]at b;have f:0<=y/\y<=255:=⟨b.1,b.2⟩;refine⟨⟨y.toNat,by omega⟩,?_⟩;rw[e];congr 2;show y=((y.toNat:Nat):Int);omega
theorem aKJ{I:Type}{enc:TypeId×Value->I}{P:Program}{w:World}{p:Nat}{t e u:TypeId}{cs:List Value}{x:DataW I×List MemPlace}(M:P.underlying t=some (.slice e))(N:P.underlying e=some (.slice u))(O:P.underlying u=some (.int .u8))(D:P.cellsOf e=1)(E:P.cellsOf u=1)(h:DataW.trod enc P w 0 (fun _=>true) true p t cs=some x)(k B:Nat):∃ v y R r,cs=[v]/\Ns w v k B y R r:=by
 rcases DataW.trod_slice M h with⟨o,_⟩|⟨a,b,s,G,K,n,_,A,_,_,T,_,L,H,_⟩
 ·exact⟨_,.aA,[],⟨[],0,0⟩,o,rfl,fun _ _=>by simp only[aL],rfl,fun j m=>by simp at m,.inl ⟨.inl rfl,rfl⟩⟩
 ·rcases lAW b with o|o
  ·subst o;exact⟨_,.sle,[],⟨[],0,0⟩,A,rfl,fun _ _=>by simp only[aL];exact⟨_,_,rfl⟩,rfl,fun j m=>by simp at m,.inl ⟨.inr rfl,rfl⟩⟩
  ·have c:∀ i,i<b->∃ q:Nq,w.cell? (a.add i)=some q.v/\Fl w 1 fB q.v (B+i) q.y q.l q.r:=by
    intro i C;have J:=H i C;rw[lL (by omega),D,Option.bind_eq_some_iff,qg]at J;obtain⟨U,V,W⟩:=J;obtain⟨v,y,l,r,rfl,X⟩:=z8d (z:=1) (f:=fB) (fun _=>rfl) Nat.one_pos N E (fun h=>by
     obtain⟨a,rfl⟩:=q7j O h;refine⟨a,fun j m=>?_⟩;obtain rfl:j=0:=by omega
     exact⟨_,_,rfl,rfl,fun ι=>by simp only[aL],rfl⟩) W (B+i)
    have S:=(World.cells?_some V).2.2 0 (by omega);exact⟨⟨v,y,l,r⟩,S,X⟩
   have d:a.spot=none:=by obtain⟨q,Y,_⟩:=c 0 o;exact(qla (a:=a) Y).1
   obtain⟨g,Z⟩:∃ g:Nat->Nq,∀i,i<b->w.cell? (a.add i)=some (g i).v/\Fl w 1 fB (g i).v (B+i) (g i).y (g i).l (g i).r:=
    ⟨fun i=>if h:i<b then Classical.choose (c i h)else Classical.choose (c 0 o),fun i C=>by simp only[C,dif_pos];exact uq (c i C)⟩
   refine⟨_,.sl k 0 b s true,(List.range b).map g,⟨((List.range b).map g).map Nq.y,a.block,a.off⟩,A,rfl,fun ι Q=>?_,rfl,fun j m=>?_,.inr ⟨s,by simp⟩⟩
   ·simp only[aL];refine⟨T,_,Q,?_⟩;obtain⟨ab,ao,az⟩:=a;simp_all
   ·have F:j<b:=by simpa using m
    have:=Z j F;rw[zbp d]at this;simp_all
theorem Ns.arg{w:World}{v:Value}{k p:Nat}{y:AV}{c:List Nq}{r:Ro}(h:Ns w v k p y c r){ks:List Ro}(u:ks[k]? =some r)(A:∀ j (e:j<c.length),ks[p+j]? =some c[j].r):gT (qw2 ks) y (c.map Nq.L):=by
 refine⟨?_,⟨c.map Nq.y,⟨?_,fun i g=>?_⟩,by simp,fun i g d=>?_⟩,fun l B x n=>?_⟩
 ·rcases h.sl with⟨rfl|rfl,_⟩|⟨m,rfl⟩<;>rfl
 ·rw[pz];rcases h.sl with⟨rfl|rfl,rfl⟩|⟨m,rfl⟩<;>rfl
 ·have d:i<c.length:=by simpa using g
  rcases h.sl with⟨_,rfl⟩|⟨m,rfl⟩
  ·simp at d
  ·obtain⟨F,n⟩:=q9w u (by rw[h.eq];intro t;rw[List.map_eq_nil_iff]at t;rw[t]at d;simp at d);refine⟨k,0+i*1,uT _ _ _ _ _ _ _ _ d,n,?_⟩;rw[F,qzx,h.eq,pq,qg,lL g]
 ·have e:i<c.length:=by simpa using g
  have s:=(h.at' i e).2.rs (z:=1) (f:=fB) (fun _=>rfl) Nat.one_pos (A i e);have C:(c.map Nq.y)[i]=c[i].y:=by simp
  have D:yX ((c.map Nq.L)[i])=c[i].l.map fun x=>.int .u8 (.ofNat x.val):=by simp[yX,Nq.L]
  rw[C,D];refine⟨by rw[s.len,pz],fun j e=>?_⟩;obtain⟨b,o,G,H,_,_,I⟩:=s.at' j (by simpa using e);have E:=I 0 Nat.one_pos;exact⟨b,o,G,H,by rw[zf];exact E⟩
 ·obtain⟨q,_,rfl⟩:=qj.1 B;obtain⟨a,_,rfl⟩:=qj.1 n;simp
theorem z8o{t:Type}{enc:TypeId×Value->t}{P:Program}{w:World}{R S:Nat}{M e u N v:TypeId}{O Q:List Value}{T x2:DataW t×List MemPlace}(U:P.underlying M=some (.slice e))(W:P.underlying e=some (.slice u))(X:P.underlying u=some (.int .u8))(y:P.cellsOf e=1)(A:P.cellsOf u=1)(B:P.underlying N=some (.slice v))(C:P.cellsOf v=2)(el2:∀{n:Nat} {cs:List Value} {x:DataW t×List MemPlace},DataW.trod enc P w 0 (fun _=>true) true n v cs=some x->∃ a:Q2,∀j,j<2->∃ u V,a.cells[j]? =some u/\cs[j]? =some V/\(∀ι:Im,aL ι u V)/\V.oneCell=true)(D:DataW.trod enc P w 0 (fun _=>true) true R M O=some T)(m:DataW.trod enc P w 0 (fun _=>true) true S N Q=some x2):∃ι H i l o p,∃(L:List (List Nat)) (E:List Q2),O=[i]/\Q=[l]/\i.oneCell=true/\l.oneCell=true/\HR ι H w/\aL ι o i/\aL ι p l /\ gT H o L/\Rs 2 Q2.cells H p E/\∀ b,(H.get b).wr=false:=by
 obtain⟨i,o,c,G,rfl,d⟩:=aKJ U W X y A D 0 2;obtain⟨l,p,E,r,rfl,s⟩:=z8d (f:=Q2.cells) (fun _=>rfl) (by decide) B C el2 m 1;have Y:∀ j (g:j<c.length),([G,r]++c.map Nq.r)[2+j]? =some c[j].r:=fun j g=>by rw[ug (by simp),xw,show 2+j-[G,r].length=j by simp,lL g];rfl
 obtain⟨I,J⟩:=z95 (w:=w) (ks:=[G,r]++c.map Nq.r) (fun k h=>by
  rw[pg,qj]at h;rcases h with h|⟨q,K,rfl⟩
  ·simp only[qm,List.not_mem_nil,or_false]at h;rcases h with rfl|rfl
   ·intro j g;have F:j<c.length:=by have:=g;rw[d.eq]at this;simpa using this
    obtain⟨D,m⟩:=d.at' j F;refine⟨_,D,?_,m.one⟩;have:k.l[j]=c[j].y:=by simp only[d.eq,zf]
    rw[this];refine m.rep _ ?_;show(([k,r]++c.map Nq.r)[2+j]?).map _=_;simp_all
   ·exact s.ok _
  ·obtain⟨j,g,rfl⟩:=yj K;exact(d.at' j g).2.ok _)
 exact⟨_,_,i,l,o,p,_,E,rfl,rfl,d.one,s.one,I,d.rep _ rfl,s.rep _ rfl,d.arg rfl Y,s.rs (z:=2) (f:=Q2.cells) (fun _=>rfl) (by decide) rfl,J⟩
end Go.Di
end
