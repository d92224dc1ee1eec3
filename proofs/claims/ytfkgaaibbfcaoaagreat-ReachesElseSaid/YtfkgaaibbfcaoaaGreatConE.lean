/-
 For ReachesElse: functions in direct style, their contracts, and the plain mathematics, part 5 of 7. No conditions beyond those that each theorem states.
-/
import Derived.Test.YtfkgaaibbfcaoaaGreatConA
import Derived.Test.YtfkgaaibbfcaoaaGreatConD
import Derived.KernelRfl
import Derived.Test.YtfkgaaibbfcaoaaGreatConC
set_option linter.all false
open Nat renaming reduceAdd->rB,reduceMul->rI,reduceSub->rK,reduceLeDiff->rL,reduceEqDiff->rN,reduceShiftRight->rS,reduceAnd->r6
noncomputable section
namespace Go.Di
open Go.Ev
variable {LA LO:LP}
theorem LB(H:Hp)(c:Nat)(k:cZ)(h:c≠H.nx):(aH H k).get c=H.get c:=om
variable{E:TT AV 2}{vb:Nat}
theorem Ok.aIi{r:R1}{R Q:pL}{K:Kt 2}(h:Ok r R)(a:∀v H,R v H->Ok (fin (endLoop vb (.ok v H) E) K) Q):Ok (fin (endLoop vb r E) K) Q:=by
 obtain⟨v,H,rfl,b⟩:=h
 grind
structure Dk(LA:LP)(H0:Hp)(L:TT AV 2)(l sb:Nat)(xs:List AV)(n:Nat)(H:Hp):Prop where
 fm:Fm No H0 H
 lp:H.get l=LA.blk true L
 hl:H0.nx<=l/\l<H.nx
 hs:H0.nx<=sb/\sb<H.nx
 ne:sb≠l
 vs:∃v,H.get sb=aB 0 [v]/\Gl 1 H v n (xs.take n)/\∀b,In v b->H0.nx<=b/\b≠l/\b≠sb
variable{H0:Hp}{sb:Nat}{xs:List AV}
theorem qrn{O:Ev.Call}{l:Nat}{i:Nat}(z:i<xs.length)(I:xs.length<900000)(g:∃n:Nat,xs[i]=.int .i64 (.ofNat n)){H:Hp}(a:Dk LA H0 E l sb xs i H):Ok (fO O l E (.ptr sb 0) xs[i] (H.put l (LA.blk false E))) λr H'=>r=.bool true/\Dk LA H0 E l sb xs (i+1) H':=by
 obtain⟨v,g1,g2,g3⟩:=a.vs;obtain⟨m,y⟩:=g;unfold fO;have d:=a.ne;have u:(H.put l (LA.blk false E)).get sb=aB 0 [v]:=by rw[jR _ _ _ _ d];exact g1
 have gv:Gl 1 (H.put l (LA.blk false E)) v i (xs.take i):=g2.keep (AF _) λb e _=>jR _ _ _ _ (g3 b e).2.1;rw[y];have o:Gl 1 (aH (H.put l (LA.blk false E)) (aB 0 [.int .i64 (.ofNat m)])) v i (xs.take i):=gv.no ((Fm.refl _ _).push _);obtain⟨f,F,G,M,t,N⟩:=o.append (w:=8) (k:=1) (x:=[.int .i64 (.ofNat m)]) (by omega) rfl (by omega) (by omega);have j:(aH (H.put l (LA.blk false E)) (aB 0 [.int .i64 (.ofNat m)])).nx=H.nx+1:=rfl;have A:=a.hl.2;have B:=a.hs.2;have p:f.get sb=aB 0 [v]:=by rw[t.get sb (by rw[j];omega) λh=>(g3 sb h).2.2 rfl,LB _ _ _ (by rw[nq];omega)];exact u
 have q:f.get l=LA.blk false E:=by rw[t.get l (by rw[j];omega) λh=>(g3 l h).2.1 rfl,LB _ _ _ (by rw[nq];omega),gX]
 simp(disch:=go_size)only[go_sem,seval,u,F,p,nk,DP];have s:(f.put sb (aB 0 [.sl (H.nx+1) 0 (i+1) (i+1) false])).get l=LA.blk false E:=by rw[jR _ _ _ _ (Ne.symm d)];exact q
 rw[zm8 s];have C:Fm No H0 (aH (H.put l (LA.blk false E)) (aB 0 [.int .i64 (.ofNat m)])):=((a.fm.aN l _ a.hl.1).push _);have D:Fm No H0 f:=C.then t λc J h=>absurd (g3 c h).1 (by omega);have L:Fm No H0 ((f.put sb (aB 0 [.sl (H.nx+1) 0 (i+1) (i+1) false])).put l (LA.blk true E)):=(D.aN sb _ a.hs.1).aN l _ a.hl.1;have K:=a.fm.nx;refine Ok.ret ⟨rfl,L,gX _ _ _,⟨a.hl.1,?_⟩,⟨a.hs.1,?_⟩,d,.sl (H.nx+1) 0 (i+1) (i+1) false,?_,?_,?_⟩
 ·show l<f.nx;omega
 ·show sb<f.nx;omega
 ·rw[jR _ _ _ _ d,gX]
 ·have:xs.take (i+1)=xs.take i++[.int .i64 (.ofNat m)]:=by rw[nh z,y]
  rw[this];refine G.keep (AF _) λb e _=>?_;obtain⟨_,_,_,_,e⟩:=e;cases e;rw[jR _ _ _ _ (by omega),jR _ _ _ _ (by omega)]
 ·rintro b ⟨_,_,_,_,e⟩;cases e;omega
variable{h:AV}
theorem q1e(l:pZ LA LO C){k:Nat}(z:3<=k){H:Hp}(m:xs.length<900000)(s:Rl H h xs)(c:∀i (v:i<xs.length),∃n:Nat,xs[i]=.int .i64 (.ofNat n))(d:H.get vb=aB 0 [h])(e:vb<H.nx):Ok (C k (.f 370) [.aA,.fn 366 [] [.ptr vb 0]] H) λr H'=>Gl 1 H' r xs.length xs/\(∀b,In r b->H.nx<=b)/\Fm No H H':=by
 obtain⟨j,rfl⟩:∃j,k=j+3:=⟨k-3,om⟩;rw[(l (j+2)).kR];unfold kR LF;simp only[go_sem];unfold LD;generalize x:pu (qN [.aA,.fn 366 [] [.ptr vb 0]] 0 (same .undef 2)) [(2,.ptr H.nx 0),(4,.aA),(6,.fn 366 [] [.ptr vb 0])]=L;have p:G L 2=.ptr H.nx 0:=by rw[<-x];kernel_rfl
 generalize a:aH H (aB 0 [.aA])=H1;have A:H1.nx=H.nx+1:=by rw[<-a];rfl
 have t:Fm No H H1:=by rw[<-a];exact(Fm.refl _ _).push _
 have q:Fm No H (aH H1 (LA.blk true L)):=t.push _;have O:ma (C (j+2)) (.fn 366 [] [.ptr vb 0]) [.yield H1.nx] (aH H1 (LA.blk true L))=C (j+2) (.f 366) [.yield H1.nx,.ptr vb 0] (aH H1 (LA.blk true L)):=rfl;have u:Dk LA H L H1.nx H.nx xs 0 (aH H1 (LA.blk true L)):=by
  refine⟨q,uR _ _,⟨om,by rw[np];omega⟩,⟨AF _,by rw[np];omega⟩,om,.aA,?_,?_,?_⟩
  ·rw[EX _ _ _ om,<-a,uR]
  ·exact Gl.nil _ _
  ·rintro b ⟨_,_,_,_,v⟩;cases v
 refine Ok.aIi (zc2 (k:=j+2) om m s (vb:=vb) (y:=H1.nx) (by rw[q.keep e];exact d) (Inv:=λi H'=>Dk LA H L H1.nx H.nx xs i H') (λi H' v=>v.fm) (λi o H' v=>?_) u) ?_
 ·rw[show j+2-1=j+1 from rfl,(l j).fO L _ _ _ v.lp,p];exact qrn o m (c i o) v
 ·rintro r H' ⟨rfl,g⟩;rw[X5 g.lp];unfold Lz;rw[p];obtain⟨w,g1,g2,g3⟩:=g.vs;have f:(H'.put H1.nx .dead).get H.nx=aB 0 [w]:=by rw[jR _ _ _ _ om];exact g1
  rw[AQ (AF _)]at g2;simp only[go_sem,f];refine Ok.ret ⟨g2.keep (AF _) λb d _=>jR _ _ _ _ (g3 b d).2.1,λb d=>(g3 b d).1,g.fm.aN _ _ om⟩
theorem zc7(d:pZ LA LO C){k:Nat}(e:4<=k){H:Hp}(f:xs.length<900000)(g:Rl H h xs)(a:∀i (v:i<xs.length),∃n:Nat,xs[i]=.int .i64 (.ofNat n))(l:H.get vb=aB 0 [h])(c:vb<H.nx):Ok (C k (.f 365) [.fn 366 [] [.ptr vb 0]] H) λr H'=>Gl 1 H' r xs.length xs/\(∀b,In r b->H.nx<=b)/\Fm No H H':=by obtain⟨j,rfl⟩:=aO e;rw[lk (zq6 ..)];refine Ok.ve (q1e d (k:=j) om f g a l c) ?_;rintro r H' v;exact Ok.ret v
open Go.Sort
theorem Tf:∀l:List Nat,uU (aJ l)=some (l.map Int.ofNat)
 | []=>rfl
 |n::l=>by show(match uU (aJ l)with|some r=>some (Int.ofNat n::r)|none=>none)=_;rw[Tf l];rfl
variable{D:List Nat}
theorem Yd(u:qM C)(B:pP C){k:Nat}{n:Nat}{H:Hp}(l:n<900)(E:1<=n)(F:n+10<=k)(s:Gl 1 H h n (aJ D)):Ok (C k (.f 281) [h] H) λr H'=>r=.aX []/\∃R:List Nat,R.Perm D/\R.Pairwise (· <= ·)/\Gl 1 H' h n (aJ R)/\Fm (In h) H H':=by
 obtain⟨k,rfl⟩:∃j,k=j+1:=⟨k-1,om⟩;have d:D.length=n:=by have:=s.len;rw[oF]at this;omega
 rcases s.is with⟨_,K⟩|⟨b,o,e,q,L,rfl,g1,g2,g3,g4,g5⟩
 ·omega
 have t:L.length=o+n:=by have:=congrArg List.length g3;rw[oz,oF]at this;omega
 let R:List Nat:=(fH (D.map Int.ofNat)).map Int.toNat
 have I:(fH (D.map Int.ofNat)).Perm (D.map Int.ofNat):=List.mergeSort_perm _ _;have f:R.map Int.ofNat=fH (D.map Int.ofNat):=by
  rw[lL];refine(qy λx G=>?_).trans (List.map_id _)
  grind
 have g:(fH (D.map Int.ofNat)).map (λz=>AV.int .i64 z)=aJ R:=by rw[<-f,lL];rfl
 have i:R.length=n:=by rw[vu,UH,vu,d]
 have m:storeAt H b o (aJ R) (.aX [])=.ok (.aX []) (H.put b (aB q (aY L o (aJ R)))):=h7 _ _ _ _ _ _ _ g1 om;have w:px H b o n=some (.ok (.aX []) (H.put b (aB q (aY L o (aJ R))))):=by
  unfold px;have A:eY (H.get b) o n=some (aJ D):=by rw[g1,y7,sB (by rw[t];omega),g3,AQ (by rw[oF];omega)]
  rw[A];simp only[Tf,g,m];have J:Nat.blt n 4611686018427387904=true:=by rw[blt_eq,j7 om]
  grind
 rw[(u k).srt _ _ _ _ _ _ _ w];refine Ok.ret ⟨rfl,R,?_,?_,?_,?_⟩
 ·have:(D.map Int.ofNat).map Int.toNat=D:=by
   rw[lL];exact(qy om).trans (List.map_id _)
  grind
 ·have p:(fH (D.map Int.ofNat)).Pairwise λx y=>decide (x<=y)=true:=List.pairwise_mergeSort om om _;rw[List.pairwise_map];refine p.imp λ{a c} v=>?_
  grind
 ·refine⟨om,.inr ⟨b,o,e,q,_,rfl,gX _ _ _,?_,?_,g4,g5⟩⟩
  ·unfold aY;simp_all
  ·unfold aY;rw[sR,oh (by rw[sY];omega),ig (by rw[sY];omega),au,ig (by rw[oF,i,t];omega),DN]
 ·exact(Fm.refl _ _).put _ _ λ_=>⟨_,_,_,_,rfl⟩
theorem zod(c:qM C)(d:pP C)(e:pZ LA LO C){k:Nat}{l:List Nat}{H:Hp}(p:l.length<900)(f:1<=l.length)(q:l.length+11<=k)(g:Rl H h (aJ l))(m:H.get vb=aB 0 [h])(a:vb<H.nx):Ok (C k (.f 352) [.fn 366 [] [.ptr vb 0]] H) λr H'=>∃R:List Nat,R.Perm l/\R.Pairwise (· <= ·)/\Gl 1 H' r l.length (aJ R)/\(∀b,In r b->H.nx<=b)/\Fm No H H':=by obtain⟨j,rfl⟩:∃j,k=j+1:=⟨k-1,om⟩;rw[lk (zrc ..)];refine Ok.ve (zc7 e (k:=j) om (by rw[oF];omega) g (λi v=>⟨_,tR l v⟩) m a) ?_;rintro r H1 ⟨g1,g2,g3⟩;rw[oF]at g1;refine Ok.ve (Yd c d (k:=j) om f om g1) ?_;rintro s t ⟨rfl,R,n,o,g4,u⟩;exact Ok.ret ⟨R,n,o,g4,g2,om⟩
end Go.Di
end
noncomputable section
namespace Go.Di
open Go.Ev Go.Di.T
variable {LA LO:LP}
variable {H H':Hp} {S:Nat->Prop} {b i j m n o z:Nat} {l:List AV}
structure Gs(z:Nat)(H:Hp)(v:AV)(n:Nat)(l:List AV):Prop where
 len:l.length=n*z
 is:(v=.aA/\n=0)\/∃b o m e q L,v=.sl b o n m e/\n<=m/\H.get b=aB q L/\o+m*z=L.length/\(L.drop o).take (n*z)=l/\(e=true\/q=z)/\b<H.nx
theorem Gs.nil(z:Nat)(H:Hp):Gs z H .aA 0 []:=⟨g3,om⟩
theorem Gs.bF{v:AV}(h:Gs z H v n l):aD v=.val (.int .i64 (.ofNat n)):=by rcases h.is with⟨rfl,rfl⟩|⟨b,o,m,e,q,L,rfl,_⟩<;>rfl
theorem Gs.lt{v:AV}(h:Gs z H v n l)(a:In v b):b<H.nx:=by
 obtain⟨_,_,_,_,e⟩:=a;rcases h.is with⟨rfl,_⟩|⟨c,o,m,y,q,L,rfl,_,_,_,_,_,d⟩
 ·cases e
 ·simp_all
attribute [grind ->] Gs.lt
theorem Gs.keep{v:AV}(h:Gs z H v n l)(k:H.nx<=H'.nx)(a:∀b,In v b->b<H.nx->H'.get b=H.get b):Gs z H' v n l:=by
 refine⟨h.len,?_⟩;rcases h.is with h|⟨b,o,m,e,q,L,rfl,c,d,f,g,i,j⟩
 ·grind
 ·exact .inr ⟨b,o,m,e,q,L,rfl,c,(a b ⟨_,_,_,_,rfl⟩ j).trans d,f,g,i,om⟩
attribute [grind .] Gs.keep
theorem Gs.fm{v:AV}(h:Gs z H v n l)(a:Fm S H H')(c:∀b,In v b->¬S b):Gs z H' v n l:=
 h.keep a.nx om
theorem Gl.gs{v:AV}(h:Gl z H v n l):Gs z H v n l:=by
 refine⟨h.len,?_⟩;rcases h.is with h|⟨b,o,e,q,L,rfl,d,i,a,f,g⟩
 ·grind
 ·have c:o+n*z=L.length:=by have:=h.len;rw[<-a,oz]at this;omega
  exact .inr ⟨b,o,n,e,q,L,rfl,om,d,c,by rw[a,AQ (by rw[h.len];exact AF _)],f,g⟩
theorem Gs.rl{v:AV}(h:Gs 1 H v n l):Rl H v l:=by
 have c:l.length=n:=by have:=h.len;omega
 refine⟨by rw[h.bF,c],λi g=>?_⟩;rcases h.is with⟨rfl,rfl⟩|⟨b,o,m,e,q,L,rfl,j,d,k,p,r,f⟩
 ·omega
 ·refine⟨b,o+i,by rw[sD _ _ _ _ _ _ _ _ om,vx],f,?_⟩;have:L[o+i]? =some l[i]:=by
   have a:((L.drop o).take (n*1))[i]? =some l[i]:=om;rw[tu,sB om,iq]at a;exact a
  rw[d,gk,this]
theorem Gs.cut{e:Bool}(h:Gs z H (.sl b o n m e) n l){k:Nat}(a:k<=n):Gs z H (.sl b o k m e) k (l.take (k*z)):=by
 have c:k*z<=n*z:=vL _ a;refine⟨by rw[sY,h.len];omega,?_⟩;rcases h.is with⟨h,_⟩|⟨p,r,s,t,q,L,d,u,f,g,v,i,j⟩
 ·cases h
 ·cases d;refine .inr ⟨b,o,m,e,q,L,rfl,om,f,g,?_,i,j⟩
  grind
theorem Gs.append{w:Nat}{v:AV}{l x:List AV}(h:Gs z H v n l)(E:x.length=z)(f:(n+1)*w<=1099511627776)(i:n+1<=1099511627776):Ok (jD z w H v (some ⟨1,x⟩)) λa H'=>(∃b o m e,a=.sl b o (n+1) m e)/\Gs z H' a (n+1) (l++x)/\Fm (In v) H H'/\(∀b,In a b->In v b\/H.nx<=b):=by
 have d:∀(H:Hp) (v:AV),Gl z H v n l->Ok (jD z w H v (some ⟨1,x⟩)) λa H'=>(∃b o m e,a=.sl b o (n+1) m e)/\Gs z H' a (n+1) (l++x)/\Fm (In v) H H'/\(∀b,In a b->In v b\/H.nx<=b):=λH v g=>by obtain⟨H',r,B,I,C,J⟩:=g.append (w:=w) (k:=1) (x:=x) om om f i;exact⟨_,H',r,om,B.gs,C,λb f=>by obtain⟨_,_,_,_,e⟩:=f;cases e;exact Or.inr om⟩
 rcases h.is with⟨rfl,rfl⟩|⟨b,o,m,e,q,L,rfl,K,s,M,D,t,u⟩
 ·have:l=[]:=lE5.1 (by rw[h.len];simp);subst this;exact d H _ (Gl.nil _ _)
 ·rcases lu n m with c|c
  ·have y:Nat.ble (n+1) m=true:=by rw[ble_eq,j7 om]
   have A:(n+1)*z<=m*z:=vL _ c;have p:(n+1)*z=n*z+z:=om;have r:jD z w H (.sl b o n m e) (some ⟨1,x⟩)=.ok (.sl b o (n+1) m e) (H.put b (aB q (aY L (o+n*z) x))):=by show(bif Nat.ble (n+1) m then storeAt H b (o+n*z) x (.sl b o (n+1) m e)else _)=_;rw[y];exact h7 _ _ _ _ _ _ _ s om
   refine⟨_,_,r,om,⟨om,.inr ⟨b,o,m,e,q,_,rfl,c,gX _ _ _,?_,?_,t,u⟩⟩,(Fm.refl _ _).put b _ λ_=>⟨_,_,_,_,rfl⟩,λF j=>Or.inl ?_⟩
   ·unfold aY
    grind
   ·rw[p];unfold aY;have G:(L.take (o+n*z)).length=o+n*z:=om;rw[sR,oh om,List.drop_take,show o+n*z-o=n*z by omega]
    grind
   ·obtain⟨_,_,_,_,e⟩:=j;cases e;exact⟨_,_,_,_,rfl⟩
  ·have:m=n:=om;subst this;refine d H _ ⟨h.len,.inr ⟨b,o,e,q,L,rfl,s,om,?_,t,u⟩⟩;rw[<-D,AQ (by rw[oz];omega)]
def uX(nx:Nat->AV)(s:TS)(sv ov:AV)(i:Nat):AV:=
 if i<256 then nx i else if i<512 then .int .i64 (.ofNat (s.num (i-256)))else if i<768 then .int .i64 (.ofNat (s.low (i-512)))else if i<1024 then .bool (s.on (i-768))
 else if i=1024 then sv else if i=1025 then .int .i64 (.ofNat s.cnt)else ov
def uP(nx:Nat->AV)(s:TS)(sv ov:AV):List AV:=(List.range 1027).map (uX nx s sv ov)
def TB(nx:Nat->AV)(s:TS)(sv ov:AV):cZ:=aB 0 (uP nx s sv ov)
theorem Ak(nx:Nat->AV)(s:TS)(sv ov:AV):(uP nx s sv ov).length=1027:=by unfold uP;rw[vu,yj]
variable {nx:Nat->AV} {s:TS} {sv ov:AV}
theorem Pe(j:Nat):(uP nx s sv ov)[j]? =if j<1027 then some (uX nx s sv ov j)else none:=by
 unfold uP;rw[AS]
 grind
theorem tk(h:i<1027):cB (TB nx s sv ov) i=.val (uX nx s sv ov i):=by unfold TB;rw[gk,Pe,sB h]
attribute [local irreducible] uP uX
theorem tj{nx':Nat->AV}{d:TS}{e b:AV}{x:AV}(h:i<1027)(m:uX nx' d e b i=x)(n:∀j,j<1027->j≠i->uX nx' d e b j=uX nx s sv ov j):dt (TB nx s sv ov) i [x]=some (TB nx' d e b):=by
 unfold TB;have a:=Ak nx s sv ov;rw[Bz,sB (by rw[a];exact h)];refine congrArg some (congrArg (aB 0) ?_);unfold aY;generalize k:uP nx s sv ov=l at a;apply yh;intro j;have f:l[j]? =if j<1027 then some (uX nx s sv ov j)else none:=by rw[<-k];exact Pe j
 rw[Pe j];have g:(l.take i++[x]).length=i+1:=om;rcases Nat.lt_trichotomy j i with c|c|c
 ·rw[sX om,sX om,tu,sB c,f]
  grind
 ·simp_all
 ·rw[AM om,iq,g]
  grind
attribute [local semireducible] uX
theorem kN(h:i<256):uX nx s sv ov i=nx i:=by unfold uX;rw[sB h]
theorem zu(h:256<=i)(a:i<512):uX nx s sv ov i=.int .i64 (.ofNat (s.num (i-256))):=by unfold uX;rw[sy om,sB a]
theorem DI(h:512<=i)(a:i<768):uX nx s sv ov i=.int .i64 (.ofNat (s.low (i-512))):=by unfold uX;rw[sy om,sy om,sB a]
theorem DL(h:768<=i)(a:i<1024):uX nx s sv ov i=.bool (s.on (i-768)):=by unfold uX;rw[sy om,sy om,sy om,sB a]
theorem kS:uX nx s sv ov 1024=sv:=rfl
theorem kC:uX nx s sv ov 1025=.int .i64 (.ofNat s.cnt):=rfl
theorem kO:uX nx s sv ov 1026=ov:=rfl
theorem uS{nx':Nat->AV}{a:TS}{c b:AV}(p:j<1027)(d:j≠i)(e:j<256->nx' j=nx j)(f:∀m,j=256+m->a.num m=s.num m)(g:∀m,j=512+m->a.low m=s.low m)(h:∀m,j=768+m->a.on m=s.on m)(k:j=1024->c=sv)(l:j=1025->a.cnt=s.cnt)(n:j=1026->b=ov):uX nx' a c b j=uX nx s sv ov j:=by
 by_cases g1:j<256
 ·rw[kN g1,kN g1,e g1]
 by_cases g2:j<512
 ·rw[zu om g2,zu om g2,f (j-256) om]
 by_cases g3:j<768
 ·rw[DI om g3,DI om g3,g (j-512) om]
 by_cases g4:j<1024
 ·rw[DL om g4,DL om g4,h (j-768) om]
 by_cases g5:j=1024
 ·subst g5;rw[kS,kS,k rfl]
 by_cases g6:j=1025
 ·subst g6;rw[kC,kC,l rfl]
 have o:j=1026:=om;subst o;rw[kO,kO,n rfl]
theorem xI(h:b<256):cB (TB nx s sv ov) b=.val (nx b):=by rw[tk om,kN h]
theorem C6(h:b<256):cB (TB nx s sv ov) (256+b)=.val (.int .i64 (.ofNat (s.num b))):=by rw[tk om,zu om om,mf]
theorem aNt(h:b<256):cB (TB nx s sv ov) (512+b)=.val (.int .i64 (.ofNat (s.low b))):=by rw[tk om,DI om om,mf]
theorem aWO(h:b<256):cB (TB nx s sv ov) (768+b)=.val (.bool (s.on b)):=by rw[tk om,DL om om,mf]
theorem rdS:cB (TB nx s sv ov) 1024=.val sv:=by rw[tk om,kS]
theorem rdC:cB (TB nx s sv ov) 1025=.val (.int .i64 (.ofNat s.cnt)):=by rw[tk om,kC]
theorem rdO:cB (TB nx s sv ov) 1026=.val ov:=by rw[tk om,kO]
theorem wrN(h:i<256)(x:AV):dt (TB nx s sv ov) i [x]=some (TB (upd nx i x) s sv ov):=
 tj om (by rw[kN h,ac]) λj b a=>uS b a (λ_=>aE _ _ a) om om om om om om
theorem aOQ(h:i<256)(x:Nat):dt (TB nx s sv ov) (256+i) [.int .i64 (.ofNat x)]=some (TB nx {s with num:=upd s.num i x} sv ov):=
 tj om (by rw[zu om om,mf,show({s with num:=upd s.num i x}:TS).num i=x from ac _ _ _]) λj a b=>uS a b (λ_=>rfl) (λm c=>aE _ _ om) (λ_ _=>rfl) (λ_ _=>rfl) (λ_=>rfl) (λ_=>rfl) λ_=>rfl
theorem aQ1(h:i<256)(x:Nat):dt (TB nx s sv ov) (512+i) [.int .i64 (.ofNat x)]=some (TB nx {s with low:=upd s.low i x} sv ov):=
 tj om (by rw[DI om om,mf,show({s with low:=upd s.low i x}:TS).low i=x from ac _ _ _]) λj a b=>uS a b (λ_=>rfl) (λ_ _=>rfl) (λm c=>aE _ _ om) (λ_ _=>rfl) (λ_=>rfl) (λ_=>rfl) λ_=>rfl
theorem aWQ(h:i<256)(x:Bool):dt (TB nx s sv ov) (768+i) [.bool x]=some (TB nx {s with on:=upd s.on i x} sv ov):=
 tj om (by rw[DL om om,mf,show({s with on:=upd s.on i x}:TS).on i=x from ac _ _ _]) λj a b=>uS a b (λ_=>rfl) (λ_ _=>rfl) (λ_ _=>rfl) (λm c=>aE _ _ om) (λ_=>rfl) (λ_=>rfl) λ_=>rfl
theorem wrS(x:AV):dt (TB nx s sv ov) 1024 [x]=some (TB nx s x ov):=
 tj om kS λj a b=>uS a b om om om om om om om
theorem wrC(x:Nat):dt (TB nx s sv ov) 1025 [.int .i64 (.ofNat x)]=some (TB nx {s with cnt:=x} sv ov):=
 tj om kC λj a b=>uS a b om om om om om om om
theorem wrO(x:AV):dt (TB nx s sv ov) 1026 [x]=some (TB nx s sv x):=
 tj om kO λj a b=>uS a b om om om om om om om
attribute [go_sem] xI C6 aNt aWO rdS rdC rdO wrN aOQ aQ1 aWQ wrS wrC wrO
end Go.Di
end
noncomputable section
namespace Go.Di
open Go.Ev Go.Di.T
variable {LA LO:LP}
variable {H H' H0:Hp} {N b i j n o tb z:Nat} {S:Nat->Prop} {aV:Nat->List Nat} {col:Nat->Nat} {cs l:List AV}
structure aEh(H:Hp)(col:Nat->Nat)(cs:List AV)(out:List (List Nat)):Prop where
 len:cs.length=out.length
 at':∀(i:Nat) (c:AV) (o:List Nat),cs[i]? =some c->out[i]? =some o->(∃b q n m e,c=.sl b q n m e)/\Gl 1 H c o.length (aJ o)/\∀b,In c b->col b=5
structure TMd(H0:Hp)(aV:Nat->List Nat)(s:TS)(col:Nat->Nat)(tb:Nat)(H:Hp)(nx:Nat->AV)(sv ov:AV)(cs:List AV):Prop where
 fm:Fm No H0 H
 base:∀b,b<H0.nx->col b=9
 ge:H0.nx<=tb
 lt:tb<H.nx
 ct:col tb=0
 get:H.get tb=TB nx s sv ov
 nxt:∀v,v<256->Gl 1 H (nx v) (aV v).length (aJ (aV v))/\∀b,In (nx v) b->col b=10+v
 stk:Gs 1 H sv s.stk.length (aJ s.stk)
 stc:∀b,In sv b->col b=2
 out:Gl 1 H ov cs.length cs
 ouc:∀b,In ov b->col b=4
 css:aEh H col cs s.out
def TM(H0:Hp)(b:Nat->List Nat)(s:TS)(a:Nat->Nat)(tb:Nat)(H:Hp):Prop:=∃nx sv ov cs,TMd H0 b s a tb H nx sv ov cs
variable{D:List (List Nat)}
theorem aEh.keep{a:Nat->Nat}(h:aEh H col cs D)(f:H.nx<=H'.nx)(g:∀b,b<H.nx->col b=5->H'.get b=H.get b)(j:∀b,b<H.nx->a b=col b):aEh H' a cs D:=
 ⟨h.len,λi c o k l=>by obtain⟨g0,g1,g2⟩:=h.at' i c o k l;exact⟨g0,g1.keep f λb d e=>g b e (g2 b d),λb d=>(j b (g1.lt d)).trans (g2 b d)⟩⟩
attribute [grind .] aEh.keep
variable{I s0:TS}{U:Nat->AV}{iv sv:AV}
theorem TMd.step(h:TMd H0 aV s0 col tb H U sv iv cs)(f:Fm S H H')(p:∀b,b<H.nx->S b->b=tb\/col b=2\/col b=3){d:Nat->Nat}(j:∀b,b<H.nx->d b=col b){m:AV}(q:H'.get tb=TB U I m iv)(i:Gs 1 H' m I.stk.length (aJ I.stk))(n:∀b,In m b->d b=2)(r:I.out=s0.out):TMd H0 aV I d tb H' U m iv cs:=by
 have w:∀b,b<H0.nx->¬S b:=λb a i=>by
  have g:b<H.nx:=AE a h.fm.nx;rcases p b g i with e|e|e
  ·have:=h.ge;omega
  ·rw[h.base b a]at e;cases e
  ·rw[h.base b a]at e;cases e
 have o:∀{c:Nat},c≠0->c≠2->c≠3->∀b,b<H.nx->col b=c->H'.get b=H.get b:=λ{c} t x y b a l=>f.get b a λi=>by
  rcases p b a i with e|e|e
  ·rw[e,h.ct]at l;exact t l.symm
  ·omega
  ·omega
 exact{
  fm:=h.fm.then f λb a i=>absurd i (w b a)
  base:=λb a=>(j b (AE a h.fm.nx)).trans (h.base b a)
  ge:=h.ge
  lt:=AE h.lt f.nx
  ct:=(j tb h.lt).trans h.ct
  get:=q
  nxt:=λv u=>by obtain⟨g1,g2⟩:=h.nxt v u;exact⟨g1.keep f.nx λb a g=>o (c:=10+v) om om om b g (g2 b a),λb a=>(j b (g1.lt a)).trans (g2 b a)⟩
  stk:=i
  stc:=n
  out:=h.out.keep f.nx λb a g=>o (c:=4) om om om b g (h.ouc b a)
  ouc:=λb a=>(j b (h.out.lt a)).trans (h.ouc b a)
  css:=r▸h.css.keep f.nx (o (c:=5) om om om) j}
def zY(a:Nat->Nat)(H:Hp)(k:Nat):Nat->Nat:=λb=>if b<H.nx then a b else k
theorem h8(h:b<H.nx):zY col H N b=col b:=sB h
theorem E8(h:H.nx<=b):zY col H N b=N:=sy om
theorem Yu{k:Nat}(q:1<=k)(c:TM H0 aV I col tb H){v:Nat}(s:v<256)(m:I.cnt<=256)(t:I.stk.length<=256):Ok (C k (.f 326) [.ptr tb 0,.int .i64 (.ofNat v)] H) λr H'=>r=.aX []/\∃d,(∀b,b<H.nx->d b=col b)/\TM H0 aV (I.enter v) d tb H'/\Fm (λb=>b=tb\/col b=2) H H':=by
 obtain⟨j,rfl⟩:=aO q;rw[lk (zri ..)];unfold WX;obtain⟨nx,sv,ov,cs,c⟩:=c;have g1:=c.get;have g3:=c.stk;have f:=c.stc;refine gW vx nr g1 ?_;have u:∀b,In sv b->b≠tb:=λb a e=>by have:=f b a;rw[e,c.ct]at this;cases this
 refine Ok.ve (Gs.append (z:=1) (n:=I.stk.length) (l:=aJ I.stk) (g3.keep ?_ λb a i=>?_) ?_ ?_ ?_) ?_
 ·grind
 ·grind
 ·rfl
 ·omega
 ·omega
 rintro r H1 ⟨⟨A,B,D,E,rfl⟩,p,F,G⟩;have i:=c.lt;have w:H1.get tb=TB nx {I with cnt:=I.cnt+1,num:=upd I.num v (I.cnt+1),low:=upd I.low v (I.cnt+1),on:=upd I.on v true} sv ov:=om;simp only[go_sem,vx,nr,w];have x:Fm (λb=>b=tb\/col b=2) H H1:=by
  refine Fm.then (S:=λb=>b=tb\/col b=2) (Fm.push ?_ _) F om
  grind
 have o:=x.put tb (TB nx {I with cnt:=I.cnt+1,num:=upd I.num v (I.cnt+1),low:=upd I.low v (I.cnt+1),on:=upd I.on v true} (.sl A B (I.stk.length+1) D E) ov) om;have y:=om;refine Ok.ret ⟨rfl,zY col H 2,λb a=>h8 a,⟨nx,_,ov,cs,c.step o (λb _ h=>h.imp id Or.inl) (λb a=>h8 a) (gX _ _ _) ?_ ?_ rfl⟩,o⟩
 ·have e:aJ I.stk++[.int .i64 (.ofNat v)]=aJ (I.stk++[v]):=by simp[aJ]
  rw[e]at p;show Gs 1 _ _ (I.stk++[v]).length (aJ (I.stk++[v]));rw[nj];refine p.keep om λb a _=>jR _ _ _ _ λe=>?_
  grind
 ·intro b a;rcases G b a with g|g
  ·rw[h8 (g3.lt g)];exact f b g
  ·exact E8 om
theorem LN(z b o n m:Nat)(e:Bool){a:Nat}(h:a<=n)(c:n<=m)(d:a<m):kM z (.sl b o n m e) (some (.int .i64 (.ofNat a))) none none=.val (.sl b (o+a*z) (n-a) (m-a) e):=by
 show(match aq n m (some (.int .i64 (.ofNat a))) none none with|some bd=>jJ b o z bd e|none=>R0.bad)=_;have:aq n m (some (.int .i64 (.ofNat a))) none none=some ⟨a,n,m⟩:=by show(match(bif Nat.ble a n then some a else none)with|none=>none|some l=>some (Bd.mk l n m))=_;rw[ble_eq,j7 h];rfl
 rw[this];show(bif Nat.beq m a then _ else R0.val (.sl b (o+a*z) (n-a) (m-a) e))=_;rw[beq_eq,sT om];rfl
theorem RY(z b o n m:Nat)(e:Bool){k:Nat}(h:k<=n)(a:n<=m)(c:0<m):kM z (.sl b o n m e) none (some (.int .i64 (.ofNat k))) none=.val (.sl b o k m e):=by
 show(match aq n m none (some (.int .i64 (.ofNat k))) none with|some bd=>jJ b o z bd e|none=>R0.bad)=_;have:aq n m none (some (.int .i64 (.ofNat k))) none=some ⟨0,k,m⟩:=by show(match(bif Nat.ble k m then some k else none)with|none=>none|some h=>match(some 0:Option Nat)with|none=>none|some l=>some (Bd.mk l h m))=_;rw[ble_eq,j7 om];rfl
 rw[this];show(bif Nat.beq m 0 then _ else R0.val (.sl b (o+0*z) (k-0) (m-0) e))=_;rw[beq_eq,sT om,sL];rfl
theorem Gs.from(h:Gs 1 H iv n l){a:Nat}(j:a<n):∃w,kM 1 iv (some (.int .i64 (.ofNat a))) none none=.val w/\(∃b o n m e,w=.sl b o n m e)/\Rl H w (l.drop a):=by
 have d:=h.rl;have p:l.length=n:=by have:=h.len;omega
 rcases h.is with⟨rfl,c⟩|⟨b,o,m,e,q,L,rfl,c,r,s,t,u,f⟩
 ·omega
 ·refine⟨_,LN 1 b o n m e om c om,om,?_,λi k=>?_⟩
  ·show R0.val (.int .i64 (.ofNat (n-a)))=_;simp_all
  ·refine⟨b,o+a*1+i,by rw[sD _ _ _ _ _ _ _ _ om];simp only[vx],f,?_⟩;obtain⟨x,y,g,_,z⟩:=d.at' (a+i) om;rw[sD _ _ _ _ _ _ _ _ om]at g
   grind
theorem Gs.upto(h:Gs z H iv n l){k:Nat}(a:k<=n)(i:0<n):∃b o m e,kM z iv none (some (.int .i64 (.ofNat k))) none=.val (.sl b o k m e)/\Gs z H (.sl b o k m e) k (l.take (k*z))/\∀c,In (.sl b o k m e) c->In iv c:=by
 rcases h.is with⟨rfl,d⟩|⟨b,o,m,e,q,L,rfl,d,j,p,r,s,t⟩
 ·omega
 ·refine⟨b,o,m,e,RY z b o n m e a d om,?_,λc f=>?_⟩
  ·exact Gs.cut h a
  ·obtain⟨_,_,_,_,g⟩:=f;cases g;exact⟨_,_,_,_,rfl⟩
theorem zu7(b:1<=N)(a:TM H0 aV s0 col tb H)(d:i<256)(c:s0.low i<s0.num i):C N (.f 327) [.ptr tb 0,.int .i64 (.ofNat i)] H=.ok (.aX []) H:=by obtain⟨j,rfl⟩:=aO b;rw[lk (QY ..)];unfold Py;obtain⟨nx,sv,ov,cs,a⟩:=a;have g1:=a.get;simp(disch:=omega)only[go_sem,seval,vx,nr,g1,c]
def AA(on:Nat->Bool):List Nat->Nat->Bool
 | [],x=>on x
 |k::r,x=>AA (upd on k false) r x
theorem zlj:∀(l:List Nat) (a:Nat->Bool) (x:Nat),AA a l x=if x∈l then false else a x
 | [],a,x=>by simp[AA]
 |k::r,a,x=>by
  rw[AA,zlj r];by_cases h:x∈r
  ·simp[h]
  ·by_cases e:x=k
   ·subst e;simp[h,ac]
   ·simp[h,e,aE _ _ e]
variable{F:pL}{O:Ev.Call}{zR:pH}
theorem Sw{nx:Nat->AV}{sv ov:AV}{comp:List Nat}{s:TS}(g:∀x∈comp,x<256)(n:comp.length<900000)(j:Rl H' iv (aJ comp))(e:∀i b o,i<comp.length->aG 1 iv (.int .i64 (.ofNat i))=.val (.ptr b o)->b≠tb)(f:tb<H'.nx)(l:∀H d,(∀x,d x=if x∈comp then false else s.on x)->H.get tb=TB nx {s with on:=d} sv ov->Fm (λb=>b=tb) H' H->Ok (zR H) F):∀(k i:Nat) (H:Hp) (a:Nat->Bool),comp.length-i<k->i<=comp.length->H.get tb=TB nx {s with on:=a} sv ov->Fm (λb=>b=tb) H' H->(∀x,AA a (comp.drop i) x=if x∈comp then false else s.on x) -> Ok (G9 O zR (.ptr tb 0) iv (.int .i64 (.ofNat comp.length)) k (.int .i64 (.ofNat i)) H) F
 |0,i,H,a,h,_,_,_,_=>om
 |k+1,i,H,a,h,hi,hg,hF,ho=>by
  show Ok (J3 O _ _ _ _ (G9 O _ _ _ _ k) _ H) F;unfold J3;by_cases c:i<comp.length
  ·obtain⟨b,o,r,t,m⟩:=j.at' i (by rw[oF];exact c);rw[tR]at m;have u:comp[i]<256:=g _ om;have p:H.get b=H'.get b:=hF.get b t om;simp only[go_sem,vx,nr,c];unfold Zm;refine cF vx nr r p m hg ?_;unfold Zn;refine dS vx nr ?_;refine Sw g n j e f l k (i+1) _ (upd a comp[i] false) om om om om λx=>?_;rw[<-ho x,iP c];rfl
  ·simp only[go_sem,vx,nr,c];have:i=comp.length:=om;subst this;rw[rq]at ho;exact l H a (λx=>ho x) hg hF
theorem Gl.aAT(h:Gl 1 H iv n l)(a:i<n)(e:aG 1 iv (.int .i64 (.ofNat i))=.val (.ptr b o)):In iv b:=by
 rcases h.is with⟨rfl,c⟩|⟨d,f,g,q,L,rfl,_⟩
 ·omega
 ·rw[sD _ _ _ _ _ _ _ _ a]at e;cases e;exact⟨_,_,_,_,rfl⟩
theorem Gl.aGR(h:Gl z H iv n l)(i:cs.length=z)(c:(n+1)*N<=1099511627776)(a:n+1<=1099511627776):Ok (jD z N H iv (some ⟨1,cs⟩)) λb H'=>b=.sl H.nx 0 (n+1) (n+1) false/\Gl z H' b (n+1) (l++cs)/\Fm (In iv) H H'/\H'.nx=H.nx+1:=by obtain⟨H',d,e,j,f,g⟩:=h.append (w:=N) (k:=1) (x:=cs) om om c a;exact⟨_,H',d,rfl,e,f,g⟩
theorem TMd.aPm(h:TMd H0 aV s0 col tb H U sv iv cs)(f:Fm S H H')(E:∀b,b<H.nx->S b->b=tb\/col b=4){d:Nat->Nat}(p:∀b,b<H.nx->d b=col b){x j c:AV}{o:List Nat}(r:H'.get tb=TB U I x j)(k:Gs 1 H' x I.stk.length (aJ I.stk))(t:∀b,In x b->In sv b)(F:I.out=s0.out++[o])(y:Gl 1 H' j (cs++[c]).length (cs++[c]))(z:∀b,In j b->d b=4)(A:∃b q n m e,c=.sl b q n m e)(B:Gl 1 H' c o.length (aJ o))(C:∀b,In c b->d b=5):TMd H0 aV I d tb H' U x j (cs++[c]):=by
 have M:∀b,b<H0.nx->¬S b:=λb a k=>by
  have l:b<H.nx:=AE a h.fm.nx;rcases E b l k with e|e
  ·have:=h.ge;omega
  ·rw[h.base b a]at e;cases e
 have G:∀{c:Nat},c≠0->c≠4->∀b,b<H.nx->col b=c->H'.get b=H.get b:=λ{c} D N b a u=>f.get b a λk=>by
  rcases E b a k with e|e
  ·rw[e,h.ct]at u;exact D u.symm
  ·omega
 have g:=h.css.keep f.nx (G (c:=5) om om) p;exact{
  fm:=h.fm.then f λb a k=>absurd k (M b a)
  base:=λb a=>(p b (AE a h.fm.nx)).trans (h.base b a)
  ge:=h.ge
  lt:=AE h.lt f.nx
  ct:=(p tb h.lt).trans h.ct
  get:=r
  nxt:=λv J=>by obtain⟨g1,g2⟩:=h.nxt v J;exact⟨g1.keep f.nx λb a l=>G (c:=10+v) om om b l (g2 b a),λb a=>(p b (g1.lt a)).trans (g2 b a)⟩
  stk:=k
  stc:=λb a=>(p b (h.stk.lt (t b a))).trans (h.stc b (t b a))
  out:=y
  ouc:=z
  css:=⟨by rw[F,nj,nj,g.len];rfl,λi K L g1 g2=>by
   rw[F]at g2;rcases lu i cs.length with w|w
   ·rw[sX w]at g1;rw[sX (by rw[<-g.len];exact w)]at g2;exact g.at' i K L g1 g2
   ·rw[AM w]at g1;rw[AM (by rw[<-g.len];exact w),<-g.len]at g2;have D:i-cs.length=0:=by
     have:=(lAL.1 g1).1;simp_all
    rw[D]at g1 g2;cases g1;cases g2;exact⟨A,B,C⟩⟩}
variable{E:List Nat}
theorem zl9(hO:qM C)(hS:pP C)(hR:pZ LA LO C){k:Nat}(hk:300<=k)(f:TM H0 aV I col tb H){v:Nat}(hv:v<256)(hl:¬I.low v<I.num v){post:List Nat}(G:I.stk=E++v::post)(hp:v∉E)(hst:I.stk.length<=256)(s:∀x∈I.stk,x<256)(y:I.out.length<=256):Ok (C k (.f 327) [.ptr tb 0,.int .i64 (.ofNat v)] H) λr H'=>r=.aX []/\∃(comp:List Nat) (m:Nat->Bool) (q:Nat->Nat),comp.Perm (v::post)/\comp.Pairwise (· <= ·)/\(∀x,m x=if x∈comp then false else I.on x) /\ (∀b,b<H.nx->q b=col b)/\TM H0 aV {I with stk:=E,on:=m,out:=I.out++[comp]} q tb H'/\Fm (λb=>b=tb\/col b=4) H H':=by
 obtain⟨j,rfl⟩:∃j,k=j+2:=⟨k-2,om⟩;rw[lk (QY ..)];unfold Py;obtain⟨nx,sv,ov,cs,f⟩:=f;have g1:=f.get;have g3:=f.stk;have R:I.stk.length=E.length+1+post.length:=by rw[G];simp;omega
 simp(disch:=omega)only[go_sem,seval,vx,nr,g1,hl];unfold Zl;refine gW vx nr g1 ?_;refine Ok.ve (zwp (k:=j+1) om g3.rl om G hp) ?_;rintro r H1 ⟨rfl,rfl⟩;obtain⟨w,e1,⟨wb,wo,wn,wm,we,rfl⟩,e2⟩:=g3.from (a:=E.length) om;have ed:(aJ I.stk).drop E.length=aJ (v::post):=by unfold aJ;simp_all
 rw[ed]at e2;simp only[go_sem,vx,nr,g1,e1]
 rw[lk (zrd ..)];unfold WR;simp only[go_sem,vx,nr];generalize hH2:aH H1 (aB 0 [.sl wb wo wn wm we])=H2;have n2:H2.nx=H1.nx+1:=om;have f2:Fm No H1 H2:=om;have K:H2.get H1.nx=aB 0 [.sl wb wo wn wm we]:=om;refine Ok.ve (zod hO hS hR (k:=j+1) (l:=v::post) om om om om K om) ?_;rintro U V ⟨comp,W,c2,u,c4,f3⟩;have t:Fm No H1 V:=om;have hcl:comp.length=post.length+1:=by rw[W.length_eq];rfl
 have L:(v::post).length=comp.length:=om;rw[L]at u;have B:∀b,In U b->H1.nx<=b:=om;have e3:=u.bF;simp only[go_sem,vx,nr,e3];rw[dD];have D:=f.lt;refine Sw (s:=I) (sv:=sv) (ov:=ov) (nx:=nx) (comp:=comp) (λx hx=>s x om) om u.rl (λi b o J e d=>?_) (AE D t.nx) (λQ m ho A f4=>?_) bT 0 V I.on lf om ((t.keep D).trans g1) (Fm.refl _ _) λx=>?_
 ·have:=B b (u.aAT J e);omega
 ·-- the rest
  unfold J2;obtain⟨X,Y,Z,e5,e6,O,e8⟩:=g3.upto (k:=E.length) om om;rw[vx]at O;have e9:(aJ I.stk).take E.length=aJ E:=by unfold aJ;rw[<-List.map_take,G,List.take_left]
  rw[e9]at O;simp only[go_sem,vx,nr,A,e6];have c3f:wW U=true:=u.flat;rcases u.is with⟨_,h0⟩|⟨pre,o9,P,q9,L9,rfl,_⟩
  ·omega
  refine gW vx nr A ?_;have T:∀b,In sv b->b≠tb:=λb d e=>by have:=f.stc b d;rw[e,f.ct]at this;cases this
  have bUB:∀b,In ov b->b≠tb:=λb d e=>by have:=f.ouc b d;rw[e,f.ct]at this;cases this
  have M:Fm (λb=>b=tb) H1 Q:=(t.mono om).trans om;have hn4:=M.nx;have nn4:=f4.nx;have aNZ:cs.length<=256:=by rw[f.css.len];exact y
  refine Ok.ve (Gl.aGR (z:=1) (n:=cs.length) (l:=cs) (f.out.keep ?_ λb d p=>?_) ?_ ?_ ?_) ?_
  ·simp only[np,nq];omega
  ·grind
  ·rfl
  ·omega
  ·omega
  rintro r H5 ⟨rfl,h1,h2,h3⟩;simp only[np,nq]at h1 h3;have gt:H5.get tb=TB nx {I with on:=m} (.sl X Y E.length Z e5) ov:=om;simp only[go_sem,vx,nr,gt];have c9':H1.nx<=pre:=B pre ⟨_,_,_,_,rfl⟩;have f5:Fm (λb=>b=tb\/col b=4) H1 H5:=by refine Fm.then (S:=λb=>b=tb\/col b=4) om h2 λc hc J=>Or.inr (f.ouc c J)
  have F:=f5.put tb (TB nx {I with on:=m} (.sl X Y E.length Z e5) (.sl (Q.nx+1) 0 (cs.length+1) (cs.length+1) false)) om;refine Ok.ret ⟨rfl,comp,m,λb=>if b<H1.nx then col b else if b=pre then 5 else 4,W,c2,ho,λb d=>sB d,⟨nx,_,_,_,f.aPm (c:=.sl pre o9 comp.length comp.length P) (o:=comp) F (om) (λb d=>sB d) (gX _ _ _) ?_ e8 rfl ?_ ?_ ⟨_,_,_,_,_,rfl⟩ ?_ ?_⟩,F⟩
  ·refine O.keep F.nx λb d p=>F.get b p λh=>?_;rcases h with h|h
   ·grind
   ·have:=f.stc b om;rw[h]at this;cases this
  ·rw[nj];refine h1.keep (AF _) λb d _=>jR _ _ _ _ λe=>?_;obtain⟨_,_,_,_,g⟩:=d
   grind
  ·rintro b ⟨_,_,_,_,g⟩
   grind
  ·refine u.keep om λb d p=>?_;have N:b=pre:=by obtain⟨_,_,_,_,g⟩:=d;cases g;rfl
   subst N;rw[jR _ _ _ _ om,h2.get b gx λd=>by have:=f.out.lt d;omega,LB _ _ _ (by simp only[nq];omega),jR _ _ _ _ om]
   grind
  ·rintro b ⟨_,_,_,_,g⟩
   grind
 ·rw[zlj];rfl
def cD(fr:List (Nat×Nat)):List AV:=(fr.map λp=>[AV.int .i64 (.ofNat p.1),AV.int .i64 (.ofNat p.2)]).flatten
theorem Fa(b:List (Nat×Nat)):(cD b).length=b.length*2:=by
 induction b with
 |nil=>rfl
 |cons a l ih=>simp[cD]at ih ⊢;omega
theorem v6(l:List (Nat×Nat))(p:Nat×Nat):cD (l++[p])=cD l++[.int .i64 (.ofNat p.1),.int .i64 (.ofNat p.2)]:=by simp[cD]
theorem Yn(a b:Nat):rT pQ (.int .i64 (.ofNat a)) [.int .i64 (.ofNat b)]=.val (.int .i64 (.ofNat (min a b))):=by
 rw[Lj]
 grind
theorem Gs.aDF{l:List (Nat×Nat)}{u:Nat}(h:Gs 2 H iv (l.length+1) (cD (l++[(u,i)]))):∃b o,aG 2 iv (.int .i64 (.ofNat l.length))=.val (.ptr b o)/\In iv b/\b<H.nx/\cB (H.get b) o=.val (.int .i64 (.ofNat u))/\cB (H.get b) (o+1)=.val (.int .i64 (.ofNat i)) /\ ∀a:Nat,∃B,dt (H.get b) (o+1) [.int .i64 (.ofNat a)]=some B/\∀H':Hp,H.nx<=H'.nx->H'.get b=B->Gs 2 H' iv (l.length+1) (cD (l++[(u,a)])):=by
 have c:=Fa l;rcases h.is with⟨_,f⟩|⟨b,o,m,e,q,L,rfl,f,g,F,C,D,n⟩
 ·omega
 ·have t:(l.length+1)*2<=m*2:=vL _ f;have g0:∀j x,(cD (l++[(u,i)]))[j]? =some x->j<(l.length+1)*2->L[o+j]? =some x:=λj x k p=>by
   rw[<-C,tu,sB p,iq]at k;exact k
  have w:=g0 (l.length*2) (.int .i64 (.ofNat u)) (by rw[v6,AM om,c,gq];rfl) om;have y:=g0 (l.length*2+1) (.int .i64 (.ofNat i)) (by rw[v6,AM om,c,show l.length*2+1-l.length*2=1 by omega];rfl) om;refine⟨b,o+l.length*2,sD _ _ _ _ _ _ _ _ om,⟨_,_,_,_,rfl⟩,n,by rw[g,gk,w],by rw[g,gk,show o+l.length*2+1=o+(l.length*2+1)by omega,y],λa=>?_⟩;refine⟨_,by rw[g,Bz,sB (by show o+l.length*2+1+1<=L.length;omega)],λH' r s=>⟨by rw[Fa,nj];rfl,.inr ⟨b,o,m,e,q,_,rfl,f,s,?_,?_,D,AE n r⟩⟩⟩
  ·unfold aY
   grind
  ·have z:(l.length+1)*2=l.length*2+1+1:=om;unfold aY;have A:(L.take (o+l.length*2+1)).length=o+l.length*2+1:=om;rw[sR,oh om,List.drop_take,show o+l.length*2+1-o=l.length*2+1 by omega,v6];have d:((L.drop o).take (l.length*2+1)).length=l.length*2+1:=om;rw[z,List.take_append,AQ om,d,show l.length*2+1+1-(l.length*2+1)=1 by omega];have E:(L.drop o).take (l.length*2+1)=cD l++[.int .i64 (.ofNat u)]:=by
    have:((L.drop o).take ((l.length+1)*2)).take (l.length*2+1)=(cD (l++[(u,i)])).take (l.length*2+1):=om;rw[List.take_take,lh om]at this;rw[this,v6,List.take_append,AQ om,c,show l.length*2+1-l.length*2=1 by omega];rfl
   simp_all
structure WS(H0:Hp)(N:Nat)(aV:Nat->List Nat)(s:TS)(fr:List (Nat×Nat))(col:Nat->Nat)(tb:Nat)(v:AV)(H:Hp):Prop where
 tm:TM H0 aV s col tb H
 ti:TI N aV s fr
 fr:Gs 2 H v fr.length (cD fr)
 fc:∀b,In v b->col b=3
def Le(s a:TS):Prop:=(∀x,0<s.num x->0<a.num x)/\s.cnt<=a.cnt
theorem Le.refl(s:TS):Le s s:=⟨om,om⟩
theorem Le.trans{c:TS}(h:Le s0 I)(k:Le I c):Le s0 c:=⟨λx d=>k.1 x (h.1 x d),AL h.2 k.2⟩
theorem Le.look(s:TS)(v k:Nat):Le s (s.look v k):=by unfold TS.look;split<;>exact⟨om,om⟩
theorem Le.enter(s:TS)(b:s.num N=0):Le s (s.enter N):=⟨λx a=>by
 show 0<upd s.num N (s.cnt+1) x;by_cases e:x=N
 ·simp_all
 ·rw[aE _ _ e];exact a,Nat.le_succ _⟩
structure tw(N:Nat)(aV:Nat->List Nat):Prop where
 le:N<=256
 lt:∀u,∀k∈aV u,k<N
 len:∀u,(aV u).length<200000
variable{M:List (Nat×Nat)}
theorem Pq(U:1<=j)(Q:tw N aV){u fb V:Nat}{v:AV}{q1 q2:pD}(W:aG 2 v (.int .i64 (.ofNat M.length))=.val (.ptr fb V))(y:∀v' H' A I a,WS H0 N aV A I a tb v' H'->Le s0 A->2*(N-A.cnt)+I.length<2*(N-s0.cnt)+(M.length+1)->Ok (q1 v' H') F)(G:∀H' A a,WS H0 N aV A (M++[(u,(aV u).length)]) a tb v H'->Le s0 A->A.cnt=s0.cnt->Ok (q2 v H') F):∀(k i:Nat) (s:TS) (col:Nat->Nat) (H:Hp),(aV u).length-i<k->WS H0 N aV s (M++[(u,i)]) col tb v H->Le s0 s->s.cnt=s0.cnt -> Ok (Hf (C j) q1 q2 (.ptr tb 0) (.ptr fb V) k v H) F
 |0,i,s,col,H,h,_,_,_=>om
 |k+1,i,s,col,H,h,hW,hle,hcnt=>by
  show Ok (J9 (C j) _ _ _ _ (Hf (C j) _ _ _ _ k) _ H) F;unfold J9;have q:=hW.ti;have J:(M++[(u,i)]).length=M.length+1:=g3;have hF:=hW.fr;rw[J]at hF;obtain⟨b,o,e1,e2,e3,e4,e5,e6⟩:=hF.aDF;rw[W]at e1;cases e1;obtain⟨nx,sv,ov,cs,f⟩:=hW.tm;have g1:=f.get;have Y:u∈s.stk:=q.nW om;have huN:u<N:=q.nT u Y;have hN:=Q.le;have hu:u<256:=om;obtain⟨n1,n2⟩:=f.nxt u hu;have n3:=n1.bF;have hil:i<=(aV u).length:=(q.frE (u,i) om).1;have hne:fb≠tb:=λe=>by have:=hW.fc fb e2;rw[e,f.ct]at this;cases this
  by_cases hi:i<(aV u).length
  ·simp(disch:=omega)only[go_sem,vx,nr,e4,e5,g1,n3,hi,bf];unfold Q3;obtain⟨b2,o2,m1,m2,m3⟩:=n1.rl.at' i (by rw[oF];exact hi);rw[tR]at m3;obtain⟨B,w1,w2⟩:=e6 (i+1);have hk:(aV u)[i]? =some (aV u)[i]:=om;generalize hkk:(aV u)[i]=x at *;have Z:x<N:=Q.lt u x om;have hx:x<256:=om;have hi2:i<900000:=by have:=Q.len u;omega
   simp(disch:=go_size)only[go_sem,rB,rI,rK,rL,rN,rS,r6,vx,nr,e4,e5,g1,m1,m3,w1,bf];have D:(H.put fb B).get tb=TB nx s sv ov:=om;have fB:Fm (λc=>c=tb\/col c=3) H (H.put fb B):=(Fm.refl _ _).put _ _ λ_=>Or.inr (hW.fc fb e2);have gF:Gs 2 (H.put fb B) v (M.length+1) (cD (M++[(u,i+1)])):=om;have bEi:Gs 1 (H.put fb B) sv s.stk.length (aJ s.stk):=f.stk.keep om λc d _=>jR _ _ _ _ λe=>by have t:=f.stc c d;rw[e,hW.fc fb e2]at t;cases t
   have m:TMd H0 aV s col tb (H.put fb B) nx sv ov cs:=f.step fB om om D bEi f.stc rfl;by_cases R:s.num x=0
   ·simp only[go_sem,vx,nr,R];have tE:TI N aV (s.enter x) ((M++[(u,i+1)])++[(x,0)]):=q.enter R Z om;have K:=tE.qR;have K:s.cnt+1<=N:=K;have hsl:s.stk.length<=N:=by have t:=q.mW;have h2:=q.qR;omega
    refine Ok.ve (Yu U ⟨nx,sv,ov,cs,m⟩ hx om om) ?_;rintro r H2 ⟨rfl,a,c1,⟨l,E,O,cs2,w⟩,f2⟩;have hv2:∀c,In v c->c<H.nx:=om;have gF2:Gs 2 H2 v (M.length+1) (cD (M++[(u,i+1)])):=gF.fm f2 λc d=>by
     rintro (e|e)
     ·have:=hW.fc c d;rw[e,f.ct]at this;cases this
     ·have:=hW.fc c d;rw[e]at this;cases this
    have hv3:∀c,In v c->a c=3:=λc d=>(c1 c om).trans (hW.fc c d);have fl:M.length<=N:=by have t:=q.aA7;rw[J]at t;omega
    refine aS ?_;refine Ok.ve (Gs.append (z:=2) (n:=M.length+1) (l:=cD (M++[(u,i+1)])) om rfl om om) ?_;rintro r H3 ⟨⟨b',o',m',e',rfl⟩,a1,a2,a3⟩;have p:Fm (λc=>a c=3) H2 H3:=Fm.then (S:=λc=>a c=3) om a2 om;have n23:=p.nx;simp only[np]at a3;have ht2:H3.get tb=TB l (s.enter x) E O:=(p.get tb w.lt λe=>by rw[w.ct]at e;cases e).trans w.get;have hs3:Gs 1 H3 E (s.enter x).stk.length (aJ (s.enter x).stk):=w.stk.keep n23 λc d X=>p.get c X λe=>by have:=w.stc c d;rw[e]at this;cases this
    refine y _ _ (s.enter x) ((M++[(u,i+1)])++[(x,0)]) (zY a H2 3) ⟨⟨l,E,O,cs2,w.step p om (λc d=>h8 d) ht2 hs3 (λc d=>by rw[h8 (w.stk.lt d)];exact w.stc c d) rfl⟩,tE,?_,?_⟩ (hle.trans (Le.enter s R)) ?_
    ·rw[v6]
     grind
    ·intro c d;rcases a3 c d with g|g
     ·rw[h8 (gF2.lt g)];exact hv3 c g
     ·exact E8 om
    ·show 2*(N-(s.cnt+1))+((M++[(u,i+1)])++[(x,0)]).length<_
     grind
   ·refine gW vx nr R ?_;have L:0<s.num x:=om;have tL:=q.look hk L;unfold Oy;have hfr:∀i',(M++[(u,i')]).length=M.length+1:=om;cases T:s.on x with
    |false=>
     have P:s.look u x=s:=by unfold TS.look;rw[T];rfl
     rw[P]at tL;refine jF vx nr D T ?_;refine Pq U Q W y G k (i+1) s col _ om ⟨⟨nx,sv,ov,cs,m⟩,tL,?_,hW.fc⟩ hle hcnt;simp_all
    |true=>
     have P:s.look u x={s with low:=upd s.low u (min (s.low u) (s.num x))}:=by unfold TS.look;rw[T];rfl
     have r0:cB ((H.put fb B).get fb) V=.val (.int .i64 (.ofNat u)):=by obtain⟨b3,o3,e7,e8,e9,e10,_⟩:=gF.aDF;simp_all
     rw[gX]at r0;refine dG vx nr D T r0 Yn bf ?_;rw[<-P];have fT:Fm (λc=>c=tb\/col c=3) (H.put fb B) ((H.put fb B).put tb (TB nx (s.look u x) sv ov)):=(Fm.refl _ _).put _ _ om;refine Pq U Q W y G k (i+1) (s.look u x) col _ om ⟨⟨nx,sv,ov,cs,m.step fT om om om ?_ f.stc om⟩,tL,?_,hW.fc⟩ (hle.trans (Le.look s u x)) om
     ·have:(s.look u x).stk=s.stk:=by rw[P]
      rw[this];exact m.stk.keep om λc d _=>jR _ _ _ _ λe=>by have t:=f.stc c d;rw[e,f.ct]at t;cases t
     ·grind
  ·simp(disch:=omega)only[go_sem,vx,nr,e4,e5,g1,n3,hi,bf]
   grind
theorem zth{α:Type}(f:Nat->α)(i:Nat):upd f i (f i)=f:=funext λj=>by
 by_cases e:j=i
 ·rw[e,ac]
 ·rw[aE _ _ e]
theorem zum{b:List Nat}(d:E.Perm b)(e:b.Nodup)(h:E.Pairwise (· <= ·)):E.Pairwise (· < ·):=by have c:E.Pairwise (· ≠ ·):=om;exact(h.and c).imp om
def aOG(H0:Hp)(N:Nat)(a:Nat->List Nat)(s:TS)(l:List (Nat×Nat))(u tb:Nat)(v:AV)(H1:Hp):Prop:=
 ∃(s1:TS) (yD:Nat->Nat),TM H0 a s1 yD tb H1/\Gs 2 H1 v (l.length+1) (cD (l++[(u,(a u).length)]))/\(∀c,In v c->yD c=3)/\(l=[]->TI N a s1 []) /\
  (∀l' up jj,l=l'++[(up,jj)]->up<256/\TI N a {s1 with low:=upd s1.low up (min (s1.low up) (s1.low u))} l)/\Le s s1/\s1.cnt=s.cnt
theorem z1f(s:qM C)(J:pP C)(K:pZ LA LO C)(L:300<=j)(l:tw N aV){u:Nat}(b:WS H0 N aV I (M++[(u,(aV u).length)]) col tb iv H):Ok (C j (.f 327) [.ptr tb 0,.int .i64 (.ofNat u)] H) λr H1=>r=.aX []/\aOG H0 N aV I M u tb iv H1:=by
 have a:=b.ti;have t:(M++[(u,(aV u).length)]).length=M.length+1:=om;have w:=b.fr;rw[t]at w;have y:u∈I.stk:=a.nW om;have O:=l.le;have P:∀x∈I.stk,x<256:=λx q=>AE (a.nT x q) O;have z:∀{n up p},M=n++[(up,p)]->up∈dK M:=λ{n up p} e=>by rw[e,ew];simp
 have Q:∀{x},x∈dK M->x∈I.stk:=λ{x} q=>a.nW (by rw[ew];exact uw _ q);by_cases m:I.low u<I.num u
 ·refine⟨_,_,zu7 om b.tm om m,rfl,I,col,b.tm,w,b.fc,λe=>?_,λn up p e=>?_,Le.refl _,rfl⟩
  ·subst e;exact absurd m a.root
  ·subst e;exact⟨om,a.pop m⟩
 ·obtain⟨pre,post,E⟩:=List.append_of_mem y;have g:=a.nd;rw[E]at g;have i:u∉pre:=om;have f:=(lI2.1 g).2.1;have R:=a.qR;have S:=a.mW;have A:I.stk.length<=256:=om;have B:I.out.length<=256:=by
   have T:I.out.length<=I.out.flatten.length:=by
    have:∀(o:List (List Nat)),(∀c∈o,c≠[])->o.length<=o.flatten.length:=λo=>by
     induction o with
     |nil=>intro _;exact AF _
     |cons c o ih=>
      intro h;have T:=ih λc d=>h c (DQ _ d);have h2:0<c.length:=om
      grind
    refine this _ λc d e=>?_;obtain⟨_,r,hr,_⟩:=a.qU c d;simp_all
   omega
  refine(zl9 s J K L b.tm om m E i A P B).mono ?_;rintro r H1 ⟨rfl,comp,F,k,G,Y,Z,c4,t1,f1⟩;have U:=a.leave m E G (zum G f Y) F Z;refine⟨rfl,_,k,t1,?_,?_,?_,?_,⟨om,om⟩,rfl⟩
  ·obtain⟨_,_,_,_,hM⟩:=b.tm;exact w.fm f1 λc d=>by
    rintro (e|e)
    ·have:=b.fc c d;rw[e,hM.ct]at this;cases this
    ·have:=b.fc c d;rw[e]at this;cases this
  ·exact λc d=>(c4 c om).trans (b.fc c d)
  ·grind
  ·intro n up p e;have D:=z e;refine⟨om,?_⟩;have V:=a.top D;have W:=a.lK up om;have X:min (I.low up) (I.low u)=I.low up:=lh om;rw[X,zth];exact U
theorem ztd(hO:qM C)(hS:pP C)(hR:pZ LA LO C)(hj:300<=j)(G:tw N aV){u fb V:Nat}{g3:pD}(hp:aG 2 iv (.int .i64 (.ofNat M.length))=.val (.ptr fb V))(n:WS H0 N aV s0 (M++[(u,(aV u).length)]) col tb iv H)(W:∀X H' I w,WS H0 N aV I M w tb X H'->Le s0 I->I.cnt=s0.cnt->Ok (g3 X H') F):Ok (Hh (C j) g3 (.ptr tb 0) iv (.ptr fb V) H) F:=by
 unfold Hh;have J:(M++[(u,(aV u).length)]).length=M.length+1:=by simp
 have Y:=n.fr;rw[J]at Y;obtain⟨b,o,e1,e2,e3,e4,e5,_⟩:=Y.aDF;rw[hp]at e1;cases e1;have Z:M.length<=256:=by have f:=n.ti.aA7;have h2:=n.ti.mW;have h3:=n.ti.qR;have h4:=G.le;omega
 have bRB:u<256:=by have:=n.ti.nT u (n.ti.nW (by rw[ew];simp));have:=G.le;omega
 simp only[go_sem,vx,nr,e4,bf];refine Ok.ve (z1f hO hS hR hj G n) ?_;rintro r H1 ⟨rfl,a,E,⟨nx,sv,ov,cs,g⟩,z,O,h0,f,q,m⟩;have g1:=g.get;have B:=z.bF;obtain⟨P,R,S,T,D,Q,e9⟩:=z.upto (k:=M.length) om om;have K:(cD (M++[(u,(aV u).length)])).take (M.length*2)=cD M:=by rw[v6,xm (by rw[Fa];exact AF _),AQ (by rw[Fa];exact AF _)]
 rw[K]at Q;have p:∀c,In (.sl P R M.length S T) c->E c=3:=λc t=>O c (e9 c t);rcases List.eq_nil_or_concat M with rfl|⟨A,⟨up,jj⟩,d⟩
 ·have D:kM 2 iv none (some (.int .i64 (.ofNat 0))) none=.val (.sl P R 0 S T):=D;have B:aD iv=.val (.int .i64 (.ofNat 1)):=B;refine jF vx nr B D ?_;exact W _ H1 a E ⟨⟨nx,sv,ov,cs,g⟩,h0 rfl,Q,p⟩ q m
 ·rw[List.concat_eq_append]at d;obtain⟨bT5,U⟩:=f A up jj d;have hll:M.length=A.length+1:=by rw[d];simp
  have x:=Q;rw[d,nj]at x;obtain⟨b6,o6,k1,k2,k3,k4,k5,_⟩:=Gs.aDF (l:=A) (u:=up) (i:=jj) x;have y:0<M.length:=om;have L:M.length-1=A.length:=om;have l:aG 2 (.sl P R M.length S T) (.int .i64 (.ofNat A.length))=.val (.ptr b6 o6):=by simp_all
  simp(disch:=go_size)only[go_sem,rB,rI,rK,rL,rN,rS,r6,vx,nr,B,D,y,L,l,k4,g1,Yn,bf,xF];have fT:Fm (λc=>c=tb\/E c=3) H1 (H1.put tb (TB nx {a with low:=upd a.low up (min (a.low up) (a.low u))} sv ov)):=(Fm.refl _ _).put _ _ λ_=>Or.inl rfl;refine W _ _ {a with low:=upd a.low up (min (a.low up) (a.low u))} E ⟨⟨nx,sv,ov,cs,g.step fT (λc _ h=>h.imp id Or.inr) (λ_ _=>rfl) (gX _ _ _) ?_ g.stc rfl⟩,U,?_,p⟩ ⟨q.1,q.2⟩ m
  ·exact g.stk.keep (AF _) λc t _=>jR _ _ _ _ λe=>by have f:=g.stc c t;rw[e,g.ct]at f;cases f
  ·exact Q.keep (AF _) λc t _=>jR _ _ _ _ λe=>by have f:=p c t;rw[e,g.ct]at f;cases f
theorem MO(r:qM C)(t:pP C)(w:pZ LA LO C)(x:300<=j)(e:tw N aV){s0:TS}(y:∀H' g a,TM H0 aV g a tb H'->TI N aV g []->Le s0 g->Ok (zR H') F):∀(k:Nat) (v:AV) (H:Hp) (s:TS) (f:List (Nat×Nat)) (col:Nat->Nat),2*(N-s.cnt)+f.length<k->WS H0 N aV s f col tb v H->Le s0 s -> Ok (ze (C j) zR (.ptr tb 0) k v H) F
 |0,v,H,s,f,col,h,_,_=>om
 |k+1,v,H,s,f,col,h,hW,hle=>by
  show Ok (Oz (C j) _ _ (ze (C j) _ _ k) _ H) F;unfold Oz;have n:=hW.fr.bF;rcases List.eq_nil_or_concat f with rfl|⟨l,⟨u,i⟩,E⟩
  ·have n:aD v=.val (.int .i64 (.ofNat 0)):=n;simp only[go_sem,vx,nr,n];exact y H s col hW.tm hW.ti hle
  ·rw[List.concat_eq_append]at E;have p:f.length=l.length+1:=by rw[E];simp
   rw[p]at n h;have G:l.length<=256:=by have T:=hW.ti.aA7;have U:=hW.ti.mW;have V:=hW.ti.qR;have W:=e.le;omega
   have I:0<l.length+1:=om;unfold Q2;have D:=hW.fr;rw[p]at D;rw[E]at D hW;obtain⟨b,o,Q,k2,k3,X,Y,_⟩:=D.aDF;refine lW vx nr n Q xF ?_;rw[dD];have R:=e.len u;refine Pq om e Q (λJ H' g z a d c S=>?_) (λH' g a d c K=>?_) bT i s col H lf hW (Le.refl s) rfl
   ·exact MO r t w x e y k J H' g z a om d (hle.trans c)
   ·refine ztd r t w x e Q d λL M O A B m P=>?_;exact MO r t w x e y k L M O l A om B ((hle.trans c).trans m)
theorem ztk(o:qM C)(p:pP C)(q:pZ LA LO C){k:Nat}(t:301<=k)(m:tw N aV)(u:TM H0 aV I col tb H)(i:TI N aV I []){r:Nat}(w:r<N)(n:I.num r=0):Ok (C k (.f 307) [.ptr tb 0,.int .i64 (.ofNat r)] H) λv H'=>v=.aX []/\∃b a,TM H0 aV b a tb H'/\TI N aV b []/\Le I b/\0<b.num r:=by
 obtain⟨j,rfl⟩:=aO t;rw[lk (zro ..)];have G:=m.le;have A:=i.qR;have B:=i.mW;refine Ok.ve (Yu (k:=j) om u (v:=r) om om om) ?_;rintro x H1 ⟨rfl,F,s,⟨nx,sv,ov,cs,d⟩,J⟩;unfold Q1;rw[dD];have D:TI N aV (I.enter r) ([]++[(r,0)]):=i.enter n w (Or.inl ⟨rfl,rfl⟩);have l:Fm No H1 (aH H1 (aB 0 [.int .i64 (.ofNat r),.int .i64 (.ofNat 0)])):=(Fm.refl _ _).push _;have E:WS H0 N aV (I.enter r) ([]++[(r,0)]) (zY F H1 3) tb (.sl H1.nx 0 1 1 true) (aH H1 (aB 0 [.int .i64 (.ofNat r),.int .i64 (.ofNat 0)])):=by refine⟨⟨nx,sv,ov,cs,d.step l (λc _ h=>h.elim) (λc g=>h8 g) ((l.keep d.lt).trans d.get) (d.stk.fm l λ_ _ h=>h) (λc g=>by rw[h8 (d.stk.lt g)];exact d.stc c g) rfl⟩,D,⟨rfl,.inr ⟨H1.nx,0,1,true,0,_,rfl,AF _,uR _ _,rfl,rfl,Or.inl rfl,qh _⟩⟩,?_⟩;rintro c ⟨_,_,_,_,e⟩;cases e;exact E8 (AF _)
 refine MO o p q om m (s0:=I.enter r) (λH' b a y z f=>?_) bT _ _ (I.enter r) ([]++[(r,0)]) _ ?_ E (Le.refl _)
 ·exact Ok.ret ⟨rfl,b,a,y,z,(Le.enter I n).trans f,f.1 r (by show 0<upd I.num r (I.cnt+1) r;rw[ac];omega)⟩
 ·rw[rO];show 2*(N-(I.cnt+1))+1<1000000;omega
def bx(es:List Edge)(u:Nat):List Nat:=(es.filter λe=>decide (e.f=u)).map Edge.t
theorem zc1(es:List Edge)(e:Edge)(u:Nat):bx (es++[e]) u=if e.f=u then bx es u++[e.t]else bx es u:=by
 unfold bx
 grind
theorem Qw(es:List Edge)(u:Nat):(bx es u).length<=es.length:=by
 unfold bx
 grind
variable{h:List Edge}
theorem qed:b∈bx h N↔∃e∈h,e.f=N/\e.t=b:=by
 unfold bx
 grind
def p0:TS:=⟨λ_=>0,λ_=>0,λ_=>false,[],0,[]⟩
theorem TB0:aB 0 (List.replicate 256 (.aA)++List.replicate 512 (.int .i64 (.ofNat 0))++List.replicate 256 (.bool false)++[.aA]++[.int .i64 (.ofNat 0)]++[.aA])=TB (λ_=>.aA) p0 .aA .aA:=by
 refine congrArg (aB 0) ?_
 kernel_rfl
theorem S7(j:h.length<200000)(t:lX H0 iv h)(y:∀e∈h,e.f<256/\e.t<256)(A:∀H nx col,TMd H0 (bx h) p0 col tb H nx .aA .aA []->Ok (zR H) F):∀(k i:Nat) (H:Hp) (nx:Nat->AV) (col:Nat->Nat),h.length-i<k->i<=h.length->TMd H0 (bx (h.take i)) p0 col tb H nx .aA .aA [] -> Ok (Hl O zR (.ptr tb 0) iv (.int .i64 (.ofNat h.length)) k (.int .i64 (.ofNat i)) H) F
 |0,i,H,nx,col,es,_,_=>om
 |k+1,i,H,nx,col,es,hi,hM=>by
  show Ok (JN O _ _ _ _ (Hl O _ _ _ _ k) _ H) F;unfold JN;by_cases d:i<h.length
  ·simp only[go_sem,vx,nr,d];unfold OC;obtain⟨b,o,K,S,L⟩:=(t.fm hM.fm).at d;obtain⟨M,T⟩:=y h[i] om;obtain⟨N,z⟩:=hM.nxt h[i].f M;have g1:=hM.get;have l:=hM.lt;have D:=Qw (h.take i) h[i].f;have E:(h.take i).length<=h.length:=om;simp(disch:=first|omega|exact ti rfl)only[go_sem,seval,vx,nr,K,L,Edge.cells,g1,nk,DP];have Q:Fm No H (Hp.put ⟨((aH H (aB 0 [.int .i64 (.ofNat 0),.int .i64 (.ofNat 0),.bool false])).put H.nx (aB 0 [.int .i64 (.ofNat h[i].f),.int .i64 (.ofNat h[i].t),.bool h[i].s])).t,H.nx+1+14⟩ (H.nx+1+9) (aB 0 [.int .i64 (.ofNat h[i].t)])):=by(repeat(first|exact Fm.refl _ _|assumption|refine Fm.push ?_ _|refine Fm.up2 ?_ om|refine Fm.aN ?_ _ _ om))
   obtain⟨H',e,r,_,s,nx'⟩:=(N.no Q).append (k:=1) (w:=8) (x:=[.int .i64 (.ofNat h[i].t)]) om rfl om om;refine Ok.vH e ?_;have m:¬In (nx h[i].f) tb:=λB=>by have:=z tb B;rw[hM.ct]at this;omega
   have G:H'.get tb=TB nx p0 .aA .aA:=(s.get tb om m).trans om;have I:Fm (In (nx h[i].f)) H H':=om;have k2:H'.get H.nx=aB 0 [.int .i64 (.ofNat h[i].f),.int .i64 (.ofNat h[i].t),.bool h[i].s]:=om;simp only[go_sem,seval,vx,nr,G,k2];unfold yG;refine dS vx nr ?_;have n:h.take (i+1)=h.take i++[h[i]]:=nh d;refine S7 j t y A k (i+1) _ (upd nx h[i].f (.sl (H.nx+1+14) 0 ((bx (h.take i) h[i].f).length+1) ((bx (h.take i) h[i].f).length+1) false)) (zY col H (10+h[i].f)) om om ?_;have p:Fm (λc=>c=tb\/In (nx h[i].f) c) H (H'.put tb (TB (upd nx h[i].f (.sl (H.nx+1+14) 0 ((bx (h.take i) h[i].f).length+1) ((bx (h.take i) h[i].f).length+1) false)) p0 .aA .aA)):=(I.mono om).put _ _ om;exact{
    fm:=hM.fm.then p λc a es=>by
     rcases es with es|es
     ·have:=hM.ge;omega
     ·have:=z c es;rw[hM.base c a]at this;omega
    base:=λc a=>(h8 (AE a hM.fm.nx)).trans (hM.base c a)
    ge:=hM.ge
    lt:=AE l p.nx
    ct:=(h8 l).trans hM.ct
    get:=gX _ _ _
    nxt:=λu C=>by
     rw[n,zc1];by_cases f:h[i].f=u
     ·subst f;rw[sB rfl,ac];refine⟨?_,?_⟩
      ·have J:aJ (bx (h.take i) h[i].f++[h[i].t])=aJ (bx (h.take i) h[i].f)++[.int .i64 (.ofNat h[i].t)]:=by simp[aJ]
       rw[J,nj];refine r.keep om λc a _=>jR _ _ _ _ ?_;obtain⟨_,_,_,_,g⟩:=a
       grind
      ·rintro c ⟨_,_,_,_,g⟩;cases g;exact E8 om
     ·rw[sy f,aE _ _ λe=>f e.symm];obtain⟨P,R⟩:=hM.nxt u C;refine⟨P.fm p λc a es=>?_,λc a=>(h8 om).trans om⟩;rcases es with es|es
      ·have:=R c a;rw[es,hM.ct]at this;omega
      ·grind
    stk:=Gs.nil _ _
    stc:=λc a=>by obtain⟨_,_,_,_,g⟩:=a;cases g
    out:=Gl.nil _ _
    ouc:=λc a=>by obtain⟨_,_,_,_,g⟩:=a;cases g
    css:=⟨rfl,om⟩}
  ·simp only[go_sem,vx,nr,d]
   grind
structure qdt(N:Nat)(aV:Nat->List Nat)(out:List (List Nat)):Prop where
 scc:∀c∈out,c.Pairwise (· < ·)/\∃r∈c,∀x,x∈c↔Rc aV r x/\Rc aV x r
 nd:out.flatten.Nodup
 all:∀x,x∈out.flatten↔x<N
structure oZ(H0 H:Hp)(v:AV)(cs:List AV)(out:List (List Nat)):Prop where
 gl:Gl 1 H v cs.length cs
 len:cs.length=out.length
 new:∀b,In v b->H0.nx<=b
 at':∀(i:Nat) (c:AV) (o:List Nat),cs[i]? =some c->out[i]? =some o->(∃b q n m e,c=.sl b q n m e)/\Gl 1 H c o.length (aJ o)/\∀b,In c b->H0.nx<=b/\¬In v b
theorem LJ(d:qM C)(f:pP C)(g:pZ LA LO C){j:Nat}(l:301<=j)(c:tw N aV)(o:∀H s col,TM H0 aV s col tb H->TI N aV s []->(∀x,x<N->0<s.num x)->Ok (zR H) F):∀(k i:Nat) (H:Hp) (s:TS) (col:Nat->Nat),N-i<k->i<=N->TM H0 aV s col tb H->TI N aV s []->(∀x,x<i->0<s.num x) -> Ok (Ep (C j) zR (.ptr tb 0) (.int .i64 (.ofNat N)) k (.int .i64 (.ofNat i)) H) F
 |0,i,H,s,col,h,_,_,_,_=>om
 |k+1,i,H,s,col,h,hi,hM,hT,hx=>by
  show Ok (ZZ (C j) _ _ _ (Ep (C j) _ _ _ k) _ H) F;unfold ZZ;have w:=c.le;by_cases a:i<N
  ·simp only[go_sem,vx,nr,a];unfold OD;have g1:∃nx sv ov,H.get tb=TB nx s sv ov:=by obtain⟨nx,sv,ov,cs,h⟩:=hM;exact⟨nx,sv,ov,h.get⟩
   obtain⟨nx,sv,ov,g1⟩:=g1;by_cases n:s.num i=0
   ·refine jF vx nr g1 n ?_;refine Ok.ve (ztk d f g l c hM hT a n) ?_;rintro r H' ⟨rfl,t,b,u,v,m,y⟩;unfold zj;refine dS vx nr ?_;exact LJ d f g l c o k (i+1) H' t b om om u v λx p=>by
     by_cases e:x=i
     ·simp_all
     ·exact m.1 x om
   ·refine jF vx nr g1 n ?_;unfold zj;refine dS vx nr ?_;exact LJ d f g l c o k (i+1) H s col om om hM hT om
  ·simp only[go_sem,vx,nr,a]
   grind
theorem TI.parts(h:TI N aV s0 [])(b:∀x,x<N->0<s0.num x):qdt N aV s0.out:=by refine⟨h.qU,h.qO,λx=>⟨λa=>(h.nL x a).2.2,λa=>?_⟩⟩;have:=h.vis x om;rw[h.empty]at this;simp_all
theorem zun(E:qM C)(F:pP C)(G:pZ LA LO C){k:Nat}(q:302<=k)(I:n<=256)(a:h.length<200000)(J:∀e∈h,e.f<n/\e.t<n)(K:lX H iv h):Ok (C k (.f 279) [.agg [.int .i64 (.ofNat n),iv]] H) λr H'=>∃cs out,qdt n (bx h) out/\oZ H H' r cs out/\Fm No H H':=by
 obtain⟨j,rfl⟩:=aO q;rw[lk (zr1 ..)];unfold Xe;have z:=K.len;refine jF vx nr z TB0 ?_;rw[dD];generalize V:aH H (aB 0 [.int .i64 (.ofNat n),iv])=H1;have N:H1.nx=H.nx+1:=om;have O:Fm No H H1:=om;have g1:H1.get H.nx=aB 0 [.int .i64 (.ofNat n),iv]:=om;have A:TMd H1 (bx (h.take 0)) p0 (λb=>if b<H1.nx then 9 else 0) (H.nx+1) (aH H1 (TB (λ_=>.aA) p0 .aA .aA)) (λ_=>.aA) .aA .aA []:={
  fm:=(Fm.refl _ _).push _
  base:=om
  ge:=om
  lt:=by rw[np];omega
  ct:=sy om
  get:=by rw[<-N];exact uR _ _
  nxt:=λu _=>⟨Gl.nil _ _,λc f=>by obtain⟨_,_,_,_,g⟩:=f;cases g⟩
  stk:=Gs.nil _ _
  stc:=λc f=>by obtain⟨_,_,_,_,g⟩:=f;cases g
  out:=Gl.nil _ _
  ouc:=λc f=>by obtain⟨_,_,_,_,g⟩:=f;cases g
  css:=⟨rfl,om⟩}
 have P:tw n (bx h):=⟨I,λu k q=>by obtain⟨e,Q,_,rfl⟩:=qed.1 q;exact(J e Q).2,λu=>yf (Qw h u) a⟩;refine S7 a om om (λB nx col D=>?_) bT 0 _ _ _ lf om A;unfold Kf;have g2:B.get H.nx=aB 0 [.int .i64 (.ofNat n),iv]:=(D.fm.keep om).trans g1;simp only[go_sem,vx,nr,g2];rw[dD];refine LJ E F G (j:=j) om P (λW s t w x L=>?_) bT 0 B p0 col lf om ⟨_,_,_,_,D⟩ (TI.init _ _) om;unfold ZY;obtain⟨R,sv,ov,cs,d⟩:=w;have g3:=d.get;simp only[go_sem,vx,nr,g3];have m:∀{b c:Nat},c≠9->t b=c->H.nx<=b:=λ{b c} f es=>by
  rcases lu b H1.nx with l|l
  ·have:=d.base b l;omega
  ·omega
 refine Ok.ret ⟨cs,s.out,TI.parts x L,⟨d.out,d.css.len,λb l=>m (c:=4) om (d.ouc b l),λi c o p M=>?_⟩,O.trans d.fm⟩;obtain⟨S,T,U⟩:=d.css.at' i c o p M;exact⟨S,T,λb l=>⟨om,λy=>by have p:=U b l;rw[d.ouc b y]at p;cases p⟩⟩
open Go.Sort
variable {m:Nat} {gv:AV} {ins:List Nat}
structure Cv where
 b:Nat
 q:Nat
 n:Nat
 m:Nat
 e:Bool
 o:List Nat
def Cv.v(c:Cv):AV:=.sl c.b c.q c.n c.m c.e
theorem Cv.ex:∀(cs:List AV) (out:List (List Nat)),cs.length=out.length->(∀(i:Nat) (c:AV) (o:List Nat),cs[i]? =some c->out[i]? =some o->∃b q n m e,c=.sl b q n m e)->∃a:List Cv,a.map Cv.v=cs/\a.map Cv.o=out
 | [],[],_,_=>⟨[],rfl,rfl⟩
 | [],_::_,h,_=>by simp at h
 |_::_,[],h,_=>by simp at h
 |c::cs,o::out,h,hp=>by obtain⟨a,d,f⟩:=Cv.ex cs out om λi c o g1 g2=>hp (i+1) c o om om;obtain⟨b,q,n,m,e,rfl⟩:=hp 0 c o rfl rfl;exact⟨⟨b,q,n,m,e,o⟩::a,by simp[d,Cv.v],om⟩
def DK(l:List Nat):Int:=.ofNat (l.headD 0)
theorem UR{H:Hp}:∀{l:List AV} {zs:List Int},l.length=zs.length->(∀i (h:i<l.length) (a:i<zs.length),ck H l[i]=some zs[i])->uV H l=some zs
 | [],[],_,_=>rfl
 | [],_::_,h,_=>by simp at h
 |_::_,[],h,_=>by simp at h
 |v::l,z::zs,h,k=>by unfold uV;have b:ck H v=some z:=k 0 g3 g3;rw[b,UR (l:=l) (zs:=zs) (by simpa using h) λi h a=>k (i+1) (by simpa using h) (by simpa using a)]
theorem zvc{x:Bool}{z:Int}(a:0<n)(h:cB (H.get b) o=.val (.int .i64 z)):ck H (.sl b o n m x)=some z:=by unfold ck;simp only[blt_eq,j7 a,AN,h]
theorem q4s(zs:List Int)(h:0<zs.length):(eD zs h).toList.Perm (List.finRange zs.length):=by
 letI:Inhabited (Fin zs.length):=⟨⟨0,h⟩⟩
 have c:SWO (u9 zs):={
  irrefl:=λx=>by unfold u9;simp
  trans:=λx y z=>by unfold u9;simp only[mE];omega
  ntrans:=λx y z=>by unfold u9;simp only[oq];omega}
 obtain⟨⟨a,_,b⟩,_⟩:=pdq_sorts (u9 zs) c (Array.finRange zs.length) 0 (Array.finRange zs.length).size (Go.Lib.bitLen (Array.finRange zs.length).size) true true om om (Or.inl rfl);change (eD zs h).size=_ at a;change ((eD zs h).extract _ _).toList.Perm _ at b;rw[show(eD zs h).extract 0 (Array.finRange zs.length).size=eD zs h by rw[<-a];exact Array.extract_size,show(Array.finRange zs.length).extract 0 (Array.finRange zs.length).size=Array.finRange zs.length from Array.extract_size]at b;have d:(Array.finRange zs.length).toList=List.finRange zs.length:=Array.toList_ofFn
 grind
theorem zwh(W:pP C){k:Nat}(s:oZ H0 H gv cs D)(hn:cs.length<900000)(X:1<=cs.length)(hk:1<=k)(Y:∀o∈D,o≠[]/\∀x∈o,x<1000):Ok (C k (.f 304) [gv,.fn 305 [] []] H) λr H'=>r=.aX []/\∃t g,g.Perm D/\oZ H0 H' gv t g/\(∀c∈t,c∈cs)/\Fm (In gv) H H':=by
 obtain⟨k,rfl⟩:∃j,k=j+1:=⟨k-1,om⟩;obtain⟨d,cA2,bXb⟩:=Cv.ex cs D s.len λi c o g1 g2=>(s.at' i c o g1 g2).1;have hel:d.length=cs.length:=om;have u:∀c∈d,Gl 1 H c.v c.o.length (aJ c.o)/\∀b,In c.v b->H0.nx<=b/\¬In gv b:=λc m=>by obtain⟨i,out,rfl⟩:=ku m;exact(s.at' i d[i].v d[i].o om om).2
 have w:∀c∈d,c.o≠[]/\∀x∈c.o,x<1000:=om;rcases s.gl.is with⟨_,h0⟩|⟨b,o,e,q,L,rfl,g1,g2,g3,g4,g5⟩
 ·omega
 have hLl:L.length=o+cs.length:=om
 let zs:List Int:=d.map λc=>DK c.o
 have hzl:zs.length=d.length:=om;have f:0<zs.length:=om;have I:∀i (h:i<zs.length),zs[i]=DK (d[i]'om).o:=om;have J:Jc zs:=⟨f,om,λz Z=>by
  obtain⟨c,m,rfl⟩:=lEA.1 Z;obtain⟨E,x2⟩:=w c m;unfold DK;cases p:c.o with
  |nil=>exact absurd p E
  |cons a l=>rw[p]at x2;have:=x2 a vA;simp only[List.headD_cons,qf];omega⟩
 have K:uV (H.put b .dead) cs=some zs:=UR om λi h h'=>by
  have B:d[i]'om∈d:=om;obtain⟨F,k2⟩:=u _ B;obtain⟨E,_⟩:=w _ B;have M:cs[i]=(d[i]'om).v:=om;rw[M,I i h'];generalize d[i]'om=c at F k2 E;unfold DK;cases p:c.o with
  |nil=>exact absurd p E
  |cons a l=>
   rw[p]at F;obtain⟨b1,o1,G,_,e2,e3⟩:=Gl.head F;unfold Cv.v at G k2 ⊢;have hcn:c.n=l.length+1:=by
    have n:=F.bF;unfold Cv.v at n;have T:R0.val (.int .i64 (.ofNat c.n))=R0.val (.int .i64 (.ofNat (a::l).length)):=n
    grind
   rw[sD _ _ _ _ _ _ _ _ om]at G;simp only[R0.val.injEq,AV.ptr.injEq]at G;obtain⟨rfl,rfl⟩:=G;have hcb:c.b≠b:=λe'=>(k2 c.b ⟨_,_,_,_,rfl⟩).2 ⟨_,_,_,_,by rw[e']⟩;refine zvc om ?_
   grind
 let ix:Fin zs.length->Cv:=λi=>d[i.1]'(by have:=i.2;omega)
 have U:=q4s zs f;have N:((eD zs f).toList.map ix).Perm d:=by
  have X:=U.map ix;have n:(List.finRange zs.length).map ix=d:=by
   apply List.ext_getElem
   ·grind
   ·grind
  grind
 have V:((eD zs f).toList.map λi:Fin zs.length=>cs.getD i.1 .undef)=((eD zs f).toList.map ix).map Cv.v:=by
  rw[lL];refine qy λi _=>?_;have out:=i.2;rw[vt,j0 om]
  grind
 have O:(eD zs f).size=zs.length:=by have:=U.length_eq;simpa using this
 generalize hR:(eD zs f).toList.map ix=R at N V;have y:(R.map Cv.v).length=cs.length:=om;have P:storeAt H b o (R.map Cv.v) (.aX [])=.ok (.aX []) (H.put b (aB q (aY L o (R.map Cv.v)))):=h7 _ _ _ _ _ _ _ g1 om;have hr:uJ H b o cs.length=some (.ok (.aX []) (H.put b (aB q (aY L o (R.map Cv.v))))):=by unfold uJ;rw[g1,y7,sB om,g3,AQ (AF _)];simp only[K,dif_pos J,V,P];rw[O,uo];rfl
 rw[(W k).aXQ _ _ _ _ _ _ _ hr];have A:aY L o (R.map Cv.v)=L.take o++R.map Cv.v:=by
  unfold aY
  grind
 have Q:(R.map Cv.o).Perm D:=om;have hF:Fm (In (.sl b o cs.length cs.length e)) H (H.put b (aB q (aY L o (R.map Cv.v)))):=(Fm.refl _ _).put _ _ λ_=>⟨_,_,_,_,rfl⟩;have p:(L.take o).length=o:=om;refine Ok.ret ⟨rfl,R.map Cv.v,R.map Cv.o,Q,⟨?_,by simp,s.new,λi c o' n T=>?_⟩,λc m=>?_,hF⟩
 ·rw[A,y];refine⟨om,.inr ⟨b,o,e,q,_,rfl,gX _ _ _,?_,?_,g4,om⟩⟩
  ·grind
  ·grind
 ·have out:i<R.length:=by
   have:=(lAL.1 n).1
   grind
  have m:c=(R[i]).v:=by
   rw[AS,j0 out]at n
   grind
  have S:o'=(R[i]).o:=by
   rw[AS,j0 out]at T
   grind
  have B:R[i]∈d:=om;subst m;subst S;obtain⟨q1,q2⟩:=u _ B;exact⟨⟨_,_,_,_,_,rfl⟩,om,q2⟩
 ·grind
theorem zwi(a:pP C)(f:5<=N)(c:Gl 1 H gv n l)(d:n=0)(H:Hp):C N (.f 304) [gv,.fn 305 [] []] H=.ok (.aX []) H:=by
 obtain⟨N,rfl⟩:∃j,N=j+1:=⟨N-1,om⟩;rcases c.is with⟨rfl,_⟩|⟨b,o,e,q,L,rfl,_⟩
 ·exact(a N).aJc H
 ·subst d;exact(a N).aYb _ _ _ _ H
def fill(b:List Nat)(o:List Nat)(i:Nat):List Nat:=o.foldl (λa x=>a.set x i) b
def i9:List Nat->List (List Nat)->Nat->List Nat
 |ins,[],_=>ins
 |ins,o::r,i=>i9 (fill ins o i) r (i+1)
theorem tG(i:Nat):∀(o ins:List Nat),(fill ins o i).length=ins.length
 | [],ins=>rfl
 |x::o,ins=>by show(fill (ins.set x i) o i).length=_;rw[tG i o,iy]
theorem Tg:∀(out:List (List Nat)) (ins:List Nat) (i:Nat),(i9 ins out i).length=ins.length
 | [],_,_=>rfl
 |o::r,ins,i=>by rw[i9,Tg r,tG]
theorem Gd(i:Nat):∀(o ins:List Nat) (x:Nat),x<ins.length->(fill ins o i)[x]? =if x∈o then some i else ins[x]?
 | [],ins,x,h=>by simp[fill]
 |y::o,ins,x,h=>by
  show(fill (ins.set y i) o i)[x]? =_;rw[Gd i o _ x (by rw[iy];exact h)];by_cases a:x∈o
  ·simp[a]
  ·by_cases e:x=y
   ·simp_all
   ·have:¬y=x:=λh=>e h.symm;simp_all
theorem Th:∀(out:List (List Nat)) (ins:List Nat) (c i x:Nat) (o:List Nat),out.flatten.Nodup->out[i]? =some o->x∈o->x<ins.length->(i9 ins out c)[x]? =some (c+i)
 | [],_,_,_,_,_,_,h,_,_=>by simp at h
 |o'::r,ins,c,0,x,o,hn,h,a,b=>by
  simp at h;subst h;have d:∀(r:List (List Nat)) (ins:List Nat) (i:Nat),x<ins.length->x∉r.flatten->(i9 ins r i)[x]? =ins[x]? :=λr=>by
   induction r with
   |nil=>intros;rfl
   |cons o r ih=>intro ins i b a;rw[rf,lAJ,not_or]at a;rw[i9,ih _ _ (by rw[tG];exact b) a.2,Gd i o ins x b,sy a.1]
  rw[i9,d r _ _ (by rw[tG];exact b) ?_,Gd _ _ _ _ b,sB a,bf];intro e;rw[rf,lI2]at hn;exact hn.2.2 x a x e rfl
 |o'::r,ins,c,i+1,x,o,hn,h,a,b=>by
  rw[rf,lI2]at hn;rw[i9,Th r _ (c+1) i x o hn.2.1 (by simpa using h) a (by rw[tG];exact b)]
  grind
theorem zmw{H1:Hp}(p:Rl H1 gv (aJ E))(g:∀j b zR,j<E.length->aG 1 gv (.int .i64 (.ofNat j))=.val (.ptr b zR)->b≠tb)(l:E.length<900000)(r:∀x∈E,x<n)(d:H1.get N=aB 0 [.sl tb 0 n n true])(e:N≠tb)(f:N<H1.nx){fin:List Nat}(s:∀H,H.get tb=aB 0 (aJ fin)->Fm (λb=>b=tb) H1 H->Ok (zR H) F):∀(k j:Nat) (ins:List Nat) (H:Hp),E.length-j<k->j<=E.length->ins.length=n->H.get tb=aB 0 (aJ ins)->Fm (λb=>b=tb) H1 H->fill ins (E.drop j) i=fin -> Ok (Hk O zR (.ptr N 0) (.int .i64 (.ofNat i)) gv (.int .i64 (.ofNat E.length)) k (.int .i64 (.ofNat j)) H) F
 |0,j,ins,H,h,_,_,_,_,_=>om
 |k+1,j,ins,H,h,hj,hl,hg,hF,hf=>by
  show Ok (Kc O _ _ _ _ _ (Hk O _ _ _ _ _ k) _ H) F;unfold Kc;by_cases a:j<E.length
  ·obtain⟨b,B,y,z,t⟩:=p.at' j (by rw[oF];exact a);rw[tR]at t;have u:H.get b=H1.get b:=hF.get b z om;have v:H.get N=aB 0 [.sl tb 0 n n true]:=(hF.get N f e).trans d;have A:E[j]<n:=r _ om;simp only[go_sem,a];unfold ZW;have m:E[j]+1<=ins.length:=om;simp(disch:=omega)only[go_sem,seval,y,u,t,v,hg,vx,nr,nk,DP,oF,m,ai];unfold ZX;refine aS ?_;have w:E.drop j=E[j]::E.drop (j+1):=iP a;rw[Bs _ _ _ om];refine zmw p g l r d e f s k (j+1) (ins.set E[j] i) _ om om (by rw[iy];exact hl) (gX _ _ _) (hF.put _ _ λ_=>rfl) ?_;rw[w]at hf;exact hf
  ·simp only[go_sem,a];have:j=E.length:=om;subst this;rw[rq]at hf;subst hf;exact s H hg hF
theorem oZ.dR(h:oZ H0 H gv cs D)(f:Fm S H H')(e:∀b,H0.nx<=b->b<H.nx->¬S b):oZ H0 H' gv cs D:=
 ⟨h.gl.keep f.nx λb d a=>f.get b a (e b (h.new b d) a),h.len,h.new,λi c o g j=>by obtain⟨g1,g2,g3⟩:=h.at' i c o g j;exact⟨g1,g2.keep f.nx λb d a=>f.get b a (e b (g3 b d).1 a),g3⟩⟩
theorem oZ.no(h:oZ H0 H gv cs D)(f:Fm No H H'):oZ H0 H' gv cs D:=h.dR f λ_ _ _ h=>h
attribute [grind .] oZ.no
theorem Yr{ib nb n:Nat}(s:oZ H0 H' gv cs D)(t:H'.nx<=nb+2)(u:∀b,H0.nx<=b->b<H'.nx->b≠nb->True)(fin:∀b,In gv b->b≠nb)(a:∀(i:Nat) (c:AV) (b:Nat),cs[i]? =some c->In c b->b≠nb)(l:∀o∈D,o.length<900000/\∀x∈o,x<n)(w:D.length<900000)(m:H'.get ib=aB 0 [.sl nb 0 n n true])(d:ib≠nb)(p:ib<H'.nx)(Q:∀H,H.get nb=aB 0 (aJ E)->Fm (λb=>b=nb) H' H->Ok (zR H) F):∀(k i:Nat) (ins:List Nat) (H:Hp),D.length-i<k->i<=D.length->ins.length=n->H.get nb=aB 0 (aJ ins)->Fm (λb=>b=nb) H' H->i9 ins (D.drop i) i=E -> Ok (Cb O zR (.ptr ib 0) gv (.int .i64 (.ofNat D.length)) k (.int .i64 (.ofNat i)) H) F
 |0,i,ins,H,h,_,_,_,_,_=>om
 |k+1,i,ins,H,h,hi,hl,hg,hF,r=>by
  show Ok (Ke O _ _ _ _ (Cb O _ _ _ _ k) _ H) F;unfold Ke;have out:=s.len;by_cases g:i<D.length
  ·simp only[go_sem,g];unfold ZV;have y:Gl 1 H gv cs.length cs:=s.gl.fm hF om;obtain⟨b,R,M,_,_,N⟩:=y.at (i:=i) (x:=cs[i]) g3;obtain⟨⟨cb,S,T,U,V,P⟩,g2,g3⟩:=s.at' i cs[i] D[i] g3 g3;have f:Gl 1 H cs[i] D[i].length (aJ D[i]):=g2.fm hF λb G=>a i cs[i] b om G;have z:=f.bF;obtain⟨B,C⟩:=l D[i] om;simp only[go_sem,M,N,z];rw[dD];have A:H.get ib=aB 0 [.sl nb 0 n n true]:=(hF.get ib p d).trans m;have L:D.drop i=D[i]::D.drop (i+1):=iP g;refine zmw (H1:=H) f.rl (λj b zR I e=>a i cs[i] b om (f.aAT I e)) B C A d om (fin:=fill ins D[i] i) (λJ K k2=>?_) bT 0 ins H (by rw[rO];omega) om hl hg om rfl;unfold Kb;refine aS ?_;refine Yr s t u fin a l w m d p Q k (i+1) (fill ins D[i] i) J om om (by rw[tG];exact hl) K om ?_;rw[L]at r;exact r
  ·simp only[go_sem,g];have:i=D.length:=om;subst this;rw[rq]at r;have r:ins=E:=r;simp_all
theorem GG(n:Nat):List.replicate n (AV.int .i64 (.ofNat 0))=aJ (List.replicate n 0):=by simp[aJ]
structure I8(H0 H:Hp)(n:Nat)(gv v:AV)(cs:List AV)(out:List (List Nat))(ins:List Nat)(lb gb ib wb:Nat):Prop where
 l:H.get lb=aB 0 [v]
 g:H.get gb=aB 0 [.int .i64 (.ofNat n),gv]
 i:H.get ib=aB 0 [.sl wb 0 n n true]
 w:H.get wb=aB 0 (aJ ins)
 lt:lb<H.nx/\gb<H.nx/\ib<H.nx/\wb<H.nx
 ls:oZ H0 H v cs out
 il:ins.length=n
 ix:∀(i:Nat) (o:List Nat) (x:Nat),out[i]? =some o->x∈o->ins[x]? =some i
theorem zt5(R:pP C){k:Nat}(Y:920<=k){v:AV}(u:oZ H0 H v cs D)(hH:H0.nx<=H.nx)(hn:n<=256)(Z:D.length<=256)(A:∀o∈D,o≠[]/\o.length<=256/\∀x∈o,x<n)(B:D.flatten.Nodup):Ok (C k (.f 278) [.agg [.int .i64 (.ofNat n),gv],v] H) λr H'=>∃E F ib wb d a ins,r=.fn 306 [] [.ptr E 0,.ptr F 0,.ptr ib 0]/\a.Perm D /\ I8 H0 H' n gv v d a ins E F ib wb/\(∀c∈d,c∈cs)/\Fm (In v) H H'/\(H.nx<=E/\H.nx<=F/\H.nx<=ib/\H.nx<=wb):=by
 obtain⟨j,rfl⟩:=aO Y;rw[lk (zr0 ..)];unfold Xd;have T:=u.len;have hvs:∃m,pU 2 H.nx (.agg [.int .i64 (.ofNat n),gv])=.new (.ptr H.nx 0) (aB 0 [.int .i64 (.ofNat n),gv])/\m=aH H (aB 0 [.int .i64 (.ofNat n),gv]):=⟨_,rfl,rfl⟩
 have G:∀nm,lM nm v=.new (.ptr nm 0) (aB 0 [v]):=λnm=>by rcases u.gl.is with⟨rfl,_⟩|⟨b,o,e,q,L,rfl,_⟩<;>rfl
 refine dI G ?_;generalize t:aH (aH H (aB 0 [.int .i64 (.ofNat n),gv])) (aB 0 [v])=m;have n2:m.nx=H.nx+2:=by rw[<-t];rfl
 have I:Fm No H m:=by rw[<-t];exact((Fm.refl _ _).push _).push _
 have g2:m.get H.nx=aB 0 [.int .i64 (.ofNat n),gv]:=om;have l2:m.get (H.nx+1)=aB 0 [v]:=by rw[<-t];exact uR _ _
 have J:∀b,In v b->b<H.nx:=λb p=>u.gl.lt p;have l:Ok (C j (.f 304) [v,.fn 305 [] []] m) λr H'=>r=.aX []/\∃d a,a.Perm D/\oZ H0 H' v d a/\(∀c∈d,c∈cs)/\Fm (In v) m H':=by
  rcases Nat.eq_zero_or_pos cs.length with N|N
  ·rw[zwi R om u.gl N];have:D=[]:=lE5.1 om;subst this;exact Ok.ret ⟨rfl,cs,[],List.Perm.refl _,u.no I,λ_ h=>h,Fm.refl _ _⟩
  ·exact zwh R (u.no I) om N om (λo out=>⟨(A o out).1,λx h=>by have:=(A o out).2.2 x h;omega⟩)
 refine Ok.ve l ?_;rintro r f ⟨rfl,d,a,O,g,P,z⟩;have n3:=z.nx;have f23:Fm (In v) H f:=(I.mono om).trans z;have g3:f.get H.nx=aB 0 [.int .i64 (.ofNat n),gv]:=(z.get _ om om).trans g2;have l3:f.get (H.nx+1)=aB 0 [v]:=(z.get _ om λp=>by have:=J _ p;omega).trans l2;have w:=g.gl.bF;have s:=g.len;have hol:a.length=D.length:=O.length_eq;rw[s]at w;have U:=kP [.int .i64 (.ofNat 0)] 8 f.nx n om om;rw[iT,GG]at U;refine jF g3 l3 U w ?_;generalize y:(aH (aH f (aB 0 (aJ (List.replicate n 0)))) (aB 0 [.aA])).put (f.nx+1) (aB 0 [.sl f.nx 0 n n true])=H4;have n4:H4.nx=f.nx+2:=by rw[<-y];rfl
 have V:Fm No f H4:=om;have W:H4.get (f.nx+1)=aB 0 [.sl f.nx 0 n n true]:=by rw[<-y,gX]
 have a4:H4.get f.nx=aB 0 (aJ (List.replicate n 0)):=om;have K:H4.get (H.nx+1)=aB 0 [v]:=(V.keep om).trans l3;rw[dD];have M:=g.no V;refine Yr (n:=n) M (by omega) (om) (λb p=>by have:=g.gl.lt p;omega) (λi c b S p=>?_) (λo out=>?_) (by omega) W (by omega) (by omega) (λH5 k1 k2=>?_) bT 0 (List.replicate n 0) H4 (by rw[rO];omega) (vy _) (by simp) a4 (Fm.refl _ _) rfl
 ·have hi:=(lAL.1 S).1;obtain⟨_,Q,_⟩:=g.at' i c a[i] S (by simp);have:=Q.lt p;omega
 ·have:=A o om
  grind
 ·unfold Eo;have n5:=k2.nx;refine Ok.ret ⟨H.nx+1,H.nx,f.nx+1,f.nx,d,a,i9 (List.replicate n 0) (a.drop 0) 0,rfl,O,⟨?_,?_,?_,k1,⟨om,om,om,om⟩,?_,?_,?_⟩,P,?_,om,om,om,om⟩
  ·exact(k2.get _ om om).trans K
  ·grind
  ·exact(k2.get _ om om).trans W
  ·grind
  ·rw[Tg,xy]
  ·intro i o x X Q;have hm:o∈a:=sW X;have:=Th a (List.replicate n 0) 0 i x o (O.flatten.nodup_iff.2 B) X Q om;rw[pq,this,nr]
  ·grind
def aw(l:List Bool):List AV:=l.map .bool
theorem X9(l:List Bool):(aw l).length=l.length:=by simp[aw]
theorem zn5(l:List Bool)(i:Nat)(h:i<l.length):(aw l)[i]? =some (.bool l[i]):=by simp[aw,h]
theorem Mf(l:List Bool)(i:Nat)(d:Bool)(h:i<l.length):(aw l)[i]? =some (.bool (l.getD i d)):=by rw[zn5 l i h];simp[h]
theorem QS(l:List Bool)(i:Nat)(b:Bool)(h:i<l.length):aY (aw l) i [.bool b]=aw (l.set i b):=by unfold aY aw;rw[qj,List.set_eq_take_append_cons_drop,sB (by simpa using h)];simp
structure RS(D:Nat->Prop)(H:Hp)(n:Nat)(gv:AV)(es:List Edge)(v:AV)(cs:List AV)(ins:List Nat)(lb gb ib wb:Nat):Prop where
 l:H.get lb=aB 0 [v]
 g:H.get gb=aB 0 [.int .i64 (.ofNat n),gv]
 i:H.get ib=aB 0 [.sl wb 0 n n true]
 w:H.get wb=aB 0 (aJ ins)
 gl:Gl 1 H v cs.length cs
 e:lX H gv es
 lt:lb<H.nx/\gb<H.nx/\ib<H.nx/\wb<H.nx
 dl:D lb
 dg:D gb
 di:D ib
 dw:D wb
 dv:∀b,In v b->D b
 de:∀b,In gv b->D b
def RB(a v:AV)(c d ib wb b:Nat):Prop:=b=c\/b=d\/b=ib\/b=wb\/In v b\/In a b
theorem RS.rb(es:RS S H n gv h iv cs ins N i j o)(a:RB gv iv N i j o b):S b:=by
 rcases a with rfl|rfl|rfl|rfl|a|a
 ·exact es.dl
 ·exact es.dg
 ·exact es.di
 ·exact es.dw
 ·exact es.dv b a
 ·exact es.de b a
theorem RS.keep{D:Nat->Prop}(es:RS D H n gv h iv cs ins N o tb z)(f:Fm S H H')(c:∀b,RB gv iv N o tb z b->¬S b):RS D H' n gv h iv cs ins N o tb z:=by
 obtain⟨l1,j,l3,l4⟩:=es.lt;have g:=f.nx;exact⟨(f.get _ l1 (c _ (Or.inl rfl))).trans es.l,(f.get _ j (c _ (Or.inr om))).trans es.g,(f.get _ l3 (c _ (Or.inr om))).trans es.i,(f.get _ l4 (c _ (Or.inr om))).trans es.w,
  es.gl.keep g λb i a=>f.get b a (c b (Or.inr om)),es.e.keep g λb i a=>f.get b a (c b (Or.inr om)),om,es.dl,es.dg,es.di,es.dw,es.dv,es.de⟩
attribute [grind .] RS.keep
theorem RS.no(es:RS S H n gv h iv cs ins N b i j)(f:Fm No H H'):RS S H' n gv h iv cs ins N b i j:=om
def cE(a:List Nat)(dn:List Bool)(w:List Bool)(e:Edge):List Bool:=
 if a.getD e.f 0≠a.getD e.t 0/\dn.getD (a.getD e.t 0) true=false then w.set (a.getD e.f 0) true else w
def bp(es:List Edge)(a:List Nat)(dn:List Bool)(w:List Bool):List Bool:=es.foldl (cE a dn) w
theorem Ul(ins:List Nat)(dn:List Bool):∀(es:List Edge) (w:List Bool),(bp es ins dn w).length=w.length
 | [],w=>rfl
 |e::es,w=>by
  show(bp es ins dn (cE ins dn w e)).length=_;rw[Ul ins dn es];unfold cE;split
  ·simp
  ·rfl
variable{P:List Bool}
theorem Uw{D:Nat->Prop}{V W ib wb y tb m:Nat}(dn:RS D H0 n gv h iv cs ins V W ib wb)(z:h.length<200000)(Q:ins.length=n)(R:∀e∈h,e.f<n/\e.t<n)(A:∀x<n,ins.getD x 0<m)(G:P.length=m)(B:H0.get y=aB 0 (aw P))(S:y<H0.nx)(I:H0.nx<=tb){fin:List Bool}(X:∀H,H.get tb=aB 0 (aw fin)->Fm No H0 H->tb<H.nx->Ok (zR H) F):∀(k i:Nat) (w:List Bool) (H:Hp),h.length-i<k->i<=h.length->w.length=m->H.get tb=aB 0 (aw w)->Fm No H0 H->tb<H.nx->bp (h.drop i) ins P w=fin -> Ok (B8 O zR (.ptr ib 0) (.sl y 0 m m true) (.sl tb 0 m m true) gv (.int .i64 (.ofNat h.length)) k (.int .i64 (.ofNat i)) H) F
 |0,i,w,H,es,_,_,_,_,_,_=>om
 |k+1,i,w,H,es,hi,hw,ht,hF,hlt,j=>by
  show Ok (J7 O _ _ _ _ _ _ (B8 O _ _ _ _ _ _ k) _ H) F;unfold J7;by_cases g:i<h.length
  ·simp only[go_sem,g];unfold ZQ;have d:=dn.no hF;obtain⟨b,o,L,e2,M⟩:=d.e.at g;obtain⟨hf1,N⟩:=R h[i] om;have l:(aJ ins)[h[i].f]? =some (.int .i64 (.ofNat (ins.getD h[i].f 0))):=by rw[GH _ _ om,vt,j0 om];rfl
   have p:(aJ ins)[h[i].t]? =some (.int .i64 (.ofNat (ins.getD h[i].t 0))):=by rw[GH _ _ om,vt,j0 om];rfl
   have ha:=om;have hb:=A _ N;have f:(aw P)[ins.getD h[i].t 0]? =some (.bool (P.getD (ins.getD h[i].t 0) true)):=Mf _ _ _ om;have r:h.drop i=h[i]::h.drop (i+1):=iP g;rw[r]at j;have j:bp (h.drop (i+1)) ins P (cE ins P w h[i])=fin:=j;obtain⟨l1,l2,l3,l4⟩:=d.lt;have s:=d.i;have t:=d.w;have C:H.get y=aB 0 (aw P):=(hF.keep S).trans B;generalize ha':ins.getD h[i].f 0=a at *;generalize hb':ins.getD h[i].t 0=c at *;have cAb:∀(w':List Bool) (H':Hp),cE ins P w h[i]=w'->H'.get tb=aB 0 (aw w')->Fm No H0 H'->tb<H'.nx->Ok (He O (B8 O zR (.ptr ib 0) (.sl y 0 m m true) (.sl tb 0 m m true) gv (.int .i64 (.ofNat h.length)) k) (.int .i64 (.ofNat i)) H') F:=λw' H' T Y Z h4=>by
    unfold He;refine aS ?_;refine Uw dn z Q R A G B S I X k (i+1) w' H' om om ?_ Y Z h4 (by rw[T]at j;exact j);rw[<-T];unfold cE
    grind
   have fA:Fm No H ((aH H (aB 0 [.int .i64 (.ofNat 0),.int .i64 (.ofNat 0),.bool false])).put H.nx (aB 0 [.int .i64 (.ofNat h[i].f),.int .i64 (.ofNat h[i].t),.bool h[i].s])):=by exact zL
   have J:((aH H (aB 0 [.int .i64 (.ofNat 0),.int .i64 (.ofNat 0),.bool false])).put H.nx (aB 0 [.int .i64 (.ofNat h[i].f),.int .i64 (.ofNat h[i].t),.bool h[i].s])).get tb=aB 0 (aw w):=(fA.keep hlt).trans ht;by_cases u:a=c
   ·have E:cE ins P w h[i]=w:=by
     unfold cE
     grind
    simp(disch:=first|omega|exact ti rfl)only[go_sem,seval,L,M,Edge.cells,s,t,l,p,u,vx,nr,nk,DP]
    grind
   ·cases U:P.getD c true with
    |true=>
     have E:cE ins P w h[i]=w:=by
      unfold cE
      grind
     rw[U]at f;simp(disch:=first|omega|exact ti rfl)only[go_sem,seval,L,M,Edge.cells,s,t,l,p,u,C,f,vx,nr,nk,DP]
     grind
    |false=>
     have E:cE ins P w h[i]=w.set a true:=by
      unfold cE
      grind
     rw[U]at f;have K:a+1<=w.length:=om;simp(disch:=go_size)only[go_sem,rB,rI,rK,rL,rN,rS,r6,L,M,Edge.cells,s,t,l,p,u,C,f,J,vx,nr,nk,DP,X9,K,ai];rw[QS _ _ _ om]
     grind
  ·simp only[go_sem,g];have:i=h.length:=om;subst this;rw[rq]at j;have j:w=fin:=j;simp_all
def cU(dn w:List Bool)(i:Nat):Bool:= !dn.getD i true&& !w.getD i true
def eU(dn w:List Bool)(m:Nat):Option Nat:=(List.range m).find? (cU dn w)
def kT(es:List Edge)(ins:List Nat)(m:Nat):Nat->List Bool->List Nat
 |0,_=>[]
 |k+1,dn=>match eU dn (bp es ins dn (List.replicate m false)) m with
  |none=>kT es ins m k dn
  |some i=>i::kT es ins m k (dn.set i true)
variable{R:List Bool}
theorem TZ(h:eU P R m=none):∀j,j<m->cU P R j=false:=λj a=>by have:=List.find?_eq_none.1 h j om;simp_all
theorem Be(h:eU P R m=some i):i<m/\cU P R i=true/\∀j,j<i->cU P R j=false:=by
 have c:=yx h;have b:=gy h;rw[lOF]at b;refine⟨b,c,λj k=>?_⟩;unfold eU at h;rw[List.find?_eq_some_iff_append]at h;obtain⟨_,f,n,e,o⟩:=h;have l:j∈f:=by
  have a:j∈List.range m:=om;rw[e]at a;rcases lAJ.1 a with g|g
  ·exact g
  ·have d:(List.range m).Pairwise (· < ·):=List.pairwise_lt_range;rw[e,lI8,yg]at d
   grind
 simp_all
structure YI(C0:Ev.Call)(y bs:Nat)(cs:List AV)(ord:List Nat)(Inv:Nat->(Nat->Prop)->Hp->Prop):Prop where
 ext:∀t D D' H H',Inv t D H->Fm (λb=>D b/\bs<=b) H H'->(∀b,D' b->D b\/(H.nx<=b/\b<H'.nx))->Inv t D' H'
 step:∀t i c D H,ord[t]? =some i->cs[i]? =some c->Inv t D H->Ok (C0 (.y y) [c] H) λr H'=>r=.bool true/\Inv (t+1) D H'/\Fm (λb=>¬D b) H H'
variable{J:Nat->(Nat->Prop)->Hp->Prop}{kZ:pH}
theorem UL{y Z:Nat}{D:Nat->Prop}{u gb ib wb a t:Nat}(s:YI O y Z cs E J)(hm:m=cs.length)(dn:m<900000)(w:P.length=m)(S:R.length=m)(z:D a)(A:Z<=a)(B:a≠u)(K:RS D H n gv h iv cs ins u gb ib wb)(C:∀b,In iv b->b≠a)(f:H.get a=aB 0 (aw P))(xU:a<H.nx)(l:H.get tb=aB 0 (aw R))(hI:J t D H)(c:eU P R m=none->Ok (kZ H) F)(d:∀p H',eU P R m=some p->E[t]? =some p->H'.get a=aB 0 (aw (P.set p true))->J (t+1) D H'->Fm (λb=>¬D b\/b=a) H H'->Ok (kZ H') F)(T:∀p,eU P R m=some p->E[t]? =some p):∀(k i:Nat),m-i<k->i<=m->(∀j,j<i->cU P R j=false) -> Ok (B9 O zR kZ (.yield y) (.ptr u 0) (.sl a 0 m m true) (.sl tb 0 m m true) (.int .i64 (.ofNat m)) k (.int .i64 (.ofNat i)) H) F
 |0,i,es,_,_=>om
 |k+1,i,es,hi,hj=>by
  show Ok (J8 O _ _ _ _ _ _ _ (B9 O _ _ _ _ _ _ _ k) _ H) F;unfold J8;by_cases q:i<m
  ·have Q:cU P R i=false->Ok (J6 O (B9 O zR kZ (.yield y) (.ptr u 0) (.sl a 0 m m true) (.sl tb 0 m m true) (.int .i64 (.ofNat m)) k) (.int .i64 (.ofNat i)) H) F:=λg=>by
    unfold J6;refine aS ?_;exact UL s hm dn w S z A B K C f xU l hI c d T k (i+1) om om om
   have G:=Mf P i true om;have L:=Mf R i true om;simp only[go_sem,q];unfold Ox;cases I:P.getD i true with
   |true=>rw[I]at G;refine jF f G vx nr ?_;exact Q (by unfold cU;rw[I];rfl)
   |false=>
    rw[I]at G;cases N:R.getD i true with
    |true=>rw[N]at L;refine cF f G l L vx nr ?_;exact Q (by unfold cU;rw[I,N];rfl)
    |false=>
     rw[N]at L;have g:cU P R i=true:=by unfold cU;rw[I,N];rfl
     have M:eU P R m=some i:=by
      cases Inv:eU P R m with
      |none=>have:=TZ Inv i q;rw[g]at this;cases this
      |some p=>
       obtain⟨p1,p2,p3⟩:=Be Inv
       grind
     have U:i+1<=P.length:=om;have V:(H.put a (aB 0 (aw (P.set i true)))).get u=aB 0 [iv]:=by rw[jR _ _ _ _ (Ne.symm B)];exact K.l
     have W:Gl 1 (H.put a (aB 0 (aw (P.set i true)))) iv cs.length cs:=K.gl.keep (AF _) λb hb _=>jR _ _ _ _ (C b hb);obtain⟨b,o,e1,_,_,e2⟩:=W.at (i:=i) (x:=cs[i]'om) g3;have fd:Fm (λb=>b=a) H (H.put a (aB 0 (aw (P.set i true)))):=(Fm.refl _ _).put _ _ λ_=>rfl;have X:J t D (H.put a (aB 0 (aw (P.set i true)))):=s.ext t D D _ _ hI (fd.mono λb _ es=>by subst es;exact⟨z,A⟩) λb es=>Or.inl es;simp(disch:=omega)only[go_sem,seval,f,G,l,L,vx,nr,nk,DP,X9,U,ai];rw[QS _ _ _ om];have Y:=K.l;simp only[go_sem,V,Y,e1,e2,zn0];refine Ok.ve (s.step t i (cs[i]'om) D _ om (j0 om) X) ?_;rintro r H' ⟨rfl,xB,f3⟩;refine d i H' M om ?_ xB om
     grind
  ·simp only[go_sem,q];have:i=m:=om;subst this;cases M:eU P R i with
   |none=>exact c M
   |some p=>obtain⟨p1,p2,p3⟩:=Be M;simp_all
theorem QT(m:Nat):List.replicate m (AV.bool false)=aw (List.replicate m false):=by simp[aw]
theorem LQ{y V:Nat}{D:Nat->Prop}{L I ib wb d:Nat}(Inv:YI O y V cs E J)(K:m=cs.length)(i:m<900000)(l:D d)(o:V<=d)(q:d≠L/\d≠I/\d≠ib/\d≠wb)(r:∀b,In iv b->b≠d)(w:∀b,In gv b->b≠d)(f:h.length<200000)(s:ins.length=n)(M:∀e∈h,e.f<n/\e.t<n)(u:∀x<n,ins.getD x 0<m)(W:∀H,J E.length D H->Ok (zR H) F):∀(k c t:Nat) (dn:List Bool) (H:Hp),m-c<k->c<=m->dn.length=m->RS D H n gv h iv cs ins L I ib wb->H.get d=aB 0 (aw dn)->d<H.nx->J t D H->t<=E.length->E.drop t=kT h ins m (m-c) dn -> Ok (zd O kZ zR (.yield y) (.ptr L 0) (.ptr I 0) (.ptr ib 0) (.sl d 0 m m true) (.int .i64 (.ofNat m)) k (.int .i64 (.ofNat c)) H) F
 |0,c,t,dn,H,es,_,_,_,_,_,_,_,_=>om
 |k+1,c,t,dn,H,es,hc,hdl,hR,hdb,xU,hI,ht,ho=>by
  show Ok (ZR O _ _ _ _ _ _ _ _ (zd O _ _ _ _ _ _ _ _ k) _ H) F;unfold ZR;by_cases Q:c<m
  ·simp only[go_sem,Q];unfold ZP;have e1:=hR.l;have P:=hR.gl.bF;rw[<-K]at P;have e3:=hR.g;have e4:=hR.e.len;have X:=kP [.bool false] 1 H.nx m om om;rw[iT,QT]at X;obtain⟨l1,l2,l3,l4⟩:=hR.lt;have Y:Fm No H (aH H (aB 0 (aw (List.replicate m false)))):=om;have R:(aH H (aB 0 (aw (List.replicate m false)))).get I=aB 0 [.int .i64 (.ofNat n),gv]:=(Y.keep l2).trans e3;simp only[go_sem,e1,P,X,R,e4];rw[dD];refine Uw hR f s M u hdl hdb xU (tb:=H.nx) om (fin:=bp h ins dn (List.replicate m false)) (λN g1 g2 g3=>?_) bT 0 (List.replicate m false) _ lf om g3 om Y om rfl;unfold J5;have B:Fm No H N:=g2;have g:=hR.no B;have e5:=g.l;simp only[go_sem,e5,P];rw[dD];have C:J t D N:=Inv.ext t D D _ _ hI (B.mono λ_ _ es=>es.elim) λb es=>Or.inl es;have S:m-c=(m-(c+1))+1:=om;rw[S,kT]at ho;refine UL Inv K i hdl (by rw[Ul];simp) l o q.1 g r ((B.keep xU).trans hdb) (AE xU B.nx) g1 C (λA=>?_) (λp H3 A G k1 k2 k3=>?_) (λp A=>?_) bT 0 lf (vy _) λj hj=>absurd hj (ui _)
   ·unfold w9;refine aS ?_;rw[A]at ho;exact LQ Inv K i l o q r w f s M u W k (c+1) t dn N om om hdl g om om C ht ho
   ·unfold w9;refine aS ?_;rw[A]at ho;have a:t<E.length:=(lAL.1 G).1;have T:E.drop (t+1)=kT h ins m (m-(c+1)) (dn.set p true):=by
     rw[iP a]at ho;simp_all
    refine LQ Inv K i l o q r w f s M u W k (c+1) (t+1) (dn.set p true) H3 om om (by rw[iy];exact hdl) (g.keep k3 ?_) k1 (AE xU (AL B.nx k3.nx)) k2 a T;rintro b Z (es|es)
    ·exact es (g.rb Z)
    ·subst es;rcases Z with e|e|e|e|e|e
     ·omega
     ·omega
     ·omega
     ·omega
     ·grind
     ·grind
   ·rw[A]at ho;have U:(E.drop t)[0]? =some p:=om;rwa [iq,bf]at U
  ·simp only[go_sem,Q];have:c=m:=om;subst this;rw[gq]at ho;have U:E.drop t=[]:=ho;have:E.length<=t:=List.drop_eq_nil_iff.1 U
   grind
theorem zks{k:Nat}(c:1<=k){g ib wb:Nat}(w:YI (C (k-1)) N tb cs E J)(l:cs.length<900000)(d:RS S H n gv h iv cs ins g i ib wb)(m:tb<=H.nx)(f:h.length<200000)(o:ins.length=n)(F:∀e∈h,e.f<n/\e.t<n)(p:∀x<n,ins.getD x 0<cs.length)(K:E=kT h ins cs.length cs.length (List.replicate cs.length false))(G:J 0 S H):Ok (C k (.f 306) [.yield N,.ptr g 0,.ptr i 0,.ptr ib 0] H) λr H'=>r=.aX []/\∃I,J E.length I H':=by
 obtain⟨j,rfl⟩:=aO c;rw[lk (zrn ..)];unfold W2;have z:=d.l;have Inv:=d.gl.bF;obtain⟨l1,L,l3,l4⟩:=d.lt;have A:=kP [.bool false] 1 H.nx cs.length om om;rw[iT,QT]at A;have B:Fm No H (aH H (aB 0 (aw (List.replicate cs.length false)))):=om;have s:(aH H (aB 0 (aw (List.replicate cs.length false)))).get g=aB 0 [iv]:=(B.keep l1).trans z;simp only[go_sem,z,Inv,A,s];rw[dD];have a:=d.no B;have t:RS (λb=>S b\/b=H.nx) (aH H (aB 0 (aw (List.replicate cs.length false)))) n gv h iv cs ins g i ib wb:=
  ⟨a.l,a.g,a.i,a.w,a.gl,a.e,a.lt,Or.inl a.dl,Or.inl a.dg,Or.inl a.di,Or.inl a.dw,λb es=>Or.inl (a.dv b es),λb es=>Or.inl (a.de b es)⟩
 refine LQ (D:=λb=>S b\/b=H.nx) w rfl l om m ⟨om,om,om,om⟩ (λb q e=>by have:=d.gl.lt q;omega) (λb q e=>by have:=d.e.lt q;omega) f o F p (λH' es=>Ok.ret ⟨rfl,_,es⟩) bT 0 0 (List.replicate cs.length false) _ lf om g3 t om om (w.ext 0 S _ _ _ G om om) om ?_;trivial
def aZw(HB H:Hp)(iv:AV)(nb n l ob:Nat)(a:List Nat)(D:Nat->Prop):Prop:=
 (n=0/\iv=.aA)\/(iv=.sl nb 0 n n true/\H.get nb=aB 0 (aJ a)/\HB.nx<=nb/\nb<l/\¬D nb/\nb≠ob)
structure OI(LO:LP)(HB:Hp)(L:TT AV 2)(l ob nb x2 n:Nat)(iv:AV)(cs:List AV)(out:List (List Nat))(ord:List Nat)(t:Nat)(D:Nat->Prop)(H:Hp):Prop where
 fm:Fm No HB H
 dlt:∀b,D b->b<H.nx
 lp:H.get l=LO.blk true L
 hl:HB.nx<=l/\l<H.nx/\¬D l
 ho:HB.nx<=ob/\ob<l/\¬D ob
 rc:H.get x2=aB 0 [.aA,.aA]/\x2<l/\¬D x2/\x2≠ob/\x2≠nb
 ins:∃gT:List Nat,gT.length=n/\aZw HB H iv nb n l ob gT D/\∀(j i:Nat) (o:List Nat) (x:Nat),j<t->ord[j]? =some i->out[i]? =some o->x∈o->gT[x]? =some j
 lv:∃(lv:AV) (os:List AV),H.get ob=aB 0 [lv,iv]/\Gl 1 H lv t os/\(∀b,In lv b->l<b/\¬D b)/\∀(j:Nat) (w:AV),os[j]? =some w->∃i o,ord[j]? =some i/\out[i]? =some o/\Gl 1 H w o.length (aJ o)/\dX w=.val (.int .i64 (.ofNat o.length))/\∀b,In w b->HB.nx<=b/\¬D b/\b<l/\b≠ob/\b≠nb/\b≠x2
 cs:∀(i:Nat) (c:AV) (o:List Nat),cs[i]? =some c->out[i]? =some o->Gl 1 H c o.length (aJ o)/\∀b,In c b->HB.nx<=b/\¬D b/\b<l/\b≠ob/\b≠nb/\b≠x2
variable{T:TT AV 2}
theorem OI.ext{ob nb x2:Nat}{t:Nat}{out r:Nat->Prop}(h:OI LO H0 T tb ob nb x2 n iv cs D ins t out H)(f:Fm (λb=>out b/\H0.nx<=b) H H')(z:∀b,r b->out b\/(H.nx<=b/\b<H'.nx)):OI LO H0 T tb ob nb x2 n iv cs D ins t r H':=by
 obtain⟨l1,v,l3⟩:=h.hl;obtain⟨J,K,A⟩:=h.ho;obtain⟨x,M,B,N⟩:=h.rc;have k:∀b,b<H.nx->¬out b->¬r b:=λb a s u=>(z b u).elim s λg=>by have:=g.1;omega
 have m:∀b,b<H.nx->¬out b->H'.get b=H.get b:=λb a s=>f.get b a λg=>s g.1;obtain⟨O,P,Q,R⟩:=h.ins;obtain⟨lv,S,L,C,y,U⟩:=h.lv;refine⟨h.fm.then f λc E g=>absurd E (by have:=g.2;omega),λb a=>(z b a).elim (λg=>AE (h.dlt b g) f.nx) λg=>g.2,(m tb v l3).trans h.lp,⟨l1,AE v f.nx,k tb v l3⟩,⟨J,K,k ob om A⟩,⟨(m x2 om B).trans x,M,k x2 om B,N⟩,⟨O,P,?_,R⟩,⟨lv,S,(m ob om A).trans L,C.keep f.nx λb a d=>m b d (y b a).2,λb a=>⟨(y b a).1,k b (C.lt a) (y b a).2⟩,λj w F=>?_⟩,λi c o G I=>?_⟩
 ·rcases Q with g|⟨g1,g2,g3,g4,g5,g6⟩
  ·exact Or.inl g
  ·exact Or.inr ⟨g1,(m nb om g5).trans g2,g3,g4,k nb om g5,g6⟩
 ·obtain⟨i,o,V,W,q,X,e⟩:=U j w F;exact⟨i,o,V,W,q.keep f.nx λb a d=>m b d (e b a).2.1,X,λb a=>⟨(e b a).1,k b (q.lt a) (e b a).2.1,(e b a).2.2⟩⟩
 ·obtain⟨q,e⟩:=h.cs i c o G I;exact⟨q.keep f.nx λb a d=>m b d (e b a).2.1,λb a=>⟨(e b a).1,k b (q.lt a) (e b a).2.1,(e b a).2.2⟩⟩
theorem U6{t:Nat}{H1:Hp}(i:Gl 1 H1 gv E.length (aJ E))(d:∀b,In gv b->b≠tb)(l:E.length<900000)(p:∀x∈E,x<n)(r:H1.get N=aB 0 [iv,.sl tb 0 n n true])(e:N≠tb)(f:N<H1.nx)(g:aD iv=.val (.int .i64 (.ofNat t))){fin:List Nat}(s:∀H,H.get tb=aB 0 (aJ fin)->Fm (λb=>b=tb) H1 H->Ok (zR H) F):∀(k j:Nat) (ins:List Nat) (H:Hp),E.length-j<k->j<=E.length->ins.length=n->H.get tb=aB 0 (aJ ins)->Fm (λb=>b=tb) H1 H->fill ins (E.drop j) t=fin -> Ok (yp O zR (.ptr N 0) gv (.int .i64 (.ofNat E.length)) k (.int .i64 (.ofNat j)) H) F
 |0,j,ins,H,h,_,_,_,_,_=>om
 |k+1,j,ins,H,h,hj,hl,hg,hF,hf=>by
  show Ok (Kz O _ _ _ _ (yp O _ _ _ _ k) _ H) F;unfold Kz;by_cases a:j<E.length
  ·obtain⟨b,C,u,A,v⟩:=i.rl.at' j (by rw[oF];exact a);rw[tR]at v;have w:H.get b=H1.get b:=hF.get b A (d b (i.aAT a u));have y:H.get N=aB 0 [iv,.sl tb 0 n n true]:=(hF.get N f e).trans r;have B:E[j]<n:=p _ om;have m:E[j]+1<=ins.length:=om;simp only[go_sem,a];unfold Kv;simp(disch:=omega)only[go_sem,seval,u,w,v,y,g,hg,vx,nr,nk,DP,oF,m,ai];unfold Kw;refine aS ?_;have z:E.drop j=E[j]::E.drop (j+1):=iP a;rw[Bs _ _ _ om];refine U6 i d l p r e f g s k (j+1) (ins.set E[j] t) _ om om (by rw[iy];exact hl) (gX _ _ _) (hF.put _ _ λ_=>rfl) ?_;rw[z]at hf;exact hf
  ·simp only[go_sem,a];have:j=E.length:=om;subst this;rw[rq]at hf;subst hf;exact s H hg hF
theorem z2n(hR:pZ LA LO C){k:Nat}(hk:2<=k){l nb x2:Nat}(hG:G T 5=.ptr tb 0){t:Nat}{c:AV}{out:Nat->Prop}(f:OI LO H0 T l tb nb x2 n iv cs D E t out H)(ht:E[t]? =some i)(N:cs[i]? =some c)(hlen:cs.length=D.length)(hn:n<=256)(ht2:t<900)(A:∀o∈D,o≠[]/\o.length<=256/\∀x∈o,x<n)(hnd:∀(s:Nat) (u o:List Nat) (x:Nat),D[s]? =some u->D[i]? =some o->x∈o->x∈u->s=i)(hinj:∀j,j<t->E[j]? ≠ some i):Ok (C k (.y l) [c] H) λr H'=>r=.bool true/\OI LO H0 T l tb nb x2 n iv cs D E (t+1) out H'/\Fm (λb=>¬out b) H H':=by
 obtain⟨k,rfl⟩:∃j,k=j+1:=⟨k-1,om⟩;rw[(hR k).xC T l c H f.lp,hG];unfold xC;obtain⟨l1,l2,l3⟩:=f.hl;obtain⟨o1,o2,o3⟩:=f.ho;have hic:i<cs.length:=(lAL.1 N).1;obtain⟨o,ho⟩:∃o,D[i]? =some o:=⟨D[i]'om,g3⟩;obtain⟨g1,g2⟩:=f.cs i c o N ho;obtain⟨q1,q2,q3⟩:=A o (sW ho);obtain⟨x1',x3,x4,x5⟩:=f.rc;obtain⟨z,i1,i2,i3⟩:=f.ins;obtain⟨lv,I,v1,v2,v3,v4⟩:=f.lv;have Q:¬n=0:=λe=>by
  cases o with
  |nil=>exact q1 rfl
  |cons x o=>have:=q3 x vA;omega
 rcases i2 with⟨e,_⟩|⟨rfl,b1,b2,b3,b4,b5⟩
 ·exact absurd e Q
 have R:=g1.bF;simp only[go_sem,seval,R];unfold KA;rw[dD];generalize K:H.put l (LO.blk false T)=H1;have n1:H1.nx=H.nx:=by rw[<-K];rfl
 have M:Fm (λb=>b=l) H H1:=om;have S:H1.get l=LO.blk false T:=by rw[<-K,gX]
 have B:H1.get tb=aB 0 [lv,.sl nb 0 n n true]:=(M.get tb om om).trans v1;have U:H1.get nb=aB 0 (aJ z):=(M.get nb om om).trans b1;refine U6 (H1:=H1) (g1.fm M λb d=>by have:=(g2 b d).2.2.1;omega) (λb d=>(g2 b d).2.2.2.2.1) om q3 B (Ne.symm b5) om v2.bF (fin:=fill z o t) (λa k1 k2=>?_) bT 0 z H1 lf (vy _) i1 U (Fm.refl _ _) rfl;unfold tV;have n2:=k2.nx;have f2:Fm (λb=>b=l\/b=nb) H a:=(M.mono om).trans om;have p:a.get tb=aB 0 [lv,.sl nb 0 n n true]:=(k2.get tb om om).trans B;have V:a.get l=LO.blk false T:=(k2.get l om om).trans S;have W:Gl 1 a c o.length (aJ o):=om;obtain⟨w,w1,w2,w3,w4⟩:=Iq (k:=k) om (H:=⟨a.t,a.nx+8⟩) (W.no om);have X:lV 64 lv lv=true:=wK v2.flat 63;have hol:0<o.length:=lIO.2 q1;rcases w2.is with⟨_,h0⟩|⟨wb,wo,we,wq,wL,rfl,_⟩
 ·omega
 simp only[go_sem,seval,p,w1,X];have Y:Fm No a (Hp.put ⟨a.t,a.nx+8⟩ (a.nx+4) (aB 0 [.sl wb wo o.length o.length we])):=by(repeat(first|exact Fm.refl _ _|assumption|refine Fm.push ?_ _|refine Fm.up2 ?_ (by go_size)|refine Fm.aN ?_ _ _ (by go_size)))
 have Z:Gl 1 a lv t I:=om;obtain⟨q,e,gl',_,J,nx'⟩:=(Z.no Y).append (k:=1) (w:=24) (x:=[.sl wb wo o.length o.length we]) om rfl om om;refine Ok.vH e ?_;have nx3:q.nx=a.nx+8+1:=nx';have F:∀b,In lv b->l<b:=λb d=>(v3 b d).1;have go3:q.get tb=aB 0 [lv,.sl nb 0 n n true]:=(J.get tb om λd=>by have:=F _ d;omega).trans ((Y.keep om).trans p);have gl3:q.get l=LO.blk false T:=(J.get l om λd=>by have:=F _ d;omega).trans ((Y.keep om).trans V);simp only[go_sem,seval,go3,nk,DP];have es:aY [lv,.sl nb 0 n n true] 0 [.sl (a.nx+8) 0 (t+1) (t+1) false]=[.sl (a.nx+8) 0 (t+1) (t+1) false,.sl nb 0 n n true]:=rfl;rw[es];have gl4:(q.put tb (aB 0 [.sl (a.nx+8) 0 (t+1) (t+1) false,.sl nb 0 n n true])).get l=LO.blk false T:=by rw[jR _ _ _ _ om];exact gl3
 rw[zm8 gl4];have f3:Fm (λb=>b=l\/b=nb\/In lv b) H q:=om;have f4:Fm (λb=>b=l\/b=nb\/b=tb\/In lv b) H ((q.put tb (aB 0 [.sl (a.nx+8) 0 (t+1) (t+1) false,.sl nb 0 n n true])).put l (LO.blk true T)):=
  ((f3.mono (T:=λb=>b=l\/b=nb\/b=tb\/In lv b) λ_ _ h=>h.imp id (Or.imp id Or.inr)).put tb _ om).put l _ om
 have n4:((q.put tb (aB 0 [.sl (a.nx+8) 0 (t+1) (t+1) false,.sl nb 0 n n true])).put l (LO.blk true T)).nx=a.nx+9:=nx3;have old:∀{x:AV} {m:Nat} {y:List AV},Gl 1 H x m y->(∀b,In x b->b<l/\b≠tb/\b≠nb/\b≠x2)->Gl 1 ((q.put tb (aB 0 [.sl (a.nx+8) 0 (t+1) (t+1) false,.sl nb 0 n n true])).put l (LO.blk true T)) x m y:=om;refine Ok.ret ⟨rfl,⟨f.fm.then f4 λc N h=>?_,λb d=>AE (f.dlt b d) om,gX _ _ _,⟨l1,om,l3⟩,⟨o1,o2,o3⟩,⟨?_,x3,x4,x5⟩,⟨fill z o t,by rw[tG];exact i1,Or.inr ⟨rfl,?_,b2,b3,b4,b5⟩,λj s u x v O P h3=>?_⟩,⟨.sl (a.nx+8) 0 (t+1) (t+1) false,I++[.sl wb wo o.length o.length we],?_,?_,?_,λj w v=>?_⟩,λs c' u O P=>?_⟩,f4.mono λb _ h=>?_⟩
 ·grind
 ·rw[f4.get x2 om ?_]
  ·exact x1'
  ·grind
 ·grind
 ·have hx:x<z.length:=by
   grind
  rw[Gd t o z x hx];rcases lu j t with g|g
  ·have h4:=i3 j s u x g O P h3;rw[sy λhxo=>?_,h4]
   grind
  ·grind
 ·rw[jR _ _ _ _ om,gX]
 ·refine gl'.keep (AF _) λb d _=>?_;obtain⟨_,_,_,_,h⟩:=d
  grind
 ·rintro b ⟨_,_,_,_,h⟩;have d:b=a.nx+8:=om;subst d;exact⟨om,λh=>by have:=f.dlt _ h;omega⟩
 ·rcases lu j I.length with g|g
  ·rw[sX g]at v
   grind
  ·rw[AM g]at v;have h0:j-I.length=0:=by
    have:=(lAL.1 v).1;simpa using this
   rw[h0]at v;cases v;have hos:I.length=t:=by have:=v2.len;omega
   have hjt:j=t:=om;subst hjt;refine⟨i,o,ht,ho,?_,w3,om⟩;refine w2.keep (by show a.nx+8<=_;omega) λb d _=>?_
   grind
 ·obtain⟨a1,a2⟩:=f.cs s c' u O P
  grind
 ·grind
theorem lX.eqG(es:lX H gv h)(n:Int):Ev.lV 64 (.agg [.int .i64 n,gv]) (.agg [.int .i64 n,gv])=true:=
 oB [.int .i64 n,gv] (by unfold Tr;rw[lq,lq,es.flat];rfl)
theorem zou{k:Nat}(a:1<=k)(h:Gl 1 H gv n l):∃w,C k (.f 280) [gv] H=.ok w H/\Gl 1 H w n l/\dX w=.val (.int .i64 (.ofNat n))/\(∀b,In w b->In gv b):=by obtain⟨j,rfl⟩:=aO a;obtain⟨w,e,c,d,f⟩:=h.clip;refine⟨w,?_,c,d,f⟩;rw[lk (zrz ..)];unfold X8 jm;simp only[go_sem,h.bF,e]
theorem Gz:∀(k:Nat) (dn:List Bool) (i:Nat),i∈kT h ins m k dn->i<m/\dn.getD i true=false
 |0,_,_,es=>by cases es
 |k+1,dn,i,es=>by
  rw[kT]at es;cases a:eU dn (bp h ins dn (List.replicate m false)) m with
  |none=>rw[a]at es;exact Gz k dn i es
  |some p=>
   rw[a]at es;obtain⟨p1,b,_⟩:=Be a;rcases lE4.1 es with rfl|es
   ·refine⟨p1,?_⟩;unfold cU at b;simp_all
   ·obtain⟨c,d⟩:=Gz k _ i es;refine⟨c,?_⟩
    grind
theorem LS:∀(k:Nat) (dn:List Bool),dn.length=m->(kT h ins m k dn).Nodup
 |0,_,_=>uB
 |k+1,dn,hd=>by
  rw[kT];cases a:eU dn (bp h ins dn (List.replicate m false)) m with
  |none=>exact LS k dn hd
  |some p=>obtain⟨p1,b,_⟩:=Be a;refine lOI.2 ⟨λes=>?_,LS k _ om⟩;have:=(Gz k _ p es).2;simp_all
structure CR(HB H:Hp)(n:Nat)(lv iv:AV)(os:List AV)(res:List (List Nat))(ins:List Nat):Prop where
 gl:Gl 1 H lv os.length os
 cap:dX lv=.val (.int .i64 (.ofNat os.length))
 len:os.length=res.length
 at':∀(j:Nat) (w:AV) (o:List Nat),os[j]? =some w->res[j]? =some o->Gl 1 H w o.length (aJ o)/\dX w=.val (.int .i64 (.ofNat o.length))/\∀b,In w b->HB.nx<=b
 gi:Gl 1 H iv n (aJ ins)
 bAF:dX iv=.val (.int .i64 (.ofNat n))
 ins:∀(j:Nat) (o:List Nat) (x:Nat),res[j]? =some o->x∈o->ins[x]? =some j
 new:∀b,In lv b\/In iv b->HB.nx<=b
structure qlt(n:Nat)(es:List Edge)(out:List (List Nat))(ins:List Nat)(res:List (List Nat)):Prop where
 parts:qdt n (bx es) out
 il:ins.length=n
 ix:∀(i:Nat) (o:List Nat) (x:Nat),out[i]? =some o->x∈o->ins[x]? =some i
 res:res=(kT es ins out.length out.length (List.replicate out.length false)).map λi=>out.getD i []
theorem qdt.perm{a:List (List Nat)}(h:qdt n aV D)(p:a.Perm D):qdt n aV a:=
 ⟨λc b=>h.scc c om,p.flatten.nodup_iff.2 h.nd,λx=>p.flatten.mem_iff.trans (h.all x)⟩
theorem SB:∀(out:List (List Nat)) (i j:Nat) (a b:List Nat) (x:Nat),out.flatten.Nodup->out[i]? =some a->out[j]? =some b->x∈a->x∈b->i=j
 | [],_,_,_,_,_,_,h,_,_,_=>by simp at h
 |o::r,0,0,_,_,_,_,_,_,_,_=>rfl
 |o::r,0,j+1,a,b,x,hn,h1,h2,h3,h4=>by rw[rf,lI2]at hn;simp at h1;subst h1;exact absurd rfl (hn.2.2 x h3 x (lO6.2 ⟨b,sW (by simpa using h2),h4⟩))
 |o::r,i+1,0,a,b,x,hn,h1,h2,h3,h4=>by rw[rf,lI2]at hn;simp at h2;subst h2;exact absurd rfl (hn.2.2 x h4 x (lO6.2 ⟨a,sW (by simpa using h1),h3⟩))
 |o::r,i+1,j+1,a,b,x,hn,h1,h2,h3,h4=>by rw[rf,lI2]at hn;rw[SB r i j a b x hn.2.1 (by simpa using h1) (by simpa using h2) h3 h4]
theorem qdt.sizes(h:qdt n aV D)(j:n<=256):D.length<=256/\∀o∈D,o≠[]/\o.length<=256/\∀x∈o,x<n:=by
 have f:D.flatten.length<=n:=by have:=h.nd.length_le_of_subset (l₂:=List.range n) λx b=>lOF.2 ((h.all x).1 b);simp_all
 have g:∀o∈D,o≠[]:=λo a e=>by obtain⟨_,r,d,_⟩:=h.scc o a;rw[e]at d;cases d
 have i:∀(o:List (List Nat)),(∀c∈o,c≠[])->o.length<=o.flatten.length:=λo=>by
  induction o with
  |nil=>intro _;exact AF _
  |cons c o ih=>
   intro h;have k:=om;have l:0<c.length:=om
   grind
 have:=om;refine⟨om,λo a=>⟨om,?_,λx b=>(h.all x).1 (lO6.2 ⟨o,a,b⟩)⟩⟩;have:o.length<=D.flatten.length:=(List.sublist_flatten_of_mem a).length_le;omega
theorem zwn(hR:pZ LA LO C)(hj:10<=j){HB:Hp}(hE:∀e∈h,e.f<n/\e.t<n)(hn:n<=256)(Q:h.length<200000){v:AV}(hg:lX HB gv h){l p wb ob x2 nb:Nat}(R:G T 5=.ptr ob 0)(hg2:G T 2=.ptr x2 0)(A:I8 H0 H n gv v cs D ins l p tb wb)(g:qlt n h D ins ((kT h ins D.length D.length (List.replicate D.length false)).map λi=>D.getD i []))(hnew:H0.nx<=l/\H0.nx<=p/\H0.nx<=tb/\H0.nx<=wb)(S:∀(i:Nat) (c:AV) (b:Nat),cs[i]? =some c->In c b->b≠l/\b≠p/\b≠tb/\b≠wb)(U:Fm No HB H)(uY:HB.nx<=ob/\ob<H0.nx)(B:HB.nx<=x2/\x2<H0.nx/\x2≠ob)(hgo:H.get ob=aB 0 [.aA,iv])(hgx:H.get x2=aB 0 [.aA,.aA])(V:(n=0/\iv=.aA/\nb=ob)\/(0<n/\iv=.sl nb 0 n n true/\H.get nb=aB 0 (aJ (List.replicate n 0))/\HB.nx<=nb/\nb<H0.nx/\nb≠ob/\nb≠x2))(h0:H0.nx<=H.nx):Ok (IC LO (C j) T (.fn 306 [] [.ptr l 0,.ptr p 0,.ptr tb 0]) H) λr H'=>∃lv iv X Y,r=.aX [.agg [lv,iv],.int .i64 (.ofNat 0)] /\ CR HB H' n lv iv X ((kT h ins D.length D.length (List.replicate D.length false)).map λi=>D.getD i []) Y/\Fm No HB H':=by
 unfold IC;have F:=A.ls;have aOf:=F.len;obtain⟨l1,l2,l3,l4⟩:=A.lt;obtain⟨z1,z2⟩:=g.parts.sizes hn;have hnd:=g.parts.nd;generalize aGl:kT h ins D.length D.length (List.replicate D.length false)=ord;have hom:∀i∈ord,i<D.length:=λi E=>(Gz _ _ i (by rw[aGl];exact E)).1;have hon:ord.Nodup:=by rw[<-aGl];exact LS _ _ g3
 have hol:ord.length<=D.length:=by have:=hon.length_le_of_subset (l₂:=List.range D.length) om;rwa [yj]at this
 have hgl:=A.ls.gl;have hgH:lX H gv h:=hg.fm U;have bJ7:∀b,In gv b->b<HB.nx:=λb a=>hg.lt a;have bMJ:∀b,In v b->H0.nx<=b/\b<H.nx:=λb a=>⟨F.new b a,om⟩;have u:Fm No H (aH H (LO.blk true T)):=(Fm.refl _ _).push _;have hRS:RS (RB gv v l p tb wb) (aH H (LO.blk true T)) n gv h v cs ins l p tb wb:=by refine⟨(u.keep l1).trans A.l,(u.keep l2).trans A.g,(u.keep l3).trans A.i,(u.keep l4).trans A.w,om,om,om,Or.inl rfl,Or.inr om,Or.inr om,Or.inr om,λb es=>Or.inr om,λb es=>Or.inr om⟩
 have aIe:∀b,RB gv v l p tb wb b->b<H.nx/\(b<HB.nx\/H0.nx<=b):=λb a=>by
  rcases a with rfl|rfl|rfl|rfl|es|es
  ·grind
  ·grind
  ·grind
  ·grind
  ·grind
  ·grind
 have z:∀b,HB.nx<=b->b<H0.nx->¬RB gv v l p tb wb b:=om;have hI0:OI LO HB T H.nx ob nb x2 n iv cs D ord 0 (RB gv v l p tb wb) (aH H (LO.blk true T)):=by
  refine⟨U.trans u,λb a=>by have:=(aIe b a).1;rw[np];omega,uR _ _,⟨U.nx,qh _,λes=>by have:=(aIe _ es).1;omega⟩,⟨uY.1,om,z ob uY.1 uY.2⟩,⟨(u.keep om).trans hgx,om,z x2 B.1 B.2.1,B.2.2,?_⟩,⟨List.replicate n 0,g3,?_,λj i o x hj=>absurd hj (ui _)⟩,⟨.aA,[],(u.keep om).trans hgo,Gl.nil _ _,λb a=>(by obtain⟨_,_,_,_,es⟩:=a;cases es),λj w es=>(by simp at es)⟩,λi c o d I=>?_⟩
  ·grind
  ·rcases V with⟨a1,a2,_⟩|⟨_,a1,a2,a3,a4,a5,a6⟩
   ·exact Or.inl ⟨a1,a2⟩
   ·exact Or.inr ⟨a1,om,a3,om,om,a5⟩
  ·obtain⟨c1,c2,c3⟩:=F.at' i c o d I;refine⟨c2.no u,λb a=>?_⟩;obtain⟨d1,d2⟩:=c3 b a;have d3:=c2.lt a;have hh:=U.nx;refine⟨om,?_,d3,om,?_⟩
   ·rintro (e|e|e|e|e|e)
    ·exact(S i c b d a).1 e
    ·exact(S i c b d a).2.1 e
    ·grind
    ·grind
    ·grind
    ·grind
   ·grind
 have hY:YI (C (j-1)) H.nx HB.nx cs ord (OI LO HB T H.nx ob nb x2 n iv cs D ord):=by refine⟨λt out D' H1 J es f hD=>es.ext f hD,λt i c out H1 d I es=>?_⟩;have hit:t<ord.length:=(lAL.1 d).1;refine z2n hR om R es d I aOf hn om z2 (λi' K o x e1 e2 e3 e4=>SB D i' i K o x hnd e1 e2 e4 e3) λW hj' e=>?_;have:=(List.getElem?_inj om hon).1 (e.trans d.symm);omega
 have hin:∀x<n,ins.getD x 0<cs.length:=λx hx=>by obtain⟨o,M,hxo⟩:=lO6.1 ((g.parts.all x).2 hx);obtain⟨i,E⟩:=lOT.1 M;have d:=g.ix i o x E hxo;rw[vt,d];have:=(lAL.1 E).1;show i<cs.length;omega
 have O:ma (C j) (.fn 306 [] [.ptr l 0,.ptr p 0,.ptr tb 0]) [.yield H.nx] (aH H (LO.blk true T))=C j (.f 306) [.yield H.nx,.ptr l 0,.ptr p 0,.ptr tb 0] (aH H (LO.blk true T)):=rfl;refine Ok.aIi (zks (k:=j) om hY om hRS (by rw[np];have:=U.nx;omega) Q g.il hE hin om hI0) ?_;rintro r H1 ⟨rfl,D',N⟩;rw[X5 N.lp,R,hg2];unfold Kx;obtain⟨Y,i1,i2,i3⟩:=N.ins;obtain⟨lv,X,v1,v2,v3,v4⟩:=N.lv;obtain⟨k1,k2,k3⟩:=N.hl;obtain⟨x1',x3,x4,x5,x6⟩:=N.rc;have fd:Fm (λb=>b=H.nx) H1 (H1.put H.nx .dead):=(Fm.refl _ _).put _ _ λ_=>rfl;have go:(H1.put H.nx .dead).get ob=aB 0 [lv,iv]:=(fd.get ob om om).trans v1;have gx:(H1.put H.nx .dead).get x2=aB 0 [.aA,.aA]:=(fd.get x2 om om).trans x1';have gv2:Gl 1 (H1.put H.nx .dead) lv ord.length X:=om;obtain⟨w,w1,w2,w3,w4⟩:=zou (k:=j) om gv2;have aJ4:X.length=ord.length:=by have:=v2.len;omega
 generalize hH2:H1.put H.nx .dead=J at *;have n2:J.nx=H1.nx:=by rw[<-hH2];rfl
 have wsl:(w=.aA)\/∃b o n m e,w=.sl b o n m e:=by
  rcases w2.is with⟨es,_⟩|⟨b,o,e,q,T,es,_⟩
  ·grind
  ·grind
 have run:∃Z,(vq (aL 0 (.ptr ob 0)) J λa3 H=>vq (aR H a3) H λa4 H=>ve (C j (.f 280) [a4] H) λa5 H=>vq (aL 0 (.ptr ob 0)) H λa6 H=>ve (kL H a6 a5) λ_ H=>vq (bW 2 H (.ptr ob 0)) H λa8 H=>ve (yI 2 H (.ptr x2 0) a8) λ_ H=>
   dJ (dY (dU (rV (bW 2 H (.ptr x2 0))) (dU (some (.int .i64 (.ofNat 0))) (some [])))) H)=.ok (.aX [.agg [w,iv],.int .i64 (.ofNat 0)]) Z/\Fm (λb=>b=ob\/b=x2) J Z:=by
  have f3:∀B1 B2,Fm (λb=>b=ob\/b=x2) J ((J.put ob B1).put x2 B2):=om;have es2:∀x:AV,aY [lv,iv] 0 [x]=[x,iv]:=λ_=>rfl;have es3:∀x:AV,aY [AV.aA,AV.aA] 0 [x,iv]=[x,iv]:=λ_=>rfl;have es4:∀x:AV,List.take 2 [x,iv]=[x,iv]:=λ_=>rfl;rcases wsl with rfl|⟨b,o,n,m,e,rfl⟩
  ·simp(disch:=omega)only[go_sem,seval,go,w1,gx,es2,es3,es4,nk,DP,AF,ai,pq];exact⟨_,rfl,f3 _ _⟩
  ·simp(disch:=omega)only[go_sem,seval,go,w1,gx,es2,es3,es4,nk,DP,AF,ai,pq];exact⟨_,rfl,f3 _ _⟩
 obtain⟨Z,e3,f3⟩:=run;rw[e3];have old:∀{x:AV} {m:Nat} {y:List AV},Gl 1 H1 x m y->(∀b,In x b->b≠H.nx/\b≠ob/\b≠x2)->Gl 1 Z x m y:=om;refine Ok.ret ⟨w,iv,X,Y,rfl,⟨?_,?_,?_,λW w' K d I=>?_,?_,?_,λW K x d I=>?_,λb a=>?_⟩,?_⟩
 ·grind
 ·rw[aJ4];exact w3
 ·rw[aJ4,vu]
 ·obtain⟨i,o,a1,a2,a3,a4,a5⟩:=v4 W w' d
  grind
 ·rcases i2 with⟨s,P⟩|⟨s,P,b3,b4,b5,b6⟩
  ·have:Y=[]:=lE5.1 om;rw[s,P,this];exact Gl.nil _ _
  ·rcases V with⟨_,es,_⟩|⟨_,_,_,_,_,_,a6⟩
   ·grind
   ·rw[s];have g3:Z.get nb=aB 0 (aJ Y):=(f3.get nb om (by rintro (es|es);exact b6 es;exact a6 es)).trans om;exact⟨by rw[oF,i1,vx],.inr ⟨nb,0,true,0,_,rfl,g3,vy _,pq,Or.inl rfl,om⟩⟩
 ·rcases i2 with⟨s,P⟩|⟨s,_⟩
  ·rw[s,P];rfl
  ·rw[s];rfl
 ·rw[AS]at d;cases M:ord[W]? with
  |none=>rw[M]at d;cases d
  |some i=>rw[M]at d;have d:D.getD i []=K:=Option.some.inj d;have E:i<D.length:=om;rw[vt,j0 E]at d;have d:D[i]=K:=d;exact i3 W i K x (lAL.1 M).1 M (by rw[j0 E,d]) I
 ·rcases a with a|a
  ·grind
  ·rcases i2 with⟨_,P⟩|⟨s,_,b3,_⟩
   ·rw[P]at a;obtain⟨_,_,_,_,es⟩:=a;cases es
   ·rw[s]at a;obtain⟨_,_,_,_,es⟩:=a;cases es;exact b3
 ·refine N.fm.then ((fd.mono (T:=λb=>b=H.nx\/b=ob\/b=x2) λ_ _ es=>Or.inl es).trans om) λc hc es=>?_;omega
theorem Vp(V:qM C)(Q:pP C)(R:pZ LA LO C)(W:920<=j)(S:lP n h)(t:n<=256)(d:h.length<200000)(X:lX H0 gv h){g0 ob x2 nb:Nat}(Y:∀f y z A,G (pu T [(22,f),(23,y),(24,z),(25,A)]) 5=.ptr ob 0)(Z:∀f y z A,G (pu T [(22,f),(23,y),(24,z),(25,A)]) 2=.ptr x2 0)(hf:Fm No H0 H)(l:H.get g0=aB 0 [.int .i64 (.ofNat n),gv])(w:g0<H.nx)(uY:H0.nx<=ob/\ob<H.nx)(x:H0.nx<=x2/\x2<H.nx/\x2≠ob)(hgo:H.get ob=aB 0 [.aA,iv])(hgx:H.get x2=aB 0 [.aA,.aA])(hiv:(n=0/\iv=.aA/\nb=ob)\/(0<n/\iv=.sl nb 0 n n true/\H.get nb=aB 0 (aJ (List.replicate n 0))/\H0.nx<=nb/\nb<H.nx/\nb≠ob/\nb≠x2)):Ok (Ce LO (C j) T (.ptr g0 0) H) λr H'=>∃lv iv os gT out ins m,r=.aX [.agg [lv,iv],.int .i64 (.ofNat 0)]/\qlt n h out ins m/\CR H0 H' n lv iv os m gT/\Fm No H0 H':=by
 unfold Ce;have o:lX H gv h:=om;have L:=o.eqG (.ofNat n);refine dI l ?_;refine Ok.iC (zun V Q R (k:=j) om t d S.rng o) ?_;rintro v H1 ⟨cs,out,K,e,u⟩;have e:oZ H H1 v cs out:=e;have u:Fm No H H1:=u;have p:H1.get g0=aB 0 [.int .i64 (.ofNat n),gv]:=(u.keep w).trans l;refine dS p L ?_;obtain⟨z1,z2⟩:=K.sizes t;refine Ok.iC (zt5 Q (k:=j) W e u.nx t z1 z2 K.nd) ?_;rintro r s ⟨lb,gb,ib,wb,M,a,ins,rfl,hp,g,N,q,U⟩;have q:Fm (In v) H1 s:=q;have B:s.get g0=aB 0 [.int .i64 (.ofNat n),gv]:=(q.get _ om λes=>by have:=e.new _ es;omega).trans p;refine dS B L ?_;have D:=K.perm hp;have E:Fm No H0 H1:=om;have F:Fm No H0 s:=E.then q λc hc es=>by have:=e.new c es;have:=hf.nx;omega
 have bSc:∀{b:Nat} {k:cZ},b<H.nx->H.get b=k->s.get b=k:=λ{b k} hb es=>(q.get b om λes=>by have:=e.new b es;omega).trans om;have I:qlt n h a ins ((kT h ins a.length a.length (List.replicate a.length false)).map λi=>a.getD i []):=⟨D,g.il,g.ix,rfl⟩;have J:I8 H s n gv v M a ins lb gb ib wb:=g;refine(zwn R (j:=j) om S.rng t d X om om J I ⟨om,om,om,om⟩ (λi c b h1 h2=>?_) F uY x om om (nb:=nb) (iv:=iv) ?_ om).mono ?_
 ·-- the components' blocks are older than the closure's
  have hm:=N c om;obtain⟨O,P,rfl⟩:=ku hm;obtain⟨_,h3,_⟩:=e.at' O cs[O] (out[O]'(by rw[<-e.len];exact P)) g3 g3
  grind
 ·grind
 ·grind
theorem Vo(m:qM C)(o:pP C)(e:pZ LA LO C){k:Nat}(s:921<=k)(f:lP n h)(g:n<=256)(b:h.length<200000)(p:lX H gv h):Ok (C k (.f 244) [.agg [.int .i64 (.ofNat n),gv]] H) λr H'=>∃lv iv t u out ins c,r=.aX [.agg [lv,iv],.int .i64 (.ofNat 0)]/\qlt n h out ins c/\CR H H' n lv iv t c u/\Fm No H H':=by
 obtain⟨j,rfl⟩:=aO s;rw[(e j).zBo];unfold zBo PD;refine aS ?_;generalize A:aH (aH H (aB 0 [.int .i64 (.ofNat n),gv])) (aB 0 [.aA,.aA])=H1;have B:H1.nx=H.nx+2:=om;have v:Fm No H H1:=om;have g1:H1.get H.nx=aB 0 [.int .i64 (.ofNat n),gv]:=om;have w:H1.get (H.nx+1)=aB 0 [.aA,.aA]:=om;refine Ok.ve (zwv (k:=j) om f g om om) ?_;rintro r a ⟨rfl,d⟩;have D:=d.nx;generalize qN [AV.agg [AV.int IntKind.i64 (Int.ofNat n),gv]] 0 (same AV.undef 2)=L0;unfold Ku;have g2:a.get H.nx=aB 0 [.int .i64 (.ofNat n),gv]:=(d.keep om).trans g1;have x2:a.get (H.nx+1)=aB 0 [.aA,.aA]:=(d.keep om).trans w;have x:=v.trans d;by_cases i:0<n
 ·have q:=kP [.int .i64 (.ofNat 0)] 8 (a.nx+1) n om om;rw[iT,GG]at q;refine gW g2 i q ?_;have es:aY [AV.aA,AV.aA] 1 [.sl (a.nx+1) 0 n n true]=[.aA,.sl (a.nx+1) 0 n n true]:=rfl
  try rw[es]
  generalize l:(aH (aH a (aB 0 [AV.aA,AV.aA])) (aB 0 (aJ (List.replicate n 0)))).put a.nx (aB 0 [AV.aA,AV.sl (a.nx+1) 0 n n true])=HX;have y:HX.nx=a.nx+2:=by rw[<-l];rfl
  have z:Fm No a HX:=by rw[<-l];exact(((Fm.refl _ _).push _).push _).aN _ _ om
  refine Vp m o e (j:=j) om f g b p (ob:=a.nx) (x2:=H.nx+1) (nb:=a.nx+1) (iv:=.sl (a.nx+1) 0 n n true) (g0:=H.nx) (λ_ _ _ _=>kr) (λ_ _ _ _=>kr) ?_ ?_ ?_ ?_ ?_ ?_ ?_ ?_
  ·grind
  ·grind
  ·omega
  ·omega
  ·omega
  ·grind
  ·grind
  ·refine Or.inr ⟨i,rfl,?_,om,om,om,om⟩
   grind
 ·refine dS g2 i ?_;generalize l:aH a (aB 0 [AV.aA,AV.aA])=HX;have y:HX.nx=a.nx+1:=om;have z:Fm No a HX:=om;refine Vp m o e (j:=j) om f g b p (ob:=a.nx) (x2:=H.nx+1) (nb:=a.nx) (iv:=.aA) (g0:=H.nx) (λ_ _ _ _=>kr) (λ_ _ _ _=>kr) ?_ ?_ ?_ ?_ ?_ ?_ ?_ ?_
  ·grind
  ·grind
  ·omega
  ·omega
  ·omega
  ·grind
  ·grind
  ·simp_all
end Go.Di
end
noncomputable section
namespace Go.Di
open Go.Di.T
theorem Um(ins:List Nat)(dn:List Bool)(a m:Nat)(b:a<m):∀(es:List Edge) (w:List Bool),w.length=m->(∀e∈es,ins.getD e.f 0<m) -> ((bp es ins dn w).getD a true=true↔w.getD a true=true\/∃e∈es,ins.getD e.f 0=a/\ins.getD e.f 0≠ins.getD e.t 0/\dn.getD (ins.getD e.t 0) true=false)
 | [],w,_,_=>by simp[bp]
 |e::es,w,hw,hin=>by
  show(bp es ins dn (cE ins dn w e)).getD a true=true↔_;have f:(cE ins dn w e).length=m:=by unfold cE;split<;>simp[hw]
  rw[Um ins dn a m b es _ f λd c=>hin d (DQ _ c)];have g:(cE ins dn w e).getD a true=true↔w.getD a true=true\/(ins.getD e.f 0=a/\ins.getD e.f 0≠ins.getD e.t 0/\dn.getD (ins.getD e.t 0) true=false):=by
   unfold cE;by_cases h:ins.getD e.f 0≠ins.getD e.t 0/\dn.getD (ins.getD e.t 0) true=false
   ·rw[sB h,vt,List.getElem?_set]
    grind
   ·grind
  rw[g];simp only[lE4,exists_eq_or_imp,or_assoc]
theorem zkp(m a:Nat)(h:a<m):(List.replicate m false).getD a true=false:=om
structure Pl(n:Nat)(es:List Edge)(out:List (List Nat))(ins:List Nat)(dn:List Bool)(pre:List (List Nat)):Prop where
 dl:dn.length=out.length
 mem:∀x,x<n->(x∈pre.flatten↔dn.getD (ins.getD x 0) true=true)
 lt:∀x∈pre.flatten,x<n
 cl:∀x∈pre.flatten,∀k∈bx es x,k∈pre.flatten
noncomputable section
variable {n:Nat} {es:List Edge} {out:List (List Nat)} {ins:List Nat}
theorem Nl(f:qdt n (bx es) out){p:Nat}{c:List Nat}(h:out[p]? =some c):∃i t,c=i::t/\i∈c/\(∀x,x∈c↔Rc (bx es) i x/\Rc (bx es) x i):=by
 obtain⟨j,r,g,e⟩:=f.scc c om;cases c with
 |nil=>cases g
 |cons i t=>have d:=(e i).1 vA;refine⟨i,t,rfl,vA,λx=>?_⟩;rw[e x];exact⟨λ⟨a,b⟩=>⟨d.2.trans a,b.trans d.1⟩,λ⟨a,b⟩=>⟨d.1.trans a,b.trans d.2⟩⟩
theorem tt(a:qdt n (bx es) out)(e:∀(i:Nat) (o:List Nat) (x:Nat),out[i]? =some o->x∈o->ins[x]? =some i){x:Nat}(h:x<n):∃c,out[ins.getD x 0]? =some c/\x∈c:=by
 obtain⟨c,b,d⟩:=lO6.1 ((a.all x).2 h);obtain⟨i,f⟩:=lOT.1 b
 grind
theorem Nv(a:∀(i:Nat) (o:List Nat) (x:Nat),out[i]? =some o->x∈o->ins[x]? =some i){x:Nat}{c:List Nat}(b:out[n]? =some c)(h:x∈c):ins.getD x 0=n:=by rw[vt,a n c x b h];rfl
variable{h:List Bool}
theorem zli(A:∀e∈es,e.f<n/\e.t<n)(j:qdt n (bx es) out)(b:∀(i:Nat) (o:List Nat) (x:Nat),out[i]? =some o->x∈o->ins[x]? =some i){pre:List (List Nat)}(l:Pl n es out ins h pre){p:Nat}{c:List Nat}(d:out[p]? =some c):cU h (bp es ins h (List.replicate out.length false)) p=true↔∀i∈c,i∉pre.flatten/\qz n (bx es) pre i:=by
 have q:=(lAL.1 d).1;obtain⟨E,t,R,s,u⟩:=Nl j d;have N:∀x∈c,x<n:=λx dn=>(j.all x).1 (lO6.2 ⟨c,om,dn⟩);have C:∀e∈es,ins.getD e.f 0<out.length:=λe f=>by obtain⟨K,v,_⟩:=tt j b (A e f).1;exact(lAL.1 v).1
 have I:=Um ins h p out.length q es (List.replicate out.length false) g3 C;rw[zkp _ _ q]at I;unfold cU;rw[sA,dh,dh];constructor
 ·rintro ⟨v,L⟩;have O:¬∃e∈es,ins.getD e.f 0=p/\ins.getD e.f 0≠ins.getD e.t 0/\h.getD (ins.getD e.t 0) true=false:=om;have P:∀x∈c,x∉pre.flatten:=λx dn g=>by
   have:=(l.mem x om).1 g
   grind
  have D:∀y,(y∈c\/y∈pre.flatten)->∀k∈bx es y,k∈c\/k∈pre.flatten:=λy m k B=>by
   rcases m with m|m
   ·obtain⟨e,f,F,w⟩:=qed.1 B;have r:k<n:=om;by_cases a:ins.getD e.f 0=ins.getD e.t 0
    ·left;rw[F,w,Nv b d m]at a;obtain⟨K,M,G⟩:=tt j b r
     grind
    ·right;have:¬h.getD (ins.getD e.t 0) true=false:=om;rw[w]at this;exact(l.mem k r).2 om
   ·exact Or.inr (l.cl y m k B)
  intro i Q;refine⟨om,λk B z=>?_⟩;rcases Rc.closed (S:=λy=>y∈c\/y∈pre.flatten) D z om with g|g
  ·exact Or.inr (((u k).1 g).2.trans ((u i).1 Q).1)
  ·grind
 ·intro dn;obtain⟨g1,g2⟩:=dn E s;constructor
  ·have:¬h.getD (ins.getD E 0) true=true:=λg=>g1 ((l.mem E om).2 g);rw[Nv b d s]at this
   grind
  ·have:¬(bp es ins h (List.replicate out.length false)).getD p true=true:=λg=>by
    rcases I.1 g with g|⟨e,f,v,L,M⟩
    ·cases g
    ·obtain⟨K,G,H⟩:=tt j b (A e f).1;rw[v,d]at G;cases G;obtain⟨T,k2⟩:=dn e.f H;have J:=(A e f).2;have z:Rc (bx es) e.f e.t:=Rc.one (qed.2 ⟨e,f,rfl,rfl⟩);rcases k2 e.t J z with g|g
     ·have:=(l.mem e.t J).1 g;rw[M]at this;cases this
     ·have:e.t∈c:=(u e.t).2 ⟨((u e.f).1 H).1.trans z,g.trans ((u e.f).1 H).2⟩;exact L (v.trans (Nv b d this).symm)
   grind
theorem Ur(dn:eU h (bp es ins h (List.replicate n false)) n=none):∀k,kT es ins n k h=[]
 |0=>rfl
 |k+1=>by rw[kT,dn];exact Ur dn k
theorem RI(A:∀e∈es,e.f<n/\e.t<n)(a:qdt n (bx es) out)(m:∀(i:Nat) (o:List Nat) (x:Nat),out[i]? =some o->x∈o->ins[x]? =some i):∀(k:Nat) (dn:List Bool) (pre:List (List Nat)),Pl n es out ins dn pre->(dn.count false)<=k->oD n (bx es) pre ((kT es ins out.length k dn).map λi=>out.getD i [])
 |k,dn,pre,hl,N=>by
  have q:∀u,∀k∈bx es u,k<n:=λu k N=>by obtain⟨e,Y,_,rfl⟩:=qed.1 N;exact(A e Y).2
  have G:∀i,i<n->i∉pre.flatten->qz n (bx es) pre i->cU dn (bp es ins dn (List.replicate out.length false)) (ins.getD i 0)=true:=λi R T E=>by
   obtain⟨c,v,B⟩:=tt a m R;refine(zli A a m hl v).2 λy f=>?_;obtain⟨O,t,Z,M,d⟩:=Nl a v;have H:Rc (bx es) y i:=((d y).1 f).2.trans ((d i).1 B).1;have r:Rc (bx es) i y:=((d i).1 B).2.trans ((d y).1 f).1;refine⟨λg=>?_,λz U F=>?_⟩
   ·exact T (Rc.closed (S:=λw=>w∈pre.flatten) hl.cl H g)
   ·rcases E z U (r.trans F)with g|g
    ·grind
    ·exact Or.inr (g.trans r)
  cases D:eU dn (bp es ins dn (List.replicate out.length false)) out.length with
  |none=>
   rw[Ur D];intro x b;by_cases Q:x∈pre.flatten
   ·exact Q
   ·obtain⟨i,v,B,h3⟩:=z9s q b Q;have:=G i v B h3;obtain⟨c,P,_⟩:=tt a m v;rw[TZ D _ (lAL.1 P).1]at this
    grind
  |some p=>
   obtain⟨p1,C,p3⟩:=Be D;have s:dn.getD p true=false:=by unfold cU at C;simp only[sA,dh]at C;exact C.1
   have I:p<dn.length:=om;have V:dn[p]=false:=by rw[vt,j0 I]at s;exact s
   cases k with
   |zero=>
    grind
   |succ k=>
    have J:out[p]? =some out[p]:=g3;have K:out.getD p []=out[p]:=by rw[vt,J];rfl
    rw[kT,D];show oD n (bx es) pre (out.getD p []::(kT es ins out.length k (dn.set p true)).map λi=>out.getD i []);rw[K];obtain⟨O,t,Z,M,d⟩:=Nl a J;have W:∀x∈out[p],x<n:=λx h=>(a.all x).1 (lO6.2 ⟨out[p],om,h⟩);have E:=(zli A a m hl J).1 C;refine⟨⟨O,⟨om,om,om⟩,(a.scc _ om).1,om⟩,?_⟩
    ·refine RI A a m k (dn.set p true) (pre++[out[p]]) ⟨by rw[iy];exact hl.dl,λx b=>?_,λx h=>?_,λx h y f=>?_⟩ ?_
     ·rw[uy,lAJ,hl.mem x b];have X:([out[p]]:List (List Nat)).flatten=out[p]:=g3;rw[X,vt (l:=dn.set p true),List.getElem?_set];obtain⟨c',P,h5⟩:=tt a m b;by_cases e:p=ins.getD x 0
      ·grind
      ·rw[sy e,<-vt]
       grind
     ·rw[uy,lAJ]at h;rcases h with h|h
      ·exact hl.lt x h
      ·grind
     ·rw[uy,lAJ]at h ⊢;rcases h with h|h
      ·exact Or.inl (hl.cl x h y f)
      ·have j:x∈out[p]:=by simpa using h
       have L:=q x y f;rcases(E x j).2 y L (Rc.one f)with g|g
       ·grind
       ·right;have:y∈out[p]:=(d y).2 ⟨((d x).1 j).1.step f,g.trans ((d x).1 j).2⟩
        grind
     ·grind
theorem qlt.ord(b:∀e∈es,e.f<n/\e.t<n){a:List (List Nat)}(h:qlt n es out ins a):oD n (bx es) [] a:=by
 rw[h.res];refine RI b h.parts h.ix _ _ [] ⟨g3,λx d=>?_,om,om⟩ ?_
 ·obtain⟨c,f,_⟩:=tt h.parts h.ix d;rw[zkp _ _ (lAL.1 f).1];simp
 ·grind
end
end Go.Di
end
noncomputable section
namespace Go.Di
open Go.Ev Go.Di.T Go.Sort
end Go.Di
end
noncomputable section
namespace Go.Di
open Go.Ev
variable {A:Nat->Nat->Prop}
open Go.Di.T Go.Sort
variable {aV:Nat->List Nat} {i m n:Nat} {ins:List Nat}
theorem U0{aV:Nat->List Nat}:∀{R pre:List (List Nat)} {c:List Nat},oD n aV pre R->c∈R->∃i,zze n aV i c
 | [],_,_,_,h=>by cases h
 |d::R,pre,c,⟨⟨i,_,hc⟩,h2⟩,h=>by
  rcases lE4.1 h with rfl|h
  ·exact⟨i,hc⟩
  ·exact U0 h2 h
variable{M:List Nat}
theorem zlf{a:List (List Nat)}(h:oD n aV [] a)(e:M∈a){y:Nat}(f:m∈M)(j:y<n):y∈M↔Rc aV m y/\Rc aV y m:=by obtain⟨i,_,b⟩:=U0 h e;obtain⟨_,c,d⟩:=(b m).1 f;rw[b y];exact⟨λg=>⟨d.trans g.2.1,g.2.2.trans c⟩,λg=>⟨j,c.trans g.1,g.2.trans d⟩⟩
structure NmC(n:Nat)(res:List (List Nat))(ins:List Nat):Prop where
 is:∀(j:Nat) (o:List Nat) (x:Nat),res[j]? =some o->x∈o->ins.getD x 0=j
 all:∀x,x<n->∃(j:Nat) (o:List Nat),res[j]? =some o/\x∈o
theorem NmC.lt{a:List (List Nat)}(h:NmC n a ins)(c:i<n):ins.getD i 0<a.length:=by obtain⟨j,o,b,d⟩:=h.all i c;rw[h.is j o i b d];exact(lAL.1 b).1
theorem NmC.eq{a:List (List Nat)}(h:NmC n a ins)(l:oD n aV [] a){x y:Nat}(m:x<n)(d:y<n):ins.getD x 0=ins.getD y 0↔Rc aV x y/\Rc aV y x:=by
 obtain⟨j,o,b,e⟩:=h.all x m;obtain⟨f,g,i,k⟩:=h.all y d;rw[h.is j o x b e,h.is f g y i k,<-zlf l (sW b) e d];constructor
 ·grind
 ·intro c;rw[<-h.is j o y b c,h.is f g y i k]
variable{H0:Hp}
theorem CR.no{H H':Hp}{lv iv:AV}{c:List AV}{a:List (List Nat)}(h:CR H0 H n lv iv c a ins)(b:Fm No H H'):CR H0 H' n lv iv c a ins:=
 ⟨h.gl.no b,h.cap,h.len,λj w o d e=>by obtain⟨f,g,i⟩:=h.at' j w o d e;exact⟨f.no b,g,i⟩,h.gi.no b,h.bAF,h.ins,h.new⟩
attribute [grind .] CR.no
def cP(e:Edge):Nat:=if e.s then 1 else 0
theorem aW3(n x:Nat):(List.replicate n 0).getD x 0=0:=by
 rw[vt,List.getElem?_replicate]
 grind
def iX(l:List Nat):Nat:=l.foldl max 0
theorem QD(l:List Nat):∀a,a<=l.foldl max a/\(∀x∈l,x<=l.foldl max a)/\(l.foldl max a=a\/l.foldl max a∈l):=by
 induction l with
 |nil=>intro a;exact⟨AF _,om,Or.inl rfl⟩
 |cons y l ih=>
  intro a;obtain⟨c,d,e⟩:=ih (max a y);show a<=l.foldl max (max a y)/\(∀x∈y::l,x<=l.foldl max (max a y))/\(l.foldl max (max a y)=a\/l.foldl max (max a y)∈y::l);refine⟨om,λx b=>?_,?_⟩
  ·grind
  ·grind
def zX(o:List Nat)(v:Nat):List Nat->List Nat
 | []=>o
 |x::l=>zX (o.set x v) v l
theorem Pg(cs:List Nat)(a c v:Nat)(b:c<cs.length):(cs.set a v).getD c 0=if a=c then v else cs.getD c 0:=by
 rw[vt,vt,List.getElem?_set]
 grind
theorem Fs(v:Nat):∀(l o:List Nat),(zX o v l).length=o.length
 | [],_=>rfl
 |x::l,o=>(Fs v l _).trans iy
theorem My(v:Nat):∀(l o:List Nat),i<o.length->(zX o v l).getD i 0=if i∈l then v else o.getD i 0
 | [],o,_=>by simp[zX]
 |x::l,o,h=>by
  rw[zX,My v l _ (by rw[iy];exact h),Pg _ _ _ _ h];by_cases a:i∈l
  ·simp_all
  ·rw[sy a];by_cases b:x=i
   ·simp_all
   ·rw[sy b,sy λh=>(lE4.1 h).elim (λe=>b e.symm) a]
theorem T9(v x:Nat):∀(l o:List Nat),zX o v (l++[x])=(zX o v l).set x v
 | [],_=>rfl
 |_::l,_=>T9 v x l _
theorem z09(h:∀x∈M,x<=m):iX M<=m:=by
 obtain⟨_,_,a⟩:=QD M 0;rcases a with a|a
 ·unfold iX;omega
 ·exact h _ a
structure Smo(n m:Nat)(o:List Nat):Prop where
 len:o.length=n
 bd:∀x,x<n->o.getD x 0<=m
theorem Smo.start(n m:Nat):Smo n m (List.replicate n 0):=⟨g3,om⟩
theorem Smo.fill(h:Smo n m ins)(b:i<=m+1):Smo n (m+1) (zX ins i M):=
 ⟨by rw[Fs,h.len],λx a=>by rw[My _ _ _ (by rw[h.len];exact a)];have:=h.bd x a;split<;>omega⟩
def Fit(n:Nat)(es:List Edge)(o:List Nat):Prop:=o.length=n/\∀e∈es,o.getD e.t 0+cP e<=o.getD e.f 0
def Aq(n:Nat)(es:List Edge)(o:List Nat):Prop:=∀S,Fit n es S->∀x,x<n->o.getD x 0<=S.getD x 0
variable{h:List Edge}
theorem zvg{c:List Nat}(es:Fit n h M)(l:Aq n h M)(d:Fit n h c)(f:Aq n h c):M=c:=by
 apply List.ext_getElem (es.1.trans d.1.symm);intro i g j;have e:i<n:=by have:=es.1;omega
 have a:=l c d i e;have b:=f M es i e
 grind
theorem xbd(es:Fit n h M)(c:Rc (bx h) i m):M.getD m 0<=M.getD i 0:=by
 induction c with
 |refl=>exact AF _
 |step _ hst ih=>obtain⟨x,d,rfl,rfl⟩:=qed.1 hst;have:=es.2 x d;omega
structure vS(n:Nat)(es:List Edge)(ins:List Nat)(i:Nat)(o:List Nat):Prop where
 len:o.length=n
 zero:∀x,x<n->i<=ins.getD x 0->o.getD x 0=0
 up:∀e∈es,ins.getD e.f 0<i->ins.getD e.t 0≠ins.getD e.f 0->o.getD e.t 0+cP e<=o.getD e.f 0
 why:∀x,x<n->ins.getD x 0<i->o.getD x 0=0\/∃e∈es,ins.getD e.f 0=ins.getD x 0/\ins.getD e.t 0≠ins.getD x 0/\o.getD x 0=o.getD e.t 0+cP e
 same:∀x y,x<n->y<n->ins.getD x 0=ins.getD y 0->o.getD x 0=o.getD y 0
 bd:∀x,x<n->o.getD x 0<=ins.getD x 0
theorem vS.start(n:Nat)(es:List Edge)(ins:List Nat):vS n es ins 0 (List.replicate n 0):=
 ⟨by simp,λx _ _=>aW3 n x,om,om,om,om⟩
def bm(es:List Edge)(a o:List Nat)(i:Nat):List Nat:=(es.filter λe=>decide (a.getD e.f 0=i)&& !decide (a.getD e.t 0=i)).map λe=>o.getD e.t 0+cP e
theorem qxc:m∈bm h ins M i↔∃e∈h,ins.getD e.f 0=i/\ins.getD e.t 0≠i/\m=M.getD e.t 0+cP e:=by
 unfold bm
 grind
theorem vS.step{c:List Nat}(es:vS n h ins i M)(l:∀e∈h,e.f<n/\e.t<n)(v:∀x,x<n->(x∈c↔ins.getD x 0=i))(q:∀e∈h,ins.getD e.t 0<=ins.getD e.f 0):vS n h ins (i+1) (zX M (iX (bm h ins M i)) c):=by
 have g:∀x,x<n->(zX M (iX (bm h ins M i)) c).getD x 0=if ins.getD x 0=i then iX (bm h ins M i)else M.getD x 0:=λx a=>by
  rw[My _ _ _ (by rw[es.len];exact a)]
  grind
 obtain⟨_,t,d⟩:=QD (bm h ins M i) 0;refine⟨by rw[Fs,es.len],λx a r=>?_,λe b r m=>?_,λx a r=>?_,λx y a s e=>?_,λx a=>?_⟩
 ·rw[g x a,sy (by omega)];exact es.zero x a om
 ·obtain⟨l1,u⟩:=l e b;have:=q e b;rw[g _ l1,g _ u,sy (by omega)];by_cases f:ins.getD e.f 0=i
  ·rw[sB f];exact t _ (qxc.2 ⟨e,b,f,om,rfl⟩)
  ·rw[sy f];exact es.up e b om m
 ·rw[g x a];by_cases f:ins.getD x 0=i
  ·rw[sB f];rcases d with d|d
   ·exact Or.inl d
   ·obtain⟨e,b,p,k,j⟩:=qxc.1 d;refine Or.inr ⟨e,b,om,om,?_⟩;rw[g _ (l e b).2,sy k];exact j
  ·rw[sy f];rcases es.why x a om with A|⟨e,b,p,k,j⟩
   ·grind
   ·refine Or.inr ⟨e,b,p,k,?_⟩
    grind
 ·rw[g x a,g y s,e];split
  ·rfl
  ·exact es.same x y a s e
 ·rw[g x a];by_cases f:ins.getD x 0=i
  ·rw[sB f,f];rcases d with d|d
   ·have d:iX (bm h ins M i)=0:=d;omega
   ·obtain⟨e,b,p,k,j⟩:=qxc.1 d;have j:iX (bm h ins M i)=M.getD e.t 0+cP e:=j;have w:=q e b;have z:=es.bd e.t (l e b).2;have:cP e<=1:=by unfold cP;split<;>omega
    omega
  ·rw[sy f];exact es.bd x a
theorem vS.done{a:List (List Nat)}(es:vS n h ins a.length M)(k:∀e∈h,e.f<n/\e.t<n)(d:NmC n a ins)(q:oD n (bx h) [] a)(r:∀e∈h,ins.getD e.t 0<=ins.getD e.f 0)(s:∀e∈h,e.s=true->ins.getD e.f 0≠ins.getD e.t 0):Fit n h M/\Aq n h M/\∀x,x<n->M.getD x 0<=ins.getD x 0:=by
 refine⟨⟨es.len,λe b=>?_⟩,λS l=>?_,?_⟩
 ·obtain⟨l1,i⟩:=k e b;by_cases j:ins.getD e.t 0=ins.getD e.f 0
  ·have f:¬e.s=true:=λt=>s e b t j.symm;unfold cP;rw[sy f,es.same _ _ i l1 j]
   grind
  ·exact es.up e b (d.lt l1) j
 ·have g:∀m x,ins.getD x 0=m->x<n->M.getD x 0<=S.getD x 0:=λm=>by
   induction m using Nat.strongRecOn with
   |_ m ih=>
    intro x p c;rcases es.why x c (d.lt c)with h0|⟨e,b,h1,h2,h3⟩
    ·omega
    ·obtain⟨l1,i⟩:=k e b;have u:=r e b;have v:=ih (ins.getD e.t 0) (by omega) e.t rfl i;have w:=l.2 e b;have y:=xbd l ((d.eq q c l1).1 h1.symm).1;omega
  exact λx p=>g _ x rfl p
 ·exact es.bd
variable {LA LO:LP}
theorem zjv:∀(o:List Nat) (i v:Nat),i<o.length->(o.set i v).sum+o.getD i 0=o.sum+v
 |x::l,0,v,_=>g2
 |x::l,i+1,v,h=>by have:=zjv l i v om;simp at this ⊢;omega
theorem zyd:∀(o:List Nat) (m:Nat),(∀x∈o,x<=m)->o.sum<=o.length*m
 | [],_,_=>g3
 |x::l,m,h=>by have a:=zyd l m om;have b:=h x vA;rw[List.sum_cons,nk,bz,ut];omega
structure RE(H1:Hp)(n a0 mb ob:Nat)(ms:List Nat):Prop where
 g0:H1.get a0=aB 0 [.int .i64 (.ofNat n),.sl mb 0 (n*n) (n*n) true]
 gm:H1.get mb=aB 0 (aJ ms)
 lt:a0<H1.nx/\mb<H1.nx
 ne:a0≠ob/\mb≠ob
 len:ms.length=n*n
 n:n<=256
theorem Smo.sum(h:Smo n m M):M.sum<=n*m:=by
 have:=zyd M m λx a=>by obtain⟨i,b,rfl⟩:=lUM.1 a;have:=h.bd i (by have:=h.len;omega);rwa [vt,j0 b]at this
 rwa [h.len]at this
structure PI(n:Nat)(o0 o:List Nat)(ch:Bool):Prop where
 ns:Smo n n o
 up:ch=true->o0.sum<o.sum
 le:o0.sum<=o.sum
variable{W:Bool}
theorem PI.raise(h:PI n ins M W)(e:i<n)(b:M.getD i 0<m)(c:m<=n):PI n ins (M.set i m) true:=by
 have f:=h.ns.len;have g:=zjv M i m om;have:=h.le;refine⟨⟨om,λx d=>?_⟩,om,om⟩;rw[Pg _ _ _ _ om];split
 ·exact c
 ·exact h.ns.bd x d
theorem pY(o:List Nat)(i:Nat)(h:i<o.length):(aJ o)[i]? =some (.int .i64 (.ofNat (o.getD i 0))):=by unfold aJ;simp_all
variable{P:Ev.Call}{V:AV->pD}
theorem zyt{e mb ob:Nat}(a:RE H0 n e mb ob M)(R:ob<H0.nx)(q:i<n){qe:pD}{Q:pL}(S:∀H,Fm (λb=>b=ob) H0 H->Ok (V .aA (.bool false) H) Q)(T:∀o d H,PI n ins o d->H.get ob=aB 0 (aJ o)->Fm (λb=>b=ob) H0 H->Ok (qe (.bool d) H) Q):∀(f k:Nat) (o:List Nat) (d:Bool) (H:Hp),n-k<f->k<=n->PI n ins o d->H.get ob=aB 0 (aJ o)->Fm (λb=>b=ob) H0 H -> Ok (zp P V qe (.ptr e 0) (.sl ob 0 n n true) (.int .i64 (.ofNat i)) f (.bool d) (.int .i64 (.ofNat k)) H) Q
 |0,k,o,d,H,h,_,_,_,_=>om
 |f+1,k,o,d,H,h,hk,u,c,E=>by
  show Ok (OY P _ _ _ _ _ (zp P _ _ _ _ _ f) _ _ H) Q;unfold OY;have g0:H.get e=aB 0 [.int .i64 (.ofNat n),.sl mb 0 (n*n) (n*n) true]:=(E.get _ a.lt.1 a.ne.1).trans a.g0;have s:H.get mb=aB 0 (aJ M):=(E.get _ a.lt.2 a.ne.2).trans a.gm;have ms:=u.ns.len;have U:=a.len;have N:=a.n;by_cases l:k<n
  ·have X:i*n+k<n*n:=zyx q l;have Y:i*n<=65536:=uj (dE (AE q N)) N;have t:=pY M (i*n+k) om;have O:=pY o k om;have D:=pY o i om;have Z:=u.ns.bd k l;have s2:=u.ns.bd i q;have y:¬n<o.getD i 0:=om;have next:∀(r:List Nat) (g:Bool) (H':Hp),PI n ins r g->H'.get ob=aB 0 (aJ r)->Fm (λb=>b=ob) H0 H' ->
     Ok (BQ P V (zp P V qe (.ptr e 0) (.sl ob 0 n n true) (.int .i64 (.ofNat i)) f) (.ptr e 0) (.sl ob 0 n n true) (.bool g) (.int .i64 (.ofNat i)) (.int .i64 (.ofNat k)) H') Q:=λr g H' p w x=>by
    unfold BQ;have G:H'.get e=aB 0 [.int .i64 (.ofNat n),.sl mb 0 (n*n) (n*n) true]:=(x.get _ a.lt.1 a.ne.1).trans a.g0;have I:=pY r i (by have:=p.ns.len;omega);have s3:=p.ns.bd i q;have y:¬n<r.getD i 0:=om;simp(disch:=go_size)only[go_sem,rB,rI,rK,rL,rN,rS,r6,G,w,I,y,vx,nr];unfold tZ;simp(disch:=go_size)only[go_sem,rB,rI,rK,rL,rN,rS,r6];exact zyt a R q S T f (k+1) r g H' (by omega) (by omega) p w x
   have m:∀v,v<=n+1->Ok (BP P V (zp P V qe (.ptr e 0) (.sl ob 0 n n true) (.int .i64 (.ofNat i)) f) (.ptr e 0) (.sl ob 0 n n true) (.bool d) (.int .i64 (.ofNat i)) (.int .i64 (.ofNat k)) (.int .i64 (.ofNat v)) H) Q:=λv W=>by
    unfold BP;by_cases j:o.getD i 0<v
    ·have z:=Bs o i (v) om;have A:i+1<=(aJ o).length:=om;by_cases C:v<=n
     ·simp(disch:=go_size)only[go_sem,rB,rI,rK,rL,rN,rS,r6,c,D,j,z,A,vx,nr,nk,DP];exact next _ true _ (u.raise q j C) (gX _ _ _) om
     ·have qr:(aJ (o.set i (v)))[i]? =some (.int .i64 (.ofNat (v))):=by
       rw[pY _ _ (by rw[iy];omega),Pg _ _ _ _ om,sB rfl]
      have J:n<v:=om;simp(disch:=go_size)only[go_sem,rB,rI,rK,rL,rN,rS,r6,c,D,j,z,A,vx,nr,nk,DP];unfold BQ;have K:(H.put ob (aB 0 (aJ (o.set i (v))))).get e=aB 0 [.int .i64 (.ofNat n),.sl mb 0 (n*n) (n*n) true]:=by rw[jR _ _ _ _ (by have:=a.ne.1;omega)];exact g0
      simp(disch:=go_size)only[go_sem,rB,rI,rK,rL,rN,rS,r6,K,qr,J,vx,nr]
      grind
    ·simp(disch:=go_size)only[go_sem,rB,rI,rK,rL,rN,rS,r6,c,D,j,vx,nr];exact next o d H u c E
   simp(disch:=go_size)only[go_sem,rB,rI,rK,rL,rN,rS,r6,g0,l];unfold OX;by_cases F:M.getD (i*n+k) 0=1
   ·have L:¬1<M.getD (i*n+k) 0:=om;simp(disch:=go_size)only[go_sem,rB,rI,rK,rL,rN,rS,r6,g0,s,c,t,O,F,vx,nr];unfold BO;simp(disch:=first|go_size|omega)only[go_sem,rB,rI,rK,rL,rN,rS,r6,g0,s,c,t,F,vx,nr];exact m _ om
   ·by_cases L:1<M.getD (i*n+k) 0
    ·simp(disch:=go_size)only[go_sem,rB,rI,rK,rL,rN,rS,r6,g0,s,c,t,F,vx,nr];unfold BO;simp(disch:=go_size)only[go_sem,rB,rI,rK,rL,rN,rS,r6,g0,s,c,t,O,L,vx,nr];exact m _ om
    ·simp(disch:=go_size)only[go_sem,rB,rI,rK,rL,rN,rS,r6,g0,s,c,t,F,vx,nr];unfold BO;simp(disch:=go_size)only[go_sem,rB,rI,rK,rL,rN,rS,r6,g0,s,c,t,L,vx,nr];unfold BP;have B:¬(Int.ofNat (o.getD i 0)<Int.negSucc 0):=om;simp(disch:=go_size)only[go_sem,rB,rI,rK,rL,rN,rS,r6,c,D,B,vx,nr];exact next o d H u c E
  ·simp(disch:=go_size)only[go_sem,rB,rI,rK,rL,rN,rS,r6,g0,l]
   grind
theorem zln{e mb ob:Nat}{ms o0:List Nat}(d:RE H0 n e mb ob ms)(m:ob<H0.nx){qe:pD}{Q:pL}(p:∀H,Fm (λb=>b=ob) H0 H->Ok (V .aA (.bool false) H) Q)(q:∀o a H,PI n o0 o a->H.get ob=aB 0 (aJ o)->Fm (λb=>b=ob) H0 H->Ok (qe (.bool a) H) Q):∀(f i:Nat) (o:List Nat) (a:Bool) (H:Hp),n-i<f->i<=n->PI n o0 o a->H.get ob=aB 0 (aJ o)->Fm (λb=>b=ob) H0 H -> Ok (Cz P V qe (.ptr e 0) (.sl ob 0 n n true) f (.bool a) (.int .i64 (.ofNat i)) H) Q
 |0,i,o,a,H,h,_,_,_,_=>om
 |f+1,i,o,a,H,h,hi,hP,hg,hF=>by
  show Ok (DF P _ _ _ _ (Cz P _ _ _ _ f) _ _ H) Q;unfold DF;have g0:H.get e=aB 0 [.int .i64 (.ofNat n),.sl mb 0 (n*n) (n*n) true]:=(hF.get _ d.lt.1 d.ne.1).trans d.g0;have s:=d.n;by_cases c:i<n
  ·simp(disch:=go_size)only[go_sem,seval,g0,c];unfold zil;rw[dD];refine zyt d m c p (λr g H' j k l=>?_) bT 0 o a H lf om hP hg hF;unfold DE;refine aS ?_;exact zln d m p q f (i+1) r g H' om om j k l
  ·simp(disch:=go_size)only[go_sem,seval,g0,c]
   grind
variable{qe:pH}
theorem zlm{j mb ob:Nat}(a:RE H0 n j mb ob ins)(k:ob<H0.nx){Q:pL}(l:∀H,Fm (λb=>b=ob) H0 H->Ok (V .aA (.bool false) H) Q)(m:∀o H,H.get ob=aB 0 (aJ o)->Fm (λb=>b=ob) H0 H->Ok (qe H) Q):∀(f:Nat) (o:List Nat) (H:Hp),n*n-o.sum+2<=f->Smo n n o->H.get ob=aB 0 (aJ o)->Fm (λb=>b=ob) H0 H -> Ok (ua P V qe (.ptr j 0) (.sl ob 0 n n true) f (.bool true) H) Q
 |0,o,H,h,_,_,_=>om
 |f+1,o,H,h,hN,hg,hF=>by
  show Ok (CB P _ _ _ _ (ua P _ _ _ _ f) _ H) Q;unfold CB;refine aS ?_;unfold zik;rw[dD];have q:=a.n;refine zln a k (o0:=o) l (λp c H' d e i=>?_) bT 0 o false H lf om ⟨hN,om,om⟩ hg hF;cases c with
  |true=>have r:=d.up rfl;have s:=d.ns.sum;exact zlm a k l m f p H' om d.ns e i
  |false=>
   obtain⟨f,rfl⟩:∃g,f=g+1:=⟨f-1,om⟩;show Ok (CB P _ _ _ _ (ua P _ _ _ _ f) _ H') Q;unfold CB;refine aS ?_
   grind
theorem qv2{k:Nat}(f:1<=k){mb:Nat}{d:AV}{H:Hp}(a:xN H d mb n ins)(s:n<13):Ok (C k (.f 53) [d] H) λr H'=>Fm No H H'/\∃w b,r=.aX [w,b]/\vJ w=some [w]:=by
 obtain⟨j,rfl⟩:=aO f;have i:=a.hv;subst i;rw[lk (zs7 ..)];unfold XO;have e:=kP [.int .i64 (.ofNat 0)] 8 (H.nx+1) n om om;rw[iT,GG]at e;refine dI e ?_;generalize q:aH (aH H (aB 0 [.int .i64 (.ofNat n),.sl mb 0 (n*n) (n*n) true])) (aB 0 (aJ (List.replicate n 0)))=H1;have u:H1.nx=H.nx+1+1:=om;have l:Fm No H H1:=om;have g1:H1.get H.nx=aB 0 [.int .i64 (.ofNat n),.sl mb 0 (n*n) (n*n) true]:=om;have g2:H1.get (H.nx+1)=aB 0 (aJ (List.replicate n 0)):=om;have c:=a.lt;have m:RE H1 n H.nx mb (H.nx+1) ins:=⟨g1,(l.keep c).trans a.get,⟨om,om⟩,⟨om,om⟩,a.ok.len,om⟩;rw[dD];have p:n*n<=12*12:=uj om om;refine zlm m om (λg h=>?_) (λo g t h=>?_) bT (List.replicate n 0) H1 lf (Smo.start n n) g2 om
 ·exact Ok.ret ⟨om,_,_,rfl,rfl⟩
 ·unfold CA;exact Ok.ret ⟨om,_,_,rfl,rfl⟩
variable {H:Hp} {l:List AV}
theorem Ir(a:H.get m=aB n (l++aJ M))(h:i<M.length):cB (H.get m) (l.length+i)=.val (.int .i64 (.ofNat M[i])):=by rw[a,gk,AM om,mf];unfold aJ;simp_all
theorem bAY(P:List AV)(M:List Nat)(x:Nat)(h:i<M.length):aY (P++aJ M) (P.length+i) [.int .i64 (.ofNat x)]=P++aJ (M.set i x):=by
 have a:(aJ M).length=M.length:=oF M;unfold aY;rw[List.take_append,AQ om,List.drop_append,ig g2];rw[show P.length+i-P.length=i by omega,show P.length+i+[AV.int .i64 (.ofNat x)].length-P.length=i+1 by simp;omega];have:aJ (M.set i x)=(aJ M).set i (.int .i64 (.ofNat x)):=by unfold aJ;rw[qj]
 rw[this,List.set_eq_take_append_cons_drop,sB om];simp
theorem xbt(P:List AV)(M:List Nat){k:Nat}(b:M.length=n)(h:k<=n):aY (P++aJ M) (P.length+k) (aU [.int .i64 (.ofNat 0)] (n-k))=P++aJ (M.take k++List.replicate (n-k) 0):=by
 have d:(aJ M).length=n:=by rw[oF,b]
 have c:aU [.int .i64 (.ofNat 0)] (n-k)=aJ (List.replicate (n-k) 0):=by rw[iT];unfold aJ;rw[List.map_replicate]
 have a:(aJ (List.replicate (n-k) 0)).length=n-k:=by rw[oF,xy]
 unfold aY;rw[c,a,List.take_append,AQ om,List.drop_append,ig om];rw[show P.length+k-P.length=k by omega,ig om];have:aJ (M.take k++List.replicate (n-k) 0)=(aJ M).take k++aJ (List.replicate (n-k) 0):=by unfold aJ;rw[AO,List.map_take]
 simp_all
structure Cp(l M:List Nat)(k p:Nat):Prop where
 len:M.length=l.length
 lt:k<p
 le:p<=l.length
 same:M.drop k=l.drop k
 asc:(M.take k).Pairwise (· < ·)
 mem:∀x,x∈M.take k↔x∈l.take p
theorem Cp.at{l:List Nat}(h:Cp l M m n)(c:m<=i)(a:i<l.length):M[i]'(by rw[h.len];exact a)=l[i]:=by
 have b:(M.drop m)[i-m]? =(l.drop m)[i-m]? :=by rw[h.same]
 rw[iq,iq,show m+(i-m)=i by omega,j0 a,j0 (by rw[h.len];exact a)]at b;simp_all
theorem wj{l:List Nat}{p:Nat}(h:p<l.length):l.take (p+1)=l.take p++[l[p]]:=nh h
theorem Na(h:n∈M.take m):∃i,∃(a:i<M.length),i<m/\M[i]=n:=by
 obtain⟨i,a,e⟩:=lUM.1 h
 grind
theorem Cp.eq{l:List Nat}(h:Cp l M i m)(b:m<l.length)(c:l[m]=l[m-1]'om):Cp l M i (m+1):=by
 refine⟨h.len,by have:=h.lt;omega,b,h.same,h.asc,λx=>(h.mem x).trans ?_⟩;rw[wj b,lAJ,lAK];refine⟨Or.inl,λa=>a.elim id λa=>?_⟩;have d:=h.lt;rw[a,c];have:l.take m=l.take (m-1)++[l[m-1]'om]:=by have:=wj (l:=l) (p:=m-1) om;rwa [show m-1+1=m by omega]at this
 exact this▸List.mem_append_right _ (lAK.2 rfl)
theorem Cp.ne{l:List Nat}{k p:Nat}(h:Cp l M k p)(g:l.Pairwise (· <= ·))(c:p<l.length)(o:¬l[p]=l[p-1]'om):Cp l (M.set k l[p]) (k+1) (p+1):=by
 have q:=h.lt;have m:=h.len;have f:(M.set k l[p]).take (k+1)=M.take k++[l[p]]:=by rw[wj (l:=M.set k l[p]) (p:=k) (by rw[iy];omega),List.getElem_set_self,List.take_set_of_le (AF k)]
 refine⟨om,om,c,?_,?_,λx=>?_⟩
 ·rw[List.drop_set_of_lt om];have:=congrArg (List.drop 1) h.same;simp_all
 ·rw[f,lI8];refine⟨h.asc,om,λa j b e=>?_⟩;rw[lAK]at e;subst e;obtain⟨i,s,n,rfl⟩:=Na ((h.mem a).1 j);have d:=lEL.1 g;have r:l[p-1]'om<=l[p]:=d (p-1) p om c om
  grind
 ·rw[f,wj c,lAJ,lAJ,h.mem x]
variable{qr:pD}
theorem Ma{b o q:Nat}{O:List AV}(p:M.Pairwise (· <= ·))(a:O.length=o)(u:M.length=n)(v:n<900){c0:Nat}(d:c0<n){H1:Hp}{Q:pL}(r:∀l k H,Cp M l k n->H.get b=aB q (O++aJ l)->Fm (λc=>c=b) H1 H->Ok (qr (.int .i64 (.ofNat k)) H) Q):∀(f k k2:Nat) (l:List Nat) (H:Hp),n-(c0+k2)<f->1<=k2->Cp M l k (c0+k2)->H.get b=aB q (O++aJ l)->Fm (λc=>c=b) H1 H -> Ok (EV P qr (.sl b o n n W) (.sl b (o+c0) (n-c0) (n-c0) W) f (.int .i64 (.ofNat k)) (.int .i64 (.ofNat k2)) H) Q
 |0,k,k2,l,H,h,_,_,_,_=>om
 |f+1,k,k2,l,H,h,h1,hC,hg,hF=>by
  show Ok (Lv P _ _ _ (EV P _ _ _ f) _ _ H) Q;unfold Lv;have z:=hC.lt;have A:=hC.le;have B:=hC.len;by_cases y:k2<n-c0
  ·have j:=Ir hg (i:=c0+k2) om;have s:=Ir hg (i:=c0+(k2-1)) om;rw[hC.at om om,a,<-af]at j;rw[hC.at om om,a,<-af]at s;simp only[go_sem,y];unfold SI;have g:M[c0+k2-1]'om=M[c0+(k2-1)]'om:=by congr 1;omega
   by_cases m:M[c0+k2]'om=M[c0+k2-1]'om
   ·rw[m,g]at j;refine gW vx j s ?_;unfold ym;refine aS ?_;exact Ma p a u v d r f k (k2+1) l H om om (hC.eq om m) hg hF
   ·have t:¬M[c0+k2]'om=M[c0+(k2-1)]'om:=by rw[<-g];exact m
    have w:=bAY O l (i:=k) (M[c0+k2]'om) om;rw[a]at w;have C:∀x:AV,dt (aB q (O++aJ l)) (o+k) [x]=some (aB q (aY (O++aJ l) (o+k) [x])):=λx=>by rw[Bz,sB];rw[nj,oF];simp only[nk,DP];omega
    refine jF vx j s t ?_;rw[hg]at *;refine dS C w ?_;unfold ym;refine aS ?_;exact Ma p a u v d r f (k+1) (k2+1) _ _ om om (hC.ne p om m) (gX _ _ _) (hF.put _ _ λ_=>rfl)
  ·simp only[go_sem,y];have:c0+k2=n:=om;rw[this]at hC;exact r l k H hC hg hF
theorem Tl{b o q:Nat}{O:List AV}(u:M.Pairwise (· <= ·))(m:O.length=o)(v:M.length=n)(F:n<900)(r:H.get b=aB q (O++aJ M))(N:b<H.nx)(j:W=true\/q=1){Q:pL}(G:∀k R H',k<=n->R.length=k->R.Pairwise (· < ·)->(∀x,x∈R↔x∈M)->Gs 1 H' (.sl b o k n W) k (aJ R)->Fm (λc=>c=b) H H'->Q (.sl b o k n W) H')(w:M.Pairwise (· < ·)->Ok (qe H) Q):∀(f k:Nat),n-k<f->1<=k->k<=n->(M.take k).Pairwise (· < ·) -> Ok (EW P (λx H=>.ok x H) qe (.sl b o n n W) f (.int .i64 (.ofNat k)) H) Q
 |0,k,h,_,_,_=>om
 |f+1,k,h,h1,hk,ha=>by
  show Ok (Lw P _ _ _ (EW P _ _ _ f) _ H) Q;unfold Lw;by_cases g:k<n
  ·have t:=Ir r (i:=k) om;have A:=Ir r (i:=k-1) om;rw[m]at t A;simp only[go_sem,g];unfold SH;by_cases L:M[k]'om=M[k-1]'om
   ·rw[L]at t;have S:=LN 1 b o n n W (a:=k) om om g;refine jF vx t A S ?_;rw[dD];have B:Cp M M k (k+1):=by
     refine⟨rfl,om,om,rfl,ha,λx=>?_⟩;rw[wj (p:=k) om,lAJ,lAK];refine⟨Or.inl,λI=>I.elim id λI=>?_⟩;have:M.take k=M.take (k-1)++[M[k-1]'om]:=by simp_all
     grind
    refine Ma (H1:=H) u m v F (c0:=k) g (λl d H' s y Y=>?_) bT k 1 M H lf om B r om;unfold Lu;have T:=s.lt;have Z:=s.len;have U:=LN 1 b o n n W (a:=d) om (AF _) T;have V:=RY 1 b o n n W (k:=d) om om om;have K:=xbt O l (k:=d) (n:=n) om om;rw[m]at K;have C:(aU [.int .i64 (.ofNat 0)] (n-d)).length=n-d:=by rw[iT,xy]
    have e:oY [.int .i64 (.ofNat 0)] H' (.sl b (o+d) (n-d) (n-d) W)=.ok .undef (H'.put b (aB q (O++aJ (l.take d++List.replicate (n-d) 0)))):=by show(bif Nat.beq (n-d) 0 then _ else storeAt H' b (o+d) (aU [.int .i64 (.ofNat 0)] (n-d)) .undef)=_;rw[beq_eq,sT om,bu,h7 _ _ _ _ _ _ _ y (by rw[C,nj,oF];omega),K]
    simp only[go_sem,U,V,e];have D:(l.take d).length=d:=om;refine Ok.ret (G d (l.take d) _ om D s.asc (λx=>by rw[s.mem x,<-v,aj]) ?_ om);refine⟨by rw[oF,D,vx],.inr ⟨b,o,n,W,q,_,rfl,om,gX _ _ _,?_,?_,j,om⟩⟩
    ·rw[nj,oF,nj,D,xy];omega
    ·rw[oh om,ig om,au,vx];unfold aJ;simp_all
   ·refine jF vx t A L ?_;unfold jg;refine aS ?_;refine Tl u m v F r N j G w f (k+1) om om om ?_;rw[wj (p:=k) om,lI8];refine⟨ha,om,λa z c J=>?_⟩;rw[lAK]at J;subst J;obtain⟨i,hi,X,rfl⟩:=Na z;have E:=lEL.1 u;have a1:M[k-1]'om<=M[k]'om:=E (k-1) k om om om
    grind
  ·simp only[go_sem,g]
   grind
theorem q59(s:qM C){k:Nat}(i:1<=k){v:AV}(u:M.Pairwise (· <= ·))(w:n<900)(d:Gl 1 H v n (aJ M)):Ok (C k (.f 282) [v] H) λr H'=>∃R:List Nat,R.Pairwise (· < ·)/\(∀x,x∈R↔x∈M)/\Gs 1 H' r R.length (aJ R)/\(∀b,In r b->In v b)/\Fm (In v) H H':=by
 obtain⟨j,rfl⟩:=aO i;have a:M.length=n:=by have:=d.len;rw[oF]at this;omega
 rw[(s j).kV];unfold kV LK;have m:=d.bF;by_cases p:n<2
 ·simp only[go_sem,m,p];refine Ok.ret ⟨M,?_,om,by rw[a];exact d.gs,om,om⟩
  match M,a with
  | [],_=>exact List.Pairwise.nil
  | [x],_=>exact List.pairwise_singleton _ _
  |x::y::t,h=>simp at h;omega
 ·rcases d.is with⟨_,I⟩|⟨b,o,e,q,L,rfl,g1,g2,g3,g4,g5⟩
  ·omega
  have A:(L.take o).length=o:=om;have B:H.get b=aB q (L.take o++aJ M):=by rw[g1,<-g3,qw]
  simp only[go_sem,m,p];unfold SG;rw[dD];have D:∀c,c=b->In (.sl b o n n e) c:=λc f=>by subst f;exact⟨_,_,_,_,rfl⟩
  refine Tl u A a w B g5 g4 (λk R H' i E g z F G=>?_) (λg=>?_) bT 1 lf om om ?_
  ·refine⟨R,g,z,om,λc f=>?_,om⟩;obtain⟨_,_,_,_,J⟩:=f;simp_all
  ·unfold gV;exact Ok.ret ⟨M,g,om,by rw[a];exact d.gs,om,om⟩
  ·match M,a with
   | [],h=>simp at h;omega
   |x::t,_=>simp
theorem Gs.clip{v:AV}(h:Gs 1 H v n l):∃w,kM 1 v none (some (.int .i64 (.ofNat n))) (some (.int .i64 (.ofNat n)))=.val w/\Rl H w l/\dX w=.val (.int .i64 (.ofNat n))/\(∀b,In w b->In v b):=by
 rcases h.is with⟨rfl,rfl⟩|⟨b,o,m,e,q,L,rfl,x,C,D,E,F,G⟩
 ·exact⟨.aA,rfl,h.rl,rfl,om⟩
 ·have t:kM 1 (.sl b o n m e) none (some (.int .i64 (.ofNat n))) (some (.int .i64 (.ofNat n)))=jJ b o 1 ⟨0,n,n⟩ true:=by
   show(match aq n m none (some (.int .i64 (.ofNat n))) (some (.int .i64 (.ofNat n)))with|some bd=>jJ b o 1 bd true|none=>R0.bad)=_;have:aq n m none (some (.int .i64 (.ofNat n))) (some (.int .i64 (.ofNat n)))=some ⟨0,n,n⟩:=by show(match(bif Nat.ble n m then some n else none)with|none=>none|some m=>match(bif Nat.ble n m then some n else none)with|none=>none|some h=>match(some 0:Option Nat)with|none=>none|some l=>some (Bd.mk l h m))=_;rw[ble_eq,j7 x];simp only[AN,ble_eq,j7 (AF n)]
   grind
  have j:∀f,Gs 1 H (.sl b o n m f) n l->Rl H (.sl b o n n true) l:=λf g=>by have r:=g.rl;exact⟨r.len,λi s=>by obtain⟨y,z,k,A,B⟩:=r.at' i s;exact⟨y,z,by have u:=h.len;rw[sD _ _ _ _ _ _ _ _ om]at k ⊢;exact k,A,B⟩⟩
  rw[t];unfold jJ;simp only[beq_eq];by_cases p:n=0
  ·subst p;exact⟨.sl b o 0 0 true,rfl,j e h,rfl,λc a=>by obtain⟨_,_,_,_,d⟩:=a;cases d;exact⟨_,_,_,_,rfl⟩⟩
  ·rw[sT p];refine⟨.sl b o n n true,?_,j e h,rfl,λc a=>by obtain⟨_,_,_,_,d⟩:=a;cases d;exact⟨_,_,_,_,rfl⟩⟩;rfl
theorem zwu{k:Nat}(a:1<=k){v:AV}(h:Gs 1 H v n l):∃w,C k (.f 196) [v] H=.ok w H/\Rl H w l/\dX w=.val (.int .i64 (.ofNat n))/\(∀b,In w b->In v b):=by obtain⟨j,rfl⟩:=aO a;obtain⟨w,e,c,d,f⟩:=h.clip;refine⟨w,?_,c,d,f⟩;rw[lk (Rm ..)];unfold NB jm;simp only[go_sem,h.bF,e]
variable {c:Nat} {gv:AV}
theorem zof(a:qM C)(b:pP C)(c:5<=i)(H:Hp):C i (.f 281) [.aA] H=.ok (.aX []) H:=by obtain⟨i,rfl⟩:∃j,i=j+1:=⟨i-1,om⟩;exact(a i).aJc H
def yK(a:List Nat)(e:Edge):Bool:=e.s&&decide (a.getD e.f 0=a.getD e.t 0)
def jU(a:List Nat)(es:List Edge):List Nat:=(es.filter (yK a)).map λe=>a.getD e.f 0
theorem zlu(ins:List Nat)(es:List Edge)(h:i<es.length):jU ins (es.take (i+1))=jU ins (es.take i)++(if yK ins es[i]then[ins.getD es[i].f 0]else[]):=by
 unfold jU;rw[nh h,lg,AO]
 grind
theorem zlv(ins:List Nat)(es:List Edge):(jU ins es).length<=es.length:=by
 unfold jU
 grind
theorem q9z:i∈jU ins h↔∃e∈h,e.s=true/\ins.getD e.f 0=ins.getD e.t 0/\ins.getD e.f 0=i:=by
 unfold jU yK
 grind
theorem Fp{iv w:AV}(a:h.length<200000)(y:∀e∈h,e.f<n/\e.t<n)(A:lX H0 w h)(z:Gl 1 H0 iv n (aJ ins))(o:H0.get c=aB 0 [gv,iv])(d:c<H0.nx){Q:pL}(B:∀v H,Gl 1 H v (jU ins h).length (aJ (jU ins h))->Fm No H0 H->(∀b,In v b->H0.nx<=b)->Ok (qr v H) Q):∀(k i:Nat) (v:AV) (H:Hp),h.length-i<k->i<=h.length->Gl 1 H v (jU ins (h.take i)).length (aJ (jU ins (h.take i)))->(∀b,In v b->H0.nx<=b)->Fm No H0 H -> Ok (Ht P qr (.ptr c 0) w (.int .i64 (.ofNat h.length)) k v (.int .i64 (.ofNat i)) H) Q
 |0,i,v,H,es,_,_,_,_=>om
 |k+1,i,v,H,es,E,hg,hnew,hF=>by
  show Ok (Ks P _ _ _ _ (Ht P _ _ _ _ k) _ _ H) Q;unfold Ks;by_cases f:i<h.length
  ·simp only[go_sem,f];unfold zhe;have C:lX H w h:=om;have p:Gl 1 H iv n (aJ ins):=om;have r:H.get c=aB 0 [gv,iv]:=(hF.keep d).trans o;have D:c<H.nx:=om;have E:ins.length=n:=by have:=z.len;rw[oF]at this;omega
   obtain⟨b,o1,M,e2,N⟩:=C.at f;obtain⟨r1,r2⟩:=y h[i] om;have S:∀x,x<n->(aJ ins)[x]? =some (.int .i64 (.ofNat (ins.getD x 0))):=λx hx=>by unfold aJ;simp_all
   obtain⟨b1,o2,T,e5,_,e6⟩:=p.at (S _ r1);obtain⟨b2,o3,U,e8,_,e9⟩:=p.at (S _ r2);have l:=zlu ins h f;have F:=zlv ins (h.take i);rw[sY]at F;have j:Fm No H ((aH H (aB 0 [.int .i64 (.ofNat 0),.int .i64 (.ofNat 0),.bool false])).put H.nx (aB 0 [.int .i64 (.ofNat h[i].f),.int .i64 (.ofNat h[i].t),.bool h[i].s])):=by exact zL
   cases g:h[i].s with
   |false=>
    have s:yK ins h[i]=false:=by unfold yK;rw[g];rfl
    rw[g]at j;rw[s]at l;simp only[go_sem,M,N,Edge.cells,g];unfold lB;refine aS ?_;rw[sy g3,DN]at l;refine Fp a y A z o d B k (i+1) v _ om om om hnew (hF.trans j)
   |true=>
    rw[g]at j;by_cases m:ins.getD h[i].f 0=ins.getD h[i].t 0
    ·have s:yK ins h[i]=true:=by unfold yK;rw[g,j7 m];rfl
     rw[s,sB rfl]at l;have t:(jU ins (h.take (i+1))).length=(jU ins (h.take i)).length+1:=om;generalize R:(aH H (aB 0 [.int .i64 (.ofNat 0),.int .i64 (.ofNat 0),.bool false])).put H.nx (aB 0 [.int .i64 (.ofNat h[i].f),.int .i64 (.ofNat h[i].t),.bool true])=H2 at *;have G:H2.get H.nx=aB 0 [.int .i64 (.ofNat h[i].f),.int .i64 (.ofNat h[i].t),.bool true]:=om;have I:H2.get c=aB 0 [gv,iv]:=(j.keep D).trans r;have J:cB (H2.get b1) o2=.val (.int .i64 (.ofNat (ins.getD h[i].f 0))):=om;have K:cB (H2.get b2) o3=.val (.int .i64 (.ofNat (ins.getD h[i].t 0))):=om;have u:Gl 1 (aH H2 (aB 0 [.int .i64 (.ofNat (ins.getD h[i].f 0))])) v (jU ins (h.take i)).length (aJ (jU ins (h.take i))):=om;obtain⟨H',V,O,_,W,a5⟩:=u.append (w:=8) (k:=1) (x:=[.int .i64 (.ofNat (ins.getD h[i].f 0))]) om rfl om om;rw[m]at V O W u;simp(disch:=go_size)only[go_sem,rB,rI,rK,rL,rN,rS,r6,M,N,Edge.cells,g,R,G,I,T,J,U,K,m,V];unfold lB;refine aS ?_;have L:aJ (jU ins (h.take i))++[.int .i64 (.ofNat (ins.getD h[i].t 0))]=aJ (jU ins (h.take (i+1))):=by rw[l,m];simp[aJ]
     rw[L,<-t]at O;rw[<-t];have Y:=hF.nx;have Z:=j.nx;refine Fp a y A z o d B k (i+1) _ H' om om O (λb X=>?_) (((hF.trans j).trans om).then W λc o es=>by have:=hnew c es;omega);obtain⟨_,_,_,_,es⟩:=X
     grind
    ·have s:yK ins h[i]=false:=by unfold yK;rw[g,sT m];rfl
     rw[s]at l;simp(disch:=first|omega|exact ti rfl)only[go_sem,seval,M,N,Edge.cells,g,r,T,e6,U,e9,m];unfold lB;refine aS ?_;rw[sy g3,DN]at l;refine Fp a y A z o d B k (i+1) v _ om om om hnew (hF.trans j)
  ·simp only[go_sem,f]
   grind
theorem zwo(m:qM C)(A:pP C)(U:pZ LA LO C){k:Nat}(V:1000<=k)(B:lP n h)(W:n<=256)(P:h.length<900)(hg:lX H gv h):Ok (C k (.f 245) [.agg [.int .i64 (.ofNat n),gv]] H) λr H'=>∃(w:AV) (a:List (List Nat)) (ins R:List Nat),r=.aX [w,.int .i64 (.ofNat 0)]/\oD n (bx h) [] a/\(∀(j:Nat) (o:List Nat) (x:Nat),a[j]? =some o->x∈o->ins[x]? =some j) /\ R.Pairwise (· < ·)/\(∀x,x∈R↔x∈jU ins h)/\Rl H' w (aJ R)/\dX w=.val (.int .i64 (.ofNat R.length))/\R.length<=900/\Fm No H H':=by
 obtain⟨j,rfl⟩:=aO V;rw[lk (zsb ..)];unfold Xo;simp(disch:=omega)only[go_sem,seval];refine Ok.ve (Vo m A U (k:=j) om B W om om) ?_;rintro r H1 ⟨lv,iv,os,l,out,ins,a,rfl,M,t,f1⟩;have D:=M.ord B.rng;have E:H1.get H.nx=aB 0 [.int .i64 (.ofNat n),gv]:=(f1.keep gx).trans om;have F:∀x y:AV,aY [AV.aA,AV.aA] 0 [x,y]=[x,y]:=λ_ _=>rfl;have n1:H.nx+1<=H1.nx:=om;simp(disch:=omega)only[go_sem,seval,F,nk,DP];generalize hH2:(aH H1 (aB 0 [AV.aA,AV.aA])).put H1.nx (aB 0 [lv,iv])=H2;have S:Fm No H1 H2:=om;have g2:H2.get H1.nx=aB 0 [lv,iv]:=om;have l2:H1.nx<H2.nx:=om;have G:H2.get H.nx=aB 0 [.int .i64 (.ofNat n),gv]:=(S.keep om).trans E;have iF:Fm No H H2:=om;have p:lX H2 gv h:=om;rw[kE FE];unfold FE;have e0:=p.len;simp(disch:=go_size)only[go_sem,rB,rI,rK,rL,rN,rS,r6,G,e0];rw[dD];refine Fp om B.rng p (t.gi.no S) g2 l2 (λv f u X Q=>?_) bT 0 .aA H2 lf om (by simpa [jU,aJ] using Gl.nil 1 H2) (λb Y=>by obtain⟨_,_,_,_,es⟩:=Y;cases es) om;have hml:=zlv l h;have d:Ok (C j (.f 281) [v] f) λr H'=>r=.aX []/\∃R:List Nat,R.Perm (jU l h)/\R.Pairwise (· <= ·)/\Gl 1 H' v (jU l h).length (aJ R)/\Fm (In v) f H':=by
  rcases Nat.eq_zero_or_pos (jU l h).length with N|N
  ·have I:jU l h=[]:=lE5.1 N;rw[I]at u ⊢;rcases u.is with⟨rfl,_⟩|⟨b,o,e,q,L,rfl,g1,g2,g3,g4,g5⟩
   ·exact⟨_,_,zof m A om f,rfl,[],om,List.Pairwise.nil,u,om⟩
   ·obtain⟨j,rfl⟩:∃i,j=i+1:=⟨j-1,om⟩;have g2:o<=L.length:=g2;have s:storeAt f b o [] (.aX [])=.ok (.aX []) (f.put b (aB q (aY L o []))):=h7 _ _ _ _ _ _ _ g1 g2;have hL:aY L o []=L:=by unfold aY;simp
    rw[hL]at s;have hs:px f b o 0=some (.ok (.aX []) (f.put b (aB q L))):=by
     unfold px;have hr:eY (f.get b) o 0=some []:=by rw[g1,y7,sB (show o+0<=L.length from g2)];rfl
     rw[hr];have I:fH []=[]:=by unfold fH;simp
     simp only[uU,I,List.map_nil,s];rfl
    refine⟨_,_,(m j).srt _ _ _ _ _ _ _ hs,rfl,[],om,List.Pairwise.nil,?_,om⟩
    grind
  ·exact Yd m A (k:=j) om N om u
 refine Ok.ve d ?_;rintro r H4 ⟨rfl,R,hp,O,h4,f4⟩;refine Ok.ve (q59 m (k:=j) om O om h4) ?_;rintro r5 H5 ⟨z,g,T,h5,hin,f5⟩;obtain⟨w,w1,w2,w3,_⟩:=zwu (k:=j) om h5;simp only[go_sem,w1];have J:z.length<=900:=by have K:z.Nodup:=g.imp om;have:z.length<=R.length:=K.length_le_of_subset om;rw[hp.length_eq]at this;omega
 refine Ok.ret ⟨w,a,l,z,rfl,D,t.ins,g,om,w2,w3,J,((iF.trans X).then f4 λc Z es=>?_).then f5 λc Z es=>?_⟩
 ·grind
 ·grind
theorem zup{a:List (List Nat)}(h:oD n aV [] a):a.length<=n:=by
 obtain⟨f,g,i,j,k⟩:=h.all;have b:∀(o:List (List Nat)),(∀c∈o,c≠[])->o.length<=o.flatten.length:=λo=>by
  induction o with
  |nil=>intro _;exact AF _
  |cons c o ih=>
   intro h;have d:=om;have e:0<c.length:=om
   grind
 grind
theorem aXh(a b:Nat):max (Int.ofNat a) (Int.ofNat b)=Int.ofNat (max a b):=om
theorem T5(c:Rl H gv (aJ M))(e:M.length<900000){Q:pL}(g:Ok (qr (.int .i64 (.ofNat (iX M))) H) Q):∀(f i:Nat),M.length-i<f->i<=M.length->Ok (Eu P qr gv (.int .i64 (.ofNat M.length)) f (.int .i64 (.ofNat (iX (M.take i)))) (.int .i64 (.ofNat i)) H) Q
 |0,i,h,_=>om
 |f+1,i,h,hi=>by
  show Ok (OO P _ _ _ (Eu P _ _ _ f) _ _ H) Q;unfold OO;by_cases a:i<M.length
  ·obtain⟨b,o,m,_,d⟩:=c.at' i (by rw[oF];exact a);rw[tR]at d;have j:=aXh (iX (M.take i)) M[i];have k:iX (M.take (i+1))=max (iX (M.take i)) M[i]:=by
    unfold iX;rw[nh a,List.foldl_append];rfl
   simp only[go_sem,a];unfold zx2;simp only[go_sem,m,d,Ll,j];unfold pf;refine aS ?_;rw[<-k];exact T5 c e g f (i+1) om om
  ·simp only[go_sem,a]
   grind
theorem Sd{k:Nat}(d:1<=k)(b:Rl H gv (aJ M))(e:M.length<900000):C k (.f 232) [gv] H=.ok (.int .i64 (.ofNat (iX M))) H:=by
 obtain⟨j,rfl⟩:=aO d;have a:Ok (C (j+1) (.f 232) [gv] H) λr H'=>r=.int .i64 (.ofNat (iX M))/\H'=H:=by rw[lk (zsn ..)];unfold Xw;have c:=b.len;rw[oF]at c;simp only[go_sem,c];rw[dD];refine T5 b e ?_ bT 0 lf om;exact Ok.ret ⟨rfl,rfl⟩
 obtain⟨r,H',h,rfl,rfl⟩:=a;exact h
theorem cy{k:Nat}(b:1<=k)(e:Edge)(H:Hp):Ok (C k (.f 246) [.agg e.cells] H) λr H'=>r=.int .i64 (.ofNat (cP e))/\Fm No H H':=by
 obtain⟨j,rfl⟩:=aO b;rw[lk (zsa ..)];unfold Xn Edge.cells cP;cases a:e.s with
 |true=>refine dI a ?_;exact Ok.ret ⟨rfl,fm⟩
 |false=>refine dI a ?_;exact Ok.ret ⟨rfl,fm⟩
theorem zv8{o:List Nat}(a:c<h.length)(b:ins.getD h[c].f 0=i)(d:¬ins.getD h[c].t 0=i):bm (h.take (c+1)) ins o i=bm (h.take c) ins o i++[o.getD h[c].t 0+cP h[c]]:=by
 unfold bm;rw[nh a,lg,AO]
 grind
theorem z2g(a:c<h.length)(es:¬(ins.getD h[c].f 0=i/\¬ins.getD h[c].t 0=i)):bm (h.take (c+1)) ins M i=bm (h.take c) ins M i:=by
 unfold bm;rw[nh a,lg,AO]
 grind
theorem zn7(es:List Edge)(ins o:List Nat)(i:Nat):(bm es ins o i).length<=es.length:=by
 unfold bm
 grind
variable{O:pL}
theorem Mj{j:Nat}{ob:Nat}{lv iv:AV}(G:1<=j)(I:lX H0 gv h)(g:h.length<200000)(J:∀e∈h,e.f<n/\e.t<n)(B:H0.get c=aB 0 [lv,iv])(l:c<H0.nx)(a:Gl 1 H0 iv n (aJ ins))(K:H0.get ob=aB 0 (aJ M))(m:ob<H0.nx)(u:M.length=n)(s:∀x,x<n->M.getD x 0<=1000)(L:∀w H,Gl 1 H w (bm h ins M i).length (aJ (bm h ins M i))->Fm No H0 H->(∀b,In w b->H0.nx<=b)->Ok (qr w H) O):∀(f k:Nat) (w:AV) (H:Hp),h.length-k<f->k<=h.length->Gl 1 H w (bm (h.take k) ins M i).length (aJ (bm (h.take k) ins M i))->(∀b,In w b->H0.nx<=b)->Fm No H0 H -> Ok (yt (C j) qr (.ptr c 0) (.sl ob 0 n n true) (.int .i64 (.ofNat i)) gv (.int .i64 (.ofNat h.length)) f w (.int .i64 (.ofNat k)) H) O
 |0,k,w,H,es,_,_,_,_=>by omega
 |f+1,k,w,H,es,hk,hw,hnew,hF=>by
  show Ok (KJ (C j) _ _ _ _ _ _ (yt (C j) _ _ _ _ _ _ f) _ _ H) O;unfold KJ;by_cases d:k<h.length
  ·obtain⟨b,p,V,e2,W⟩:=(I.fm hF).at d;obtain⟨r1,r2⟩:=J h[k] om;have hil:ins.length=n:=by have:=a.len;rw[oF]at this;omega
   obtain⟨b1,o1,X,c2,_,Y⟩:=(a.no hF).at (pY ins h[k].f om);obtain⟨b2,o2,c4,c5,_,c6⟩:=(a.no hF).at (pY ins h[k].t om);have o:H.get c=aB 0 [lv,iv]:=(hF.keep l).trans B;have hcH:c<H.nx:=om;have k2:H.get ob=aB 0 (aJ M):=(hF.keep m).trans K;have N:ob<H.nx:=om;have wfl:=wK hw.flat 63;simp(disch:=first|omega|exact ti rfl|simp only[np,nq];first|done|omega)only[go_sem,rB,rI,rK,rL,rN,rS,r6,d];rw[kE FI];unfold FI;have D:Fm No H ((aH H (aB 0 [.int .i64 (.ofNat 0),.int .i64 (.ofNat 0),.bool false])).put H.nx (aB 0 h[k].cells)):=by(repeat(first|exact Fm.refl _ _|assumption|refine Fm.push ?_ _|refine Fm.up2 ?_ (by first|omega|simp only[np,nq];omega)|refine Fm.aN ?_ _ _ om))
   have Q:=zn7 (h.take k) ins M i;rw[sY]at Q;have v:¬(ins.getD h[k].f 0=i/\¬ins.getD h[k].t 0=i)->Ok (Ch (C j) (yt (C j) qr (.ptr c 0) (.sl ob 0 n n true) (.int .i64 (.ofNat i)) gv (.int .i64 (.ofNat h.length)) f) w (.int .i64 (.ofNat k)) ((aH H (aB 0 [.int .i64 (.ofNat 0),.int .i64 (.ofNat 0),.bool false])).put H.nx (aB 0 h[k].cells))) O:=λhn=>by unfold Ch;simp(disch:=first|omega|exact ti rfl|simp only[np,nq];first|done|omega)only[go_sem,rB,rI,rK,rL,rN,rS,r6];exact Mj G I g J B l a K m u s L f (k+1) w _ om om (by rw[z2g d hn];exact hw.no D) hnew om
   by_cases A:ins.getD h[k].f 0=i
   ·by_cases F:ins.getD h[k].t 0=i
    ·simp(disch:=first|omega|exact ti rfl|simp only[np,nq];first|done|omega)only[go_sem,rB,rI,rK,rL,rN,rS,r6,V,W,Edge.cells,o,X,Y,c4,c6,A,F];have:=v λes=>es.2 F;unfold Edge.cells at this;exact this
    ·have Z:=pY M h[k].t om;have ho4:=s h[k].t r2;simp(disch:=first|omega|exact ti rfl|simp only[np,nq];first|done|omega)only[go_sem,rB,rI,rK,rL,rN,rS,r6,V,W,Edge.cells,o,k2,X,Y,c4,c6,A,F,Z];generalize hHx:(Hp.mk ((aH H (aB 0 [.int .i64 (.ofNat 0),.int .i64 (.ofNat 0),.bool false])).put H.nx (aB 0 [.int .i64 (.ofNat h[k].f),.int .i64 (.ofNat h[k].t),.bool h[k].s])).t (H.nx+1+12))=Hx at *;have D:Fm No H Hx:=om;have nx:Hx.nx=H.nx+1+12:=om;have kx:Hx.get H.nx=aB 0 [.int .i64 (.ofNat h[k].f),.int .i64 (.ofNat h[k].t),.bool h[k].s]:=om;refine Ok.iC (cy (k:=j) G h[k] Hx) ?_;rintro r t ⟨rfl,E⟩;have P:t.get H.nx=aB 0 [.int .i64 (.ofNat h[k].f),.int .i64 (.ofNat h[k].t),.bool h[k].s]:=(E.keep om).trans kx;have R:t.get ob=aB 0 (aJ M):=((D.trans E).keep N).trans k2;have hst:cP h[k]<=1:=by unfold cP;split<;>omega
     simp(disch:=first|omega|exact ti rfl|simp only[np,nq];first|done|omega)only[go_sem,rB,rI,rK,rL,rN,rS,r6,P,R,Z];generalize hz:M.getD h[k].t 0+cP h[k]=z at *;have fP:Fm No H (t.put (H.nx+1+9) (aB 0 [AV.int .i64 (.ofNat z)])):=(D.trans E).aN _ _ (by omega);have S:Gl 1 (t.put (H.nx+1+9) (aB 0 [AV.int .i64 (.ofNat z)])) w _ _:=hw.no fP;obtain⟨H3,a1,a2,_,a4,a5⟩:=S.append (w:=8) (k:=1) (x:=[AV.int .i64 (.ofNat z)]) (by omega) rfl (by omega) (by omega);refine Ok.vH a1 ?_;simp(disch:=first|omega|exact ti rfl|simp only[np,nq];first|done|omega)only[go_sem,rB,rI,rK,rL,rN,rS,r6];unfold Ch;simp(disch:=first|omega|exact ti rfl|simp only[np,nq];first|done|omega)only[go_sem,rB,rI,rK,rL,rN,rS,r6];have T:=zv8 (o:=M) d A F;rw[hz]at T;have U:aJ (bm (h.take k) ins M i)++[AV.int .i64 (.ofNat z)]=aJ (bm (h.take (k+1)) ins M i):=by rw[T];simp[aJ]
     have y:(bm (h.take (k+1)) ins M i).length=(bm (h.take k) ins M i).length+1:=by rw[T,nj];rfl
     rw[U,<-y]at a2;rw[<-y];have hn1:=hF.nx;have hn2:=E.nx;have hpn:(t.put (H.nx+1+9) (aB 0 [AV.int .i64 (.ofNat z)])).nx=t.nx:=rfl;refine Mj G I g J B l a K m u s L f (k+1) _ H3 (by omega) (by omega) a2 (λb hb=>?_) ((hF.trans fP).then a4 λc B es=>by have:=hnew c es;omega);obtain⟨_,_,_,_,es⟩:=hb;cases es;omega
   ·simp(disch:=first|omega|exact ti rfl|simp only[np,nq];first|done|omega)only[go_sem,rB,rI,rK,rL,rN,rS,r6,V,W,Edge.cells,o,X,Y,A];have:=v λes=>A es.1;unfold Edge.cells at this;exact this
  ·simp(disch:=first|omega|exact ti rfl|simp only[np,nq];first|done|omega)only[go_sem,rB,rI,rK,rL,rN,rS,r6,d];have:k=h.length:=by omega
   subst this;rw[aj]at hw;exact L w H hw hF hnew
theorem U8{j:Nat}(A:1<=j){H1:Hp}{ob:Nat}{m:AV}{l c o:List Nat}(B:Gl 1 H1 gv l.length (aJ l))(D:l.length<900000)(d:∀b,In gv b->b≠ob)(E:Gl 1 H1 m c.length (aJ c))(r:c.length<900000)(e:∀b,In m b->b≠ob)(g:∀x∈c,x<n)(i:o.length=n)(F:∀H,H.get ob=aB 0 (aJ (zX o (iX l) c))->Fm (λb=>b=ob) H1 H->Ok (qe H) O):∀(f k:Nat) (H:Hp),c.length-k<f->k<=c.length->H.get ob=aB 0 (aJ (zX o (iX l) (c.take k)))->Fm (λb=>b=ob) H1 H -> Ok (HJ (C j) qe (.sl ob 0 n n true) gv m (.int .i64 (.ofNat c.length)) f (.int .i64 (.ofNat k)) H) O
 |0,k,H,h,_,_,_=>by omega
 |f+1,k,H,h,hk,hg,hF=>by
  show Ok (KK (C j) _ _ _ _ _ (HJ (C j) _ _ _ _ _ f) _ H) O;unfold KK;by_cases a:k<c.length
  ·have s:Gl 1 H m c.length (aJ c):=E.fm hF e;have t:Rl H gv (aJ l):=(B.fm hF d).rl;obtain⟨b,p,I,_,_,J⟩:=s.at (show(aJ c)[k]? =some (.int .i64 (.ofNat c[k]))from GH c k a);have K:=g c[k] om;have u:=Sd (k:=j) A t D;have G:(zX o (iX l) (c.take k)).length=n:=by rw[Fs,i]
   have v:=Bs (zX o (iX l) (c.take k)) c[k] (iX l) om;have y:c[k]+1<=(aJ (zX o (iX l) (c.take k))).length:=by rw[oF];omega
   have z:(zX o (iX l) (c.take k)).set c[k] (iX l)=zX o (iX l) (c.take (k+1)):=by rw[nh a,T9]
   simp(disch:=first|omega|exact ti rfl|simp only[np,nq];first|done|omega)only[go_sem,rB,rI,rK,rL,rN,rS,r6,a];unfold zhy;simp(disch:=first|omega|exact ti rfl|simp only[np,nq];first|done|omega)only[go_sem,rB,rI,rK,rL,rN,rS,r6,I,J,u,hg,v,y,vx,nr,nk,DP];unfold OP;simp(disch:=first|omega|exact ti rfl|simp only[np,nq];first|done|omega)only[go_sem,rB,rI,rK,rL,rN,rS,r6];rw[z];exact U8 A B D d E r e g i F f (k+1) _ om om om om
  ·simp(disch:=first|omega|exact ti rfl|simp only[np,nq];first|done|omega)only[go_sem,rB,rI,rK,rL,rN,rS,r6,a]
   grind
theorem U9{j:Nat}(z:1<=j){HB H0 H1:Hp}{l:Nat}{lv iv:AV}{g:List AV}{a:List (List Nat)}(W:n<=256)(X:lX H0 gv h)(k:h.length<200000)(A:∀e∈h,e.f<n/\e.t<n)(L:H0.get l=aB 0 [.int .i64 (.ofNat n),gv])(m:l<H0.nx)(M:H0.get c=aB 0 [lv,iv])(p:c<H0.nx)(d:CR HB H0 n lv iv g a ins)(r:NmC n a ins)(s:∀o∈a,∀x∈o,x<n)(N:∀e∈h,ins.getD e.t 0<=ins.getD e.f 0)(B:a.length<=n)(t:∀o∈a,o.length<=n)(D:Fm No H0 H1)(E:H0.nx<H1.nx)(Y:∀o H,vS n h ins a.length o->H.get H0.nx=aB 0 (aJ o)->Fm (λb=>b=H0.nx) H1 H->Ok (qe H) O):∀(f i:Nat) (o:List Nat) (H:Hp),a.length-i<f->i<=a.length->vS n h ins i o->H.get H0.nx=aB 0 (aJ o)->Fm (λb=>b=H0.nx) H1 H -> Ok (yv (C j) qe (.ptr l 0) (.ptr c 0) (.sl H0.nx 0 n n true) lv (.int .i64 (.ofNat a.length)) f (.int .i64 (.ofNat i)) H) O
 |0,i,o,H,es,_,_,_,_=>by omega
 |f+1,i,o,H,es,hi,hO,hgo,hF=>by
  show Ok (Ci (C j) _ _ _ _ _ _ (yv (C j) _ _ _ _ _ _ f) _ H) O;unfold Ci;by_cases hil:i<a.length
  ·have T:∀b,b<H0.nx->H.get b=H0.get b:=λb Q=>(hF.get b om om).trans om;have u:H0.nx<=H.nx:=om;have aJ4:=d.len;have U:lX H gv h:=om;have gI:Gl 1 H iv n (aJ ins):=d.gi.keep u om;have gL:Gl 1 H lv g.length g:=d.gl.keep u om;obtain⟨c1,_,_⟩:=d.at' i (g[i]'om) (a[i]'hil) om om;have gC:Gl 1 H (g[i]'(by omega)) (a[i]'hil).length (aJ (a[i]'hil)):=om;have hci:∀b,In (g[i]'(by omega)) b->b<H0.nx:=om;obtain⟨b1,o1,e1,_,_,e2⟩:=gL.at (i:=i) (x:=g[i]'om) om;have F:∀x,x<n->(x∈a[i]'hil↔ins.getD x 0=i):=λx y=>by
    constructor
    ·intro es;exact r.is i _ x (j0 hil) es
    ·intro es;obtain⟨j',o',J,V⟩:=r.all x y;have:=r.is j' o' x J V;rw[es]at this;subst this;rw[j0 hil]at J
     grind
   have G:=s _ (sx hil);have cEg:=t _ (sx hil);have k1:H.get l=aB 0 [.int .i64 (.ofNat n),gv]:=(T l m).trans L;have k2:H.get c=aB 0 [lv,iv]:=(T c p).trans M;have e0:=U.len;generalize g[i]'(by omega)=cw at *;generalize a[i]'hil=co at *;simp(disch:=first|omega|exact ti rfl|simp only[np,nq];first|done|omega)only[go_sem,rB,rI,rK,rL,rN,rS,r6,hil];unfold zhx;simp(disch:=first|omega|exact ti rfl|simp only[np,nq];first|done|omega)only[go_sem,rB,rI,rK,rL,rN,rS,r6,e1,e2,k1,e0];rw[dD];have I:∀x,x<n->o.getD x 0<=1000:=λx y=>by have J:=hO.bd x y;have V:=r.lt y;omega
   refine Mj z U k A k2 om gI hgo (by have:=hF.nx;omega) hO.len I (λw P Z R S=>?_) bT 0 .aA H (by rw[rO];omega) om (by simpa [bm,aJ] using Gl.nil 1 H) (λb Q=>by obtain⟨_,_,_,_,es⟩:=Q;cases es) om;unfold HK;have v:=gC.no R;have e3:=v.bF;simp(disch:=first|omega|exact ti rfl|simp only[np,nq];first|done|omega)only[go_sem,rB,rI,rK,rL,rN,rS,r6,e3];rw[dD];have hal:=zn7 h ins o i;have K:H0.nx<H.nx:=om;refine U8 z (H1:=P) (o:=o) Z om (om) v om (om) G hO.len (λH3 g3 f3=>?_) bT 0 P (by rw[rO];omega) om ((R.keep K).trans hgo) om;unfold yM;simp(disch:=first|omega|exact ti rfl|simp only[np,nq];first|done|omega)only[go_sem,rB,rI,rK,rL,rN,rS,r6];exact U9 z W X k A L m M p d r s N B t D E Y f (i+1) _ H3 om om (hO.step A F N) g3 om
  ·simp(disch:=first|omega|exact ti rfl|simp only[np,nq];first|done|omega)only[go_sem,rB,rI,rK,rL,rN,rS,r6,hil]
   grind
theorem zuo(f:∀e∈h,e.f<n/\e.t<n){a:List (List Nat)}(i:oD n (bx h) [] a)(es:NmC n a ins):∀e∈h,ins.getD e.t 0<=ins.getD e.f 0:=λe b=>by
 obtain⟨l1,k⟩:=f e b;obtain⟨j,o,c,d⟩:=es.all e.f l1;rcases UZ i c d k (qed.2 ⟨e,b,rfl,rfl⟩)with g|⟨j',c',g1,g2,g3⟩
 ·grind
 ·rw[es.is j o e.f c d,es.is j' c' e.t g2 g3];exact g1
theorem XZ{a:List (List Nat)}(c:oD n aV [] a)(d:∀(j:Nat) (o:List Nat) (x:Nat),a[j]? =some o->x∈o->ins[x]? =some j):NmC n a ins:=⟨λj o y e f=>by
  rw[vt,d j o y e f];rfl,λy g=>by
  obtain⟨l,m,h,p,q⟩:=c.all;obtain⟨o,i,b⟩:=lO6.1 (h y g);obtain⟨j,k⟩:=lOT.1 i;exact⟨j,o,k,b⟩⟩
theorem Aj(hO:qM C)(hS:pP C)(hR:pZ LA LO C){k:Nat}(hk:1002<=k)(f:lP n h)(J:n<=256)(t:h.length<900)(hg:lX H gv h):Ok (C k (.f 189) [.agg [.int .i64 (.ofNat n),gv]] H) λr H'=>Fm No H H' /\ ((∃w o,r=.aX [w,.int .i64 (.ofNat 0)]/\Gl 1 H' w n (aJ o)/\dX w=.val (.int .i64 (.ofNat n))/\Fit n h o/\Aq n h o/\∀x,x<n->o.getD x 0<n) \/ (r=.aX [.aA,.int .i64 (.ofNat 12)]/\∃e∈h,e.s=true/\Rc (bx h) e.t e.f)):=by
 obtain⟨j,rfl⟩:∃j,k=j+1:=⟨k-1,om⟩;rw[lk (zsu ..)];unfold XD;simp(disch:=first|omega|exact ti rfl|simp only[np,nq];first|done|omega)only[go_sem,rB,rI,rK,rL,rN,rS,r6];have f0:Fm No H (aH H (aB 0 [.int .i64 (.ofNat n),gv])):=by(repeat(first|exact Fm.refl _ _|assumption|refine Fm.push ?_ _|refine Fm.up2 ?_ (by first|omega|simp only[np,nq];omega)|refine Fm.aN ?_ _ _ (by first|omega|simp only[np,nq];omega)))
 refine Ok.ve (Vo hO hS hR (k:=j) om f J om om) ?_;rintro r H1 ⟨lv,iv,os,W,out,ins,B,rfl,X,D,Y⟩;have s:=X.ord f.rng;have n1:H.nx+1<=H1.nx:=om;have g1:H1.get H.nx=aB 0 [.int .i64 (.ofNat n),gv]:=(Y.keep (by first|omega|simp only[np,nq];omega)).trans (uR _ _);have M:∀x y a b:AV,aY [a,b] 0 [x,y]=[x,y]:=λ_ _ _ _=>rfl;have G:Fm No H1 ((aH H1 (aB 0 [.aA,.aA])).put H1.nx (aB 0 [lv,iv])):=by(repeat(first|exact Fm.refl _ _|assumption|refine Fm.push ?_ _|refine Fm.up2 ?_ (by first|omega|simp only[np,nq];omega)|refine Fm.aN ?_ _ _ (by first|omega|simp only[np,nq];omega)))
 simp(disch:=first|omega|exact ti rfl|simp only[np,nq];first|done|omega)only[go_sem,rB,rI,rK,rL,rN,rS,r6,M,nk,DP];generalize hH2:(aH H1 (aB 0 [AV.aA,AV.aA])).put H1.nx (aB 0 [lv,iv])=H2 at *;have c2:H2.get H1.nx=aB 0 [lv,iv]:=om;have n2:H2.nx=H1.nx+1:=om;have g2:H2.get H.nx=aB 0 [.int .i64 (.ofNat n),gv]:=(G.keep om).trans g1;rw[kE FG];unfold FG;simp(disch:=first|omega|exact ti rfl|simp only[np,nq];first|done|omega)only[go_sem,rB,rI,rK,rL,rN,rS,r6,g2];refine Ok.ve (zwo hO hS hR (k:=j) (by omega) f J t (((hg.fm f0).fm Y).fm G)) ?_;rintro r g ⟨wx,bZ0,cFQ,Z,rfl,q,aGL,bRo,E,hx3,cFh,hRl,F⟩;have n3:=F.nx;have v:=((f0.trans Y).trans G).trans F;have N:=hx3.len;rw[oF]at N;have z:=XZ s D.ins;have A:=XZ q aGL;by_cases hm:Z=[]
 ·subst hm;have O:aD wx=.val (.int .i64 (.ofNat 0)):=N;simp(disch:=first|omega|exact ti rfl|simp only[np,nq];first|done|omega)only[go_sem,rB,rI,rK,rL,rN,rS,r6,O,dC];rw[kE FH];unfold FH;have g3:g.get H.nx=aB 0 [.int .i64 (.ofNat n),gv]:=(F.keep (by omega)).trans g2;have P:g.get H1.nx=aB 0 [lv,iv]:=(F.keep (by omega)).trans c2;have hd:=zuo f.rng s z;have Q:∀e∈h,e.s=true->W.getD e.f 0≠W.getD e.t 0:=λe i K es=>by
   obtain⟨l1,I⟩:=f.rng e i;replace es:=(A.eq q l1 I).2 ((z.eq s l1 I).1 es);have:=(E _).2 (q9z.2 ⟨e,i,K,es,rfl⟩);cases this
  have hL:=zup s;have m:=D.no (G.trans F);obtain⟨z1,z2,z3,z4,z5⟩:=s.all;have p:=m.gl.bF;rw[m.len]at p;by_cases h0:0<n
  ·have mk:=kP [.int .i64 (.ofNat 0)] 8 g.nx n (by omega) (by omega);rw[iT,GG]at mk;simp(disch:=first|omega|exact ti rfl|simp only[np,nq];first|done|omega)only[go_sem,rB,rI,rK,rL,rN,rS,r6,g3,h0,mk];rw[kE tP];unfold tP;have c4:(aH g (aB 0 (aJ (List.replicate n 0)))).get H1.nx=aB 0 [lv,iv]:=by rw[EX _ _ _ (by omega)];exact P
   simp(disch:=first|omega|exact ti rfl|simp only[np,nq];first|done|omega)only[go_sem,rB,rI,rK,rL,rN,rS,r6,c4,p];rw[dD];refine U9 (j:=j) (by omega) (HB:=aH H (aB 0 [.int .i64 (.ofNat n),gv])) (H0:=g) (H1:=aH g (aB 0 (aJ (List.replicate n 0)))) J (hg.fm v) (by omega) f.rng g3 (by omega) P (by omega) m z (λo L x d=>z2 x (lO6.2 ⟨o,L,d⟩)) hd hL (λo L=>?_) ((Fm.refl _ _).push _) (qh _) (λo H4 u g4 f4=>?_) bT 0 (List.replicate n 0) _ (by rw[rO];omega) (vy _) (vS.start n h W) (uR _ _) (Fm.refl _ _)
   ·have:o.length<=B.flatten.length:=(List.sublist_flatten_of_mem L).length_le;omega
   ·unfold cX;obtain⟨d1,d2,d3⟩:=u.done f.rng z s hd Q;have n4:=f4.nx;have n4':g.nx+1<=H4.nx:=n4;refine Ok.ret ⟨(v.push _).then f4 λc hc es=>by have:=v.nx;omega,Or.inl ⟨_,o,rfl,⟨by rw[oF,u.len,vx],.inr ⟨g.nx,0,true,0,_,rfl,g4,vy _,pq,Or.inl rfl,by omega⟩⟩,rfl,d1,d2,λx d=>?_⟩⟩;have h1:=d3 x d;have h2:=z.lt d;omega
  ·have R:n=0:=by omega
   subst R;simp(disch:=first|omega|exact ti rfl|simp only[np,nq];first|done|omega)only[go_sem,rB,rI,rK,rL,rN,rS,r6,g3,dC];rw[kE tP];unfold tP;have T:B=[]:=lE5.1 (by omega);subst T;have U:aD lv=.val (.int .i64 (.ofNat 0)):=p;simp(disch:=first|omega|exact ti rfl|simp only[np,nq];first|done|omega)only[go_sem,rB,rI,rK,rL,rN,rS,r6,P,U,dC];rw[dD];show Ok (Ci (C j) _ _ _ _ _ _ (yv (C j) _ _ _ _ _ _ 999999) _ g) _;unfold Ci;simp(disch:=first|omega|exact ti rfl|simp only[np,nq];first|done|omega)only[go_sem,rB,rI,rK,rL,rN,rS,r6,dC];unfold cX;have V:h=[]:=by
    rcases List.eq_nil_or_concat h with es|⟨l,e,es⟩
    ·exact es
    ·have:=f.rng e (by rw[es];simp);omega
   exact Ok.ret ⟨v,Or.inl ⟨_,[],rfl,Gl.nil _ _,rfl,⟨rfl,λe i=>by rw[V]at i;cases i⟩,λS _ x d=>absurd d (ui _),λx d=>absurd d (ui _)⟩⟩
 ·have hp:0<Z.length:=lIO.2 hm;simp(disch:=first|omega|exact ti rfl|simp only[np,nq];first|done|omega)only[go_sem,rB,rI,rK,rL,rN,rS,r6,N,hp];obtain⟨x,d⟩:=List.exists_mem_of_ne_nil Z hm;obtain⟨e,i,K,h1,_⟩:=q9z.1 ((E x).1 d);obtain⟨l1,I⟩:=f.rng e i;exact Ok.ret ⟨v,Or.inr ⟨rfl,e,i,K,((A.eq q l1 I).1 h1).2⟩⟩
def hZ(s:SS):Nat:=bB ((s.a-12402) / 256)
theorem Ck(n:Nat):hZ (gN n)=bB n:=by unfold hZ gN bB;simp
def rm(n:Nat)(s:SS)(neg:Bool):Prop:=hZ s<bB n\/(neg=false/\hZ s=bB n)
theorem zmr(h:gJ n i W=true):rm n (gN i) W:=by
 unfold gJ at h;unfold rm;rw[Ck]
 grind
def PJ(n:Nat)(y:Nd):Prop:=(y.k=1->y.neg=false)/\(y.k=2->rm n y.rl y.neg)/\(y.k=3->rm n y.to y.neg)
theorem Ik(a:W=true->0<bB n):∀y∈(eM W).nodes W,PJ n y:=by
 unfold eM;cases W
 ·intro y b;simp[Ru.nodes]at b;subst b;exact⟨om,om,om⟩
 ·intro y b;simp[Ru.nodes]at b;subst b;refine⟨om,λ_=>.inl ?_,om⟩;rw[Ck];exact a rfl
theorem KQ{L:List (List Nat)}(e:n<bY L):∀(d i:Nat) (neg:Bool),(neg=true->0<bB n)->∀y∈(fQ L n d i neg).1.nodes neg,PJ n y
 |0,i,neg,h=>by unfold fQ;exact Ik h
 |d+1,i,neg,hneg=>by
  have g:At (bY L) n neg:=⟨e,vT _ _,hneg⟩;unfold fQ;split
  ·exact Ik hneg
  split
  ·exact Ik hneg
  split
  ·have c:=M0 g;have l:=tF (d:=sE) (ah (gM L n i / 8) c);intro y a;simp[sc,Ru.nodes]at a;subst a;refine⟨om,λ_=>?_,om⟩;have:∀s∈bM (bY L) n neg,rm n s neg:=λs b=>by
    obtain⟨k,f,rfl⟩:=lEA.1 b;exact zmr (lEU.1 f).2
   simp_all
  split
  ·unfold xW;split
   ·exact Ik hneg
   ·rename_i h;have l:=tF (d:=(⟨sE,sE⟩:gO)) (ah (gM L n i / 8) (show 0<(mU L n neg).length by omega));intro y a;simp only[Ru.nodes,lAK]at a;subst a;refine⟨om,om,λ_=>?_⟩;have:∀s∈mU L n neg,rm n s.to neg:=λs b=>by
     obtain⟨i,_,b⟩:=lEI.1 b;obtain⟨t,_,b⟩:=lEI.1 b;obtain⟨j,m,rfl⟩:=lEA.1 b;have c:=(lEU.1 m).2;unfold iz at c;rw[sA]at c;exact zmr c.2
    grind
  ·intro y a;rw[Ru.nodes,lE4,lAJ]at a;have f:xV n (gM L n i)≠1/\xV n (gM L n i)≠2/\xV n (gM L n i)≠3:=by unfold xV;split<;>(try split)<;>omega
   rcases a with rfl|a|a
   ·exact⟨om,om,om⟩
   ·exact KQ e d _ _ hneg _ a
   ·refine KQ e d _ _ (λh=>?_) _ a;rw[ny,gp]at h;rcases h with h|h
    ·grind
    ·unfold xV at h
     grind
theorem zti{L:List (List Nat)}(b:n<bY L){t:jW}(h:t∈mO L n)(c:t.rl≠sE):hZ t.rl<=bB n:=by
 unfold mO at h;rw[lAJ]at h;rcases h with h|h
 ·unfold yN at h
  grind
 ·split at h
  ·rw[lAK]at h;have a:=tF (d:=(⟨sE,sE⟩:jW)) (ah (gM L n 1 / 2) (HW b));rw[<-h]at a;unfold vQ at a;rw[lEA]at a;obtain⟨k,e,rfl⟩:=a;rw[Ck];simp_all
  ·cases h
variable {L:List (List Nat)} {X:List aP}
theorem qZ.len(h:qZ L X):(aF X).length=bY L:=by rw[h.all];simp
variable{D E:SS}
theorem qZ.aIa(h:qZ L X)(c:dA X D E<(aF X).length):bB (dA X D E)=hZ E:=by
 have f:(aF X)[dA X D E]=(D,E):=by have:=List.findIdx_getElem (w:=c);exact of_decide_eq_true this
 have d:(aF X)[dA X D E]=nF (dA X D E):=by have:∀(l:List (SS×SS)) (e:dA X D E<l.length),l=(List.range (bY L)).map nF->l[dA X D E]=nF (dA X D E):=om;exact this _ c h.all
 rw[f]at d;have g:=congrArg Prod.snd d;have i:E=gN (dA X D E):=g
 calc bB (dA X D E)=hZ (gN (dA X D E)):=(Ck _).symm
  _=hZ E:=by rw[<-i]
theorem qZ.lev(h:qZ L X){e:Edge}(a:e∈fi X X)(o:e.f<(aF X).length)(q:e.t<(aF X).length):bB e.t<=bB e.f/\(e.s=true->bB e.t<bB e.f):=by
 obtain⟨g,z,a⟩:=lEI.1 a;obtain⟨x,A,a⟩:=lEI.1 a;obtain⟨y,l,a⟩:=lEI.1 a;obtain⟨p,f,rfl⟩:=lEA.1 a;obtain⟨i,n,_,_,_,_,m,j⟩:=h.x z A;have d:x.r.name=gN n:=by rw[j,Bb];rfl
 have r:bB (dA X g.name x.r.name)=bB n:=by rw[h.aIa o,d,Ck]
 have u:bB (dA X p.1 p.2)=hZ p.2:=h.aIa q;show bB (dA X p.1 p.2)<=bB (dA X g.name x.r.name)/\(y.neg=true->bB (dA X p.1 p.2)<bB (dA X g.name x.r.name));rw[r,u];have v:x.r.rule=(fQ L n 6 2 false).1:=by rw[j,ko];rfl
 rw[v]at l;obtain⟨q1,q2,q3⟩:=KQ m 6 2 false om y l;have w:∀s,rm n s y.neg->hZ s<=bB n/\(y.neg=true->hZ s<bB n):=λs c=>by
  rcases c with c|⟨e,c⟩
  ·omega
  ·simp_all
 unfold eo at f;split at f
 ·rename_i C;obtain⟨t,k,rfl⟩:=lEA.1 f;obtain⟨b,B⟩:=lEU.1 k;have:t∈mO L n:=by
   rw[j]at b;exact Ly _ _ t b
  exact⟨zti m this om,om⟩
 grind
theorem z05{n:Nat}{lv:Nat->Nat}(es:∀e∈h,lv e.t<=lv e.f/\(e.s=true->lv e.t<lv e.f)):¬∃e∈h,e.s=true/\Rc (bx h) e.t e.f:=by
 rintro ⟨e,f,g,i⟩;have d:∀a b,Rc (bx h) a b->lv b<=lv a:=λa b c=>by
  induction c with
  |refl=>exact AF _
  |step _ hc ih=>
   obtain⟨j,k,l,m⟩:=qed.1 hc
   grind
 grind
def eh(X:List aP):List Edge:=j6 (sortE (fi X X))
theorem Nt{α:Type}[DecidableEq α]:∀{l U:List α},l.Nodup->(∀x∈l,x∈U)->l.length<=U.length
 | [],_,_,_=>vy _
 |x::l,U,h,hs=>by rw[lOI]at h;have b:x∈U:=hs x vA;have:=Nt (l:=l) (U:=U.erase x) h.2 λy a=>(List.mem_erase_of_ne λe=>h.1 (by rw[<-e];exact a)).2 (hs y (DQ _ a));rw[List.length_erase_of_mem b]at this;have:=List.length_pos_of_mem b;rw[nk];omega
theorem bV.aZX(d:bV X){e:Edge}(a:e∈fi X X):e.f<(aF X).length/\e.t<(aF X).length:=by obtain⟨g,b,a⟩:=lEI.1 a;obtain⟨x,c,a⟩:=lEI.1 a;obtain⟨y,f,a⟩:=lEI.1 a;obtain⟨p,h,rfl⟩:=lEA.1 a;exact⟨uD (qes.2 ⟨g,b,x,c,rfl,rfl⟩),uD (d.ndt ⟨b,c⟩ f p h)⟩
theorem z2h(l:Asc h)(d:∀e∈h,e.f<n/\e.t<n)(m:n<13):h.length<900:=by
 have i:(h.map λe=>e.f*32+e.t*2+bn e.s).Pairwise (· < ·):=by
  rw[List.pairwise_map];refine l.imp_of_mem λ{a b} g f l=>?_;have:=d a g;have:=om;have f:∀s,bn s<=1:=λs=>by cases s<;>decide
  have:=f a.s;have:=om;unfold xH at l;omega
 have j:∀x∈h.map λe=>e.f*32+e.t*2+bn e.s,x<512:=λx c=>by
  obtain⟨e,k,rfl⟩:=lEA.1 c;have:=d e k;have:bn e.s<=1:=by cases e.s<;>decide
  omega
 have:=Nt (i.imp Nat.ne_of_lt) λx c=>lOF.2 (j x c)
 grind
theorem qZ.es(h:qZ L X):lP (aF X).length (eh X)/\(eh X).length<900:=by have a:Asc (eh X):=z1z (ztv _);have b:∀e∈eh X,e.f<(aF X).length/\e.t<(aF X).length:=λe c=>h.val.aZX (qpi.1 (qqr.1 c));exact⟨a.ok b,z2h a b (by rw[h.len];exact LU L)⟩
theorem qZ.nb(h:qZ L X):¬∃e∈eh X,e.s=true/\Rc (bx (eh X)) e.t e.f:=z05 (n:=0) (lv:=bB) λe a=>by have b:=h.es.1.rng e a;exact h.lev (qpi.1 (qqr.1 a)) b.1 b.2
structure lG(X:List aP)(o:List Nat):Prop where
 fit:Fit (aF X).length (eh X) o
 lst:Aq (aF X).length (eh X) o
 lo:∀x,x<(aF X).length->o.getD x 0<(aF X).length
theorem lG.len{o:List Nat}(h:lG X o):o.length=(aF X).length:=h.fit.1
theorem lG.bd{o:List Nat}(h:lG X o)(x:Nat)(a:x<(aF X).length):o.getD x 0<=(aF X).length:=dE (h.lo x a)
theorem lG.uniq{o:List Nat}(h:lG X o)(b:lG X ins):o=ins:=zvg h.fit h.lst b.fit b.lst
structure f8(X:List aP):Prop where
 val:bV X
 es:lP (aF X).length (eh X)/\(eh X).length<900
 len:(aF X).length<13
 nb:¬∃e∈eh X,e.s=true/\Rc (bx (eh X)) e.t e.f
theorem qZ.sok(h:qZ L X):f8 X:=⟨h.val,h.es,by rw[h.len];exact LU L,h.nb⟩
theorem zoh(c:qM C)(d:pP C)(e:pZ LA LO C){k:Nat}(f:1002<=k)(h:f8 X)(g:lX H gv (eh X)):Ok (C k (.f 189) [.agg [iN ((aF X).length),gv]] H) λr H'=>Fm No H H' /\ ∃w o,r=.aX [w,iN 0]/\Gl 1 H' w (aF X).length (aJ o)/\dX w=.val (iN ((aF X).length))/\lG X o:=by
 have p:=h.len;refine(Aj c d e f h.es.1 om h.es.2 g).mono λr H' b=>⟨b.1,?_⟩;rcases b.2 with⟨w,o,i,a,j,l,m,n⟩|⟨_,a⟩
 ·exact⟨w,o,i,a,j,l,m,n⟩
 ·exact absurd a h.nb
theorem zzc(a:iO C)(b:fG C)(c:qM C)(d:pP C)(e:pZ LA LO C){k:Nat}(f:1003<=k){sv:AV}(l:dB H sv X)(h:f8 X):Ok (C k (.f 125) [.agg [sv]] H) λr H'=>r=iN 0/\Fm No H H':=by obtain⟨j,rfl⟩:=aO f;rw[lk (zs9 ..)];unfold XQ;refine aS ?_;refine Ok.ve (zzf a b (k:=j) om om h.val) ?_;rintro _ H1 ⟨gv,rfl,i,_,m,_⟩;refine aS ?_;have g:Fm No H1 ((aH H1 (aB 0 [iN 0,.aA])).put H1.nx (aB 0 [iN ((aF X).length),gv])):=om;refine Ok.ve (zoh c d e (k:=j) om h (i.fm g)) ?_;rintro _ n ⟨p,w,o,rfl,_⟩;exact Ok.ret ⟨rfl,om⟩
variable {b j:Nat} {sv:AV}
theorem zu6(n a:Nat):qY (.str n a)=.val (iN n):=id rfl
attribute [go_sem] zu6
def A3(x:Nat):Bool:=(decide (97<=x)&&decide (x<=122))||(decide (48<=x)&&decide (x<=57))
def gh(s:SS)(i:Nat):Bool:=(List.range i).all λj=>A3 (gA s.a j)
def l9(s:SS):Bool:=decide (0<s.n)&&(decide (s.n<=16)&&gh s s.n)
def vZ(s:SS):Nat:=if l9 s then 0 else 6
theorem zmj(s:SS)(h:i<s.n):fE (.str s.n s.a) (iN i)=.val (uN ((gA s.a i))):=by unfold fE;simp only[blt_eq,j7 h,AN]
theorem Sv(s:SS)(i:Nat):gh s (i+1)=(gh s i&&A3 (gA s.a i)):=by
 unfold gh
 grind
theorem z97(h:i<=j)(a:gh D j=true):gh D i=true:=by
 unfold gh at a ⊢
 grind
theorem SU{Q:pL}(m:D.n<=16)(j:gh D D.n=false->Ok (qr (iN 6) H) Q)(n:gh D D.n=true->Ok (qe H) Q):∀(k i:Nat),i<=D.n->D.n-i<k->gh D i=true->Ok (CI P qr qe D.v (iN (D.n)) k (iN i) H) Q
 |0,i,_,h,_=>om
 |k+1,i,hi,hk,ho=>by
  show Ok (Zr P _ _ _ _ (CI P _ _ _ _ k) _ H) Q;unfold Zr;by_cases b:i<D.n
  ·simp only[go_sem,b];unfold Og SS.v;have c:=zmj D b;have g:A3 (gA D.a i)=false->Ok (qr (iN 6) H) Q:=λh=>j (by
    cases o:gh D D.n with
    |false=>rfl
    |true=>have:=z97 (show i+1<=D.n by omega) o;rw[Sv,h,Bool.and_false]at this;cases this)
   have a:A3 (gA D.a i)=true->Ok (lC P (CI P qr qe D.v (iN (D.n)) k) (iN i) H) Q:=λh=>by unfold lC;refine aS ?_;exact SU m j n k (i+1) om om (by rw[Sv,ho,h];rfl)
   generalize gA D.a i=x at *;unfold A3 at g a;by_cases e:x<97
   ·by_cases d:x<48
    ·simp only[go_sem,c,e,d]
     grind
    ·by_cases f:57<x
     ·simp only[go_sem,c,e,d,f]
      grind
     ·simp only[go_sem,c,e,d,f];exact a g2
   ·by_cases l:122<x
    ·have d:¬x<48:=om;have f:57<x:=om;simp only[go_sem,c,e,l,d,f];simp_all
    ·simp only[go_sem,c,e,l];exact a g2
  ·simp only[go_sem,b]
   grind
theorem zlr{k:Nat}(c:1<=k)(s:SS)(H:Hp):Ok (C k (.f 199) [s.v] H) λr H'=>r=iN ((vZ s))/\Fm No H H':=by
 obtain⟨j,rfl⟩:=aO c;rw[lk (zql ..)];unfold Ws SS.v;by_cases a:s.n<1
 ·simp only[go_sem,a];refine Ok.ret ⟨?_,om⟩;unfold vZ l9;simp_all
 ·by_cases b:16<s.n
  ·simp only[go_sem,a,b];refine Ok.ret ⟨?_,om⟩;unfold vZ l9
   grind
  ·simp only[go_sem,a,b];unfold Zq;simp only[go_sem];rw[dD];have e:l9 s=gh s s.n:=by unfold l9;rw[j7 om,j7 om,Bool.true_and,Bool.true_and]
   refine SU om (λh=>?_) (λh=>?_) bT 0 om lf rfl
   ·exact Ok.ret ⟨by unfold vZ;rw[e,h];rfl,Fm.refl _ _⟩
   ·unfold kJ;exact Ok.ret ⟨by unfold vZ;rw[e,h];rfl,Fm.refl _ _⟩
def nD(l:List SS):Bool:=l.all l9
def kj(b:Bool):Nat:=if b then 0 else 6
theorem aOh(s:SS):vZ s=kj (l9 s):=rfl
theorem Vc{j:Nat}(d:1<=j){l:List SS}(b:Rs 1 sC H0 gv l)(e:l.length<1000)(c:∀H,Fm No H0 H->nD l=false->Ok (qr (iN 6) H) O)(f:∀H,Fm No H0 H->nD l=true->Ok (qe H) O):∀(k i:Nat) (H:Hp),i<=l.length->l.length-i<k->nD (l.take i)=true->Fm No H0 H->Ok (Eb (C j) qr qe gv (iN (l.length)) k (iN i) H) O
 |0,i,_,_,h,_,_=>om
 |k+1,i,H,hi,hk,ho,hf=>by
  show Ok (Oi (C j) _ _ _ _ (Eb (C j) _ _ _ _ k) _ H) O;unfold Oi;by_cases a:i<l.length
  ·simp only[go_sem,a];unfold Oh;obtain⟨m,n,o,r,_,_,p⟩:=(b.fm hf).at' i a;have g:cB (H.get m) n=.val l[i].v:=p 0 (by rw[pi];omega);simp only[go_sem,o,g];refine Ok.ve (zlr (k:=j) om l[i] H) ?_;rintro _ H1 ⟨rfl,s⟩;rw[aOh];cases t:l9 l[i]with
   |false=>
    refine c H1 om ?_;unfold nD
    grind
   |true=>
    unfold lC;refine aS ?_;refine Vc d b e c f k (i+1) H1 om om ?_ om;unfold nD at ho ⊢;rw[nh a,List.all_append,ho]
    grind
  ·simp only[go_sem,a]
   grind
theorem zls{k:Nat}(c:2<=k){l:List SS}(b:Rs 1 sC H gv l)(d:l.length<1000):Ok (C k (.f 135) [gv] H) λr H'=>r=iN ((kj (nD l)))/\Fm No H H':=by
 obtain⟨j,rfl⟩:=aO c;rw[lk (zqn ..)];unfold Wv;have e:=b.len;simp only[go_sem,e];rw[dD];refine Vc (j:=j) om b d (λH1 a h=>?_) (λH1 a h=>?_) bT 0 H om lf rfl om
 ·exact Ok.ret ⟨by rw[h];rfl,a⟩
 ·unfold kJ;exact Ok.ret ⟨by rw[h];rfl,a⟩
theorem rs2(h:H.get b=aB 0 [D.v,E.v])(a:b<H.nx):Rs 1 sC H (.sl b 0 2 2 true) [D,E]:=
 Gl.rs pi ⟨rfl,.inr ⟨b,0,true,0,_,rfl,h,om,rfl,om,a⟩⟩
variable{F:SS}
theorem rs3(h:H.get b=aB 0 [D.v,E.v,F.v])(a:b<H.nx):Rs 1 sC H (.sl b 0 3 3 true) [D,E,F]:=
 Gl.rs pi ⟨rfl,.inr ⟨b,0,true,0,_,rfl,h,om,rfl,om,a⟩⟩
theorem TA{k:Nat}(a:3<=k)(x y:SS)(H:Hp):Ok (C k (.f 70) [.agg [x.v,y.v]] H) λr H'=>r=iN ((kj (l9 x&&l9 y)))/\Fm No H H':=by obtain⟨j,rfl⟩:=aO a;rw[lk (zqm ..)];unfold Wu SS.v;refine aS ?_;refine Ok.ve (zls (k:=j) om (l:=[x,y]) (rs2 (by simp(disch:=go_size)only[go_sem,SS.v]) gx) g3) ?_;rintro _ H1 ⟨rfl,b⟩;refine Ok.ret ⟨by simp[nD],om⟩
theorem M7{k:Nat}(a:3<=k)(x y z:SS)(H:Hp):Ok (C k (.f 133) [.agg [x.v,y.v,z.v]] H) λr H'=>r=iN ((kj (l9 x&&(l9 y&&l9 z))))/\Fm No H H':=by obtain⟨j,rfl⟩:=aO a;rw[lk (zqs ..)];unfold Wy SS.v;refine aS ?_;refine Ok.ve (zls (k:=j) om (l:=[x,y,z]) (rs3 (by simp(disch:=go_size)only[go_sem,SS.v]) gx) g3) ?_;rintro _ H1 ⟨rfl,b⟩;refine Ok.ret ⟨by simp[nD],om⟩
def Is(x y z:SS):Bool:=l9 x&&(l9 y&&(z.n==0||l9 z))
theorem q5f{k:Nat}(a:4<=k)(x y z:SS)(b:z.n=0->z.a=0)(H:Hp):Ok (C k (.f 261) [.agg [x.v,y.v,z.v]] H) λr H'=>r=iN ((kj (Is x y z)))/\Fm No H H':=by
 obtain⟨j,rfl⟩:=aO a;rw[lk (zqr ..)];unfold Wx SS.v Is;by_cases h:z.n=0
 ·have c:=b h;refine dS h c ?_;refine Ok.ve (TA (k:=j) om x y _) ?_;rintro _ H1 ⟨rfl,e⟩;refine Ok.ret ⟨g3,?_⟩
  grind
 ·have d:(z.n==0)=false:=by simp[h]
  refine dS h d ?_;unfold zxk;simp(disch:=omega)only[go_sem];refine Ok.ve (M7 (k:=j) om x y z _) ?_;rintro _ H1 ⟨rfl,e⟩;refine Ok.ret ⟨g3,?_⟩
  grind
structure Tu where
 a:SS
 b:SS
 c:SS
 x:SS
 y:SS
 z:SS
 o:z.n=0->z.a=0
def Tu.cells(t:Tu):List AV:=[t.a.v,t.b.v,t.c.v,t.x.v,t.y.v,t.z.v]
def Tu.ok(t:Tu):Bool:=(l9 t.a&&(l9 t.b&&l9 t.c))&&Is t.x t.y t.z
theorem zju{k:Nat}(a:5<=k)(t:Tu)(H:Hp):Ok (C k (.f 228) [.agg t.cells] H) λr H'=>r=iN ((kj t.ok))/\Fm No H H':=by
 obtain⟨j,rfl⟩:=aO a;rw[lk (zqv ..)];unfold WB Tu.cells Tu.ok SS.v;refine aS ?_;refine Ok.ve (M7 (k:=j) om t.a t.b t.c _) ?_;rintro _ H1 ⟨rfl,b⟩;have g1:H1.get H.nx=aB 0 [.str t.a.n t.a.a,.str t.b.n t.b.a,.str t.c.n t.c.a,.str t.x.n t.x.a,.str t.y.n t.y.a,.str t.z.n t.z.a]:=om;cases e:(l9 t.a&&(l9 t.b&&l9 t.c))with
 |false=>
  refine Ok.ret ⟨rfl,?_⟩
  grind
 |true=>
  unfold zxn;simp only[go_sem,g1];refine Ok.ve (q5f (k:=j) om t.x t.y t.z t.o _) ?_;rintro _ c ⟨rfl,d⟩;refine Ok.ret ⟨om,?_⟩
  grind
def iB:List SS:=[sE,⟨1,49⟩,⟨1,50⟩,⟨1,51⟩,⟨1,52⟩,dO 0,dO 1,dO 2,gN 0,gN 1,gN 2,gN 3,⟨4,1953460082⟩,sU]
def rk(s:SS):Nat:=iB.idxOf s
theorem du(h:D∈iB):rk D<16:=by
 have:∀D∈iB,rk D<16:=g4
 grind
theorem ED(h:D∈iB)(g:E∈iB)(e:rk D=rk E):D=E:=by
 have:∀D∈iB,∀E∈iB,rk D=rk E->D=E:=g4
 grind
def It(a b:Nat):Int:=if a<b then .negSucc 0 else if b<a then .ofNat 1 else .ofNat 0
theorem z8y(a b:Nat):It a b< .ofNat 0↔a<b:=by
 unfold It
 grind
def SgK(a b:Nat)(H:Hp)(r:AV)(c:Hp):Prop:=(∃i:Int,r=.int .i64 i/\(i< .ofNat 0↔a<b))/\Fm No H c
theorem SgK.of{g:Hp}(h:SgK i b H0 gv g)(f:Fm No H H0)(e:i<b↔c<m):SgK c m H gv g:=⟨h.1.imp om,f.trans h.2⟩
theorem aNf:wg=λg r k H=>Ag g r H k:=by funext g r k H;unfold wg;rw[IF]
theorem zle(O:Ev.Call)(H:Hp):∀s∈iB,∀t∈iB,IB O s.v t.v H=.ok (.int .i64 (It (rk s) (rk t))) H:=by
 have h:iB.map (λs=>iB.map λt=>IB O s.v t.v H)=iB.map λs=>iB.map λt=>.ok (.int .i64 (It (rk s) (rk t))) H:=by
  unfold IB Oj zxi;rw[dD,aNf]
  kernel_rfl
 simp_all
theorem GF{k:Nat}(a:1<=k)(b:D∈iB)(c:E∈iB)(H:Hp):Ok (C k (.f 227) [D.v,E.v] H) (SgK (rk D) (rk E) H):=by obtain⟨j,rfl⟩:=aO a;rw[lk (zqo ..),zle _ _ D b E c];exact Ok.ret ⟨⟨_,rfl,z8y _ _⟩,om⟩
def k2(x y:SS):Nat:=rk x*16+rk y
variable{I:SS}
theorem znw{k:Nat}(i:2<=k)(c:D∈iB)(d:E∈iB)(f:F∈iB)(g:I∈iB)(H:Hp):Ok (C k (.f 226) [.agg [D.v,E.v],.agg [F.v,I.v]] H) (SgK (k2 D E) (k2 F I) H):=by
 obtain⟨j,rfl⟩:=aO i;rw[lk (zqq ..)];unfold Ww k2;have l:=du d;have m:=du g;by_cases h:D=F
 ·have b:=(pE _ _).1 h;unfold SS.v;simp only[go_sem,ER,b,and_self];unfold zxj;refine aS ?_;exact Ok.ve (GF (k:=j) om d g _) λr H1 a=>Ok.ret (a.of fm om)
 ·have n:rk D≠rk F:=λe=>h (ED c f e);have b:¬(D.n=F.n/\D.a=F.a):=λe=>h ((pE _ _).2 e);unfold SS.v;refine dS ER b ?_;exact Ok.ve (GF (k:=j) om c f _) λr H1 a=>Ok.ret (a.of fm om)
theorem o8(n b:Bool):iQ n (some b)=.val (.bool (bif n then !b else b)):=by cases n<;>rfl
theorem eqO(x y u v:SS):dL (eqFields [(p1,⟨bH⟩,0),(p1,⟨bH⟩,1)]) (.agg [.str x.n x.a,.str y.n y.a]) (.agg [.str u.n u.a,.str v.n v.a])=some (decide ((x,y)=(u,v))):=y9 (x,y) (u,v)
theorem eA{o p:Option Bool}{b:Bool}(h:o=some W)(g:p=some b):andThen o p=some (W&&b):=by rw[h,g];cases W<;>cases b<;>rfl
def gG(x y z u v w:SS):Bool:=decide (x=u)&&(decide (y=v)&&true)&&(decide (z=w)&&true)
theorem eqG(x y z u v w:SS):dL (eqFields [((pA 2),⟨dL (eqFields [(p1,⟨bH⟩,0),(p1,⟨bH⟩,1)])⟩,0),(p1,⟨bH⟩,2)]) (.agg [.str x.n x.a,.str y.n y.a,.str z.n z.a]) (.agg [.str u.n u.a,.str v.n v.a,.str w.n w.a])=some (gG x y z u v w):=by exact eA (eA (cV _ _) (eA (cV _ _) rfl)) (eA (cV _ _) rfl)
variable{J N:SS}
theorem zac:gG D E F I J N=true↔D=I/\E=J/\F=N:=by
 unfold gG
 grind
def k3(x y z:SS):Nat:=k2 x y*16+rk z
theorem EP(e:D∈iB)(a:E∈iB)(b:F∈iB)(f:I∈iB)(c:J∈iB)(d:N∈iB)(h:k3 D E F=k3 I J N):D=I/\E=J/\F=N:=by unfold k3 k2 at h;have:=du a;have:=du c;have:=du b;have:=du d;exact⟨ED e f om,ED a c om,ED b d om⟩
theorem xh(a:D∈iB)(b:E∈iB)(c:F∈iB):k3 D E F<4096:=by unfold k3 k2;have:=du a;have:=du b;have:=du c;omega
theorem znx{k:Nat}(l:3<=k)(c:D∈iB)(d:E∈iB)(b:F∈iB)(f:I∈iB)(g:J∈iB)(i:N∈iB)(H:Hp):Ok (C k (.f 172) [.agg [D.v,E.v,F.v],.agg [I.v,J.v,N.v]] H) (SgK (k3 D E F) (k3 I J N) H)/\Ok (C k (.f 173) [.agg [D.v,E.v,F.v],.agg [I.v,J.v,N.v]] H) (SgK (k3 D E F) (k3 I J N) H):=by
 obtain⟨j,rfl⟩:=aO l;rw[lk (zqu ..),lk (zqt ..)];unfold WA Wz k3;have e:=eqO D E I J;have o:=du b;have p:=du i;by_cases h:(D,E)=(I,J)
 ·rw[j7 h]at e;injection h with m n;unfold SS.v;constructor
  ·refine dS e o8 ?_;unfold zxm;refine aS ?_;exact Ok.ve (GF (k:=j) om b i _) λr H1 a=>Ok.ret (a.of fm om)
  ·refine dS e o8 ?_;unfold zxl;refine aS ?_;exact Ok.ve (GF (k:=j) om b i _) λr H1 a=>Ok.ret (a.of fm om)
 ·rw[sT h]at e;have s:k2 D E≠k2 I J:=λq=>by
   obtain⟨m,n,_⟩:=EP c d b f g b (show k3 D E F=k3 I J F by unfold k3;rw[q]);simp_all
  unfold SS.v;constructor
  ·refine dS e o8 ?_;exact Ok.ve (znw (k:=j) om c d f g _) λr H1 a=>Ok.ret (a.of fm om)
  ·refine dS e o8 ?_;exact Ok.ve (znw (k:=j) om c d f g _) λr H1 a=>Ok.ret (a.of fm om)
structure Tu.lo(t:Tu):Prop where
 a:t.a∈iB
 b:t.b∈iB
 c:t.c∈iB
 x:t.x∈iB
 y:t.y∈iB
 z:t.z∈iB
def Tu.key(t:Tu):Nat:=k3 t.a t.b t.c*4096+k3 t.x t.y t.z
theorem Tu.lo.inj{t u:Tu}(h:t.lo)(g:u.lo)(e:t.key=u.key):t=u:=by unfold Tu.key at e;have a:=xh h.x h.y h.z;have b:=xh g.x g.y g.z;obtain⟨c,d,f⟩:=EP h.a h.b h.c g.a g.b g.c om;obtain⟨i,j,k⟩:=EP h.x h.y h.z g.x g.y g.z om;cases t;simp_all
theorem z10{k:Nat}(c:4<=k){t u:Tu}(h:t.lo)(g:u.lo)(H:Hp):Ok (C k (.f 120) [.agg t.cells,.agg u.cells] H) (SgK t.key u.key H):=by
 obtain⟨j,rfl⟩:=aO c;rw[lk (zqw ..)];unfold WC Tu.cells SS.v Tu.key;have e:=eqG t.a t.b t.c u.a u.b u.c;have f:=xh h.x h.y h.z;have i:=xh g.x g.y g.z;by_cases a:gG t.a t.b t.c u.a u.b u.c=true
 ·rw[a]at e;obtain⟨q1,q2,q3⟩:=zac.1 a;have d:k3 t.a t.b t.c=k3 u.a u.b u.c:=om;refine dS e o8 ?_;unfold zxo;refine aS ?_;refine Ok.ve (znx (k:=j) om h.x h.y h.z g.x g.y g.z _).2 ?_;intro r H1 b;exact Ok.ret (b.of om om)
 ·have d:k3 t.a t.b t.c≠k3 u.a u.b u.c:=λq=>a (zac.2 (EP h.a h.b h.c g.a g.b g.c q));rw[Bool.not_eq_true]at a;rw[a]at e;refine dS e o8 ?_;refine Ok.ve (znx (k:=j) om h.a h.b h.c g.a g.b g.c _).1 ?_;intro r H1 b;exact Ok.ret (b.of om om)
theorem cJ(t u:Tu):dL (eqFields [((pA 3),⟨dL (eqFields [((pA 2),⟨dL (eqFields [(p1,⟨bH⟩,0),(p1,⟨bH⟩,1)])⟩,0),(p1,⟨bH⟩,2)])⟩,0),((pA 3),⟨dL (eqFields [((pA 2),⟨dL (eqFields [(p1,⟨bH⟩,0),(p1,⟨bH⟩,1)])⟩,0),(p1,⟨bH⟩,2)])⟩,3)]) (.agg t.cells) (.agg u.cells)=some (gG t.a t.b t.c u.a u.b u.c&&(gG t.x t.y t.z u.x u.y u.z&&true)):=by
 show andThen (andThen (andThen (bH t.a.v u.a.v) (andThen (bH t.b.v u.b.v) (some true))) (andThen (bH t.c.v u.c.v) (some true)))
  (andThen (andThen (andThen (bH t.x.v u.x.v) (andThen (bH t.y.v u.y.v) (some true))) (andThen (bH t.z.v u.z.v) (some true))) (some true))=_
 exact eA (eA (eA (cV _ _) (eA (cV _ _) rfl)) (eA (cV _ _) rfl))
  (eA (eA (eA (cV _ _) (eA (cV _ _) rfl)) (eA (cV _ _) rfl)) rfl)
theorem z1r{t u:Tu}:(gG t.a t.b t.c u.a u.b u.c&&gG t.x t.y t.z u.x u.y u.z)=true↔t=u:=by
 rw[sA,zac,zac];constructor
 ·rintro ⟨⟨a,b,c⟩,d,e,f⟩;cases t;simp_all
 ·simp_all
theorem yZ(t:Tu):t.cells.length=6:=id rfl
variable{U:List Tu}
theorem zmi{t:Tu}{cb:Nat}(c:Rs 6 Tu.cells H gv U)(d:eY (H.get cb) 0 6=some t.cells)(g:U.length<1000000){Q:pL}(e:t∈U->Ok (qr (iN 1) H) Q)(j:t∉U->Ok (qe H) Q):∀(k i:Nat),i<=U.length->U.length-i<k->t∉U.take i->Ok (Ec P qr qe gv (.ptr cb 0) k (iN i) H) Q
 |0,i,_,h,_=>om
 |k+1,i,hi,hk,hm=>by
  show Ok (Zs P _ _ _ _ (Ec P _ _ _ _ k) _ H) Q;unfold Zs;have f:=c.len;by_cases a:i<U.length
  ·simp only[go_sem,f,a];unfold zxp;obtain⟨b,o,p,_,r⟩:=c.oG a;have n:=cJ U[i] t;simp only[go_sem,p,r,d,n,o8];have s:=z1r (t:=U[i]) (u:=t);cases w:(gG U[i].a U[i].b U[i].c t.a t.b t.c&&gG U[i].x U[i].y U[i].z t.x t.y t.z)with
   |true=>exact e om
   |false=>unfold lC;refine aS ?_;refine zmi c d g e j k (i+1) om om λm=>?_;rw[nh a,lAJ,lAK]at m;simp_all
  ·simp only[go_sem,f,a]
   grind
theorem aQY{k:Nat}(a:1<=k)(c:Rs 6 Tu.cells H gv U)(b:U.length<1000000)(t:Tu):Ok (C k (.f 119) [gv,.agg t.cells] H) λr H'=>(∃i:Int,r=.int .i64 i/\(i=.ofNat 1↔t∈U))/\Fm No H H':=by
 obtain⟨j,rfl⟩:=aO a;rw[lk (zqx ..)];unfold WD;have f:Fm No H (aH H (aB 0 t.cells)):=om;have e:pU 6 H.nx (.agg t.cells)=.new (.ptr H.nx 0) (aB 0 t.cells):=id rfl;simp only[go_sem,e];rw[dD];refine zmi (t:=t) om ?_ b (λh=>Ok.ret ⟨om,f⟩) (λh=>?_) bT 0 om lf g3
 ·rw[uR];rfl
 ·unfold kJ;exact Ok.ret ⟨om,f⟩
def mT:List SS:=[⟨1,49⟩,⟨1,50⟩,⟨1,51⟩,⟨1,52⟩,⟨4,1953460082⟩]
theorem Vk{k:Nat}(a:1<=k)(n:Nat)(H:Hp):Ok (C k (.f 118) [uN n] H) λr H'=>(∃s:SS,r=s.v/\s∈mT/\s∈iB)/\Fm No H H':=by
 obtain⟨j,rfl⟩:=aO a;rw[lk (zqy ..)];unfold WE;have c:n%5<5:=om;have e:∀m,m<5->∃s:SS,([AV.str 1 49,.str 1 50,.str 1 51,.str 1 52,.str 4 1953460082]:List AV)[m]? =some s.v/\s∈mT/\s∈iB:=λm b=>by
  match m,b with
  |0,_=>exact⟨⟨1,49⟩,rfl,g4,g4⟩
  |1,_=>exact⟨⟨1,50⟩,rfl,g4,g4⟩
  |2,_=>exact⟨⟨1,51⟩,rfl,g4,g4⟩
  |3,_=>exact⟨⟨1,52⟩,rfl,g4,g4⟩
  |4,_=>exact⟨⟨4,1953460082⟩,rfl,g4,g4⟩
 obtain⟨s,f,g,h⟩:=e _ c;have d:(bK (aU [zS] 5) [(0,1,(.str 1 49)),(1,1,(.str 1 50)),(2,1,(.str 1 51)),(3,1,(.str 1 52)),(4,1,(.str 4 1953460082))])=some [.str 1 49,.str 1 50,.str 1 51,.str 1 52,.str 4 1953460082]:=id rfl;rw[d];refine dI f ?_;refine Ok.ret ⟨om,?_⟩
 grind
theorem y0(t:Tu):List.take 6 t.cells=t.cells:=id rfl
abbrev lI(l:List Tu):Prop:=l.Pairwise λa b=>a.key<b.key
theorem lI.add{l:List Tu}{t:Tu}(h:lI l)(g:∀a∈l,a.key<t.key):lI (l++[t]):=
 lI8.2 ⟨h,om,om⟩
def gR(b:Bool):Nat:=bif b then 1 else 0
variable{Z:Tu->Prop}
theorem Qk(hj:4<=j)(M:∀t,Z t->t.lo){m:List Tu}(J:i<U.length)(hl:U.length<1000)(hm:m.length<1000)(pl:∀t∈U,Z t)(N:∀t∈m,Z t)(am:lI m)(z:∀u∈m,u.key≠U[i].key)(hv:Rs 6 Tu.cells H0 gv U)(K:Rs 6 Tu.cells H0 sv m)(hq:∀u n f H,Ac 6 Tu.cells H0 H u n->n.length=m.length+gR f->(∀t∈n,Z t)->lI n->(f=false->∀a∈n,a.key<U[i].key)->Ok (V u (.bool f) H) O):∀(k e:Nat) (f:Bool) (u:AV) (n:List Tu) (H:Hp),e<=m.length->m.length-e<k->n.length=e+gR f->(∀t∈n,Z t)->lI n->(∀a∈n,∀u∈m.drop e,a.key<u.key)->(f=false->∀a∈n,a.key<U[i].key)->Ac 6 Tu.cells H0 H u n -> Ok (B6 (C j) V gv sv (iN i) k u (.bool f) (iN e) H) O
 |0,e,_,_,_,_,_,h,_,_,_,_,_,_=>om
 |k+1,e,f,u,n,H,he,hk,hn,pn,an,lt,no,ha=>by
  show Ok (JZ (C j) _ _ _ _ (B6 (C j) _ _ _ _ k) _ _ _ H) O;unfold JZ;have e0:=K.len;by_cases r:e<m.length
  ·refine dS e0 r ?_;have hd:=iP r;have d:lI (m.drop e):=om;rw[hd]at d lt;rw[lI,yg]at d;have c:∀(x:Bool) (Q:AV) (p:List Tu) (H':Hp),p.length=e+gR x->(∀t∈p,Z t)->lI p->(∀a∈p,∀u∈m[e]::m.drop (e+1),a.key<u.key)->(x=false->m[e].key<U[i].key/\∀a∈p,a.key<U[i].key)->Ac 6 Tu.cells H0 H' Q p ->
     Ok (GP (C j) (B6 (C j) V gv sv (iN i) k) sv Q (.bool x) (iN e) H') O:=λx Q p H' R S T A B D=>by
    unfold GP;have hb':gR x<=1:=by cases x<;>decide
    obtain⟨b,o,l,e2,L⟩:=(K.fm D.fm).oG r;refine jF l L yZ y0 ?_;refine Ok.ve ((D.no ((Fm.refl No H').push (aB 0 m[e].cells))).add m[e] 96 rfl om om) ?_;intro q W y;unfold Om;refine aS ?_;refine Qk hj M J hl hm pl N am z hv K hq k (e+1) x q (p++[m[e]]) W om om (by simp[R];omega) ?_ (T.add λa h=>A a h _ vA) ?_ ?_ y
    all_goals simp only[lAJ,lAK]
    ·rintro t (X|rfl)
     ·exact S t X
     ·exact N _ (sx r)
    ·rintro a (h|rfl) u F
     ·exact A a h u (DQ _ F)
     ·exact d.1 u F
    ·rintro hf a (h|rfl)
     ·exact(B hf).2 a h
     ·exact(B hf).1
   unfold Zz;cases f with
   |true=>simp only[go_sem];exact c true u n H hn pn an lt (λh=>by cases h) ha
   |false=>
    obtain⟨b,o,l,e2,L⟩:=(hv.fm ha.fm).oG J;obtain⟨b',o',Y,P,G⟩:=(K.fm ha.fm).oG r;simp only[go_sem,l,L,Y,G];refine Ok.iC (z10 (k:=j) om (M _ (pl _ (sx J))) (M _ (N _ (sx r))) _) ?_;rintro _ H1 ⟨⟨s,rfl,hsk⟩,f1⟩;have hnk:=z _ (sx r);have g:eY (H1.get b) o 6=some U[i].cells:=by rw[f1.keep e2];exact L
    have g':eY (H1.get b') o' 6=some m[e].cells:=by rw[f1.keep P];exact G
    have E:=ha.no f1;by_cases I:s<Int.ofNat 0
    ·refine lW g g' I yZ y0 ?_;refine Ok.ve ((E.no ((Fm.refl No H1).push (aB 0 U[i].cells))).add U[i] 96 rfl (by unfold gR at hn;simp at hn;omega) (by unfold gR at hn;simp at hn;omega)) ?_;intro q W y;rw[hsk]at I;refine c true q (n++[U[i]]) W (by unfold gR at hn ⊢;simp at hn ⊢;omega) ?_ (an.add (no rfl)) ?_ (λh=>by cases h) y
     all_goals simp only[lAJ,lE4,List.not_mem_nil,or_false]
     ·rintro t (X|rfl)
      ·exact pn t X
      ·exact pl _ (sx J)
     ·rintro a (h|rfl) u (rfl|F)
      ·exact lt a h _ vA
      ·exact lt a h u (DQ _ F)
      ·exact I
      ·exact vk I (d.1 u F)
    ·simp only[go_sem,g,g',I,yZ,y0];exact c false u n H1 hn pn an lt (λ_=>⟨om,no rfl⟩) E
  ·simp only[go_sem,e0,r];have:e=m.length:=om;subst this;exact hq u n f H ha hn pn an no
theorem zg{j:Nat}(A:4<=j)(r:∀t,Z t->t.lo)(B:U.length<1000)(pl:∀t∈U,Z t)(x:Rs 6 Tu.cells H0 gv U)(D:∀w m H,Ac 6 Tu.cells H0 H w m->m.length<=U.length->(∀t∈m,Z t)->lI m->Ok (qr w H) O):∀(k i:Nat) (w:AV) (m:List Tu) (H:Hp),i<=U.length->U.length-i<k->m.length<=i->(∀t∈m,Z t)->lI m->Ac 6 Tu.cells H0 H w m -> Ok (CK (C j) qr gv k w (iN i) H) O
 |0,i,_,_,_,_,h,_,_,_,_=>om
 |k+1,i,w,m,H,hi,hk,hm,pm,am,ha=>by
  show Ok (On (C j) _ _ (CK (C j) _ _ k) _ _ H) O;unfold On;have K:=x.len;by_cases z:i<U.length
  ·simp only[go_sem,K,z];unfold Zx;obtain⟨b,o,L,M,N⟩:=(x.fm ha.fm).oG z;simp only[go_sem,L,N];refine Ok.ve (aQY (k:=j) om (ha.rs yZ) om U[i]) ?_;rintro _ H1 ⟨⟨s,rfl,E⟩,F⟩;have c:=ha.no F;by_cases I:s=Int.ofNat 1
   ·simp only[go_sem,I];unfold ud;refine aS ?_;exact zg A r B pl x D k (i+1) w m H1 om om om pm am c
   ·simp only[go_sem,I];unfold Zy;rw[dD];have T:∀g,Fm No H1 g->eY (g.get b) o 6=some U[i].cells:=λg S=>by rw[S.keep (AE M F.nx),F.keep M];exact N
    refine Qk A r z B om pl pm am (λu J e=>I (E.2 ((r _ (pm u J)).inj (r _ (pl _ (sx z))) e▸J))) ((x.fm c.fm)) (c.rs yZ) ?_ bT 0 false .aA [] H1 (vy _) lf rfl (λt y=>by cases y) List.Pairwise.nil (λa h=>by cases h) (λ_ a h=>by cases h) (Ac.nil 6 _ (Fm.refl _ _));intro u n f g p d Q R no;unfold JY;have l:=T g p.fm;cases f with
    |true=>unfold Ed ud;refine aS ?_;exact zg A r B pl x D k (i+1) u n g om om (by unfold gR at d;simp at d;omega) Q R (Ac.trans c.fm p)
    |false=>
     refine jF L l yZ y0 ?_;refine Ok.ve ((p.no ((Fm.refl No g).push (aB 0 U[i].cells))).add U[i] 96 rfl (by unfold gR at d;simp at d;omega) (by unfold gR at d;simp at d;omega)) ?_;intro V W G;unfold Ed ud;refine aS ?_;refine zg A r B pl x D k (i+1) V (n++[U[i]]) W om om (by unfold gR at d;simp at d ⊢;omega) ?_ (R.add (no rfl)) (Ac.trans c.fm G);intro t y;rw[lAJ,lAK]at y;rcases y with y|rfl
     ·exact Q t y
     ·simp_all
  ·simp only[go_sem,K,z];exact D w m H ha om pm am
theorem zj7{k:Nat}(a:5<=k){P:Tu->Prop}(b:∀t,P t->t.lo)(c:U.length<1000)(pl:∀t∈U,P t)(d:Rs 6 Tu.cells H gv U):Ok (C k (.f 52) [gv] H) λr H'=>∃m,Ac 6 Tu.cells H H' r m/\m.length<=U.length/\(∀t∈m,P t)/\lI m:=by obtain⟨j,rfl⟩:=aO a;rw[lk (zq1 ..)];unfold WH;rw[dD];refine zg (j:=j) om b c pl d ?_ bT 0 .aA [] H om lf om om List.Pairwise.nil (Ac.nil 6 _ om);intro w m H1 e f g h;exact Ok.ret ⟨m,e,f,g,h⟩
theorem aO0(h:D∈iB):D.n=0->D.a=0:=by
 have:∀D∈iB,D.n=0->D.a=0:=g4
 grind
def lJ(X:List aP)(t:Tu):Prop:=t.b∈mT/\t.y∈mT/\(t.a,t.c)∈aF X/\∃g,kQ X t.a t.c=some g/\(⟨t.x,t.z⟩:jW)∈g.r.types
def PN(X:List aP)(r:AV):Prop:=∃(t:Tu) (b:Bool),r=.aX [.agg t.cells,.bool b]/\t.lo/\(b=true->lJ X t)
theorem aM4(hj:1<=j){a h x8 p q r s:Nat}{tv:AV}{ts:List jW}{pr:SS×SS}{l1 l3 l4 l5 l6:AV}(l:H.get a=aB 0 [uN p,uN q,uN r,uN s])(M:H.get h=aB 0 [zS,zS,zS,zS,zS,zS])(m:H.get i=aB 0 [.str pr.1.n pr.1.a,.str pr.2.n pr.2.a])(N:H.get x8=aB 0 [l1,tv,l3,l4,l5,l6])(E:a<H.nx)(O:h<H.nx)(F:i<H.nx)(n8:x8<H.nx)(r4:r<256)(I:Rs 2 tC H tv ts)(hn:ts.length≠0)(P:ts.length<=100)(J:pr.1∈iB/\pr.2∈iB)(Q:∀t∈ts,t.sp∈iB/\t.rl∈iB){g:bA}(n:pr∈aF X)(R:kQ X pr.1 pr.2=some g)(v:ts=g.r.types):Ok (kA tN (C j) (.ptr a 0) (.ptr h 0) (.ptr i 0) (.ptr x8 0) H) λr H'=>Fm (· =h) H H'/\PN X r:=by
 have U:=I.len;have x:r%ts.length<ts.length:=ah _ om;obtain⟨b,o,e1,e2,B⟩:=I.oG x;have V:gP 4 1 (.ptr a 0) (iN 1)=.val (.ptr a 1):=id rfl;have W:gP 4 1 (.ptr a 0) (iN 2)=.val (.ptr a 2):=id rfl;have Y:gP 4 1 (.ptr a 0) (iN 3)=.val (.ptr a 3):=id rfl;unfold tC SS.v at B;have d:=Q _ (sx x);have e:ts[r%ts.length]∈g.r.types:=by rw[<-v];exact sx x
 generalize ts[r%ts.length]=ty at B d e;rw[kE tN];unfold tN;simp(maxSteps:=2000000) (disch:=first|omega|exact ti rfl|(simp only[np,nq];done)|(simp only[np,nq];omega))only[go_sem,Nat.reduceAdd,Nat.reduceMul,Nat.reduceSub,Nat.reduceLeDiff,Nat.reduceEqDiff,Nat.reduceShiftRight,Nat.reduceAnd,l,m,N,V,W,Y,U,e1,B];generalize L:(Hp.mk _ (H.nx+13))=G;have Z:Fm No H G:=by rw[<-L];exact(((Fm.refl No H).up 13).aN _ _ om).aN _ _ om
 have gG:G.get (H.nx+11)=aB 0 [.str ty.sp.n ty.sp.a,.str ty.rl.n ty.rl.a]:=by rw[<-L];exact gX _ _ _
 refine Ok.iC (Vk (k:=j) om q _) ?_;rintro _ H1 ⟨⟨u,rfl,u1,u2⟩,D⟩;have y:=Z.trans D;have a3:=(y.keep E).trans l;have a7:=(y.keep F).trans m;have bD:=(D.keep (b:=H.nx+11) om).trans gG;unfold SS.v;refine gW a3 a7 bD ?_;refine Ok.iC (Vk (k:=j) om s _) ?_;rintro _ H2 ⟨⟨w,rfl,w1,w2⟩,K⟩;have z:=D.trans K;have f:=y.trans K;have b3:=(f.keep E).trans l;have b4:=(f.keep O).trans M;have b7:=(f.keep F).trans m;have A:=(z.keep (b:=H.nx+11) om).trans gG;unfold SS.v;refine jF b3 b4 b7 A ?_;refine Ok.ret ⟨?_,⟨pr.1,u,pr.2,ty.sp,w,ty.rl,aO0 d.2⟩,true,rfl,⟨J.1,u2,J.2,d.1,w2,d.2⟩,λ_=>⟨u1,w1,n,g,R,e⟩⟩;exact⟨f.nx,λc S T=>(jR _ _ _ _ T).trans (f.keep S)⟩
structure Dm(X:List aP):Prop where
 nm:∀p∈aF X,p.1∈iB/\p.2∈iB
 ty:∀a b g,kQ X a b=some g->∀t∈g.r.types,t.sp∈iB/\t.rl∈iB
def tu0:Tu:=⟨sE,sE,sE,sE,sE,sE,λ_=>rfl⟩
theorem DO:tu0.lo:=by constructor<;>exact vA
theorem QF(c:dB H sv X){g:bA}(h:kQ X D E=some g):oI H g:=by
 unfold kQ at h;split at h
 ·cases h
 ·rename_i s d;exact(c.sp s (gy d)).rel g (gy h)
theorem QG(c:sO X){g:bA}(h:kQ X D E=some g):g.r.types.length<=100:=by
 unfold kQ at h;split at h
 ·cases h
 ·rename_i s d;exact c.t s (gy d) g (gy h)
theorem ztl{k:Nat}(E:4<=k)(y:dB H sv X)(u:sO X)(z:Dm X)(p:Nat)(q r s:Nat)(F:p<256/\q<256/\r<256/\s<256):Ok (C k (.f 51) [.agg [sv],.agg [uN p,uN q,uN r,uN s]] H) λr H'=>Fm No H H'/\PN X r:=by
 obtain⟨j,rfl⟩:=aO E;obtain⟨S,T,P,U⟩:=F;rw[lk (zq2 ..)];unfold WI;simp(disch:=first|omega|exact ti rfl|simp only[np,nq];first|done|omega)only[go_sem,rB,rI,rK,rL,rN,rS,r6];refine Ok.ve (A6 (k:=j) om om u) ?_;intro a H1 e;have v:=e.bF;have G:=e.fm.nx;simp only[np]at G;have g0:H1.get H.nx=aB 0 [sv]:=(e.fm.keep gx).trans (by simp(disch:=first|omega|exact ti rfl|simp only[np,nq];first|done|omega)only[go_sem,rB,rI,rK,rL,rN,rS,r6]);have g1:H1.get (H.nx+1)=aB 0 [uN p,uN q,uN r,uN s]:=(e.fm.keep gx).trans (by simp(disch:=first|omega|exact ti rfl|simp only[np,nq];first|done|omega)only[go_sem,rB,rI,rK,rL,rN,rS,r6]);have g2:H1.get (H.nx+1+1)=aB 0 tu0.cells:=(e.fm.keep gx).trans (by simp(disch:=first|omega|exact ti rfl|simp only[np,nq];first|done|omega)only[go_sem,rB,rI,rK,rL,rN,rS,r6];rfl);have w:Fm No H H1:=Fm.trans fm e.fm;unfold tu0 Tu.cells SS.v sE at g2;by_cases D:(aF X).length=0
 ·simp(disch:=first|omega|exact ti rfl|simp only[np,nq];first|done|omega)only[go_sem,rB,rI,rK,rL,rN,rS,r6,v,D,g2];refine Ok.ret ⟨?_,tu0,false,rfl,DO,λh=>by cases h⟩;exact w.aN _ _ om
 ·simp(disch:=first|omega|exact ti rfl|simp only[np,nq];first|done|omega)only[go_sem,rB,rI,rK,rL,rN,rS,r6,v,D];rw[kE xr];unfold xr;have A:p%(aF X).length<(aF X).length:=ah _ om;obtain⟨b,o,Q,V,x⟩:=(e.rs (f:=pC) λ_=>rfl).oG A;have I:gP 4 1 (.ptr (H.nx+1) 0) (iN 0)=.val (.ptr (H.nx+1) 0):=id rfl;have m:(aF X)[p%(aF X).length]∈aF X:=sx A;generalize (aF X)[p%(aF X).length]=pr at x m;unfold pC SS.v at x;simp(disch:=first|omega|exact ti rfl|simp only[np,nq];first|done|omega)only[go_sem,rB,rI,rK,rL,rN,rS,r6,I,g1,v,Q,x,g0];refine Ok.ve (Cr (k:=j) (by omega) (X:=X) ((y.fm w).fm (by(repeat(first|exact Fm.refl _ _|assumption|refine Fm.push ?_ _|refine Fm.up2 ?_ (by first|omega|simp only[np,nq];omega)|refine Fm.aN ?_ _ _ (by first|omega|simp only[np,nq];omega))))) (by have:=u.n;omega) (λg c=>by have:=u.r g c;omega) pr.1 pr.2) ?_;rintro W i ⟨n,t⟩;have J:=n.nx;simp only[np,nq]at J;have k0:i.get H1.nx=aB 0 [.str pr.1.n pr.1.a,.str pr.2.n pr.2.a]:=(n.keep gx).trans (by simp(disch:=first|omega|exact ti rfl|simp only[np,nq];first|done|omega)only[go_sem,rB,rI,rK,rL,rN,rS,r6]);have K:i.get (H.nx+1)=aB 0 [uN p,uN q,uN r,uN s]:=(n.keep gx).trans (by simp(disch:=first|omega|exact ti rfl|simp only[np,nq];first|done|omega)only[go_sem,rB,rI,rK,rL,rN,rS,r6,g1]);have k2:i.get (H.nx+1+1)=aB 0 [zS,zS,zS,zS,zS,zS]:=(n.keep gx).trans (by simp(disch:=first|omega|exact ti rfl|simp only[np,nq];first|done|omega)only[go_sem,rB,rI,rK,rL,rN,rS,r6,g2]);have L:Fm No H i:=Fm.trans (Fm.trans w (by(repeat(first|exact Fm.refl _ _|assumption|refine Fm.push ?_ _|refine Fm.up2 ?_ (by first|omega|simp only[np,nq];omega)|refine Fm.aN ?_ _ _ (by first|omega|simp only[np,nq];omega))))) n;unfold tn at t;cases c:kQ X pr.1 pr.2 with
  |none=>
   rw[c]at t;subst t;unfold mr;simp(disch:=first|omega|exact ti rfl|simp only[np,nq];first|done|omega)only[go_sem,rB,rI,rK,rL,rN,rS,r6,k2];refine Ok.ret ⟨?_,tu0,false,rfl,DO,λh=>by cases h⟩
   grind
  |some g=>
   rw[c]at t;subst t;have M:=(QF y c).fm L;have N:=QG u c;have O:=M.ty;have B:=O.len;unfold iL SS.v;by_cases l:g.r.types.length=0
   ·simp(disch:=first|omega|exact ti rfl|simp only[np,nq];first|done|omega)only[go_sem,rB,rI,rK,rL,rN,rS,r6,B,l,k2];refine Ok.ret ⟨?_,tu0,false,rfl,DO,λh=>by cases h⟩
    grind
   ·simp(disch:=first|omega|exact ti rfl|simp only[np,nq];first|done|omega)only[go_sem,rB,rI,rK,rL,rN,rS,r6,B,l,k2];have d:pr∈aF X:=m;refine Ok.mono (aM4 (j:=j) (by omega) (H:=((aH i _).put i.nx _)) (x8:=i.nx) (pr:=pr) (p:=p) (q:=q) (r:=r) (s:=s) (ts:=g.r.types) (tv:=g.tv) (l1:=.str g.r.name.n g.r.name.a) (l3:=g.cs.getD 0 .undef) (l4:=g.cs.getD 1 .undef) (l5:=g.cs.getD 2 .undef) (l6:=g.cs.getD 3 .undef) ?_ ?_ ?_ ?_ ?_ ?_ ?_ ?_ P ?_ l N (z.nm _ d) (z.ty _ _ _ c) d c rfl) ?_
    ·simp(disch:=first|omega|exact ti rfl|simp only[np,nq];first|done|omega)only[go_sem,rB,rI,rK,rL,rN,rS,r6,K]
    ·simp(disch:=first|omega|exact ti rfl|simp only[np,nq];first|done|omega)only[go_sem,rB,rI,rK,rL,rN,rS,r6,k2]
    ·simp(disch:=first|omega|exact ti rfl|simp only[np,nq];first|done|omega)only[go_sem,rB,rI,rK,rL,rN,rS,r6,k0]
    ·exact gX _ _ _
    ·simp(disch:=first|omega|exact ti rfl|simp only[np,nq];first|done|omega)only[go_sem,rB,rI,rK,rL,rN,rS,r6]<;>omega
    ·simp(disch:=first|omega|exact ti rfl|simp only[np,nq];first|done|omega)only[go_sem,rB,rI,rK,rL,rN,rS,r6]<;>omega
    ·simp(disch:=first|omega|exact ti rfl|simp only[np,nq];first|done|omega)only[go_sem,rB,rI,rK,rL,rN,rS,r6]<;>omega
    ·simp(disch:=first|omega|exact ti rfl|simp only[np,nq];first|done|omega)only[go_sem,rB,rI,rK,rL,rN,rS,r6]<;>omega
    ·grind
    ·rintro r Y ⟨Z,R⟩;refine⟨?_,R⟩
     grind
structure Q4 where
 p:Nat
 q:Nat
 r:Nat
 s:Nat
 b:p<256/\q<256/\r<256/\s<256
def Q4.cells(x:Q4):List AV:=[uN x.p,uN x.q,uN x.r,uN x.s]
theorem MX{j:Nat}(f:4<=j){g l:Nat}{lv:AV}{a:List Q4}(n:dB H0 sv X)(p:sO X)(r:Dm X)(s:H0.get g=aB 0 [gv,lv])(u:H0.get l=aB 0 [sv])(v:g<H0.nx)(x:l<H0.nx)(c:Rs 4 Q4.cells H0 lv a)(d:∀w m H,Ac 6 Tu.cells H0 H w m->m.length<=20->(∀t∈m,t.lo/\lJ X t)->Ok (qr w H) O):∀(k i:Nat) (w:AV) (m:List Tu) (H:Hp),i<=20->20-i<k->m.length<=i->(∀t∈m,t.lo/\lJ X t)->Ac 6 Tu.cells H0 H w m -> Ok (GQ (C j) qr (.ptr g 0) (.ptr l 0) k w (iN i) H) O
 |0,i,_,_,_,_,h,_,_,_=>om
 |k+1,i,w,m,H,hi,hk,hm,pm,ha=>by
  show Ok (J1 (C j) _ _ _ (GQ (C j) _ _ _ k) _ _ H) O;unfold J1;have g1:=(ha.fm.keep v).trans s;have g4:=(ha.fm.keep x).trans u;have y:=c.len;by_cases e:i<a.length
  ·by_cases A:i<20
   ·simp only[go_sem,g1,y,e,A];unfold Oq;obtain⟨b,o,G,M,I⟩:=(c.fm ha.fm).oG e;simp only[go_sem,seval,g1,g4,G,I];have D:Fm No H ⟨H.t,H.nx+13⟩:=om;refine Ok.iC (ztl (k:=j) f ((n.fm ha.fm).fm D) p r a[i].p a[i].q a[i].r a[i].s a[i].b) ?_;rintro _ H1 ⟨N,t,J,rfl,lo,Q⟩;have E:=om;have F:=om;have k3:eY (H1.get b) o 4=some a[i].cells:=om;refine lW E F k3 yZ y0 ?_;cases J with
    |true=>
     refine aS ?_;refine Ok.ve ((ha.no om).add t 96 rfl om om) ?_;intro K L z;unfold lB;refine aS ?_;refine MX f n p r s u v x c d k (i+1) K (m++[t]) L om om g2 ?_ z
     grind
    |false=>unfold lB;refine aS ?_;exact MX f n p r s u v x c d k (i+1) w m _ om om om pm om
   ·simp only[go_sem,g1,y,e,A];exact d w m H ha om pm
  ·simp only[go_sem,g1,y,e];exact d w m H ha om pm
theorem z2p{k:Nat}(y:21<=k)(z:iD H gv L):Ok (C k (.f 50) [.agg [gv]] H) λr H'=>∃sv X,r=.agg [sv]/\mI H' sv X/\(∀b,In sv b->H.nx<=b)/\(∀g∈X,H.nx<=g.A)/\X.map aP.sp=mS L/\Fm No H H':=by
 obtain⟨j,rfl⟩:=aO y;rw[lk (ztb ..)];unfold XT;refine aS ?_;rw[dD];have u:Fm No H (aH (aH H (aB 0 [gv])) (aB 0 [.aA])):=by exact sw
 have s:=z.fm u;refine zlk om (H0:=aH (aH H (aB 0 [gv])) (aB 0 [.aA])) (cb:=H.nx) (sb:=H.nx+3) s (λH1 sv l g e m=>?_) bT 0 [] ⟨sU,[],.aA,H.nx+4,H.nx+4⟩ (.sl (H.nx+2) 0 1 1 true) _ (vy _) (by have:bY L<=12:=vT _ _;rw[rO];omega) ⟨?_,?_,?_,?_,?_,?_,?_,?_,?_,?_,?_,?_⟩ (.inl ⟨rfl,rfl,rfl⟩)
 ·rw[kE tQ];unfold tQ;rw[dD];have f:=m.raw;refine SY om (H0:=aH (aH H (aB 0 [gv])) (aB 0 [.aA])) (sb:=H.nx+3) (sv:=sv) (S:=vX L) ?_ (λp A=>?_) (λX o B a=>?_) bT 1 (l++[g]) H1 ?_ ?_ ?_ ⟨e.m,λx d=>⟨e.an x d,?_⟩,e.sbk,⟨e.sbl.1,e.sbl.2.2⟩,λb i=>(e.svn b i).1,e.fm⟩
  ·unfold vX;have:bY L<=12:=vT _ _;simp;omega
  ·have t:=zkv A;refine⟨om,λr D=>?_⟩;obtain⟨n,_,rfl⟩:=t.2 r D;have:=S4 L n;omega
  ·rw[kE oR];unfold oR;have E:=a.sbk;have F:=a.fm.nx;have G:o.get (H.nx+1)=aB 0 [.aA]:=(a.fm.keep gx).trans (by simp(disch:=go_size)only[go_sem]);have w:Fm (λb=>b=H.nx+1) o (o.put (H.nx+1) (aB 0 [sv])):=(Fm.refl _ _).put _ _ λ_=>rfl;have I:=a.sbl;simp only[go_sem,seval,E,G];refine Ok.ret ⟨sv,X,rfl,(a.m.dR w (λb i h=>?_) (λg q b t _ h=>?_)),λb i=>?_,λg q=>?_,B,(u.trans a.fm).then w λc J h=>?_⟩
   ·have:=a.svn b i;simp only[np]at this;omega
   ·have:=(a.an g q).1;simp only[np]at this;omega
   ·have:=a.svn b i;simp only[np]at this;omega
   ·have:=(a.an g q).1;simp only[np]at this;omega
   ·omega
  ·have:=m.len (vT _ _);rw[<-f];simp
  ·rw[<-f];have:=m.len (vT _ _);rw[rO];simp;omega
  ·trivial
  ·rw[lAJ,lAK]at d;rcases d with d|rfl
   ·exact e.sbd x d
   ·have:=e.sbl;omega
 ·exact⟨gx,by simp(disch:=first|go_size|omega)only[go_sem]⟩
 ·simp only[go_sem]
 ·simp only[np,nq];omega
 ·simp
 ·left;omega
 ·constructor<;>(rintro ⟨_,_,_,_,h⟩;injection h;omega)
 ·rintro b ⟨_,_,_,_,h⟩;cases h;simp only[np];omega
 ·simp
 ·refine⟨⟨rfl,.inr ⟨H.nx+2,0,true,0,_,rfl,?_,vy _,rfl,.inl rfl,?_⟩⟩,List.pairwise_singleton _ _,λx d=>?_,λx d b i=>?_⟩
  ·refine aS ?_;rfl
  ·simp only[np,nq];omega
  ·rw[au,lAK]at d;subst d;exact⟨yQ.nil _ _ _,gx⟩
  ·simp_all
 ·intro x d;rw[au,lAK]at d;subst d;simp only[np];omega
 ·simp only[np,nq];omega
 ·repeat first|exact Fm.refl _ _|assumption|refine Fm.push ?_ _|refine Fm.aN ?_ _ _ gx
theorem xbb{k:Nat}(F:22<=k){lv:AV}{I:List Q4}(J:iD H gv L)(K:Rs 4 Q4.cells H lv I)(M:∀X:List aP,X.map aP.sp=mS L->sO X/\Dm X):Ok (C k (.f 10) [.agg [gv,lv]] H) λr H'=>∃sv X w m,r=.aX [.agg [sv],w]/\dB H' sv X/\X.map aP.sp=mS L/\Gl 6 H' w m.length (m.flatMap Tu.cells)/\m.length<=20/\(∀t∈m,t.lo/\lJ X t)/\lI m/\Fm No H H':=by
 obtain⟨j,rfl⟩:=aO F;rw[lk (zq4 ..)];unfold WK;refine aS ?_;refine Ok.ve (z2p (k:=j) om (J.fm fm)) ?_;rintro _ H1 ⟨sv,X,rfl,D,f,i,E,l⟩;have y:=D.sr;simp only[np]at f i;obtain⟨Y,Z⟩:=M X E;have R:=l.nx;simp only[np]at R;have g0:H1.get H.nx=aB 0 [gv,lv]:=(l.keep g1).trans g6;have g1:H1.get (H.nx+1)=aB 0 [.aA]:=(l.keep gz).trans g5;have z:Fm No H H1:=Fm.trans (by exact sw) l;refine aS ?_;rw[dD];generalize x:(Hp.put _ H1.nx _)=G;have d:Fm No H1 G:=by rw[<-x];exact((Fm.refl No H1).push _).aN _ _ (AF _)
 have p:H1.nx<G.nx:=by rw[<-x];simp only[np,nq];omega
 have gG:G.get H1.nx=aB 0 [sv]:=by rw[<-x];exact gX _ _ _
 have S:=(d.keep (b:=H.nx) om).trans g0;have T:=(d.keep (b:=H.nx+1) om).trans g1;refine MX (j:=j) om (y.fm d) Y Z S gG om p (K.fm (z.trans d)) ?_ bT 0 .aA [] G om lf (vy _) (λt N=>by cases N) (Ac.nil 6 _ (Fm.refl _ _));intro w m H2 e hm2 pm;unfold J0;have A:=(e.fm.keep p).trans gG;simp only[go_sem,A];refine aS ?_;refine Ok.iC (zj7 (k:=j) om (P:=λt=>t.lo/\lJ X t) (λ_ h=>h.1) om pm (e.rs yZ)) ?_;rintro w2 s ⟨m2,a,hm3,u,v⟩;have U:=(a.fm.keep (AE p e.fm.nx)).trans A;have V:=((e.fm.trans a.fm).keep (b:=H.nx+1) (by have:=d.nx;omega)).trans T;simp only[go_sem,seval,U,V];have eS:lV 64 (.agg [sv]) (.agg [sv])=true:=oB [sv] (by have:=y.fl;simp only[lq,List.all_nil,this,nk,DP];rfl);rw[eS];have q:=(d.trans e.fm).trans a.fm;have W:=q.nx;have n2:=e.fm.nx;have fB:Fm (λb=>b=H.nx+1) H1 (s.put (H.nx+1) (aB 0 [sv])):=⟨W,λc O h=>(jR _ _ _ _ h).trans (q.keep O)⟩;have B:Fm (λb=>b=H.nx+1) s (s.put (H.nx+1) (aB 0 [sv])):=(Fm.refl _ _).put _ _ λ_=>rfl;refine Ok.ret ⟨sv,X,w2,m2,rfl,(D.dR fB (λb o h=>?_) (λg Q b h1 _ h=>?_)).sr,E,a.gl.keep B.nx (λb o _=>B.get b (by assumption) λh=>?_),om,u,v,(z.trans q).aN _ _ om⟩
 ·have:=f b o;omega
 ·have:=i g Q;omega
 ·have:H2.nx<=b:=a.nw b o;omega
variable {H':Hp} {o z:Nat} {w:AV}
theorem IJ:∀s∈nmL,s∈iB:=g4
theorem bV.lo(h:bV X):Dm X:=by
 refine⟨λp i=>?_,λa b g j t k=>?_⟩
 ·obtain⟨q,c,x,d,l,m⟩:=qes.1 i;rw[<-l,<-m];exact⟨IJ _ (h.pr.r q c).2,IJ _ (h.pr.x q c x d).2.1⟩
 ·obtain⟨q,c,d,_⟩:=cL j;have f:=(h.pr.x q c g d).2.2.2 t k;refine⟨IJ _ f.1,?_⟩;rcases f.2 with e|e
  ·rw[e];decide
  ·exact IJ _ e
def DR(s t:SS):Bool:=ic s.n s.n s.a t.n t.a
def AZ(p q:SS×SS):Bool:=DR p.1 q.1||(decide (p.1=q.1)&&DR p.2 q.2)
theorem RT(s t:SS):eF (lQ .lss).f (.str s.n s.a) (.str t.n t.a)=.val (.bool (DR s t)):=id rfl
theorem MS(s t:SS):eF (lQ .eql).f (.str s.n s.a) (.str t.n t.a)=.val (.bool (decide (s=t))):=by have:=cV s t;have e:eF (lQ .eql).f (.str s.n s.a) (.str t.n t.a)=.val (.bool (Nat.beq s.n t.n&&Nat.beq s.a t.a)):=rfl;have a:bH s.v t.v=some (Nat.beq s.n t.n&&Nat.beq s.a t.a):=rfl;simp_all
theorem zu4(h:1<=m)(p q:SS×SS)(H:Hp):Ok (C m (.f 132) [.agg (pC p),.agg (pC q)] H) λr H'=>r=.bool (AZ p q)/\Fm No H H':=by
 obtain⟨j,rfl⟩:=aO h;rw[lk (zqf ..)];unfold Wm pC SS.v;have a:=RT p.1 q.1;have b:=MS p.1 q.1;have i:=RT p.2 q.2;have f:∀c d,Fm No H (aH (aH H c) d):=om;unfold AZ;cases e:DR p.1 q.1 with
 |true=>rw[e]at a;refine dI a ?_;exact Ok.ret ⟨rfl,f _ _⟩
 |false=>
  rw[e]at a;by_cases g:p.1=q.1
  ·rw[j7 g]at b ⊢;refine gW a b i ?_;exact Ok.ret ⟨g3,f _ _⟩
  ·rw[sT g]at b ⊢;refine dS a b ?_;exact Ok.ret ⟨g3,f _ _⟩
theorem dk(b:Bool):iQ false (some b)=.val (.bool b):=id rfl
theorem gu(p:SS×SS):(pC p).length=2:=id rfl
theorem lO(p:SS×SS):List.take 2 (pC p)=pC p:=id rfl
theorem bFc(p q:SS×SS):dL (eqFields [(p1,⟨bH⟩,0),(p1,⟨bH⟩,1)]) (.agg (pC p)) (.agg (pC q))=some (decide (p=q)):=y9 p q
variable{R:List (SS×SS)}
theorem Qz{x:SS×SS}(d:Rs 2 pC H gv R)(e:H.get z=aB 0 (pC x))(m:R.length<=1000){Q:pL}(n:x∈R->Ok (qr (.bool true) H) Q)(p:x∉R->Ok (qe H) Q):∀(k i:Nat),i<=R.length->R.length-i<k->x∉R.take i->Ok (D8 P qr qe gv (.ptr z 0) k (iN i) H) Q
 |0,i,_,h,_=>om
 |k+1,i,hi,hk,hm=>by
  show Ok (NU P _ _ _ _ (D8 P _ _ _ _ k) _ H) Q;unfold NU;have f:=d.len;by_cases a:i<R.length
  ·simp only[go_sem,f,a];unfold zxf;obtain⟨b,o,g,_,j⟩:=d.oG a;have c:=bFc R[i] x;by_cases h:R[i]=x
   ·rw[j7 h]at c;simp only[go_sem,seval,g,j,e,gu,lO,c,dk]
    grind
   ·rw[sT h]at c;simp only[go_sem,seval,g,j,e,gu,lO,c,dk];unfold lC;refine aS ?_;refine Qz d e m n p k (i+1) om om λr=>?_;rw[nh a,lAJ,lAK]at r;simp_all
  ·simp only[go_sem,f,a]
   grind
theorem z1j{k:Nat}(a:1<=k)(d:Rs 2 pC H gv R)(b:R.length<=1000)(x:SS×SS):Ok (C k (.f 131) [gv,.agg (pC x)] H) λr H'=>r=.bool (decide (x∈R))/\Fm No H H':=by obtain⟨j,rfl⟩:=aO a;rw[lk (zqg ..)];unfold Wn;have c:pU 2 H.nx (.agg (pC x))=.new (.ptr H.nx 0) (aB 0 (pC x)):=id rfl;have f:Fm No H (aH H (aB 0 (pC x))):=om;simp only[go_sem,c];rw[dD];refine Qz (x:=x) om om b (λh=>Ok.ret ⟨om,f⟩) (λh=>?_) bT 0 om lf g3;exact Ok.ret ⟨om,f⟩
def rW(x:SS×SS):List (SS×SS)->List (SS×SS)
 | []=>[x]
 |y::l=>if AZ x y then x::y::l else y::rW x l
theorem UQ(x y:SS×SS)(l:List (SS×SS)):rW x (y::l)=if AZ x y then x::y::l else y::rW x l:=rfl
def tO(l:List (SS×SS))(x:SS×SS):List (SS×SS):=if x∈l then l else rW x l
theorem Nf(x:SS×SS):∀l,(rW x l).length=l.length+1
 | []=>rfl
 |y::l=>by
  unfold rW;split
  ·rfl
  ·rw[nk,Nf x l,nk]
theorem GC(l:List (SS×SS))(x:SS×SS):(tO l x).length<=l.length+1:=by
 unfold tO;split
 ·omega
 ·rw[Nf];exact AF _
theorem UT(z:1<=j){x:SS×SS}{xb:Nat}(r:Rs 2 pC H0 gv R)(A:H0.get xb=aB 0 (pC x))(f:xb<H0.nx)(J:R.length<=1000)(B:∀w b m H,Ac 2 pC H0 H w m->m++(if b then[]else[x])=rW x R->Ok (V w (.bool b) H) O):∀(k i:Nat) (w:AV) (b:Bool) (m:List (SS×SS)) (H:Hp),i<=R.length->R.length-i<k->Ac 2 pC H0 H w m->m.length<=2*i->m++(if b then R.drop i else rW x (R.drop i))=rW x R -> Ok (CG (C j) V gv (.ptr xb 0) k w (.bool b) (iN i) H) O
 |0,i,_,_,_,_,_,h,_,_,_=>om
 |k+1,i,w,b,m,H,hi,hk,c,t,d=>by
  show Ok (Da (C j) _ _ _ (CG (C j) _ _ _ k) _ _ _ H) O;unfold Da;have D:=r.len;by_cases a:i<R.length
  ·simp only[go_sem,D,a];unfold NV;have u:=iP a;have E:=c.fm;obtain⟨F,G,s,I,o⟩:=(r.fm E).oG a;have gx:=(E.keep f).trans A;have fin:∀(w:AV) (b:Bool) (m:List (SS×SS)) (H:Hp),Ac 2 pC H0 H w m->m.length<=2*i+1->m++R[i]::(if b then R.drop (i+1)else rW x (R.drop (i+1)))=rW x R->Ok (GN (C j) (CG (C j) V gv (.ptr xb 0) k) gv w (.bool b) (iN i) H) O:=λw b m H c t d=>by
    unfold GN;obtain⟨F,G,s,I,o⟩:=(r.fm c.fm).oG a;refine jF s o gu lO ?_;refine Ok.ve ((c.no ((Fm.refl No H).push (aB 0 (pC R[i])))).add R[i] 32 rfl om om) ?_;intro y e L;unfold zxg;refine aS ?_;refine UT z r A f J B k (i+1) y b (m++[R[i]]) e om om L g2 ?_;rw[sR];exact d
   cases b with
   |true=>simp only[go_sem,s,o,gx,gu,lO];refine fin w true m _ c om ?_;simp_all
   |false=>
    simp only[go_sem,seval,s,o,gx,gu,lO];refine Ok.iC (zu4 z x R[i] _) ?_;rintro _ e ⟨rfl,p⟩;replace p:Fm No H e:=p;have g:=(p.keep om).trans gx;have n:eY (e.get F) G 2=some (pC R[i]):=by rw[p.keep I];exact o
    rw[u,UQ,sy g4]at d;cases Q:AZ x R[i]with
    |true=>refine jF g n gu lO ?_;refine Ok.ve (((c.no p).no ((Fm.refl No e).push (aB 0 (pC x)))).add x 32 rfl om om) ?_;intro y M N;refine fin y true (m++[x]) M N g2 ?_;simp_all
    |false=>rw[Q,sy g4]at d;simp only[go_sem,g,n,gu,lO];exact fin w false m e om om d
  ·simp only[go_sem,D,a];have K:i=R.length:=om;refine B w b m H c ?_;rw[K,rq]at d;exact d
theorem zk5(o:2<=z)(e:Rs 2 pC H gv R)(i:R.length<=1000)(x:SS×SS):Ok (C z (.f 67) [gv,.agg (pC x)] H) λr H'=>Rs 2 pC H' r (tO R x)/\Fm No H H':=by
 obtain⟨j,rfl⟩:=aO o;rw[lk (zqh ..)];unfold Wo;have q:pU 2 H.nx (.agg (pC x))=.new (.ptr H.nx 0) (aB 0 (pC x)):=id rfl;have f:Fm No H (aH H (aB 0 (pC x))):=by exact fh
 refine gW q gu lO ?_;refine Ok.ve (z1j (k:=j) om (e.fm f) i x) ?_;rintro _ H1 ⟨rfl,g⟩;have c:=f.trans g;have g1:H1.get H.nx=aB 0 (pC x):=(g.keep gx).trans (uR _ _);have s:=g.nx;simp only[np]at s;unfold tO;by_cases h:x∈R
 ·rw[sB h,j7 h];exact Ok.ret ⟨e.fm c,c⟩
 ·rw[sy h,sT h];unfold Y2;rw[dD];refine UT om (e.fm c) g1 om i (λw b m p d a=>?_) bT 0 .aA false [] H1 (vy _) lf (Ac.nil 2 _ (Fm.refl _ _)) (vy _) g3;unfold Y1;have g2:=(d.fm.keep om).trans g1;cases b with
  |true=>rw[sB rfl,DN]at a;exact Ok.ret ⟨by rw[<-a];exact d.rs gu,c.trans d.fm⟩
  |false=>rw[sy g4]at a;have t:=Nf x R;rw[<-a,nj,xx]at t;refine gW g2 gu lO ?_;refine Ok.ve ((d.no ((Fm.refl No p).push (aB 0 (pC x)))).add x 32 rfl om om) ?_;intro u y n;exact Ok.ret ⟨by rw[<-a];exact n.rs gu,c.trans n.fm⟩
theorem HM(c:TT AV i):∀(a b o:Nat),Ev.xI c (a+b) o=Ev.xI c a o++Ev.xI c b (o+a)
 |0,b,o=>by rw[nr];rfl
 |a+1,b,o=>by rw[Nat.add_right_comm];show _::Ev.xI c (a+b) (o+1)=_::(Ev.xI c a (o+1)++Ev.xI c b (o+(a+1)));rw[HM c a b (o+1),show o+1+a=o+(a+1)by omega]
theorem zbv{B:cZ}{m:List AV}(h:eY B i j=some l)(d:eY B (i+j) b=some m):eY B i (j+b)=some (l++m):=by
 unfold eY at h d ⊢;split at h
 ·rename_i n c _ _;simp only[ble_eq]at h d ⊢;by_cases e:i+j+b<=n
  ·rw[j7 e]at d;rw[j7 om]at h;rw[j7 om];injection h with h;injection d with d;rw[AN,HM,h,d]
  ·simp_all
 ·cases h
theorem zbu{B:cZ}(h:eY B i m=some l):eY B i 0=some []:=by
 unfold eY at h ⊢;split at h
 ·rename_i n c _ _;simp only[ble_eq]at h ⊢;by_cases b:i+m<=n
  ·rw[j7 om];rfl
  ·simp_all
 ·cases h
variable{α:Type}
theorem Rs.src{f:α->List AV}(s:∀x,(f x).length=z){l:List α}(h:Rs z f H gv l)(p:l=[]->gv=.aA):nP z H gv=some ⟨l.length,l.flatMap f⟩:=by
 have t:=h.len;by_cases d:l=[]
 ·subst d;rw[p rfl];rfl
 ·have j:=lIO.2 d;obtain⟨b,_,_,_,⟨o,n,m,e,rfl⟩,_⟩:=h.at' 0 j;have q:n=l.length:=by
   have u:aD (.sl b o n m e)=R0.val (iN n):=rfl
   grind
  subst q;have c:∀i (a:i<l.length),eY (H.get b) (o+i*z) z=some (f l[i]):=λi a=>by obtain⟨w,y,r,_,_,A,_⟩:=h.at' i a;rw[sD _ _ _ _ _ _ _ _ a]at r;simp_all
  have k:=zbu (c 0 j);have g:∀i,i<=l.length->eY (H.get b) o (i*z)=some ((l.take i).flatMap f):=λi=>by
   induction i with
   |zero=>intro _;rw[sL]at k ⊢;exact k
   |succ i ih=>
    intro a;have:=zbv (ih om) (c i a);rw[nh a,nt,AJ,bz,ut]
    grind
  rw[UE,g _ (AF _),aj]
theorem oI.nl{g:bA}(h:oI H g)(e:g.r.types=[]):g.tv=.aA:=by
 rcases h.tc with a|⟨b,o,n,m,c,a,_,i⟩
 ·exact a
 ·have d:=h.ty.len;have f:aD (.sl b o n m c)=R0.val (iN n):=rfl
  grind
structure oP(H:Hp)(b:Nat)(rs:List (SS×bA)):Prop where
 ex:∃es c,H.get b=.map es c/\es.map eT.key=(rs.map kq).map hU/\∀(i:Nat) (e:eT) (p:SS×bA),es[i]? =some e->rs[i]? =some p->Rs 2 tC H e.val p.2.r.types
variable{Y:List (SS×bA)}
theorem oP.fm(h:oP H b Y)(g:b<H.nx)(f:Fm No H H'):oP H' b Y:=by obtain⟨es,c,j,k,l⟩:=h.ex;exact⟨es,c,(f.keep g).trans j,k,λi e p a b=>(l i e p a b).fm f⟩
attribute [grind .] oP.fm
theorem Rs.aBB{f:α->List AV}{l:List α}{es:List eT}(h:Rs z f H gv l)(g:H.get b=.map es c)(k:cZ):Rs z f (H.put b k) gv l:=⟨h.len,λi m=>by
 obtain⟨e,o,p,q,r,d,s⟩:=h.at' i m;have a:e≠b:=λh=>by rw[h,g]at d;cases d
 exact⟨e,o,p,q,r,by rw[jR _ _ _ _ a];exact d,λj n=>by rw[jR _ _ _ _ a];exact s j n⟩⟩
theorem oP.put(h:oP H b Y)(p:SS×bA)(l:kq p∉Y.map kq)(m:Rs 2 tC H w p.2.r.types):∃k,jN ⟨dL (eqFields [(p1,⟨bH⟩,0),(p1,⟨bH⟩,1)]),some 2⟩ H (.map b) (.agg [.str p.1.n p.1.a,.str p.2.r.name.n p.2.r.name.a]) w=.ok .undef (H.put b k)/\oP (H.put b k) b (Y++[p]):=by
 obtain⟨es,f,g,j,o⟩:=h.ex;have n:es.length=Y.length:=by have:=congrArg List.length j;simpa using this
 obtain⟨g1,_⟩:=iW pd (kq p) es (Y.map kq) 0 j;refine⟨.map (es++[⟨hU (kq p),w,f⟩]) (f+1),?_,⟨_,_,gX _ _ _,?_,λi e q c d=>?_⟩⟩
 ·have s:fN ⟨dL (eqFields [(p1,⟨bH⟩,0),(p1,⟨bH⟩,1)]),some 2⟩ (hU (kq p)) es=some none:=g1 l;show jN _ H (.map b) (hU (kq p)) w=_;unfold jN;simp_all
 ·simp_all
 ·by_cases r:i<es.length
  ·rw[sX r]at c;rw[sX om]at d;exact(o i e q c d).aBB g _
  ·have:i=es.length:=om;subst this;rw[AM (AF _),gq]at c;rw[n,AM (AF _),gq]at d;cases c;cases d;exact m.aBB g _
theorem oP.find{a:List (SS×bA)}(h:oP H b a)(z:AV){x y:SS}(d:(x,y)∈a.map kq):∃v,mX ⟨dL (eqFields [(p1,⟨bH⟩,0),(p1,⟨bH⟩,1)]),some 2⟩ z true H (.map b) (.agg [.str x.n x.a,.str y.n y.a])=.val (.aX [v,.bool true])/\∀p,a[(a.map kq).findIdx λq=>decide (q=(x,y))]? =some p->Rs 2 tC H v p.2.r.types:=by obtain⟨es,c,f,g,i⟩:=h.ex;obtain⟨_,g2⟩:=iW pd (x,y) es (a.map kq) 0 g;obtain⟨e,j,x2⟩:=g2 d;refine⟨e.val,?_,om⟩;show(match(match H.get b with| .map es _=>some es|_=>none)with|some es=>pW true z (vU _ (hU (x,y)) es 0)|none=>.bad)=_;rw[f];simp only;rw[x2];rfl
theorem oP.miss(h:oP H b Y)(z:AV)(d:(D,E)∉Y.map kq):mX ⟨dL (eqFields [(p1,⟨bH⟩,0),(p1,⟨bH⟩,1)]),some 2⟩ z true H (.map b) (.agg [.str D.n D.a,.str E.n E.a])=.val (.aX [z,.bool false]):=by obtain⟨es,c,e,f,g⟩:=h.ex;obtain⟨g1,_⟩:=iW pd (D,E) es (Y.map kq) 0 f;show(match(match H.get b with| .map es _=>some es|_=>none)with|some es=>pW true z (vU _ (hU (D,E)) es 0)|none=>.bad)=_;rw[e];simp only;rw[g1 d];rfl
theorem Qo{wd:Nat}{f:α->List AV}(j:∀x,(f x).length=z){nm:Nat}(k:H.get nm=aB 0 [])(m:nm<H.nx){l:List α}(n:l.length*wd<=1000000)(d:l.length<=1000000):Ok (jD z wd H (.sl nm 0 0 0 true) (some ⟨l.length,l.flatMap f⟩)) λw H'=>Gl z H' w l.length (l.flatMap f)/\Fm (· =nm) H H'/\∀b,In w b->b=nm\/H.nx<=b:=by
 by_cases h:l=[]
 ·subst h;have e:jD z wd H (.sl nm 0 0 0 true) (some ⟨0,[]⟩)=storeAt H nm 0 [] (.sl nm 0 0 0 true):=by
   unfold jD;simp;rfl
  have o:storeAt H nm 0 [] (.sl nm 0 0 0 true)=.ok (.sl nm 0 0 0 true) (H.put nm (aB 0 [])):=by unfold storeAt;rw[k];rfl
  refine⟨_,_,e.trans o,⟨g3,.inr ⟨_,_,_,_,_,rfl,gX _ _ _,om,rfl,.inl rfl,m⟩⟩,(Fm.refl _ _).put _ _ om,λb c=>?_⟩;obtain⟨_,_,_,_,c⟩:=c;simp_all
 ·have p:Gl z H (.sl nm 0 0 0 true) 0 []:=⟨g3,om⟩;have i:=lIO.2 h;have r:(l.flatMap f).length=l.length*z:=by
   clear n d h i
   induction l with
   |nil=>simp
   |cons a q ih=>rw[DM,nj,ih,nk,j,bz];omega
  obtain⟨H',e,g,_,f,_⟩:=p.append (w:=wd) i r (by rw[nr];omega) om;rw[au,nr]at g;rw[nr]at e;refine⟨_,H',e,g,f.mono λb _ c=>?_,λb c=>?_⟩
  ·obtain⟨_,_,_,_,c⟩:=c
   grind
  ·obtain⟨_,_,_,_,c⟩:=c;simp_all
theorem KS(c:TT AV i):∀(a o:Nat),(Ev.xI c a o).length=a
 |0,_=>rfl
 |a+1,o=>congrArg (· +1) (KS c a (o+1))
theorem TX{B:cZ}(h:eY B o n=some l)(a:i+j<=n):eY B (o+i) j=some ((l.drop i).take j):=by
 unfold eY at h ⊢;split at h
 ·rename_i m c _ _;simp only[ble_eq]at h ⊢;by_cases b:o+n<=m
  ·rw[j7 b]at h;rw[j7 om];injection h with h;rw[AN,<-h,show n=i+(j+(n-i-j))by omega,HM,HM,List.drop_left' (KS _ _ _),List.take_left' (KS _ _ _)]
  ·simp_all
 ·cases h
def dP(o:List (SS×SS))(t:Tu):List (SS×SS):=tO (tO o (t.a,t.b)) (t.x,t.y)
theorem Vq(f:α->Tu->α)(o:α)(h:i<U.length):(U.take (i+1)).foldl f o=f ((U.take i).foldl f o) U[i]:=by rw[nh h,List.foldl_append];rfl
theorem zkz(b:2<=j)(c:Rs 6 Tu.cells H0 gv U)(o:U.length<=20)(p:∀w H,Rs 2 pC H w (U.foldl dP [])->Fm No H0 H->Ok (qr w H) O):∀(k i:Nat) (w:AV) (H:Hp),i<=U.length->U.length-i<k->Rs 2 pC H w ((U.take i).foldl dP [])->((U.take i).foldl dP []).length<=2*i->Fm No H0 H -> Ok (Ea (C j) qr gv k w (iN i) H) O
 |0,i,_,_,_,h,_,_,_=>om
 |k+1,i,w,H,hi,hk,hw,hwl,hf=>by
  show Ok (Zp (C j) _ _ (Ea (C j) _ _ k) _ _ H) O;unfold Zp;have g:=c.len;by_cases a:i<U.length
  ·simp only[go_sem,g,a];unfold Of;obtain⟨d,e,z,E,m⟩:=(c.fm hf).oG a;have r:eY (H.get d) e 2=some (pC (U[i].a,U[i].b)):=TX (i:=0) m g4;have s:eY (H.get d) (e+3) 2=some (pC (U[i].x,U[i].y)):=TX (i:=3) m g4;simp only[go_sem,z,r,s];refine Ok.iC (zk5 b hw om (U[i].a,U[i].b)) ?_;rintro u H1 ⟨A,n⟩;replace n:Fm No H H1:=n;have t:eY (H1.get d) (e+3) 2=some (pC (U[i].x,U[i].y)):=om;have x:=GC ((U.take i).foldl dP []) (U[i].a,U[i].b);refine dI t ?_;refine Ok.iC (zk5 b A om (U[i].x,U[i].y)) ?_;rintro B D ⟨f,F⟩;have y:=GC (tO ((U.take i).foldl dP []) (U[i].a,U[i].b)) (U[i].x,U[i].y);unfold ud;refine aS ?_;refine zkz b c o p k (i+1) B D om om ?_ ?_ om
   ·rw[Vq _ _ a];exact f
   ·rw[Vq _ _ a];show(tO _ _).length<=_;omega
  ·simp only[go_sem,g,a]
   grind
theorem aPJ{k:Nat}(a:3<=k)(b:Rs 6 Tu.cells H gv U)(c:U.length<=20):Ok (C k (.f 121) [gv] H) λr H'=>Rs 2 pC H' r (U.foldl dP [])/\Fm No H H':=by obtain⟨j,rfl⟩:=aO a;rw[lk (zqk ..)];unfold Wr;rw[dD];refine zkz om b c (λw H' d e=>?_) bT 0 .aA H om lf ⟨rfl,om⟩ g3 om;exact Ok.ret ⟨d,e⟩
abbrev G3:=(SS×SS)×SS
def gC(g:G3):List AV:=[g.1.1.v,g.1.2.v,g.2.v]
theorem vV(g:G3):(gC g).length=3:=id rfl
def rQ(A:List (SS×SS))(p:SS×SS):List G3:=(A.filter λq=>decide (q.1=p.1)).map λq=>(p,q.2)
def nE(A o:List (SS×SS)):List G3:=o.flatMap (rQ A)
theorem zki(A:List (SS×SS))(p:SS×SS)(h:i<A.length):rQ (A.take (i+1)) p=rQ (A.take i) p++if A[i].1=p.1 then[(p,A[i].2)]else[]:=by
 unfold rQ;rw[nh h,lg,AO]
 grind
theorem RG(A:List (SS×SS))(p:SS×SS):(rQ A p).length<=A.length:=by
 unfold rQ
 grind
theorem MJ(A:List (SS×SS)):∀o,(nE A o).length<=o.length*A.length
 | []=>by simp[nE]
 |p::o=>by have a:=RG A p;have b:=MJ A o;unfold nE at *;rw[DM,nj,nk,bz];omega
theorem zkr(A:List (SS×SS))(h:i<R.length):nE A (R.take (i+1))=nE A (R.take i)++rQ A R[i]:=by unfold nE;rw[nh h,nt,AJ]
variable{T:List (SS×SS)}
theorem ML(j:Rs 2 pC H0 gv R)(f:Rs 2 pC H0 sv T)(l:i<R.length)(c:R.length<=100)(d:T.length<=10000){Q:pL}{m0:List G3}(e:m0.length<=1000000)(p:∀w H,Ac 3 gC H0 H w (m0++rQ T R[i])->Ok (qr w H) Q):∀(k a:Nat) (w:AV) (H:Hp),a<=T.length->T.length-a<k->Ac 3 gC H0 H w (m0++rQ (T.take a) R[i]) -> Ok (D9 P qr gv sv (iN i) k w (iN a) H) Q
 |0,a,_,_,_,h,_=>om
 |k+1,a,w,H,ha,hk,hw=>by
  show Ok (Oe P _ _ _ _ (D9 P _ _ _ _ k) _ _ H) Q;unfold Oe;have r:=f.len;by_cases b:a<T.length
  ·simp only[go_sem,r,b];unfold NW;have s:=hw.fm;obtain⟨x,y,z,O,_,o,B⟩:=(f.fm s).at' a b;obtain⟨C,D,E,S,_,K,L⟩:=(j.fm s).at' i l;have t:cB (H.get x) y=.val (.str T[a].1.n T[a].1.a):=B 0 (by show 0<2;decide);have F:cB (H.get x) (y+1)=.val (.str T[a].2.n T[a].2.a):=B 1 (by show 1<2;decide);have u:cB (H.get C) D=.val (.str R[i].1.n R[i].1.a):=L 0 (by show 0<2;decide);have es:=MS T[a].1 R[i].1;have v:=zki T R[i] b;have G:=RG (T.take a) R[i];have I:(T.take a).length<=T.length:=om;by_cases g:T[a].1=R[i].1
   ·rw[j7 g]at es;rw[sB g]at v;have m:eY (H.get C) D 2=some [.str R[i].1.n R[i].1.a,.str R[i].2.n R[i].2.a]:=K;simp only[go_sem,seval,z,E,t,u,es,m,F];have J:Fm No H ((Hp.mk H.t (H.nx+14)).put (H.nx+11) (aB 0 [.str R[i].1.n R[i].1.a,.str R[i].2.n R[i].2.a,.str T[a].2.n T[a].2.a])):=om;refine Ok.iC ((hw.no J).add (R[i],T[a].2) 48 rfl om om) ?_;intro M N A;unfold cY;refine aS ?_;refine ML j f l c d e p k (a+1) M N om om ?_;simp_all
   ·rw[sT g]at es;rw[sy g,DN]at v;simp only[go_sem,z,E,t,u,es];unfold cY;refine aS ?_;refine ML j f l c d e p k (a+1) w H om om ?_;simp_all
  ·simp only[go_sem,r,b]
   grind
theorem Si(d:Rs 2 pC H0 gv R)(f:Rs 2 pC H0 sv T)(c:R.length<=100)(b:T.length<=10000){Q:pL}(j:∀w H,Ac 3 gC H0 H w (nE T R)->Ok (qr w H) Q):∀(k i:Nat) (w:AV) (H:Hp),i<=R.length->R.length-i<k->Ac 3 gC H0 H w (nE T (R.take i)) -> Ok (CH P qr gv sv k w (iN i) H) Q
 |0,i,_,_,_,h,_=>om
 |k+1,i,w,H,hi,hk,hw=>by
  show Ok (Zo P _ _ _ (CH P _ _ _ k) _ _ H) Q;unfold Zo;have g:=d.len;by_cases a:i<R.length
  ·simp only[go_sem,g,a];unfold Y4;rw[dD];have r:=MJ T (R.take i);have p:(R.take i).length<=R.length:=om;have s:(R.take i).length*T.length<=100*10000:=uj om b;refine ML d f a c b (m0:=nE T (R.take i)) om (λl m n=>?_) bT 0 w H om lf ?_
   ·unfold t9;refine aS ?_;refine Si d f c b j k (i+1) l m om om ?_;rw[zkr T a];exact n
   ·have:rQ (T.take 0) R[i]=[]:=by simp[rQ]
    simp_all
  ·simp only[go_sem,g,a]
   grind
theorem aPE{k:Nat}(g:4<=k)(h:dB H sv X)(f:sO X)(i:Rs 6 Tu.cells H gv U)(m:U.length<=20)(b:(U.foldl dP []).length<=100):Ok (C k (.f 54) [.agg [sv],gv] H) λr H'=>Ac 3 gC H H' r (nE (aF X) (U.foldl dP [])):=by
 obtain⟨j,rfl⟩:=aO g;rw[lk (zqj ..)];unfold Wq;have c:Fm No H (aH H (aB 0 [sv])):=by exact fh
 refine Ok.ve (aPJ (k:=j) om (i.fm c) m) ?_;rintro w H1 ⟨o,d⟩;have g1:H1.get H.nx=aB 0 [sv]:=(d.keep gz).trans (by simp(disch:=omega)only[go_sem,seval]);simp only[go_sem,g1];refine Ok.ve (A6 (k:=j) om (h.fm (c.trans d)) f) ?_;intro t p e;have a:=f.all X.length;rw[aj]at a;rw[dD];refine Si (o.fm e.fm) (e.rs gu) b a (λq s n=>?_) bT 0 .aA p (vy _) lf (by simp only[ry];exact Ac.nil 3 _ (Fm.refl _ _));exact Ok.ret (Ac.trans ((c.trans d).trans e.fm) n)
theorem xb5(q:iO C){k:Nat}(s:22<=k)(t:dB H sv X)(c:bV X)(u:i<(aF X).length):Ok (C k (.f 230) [.agg [sv],iN i] H) λr H'=>r=.aX [(aF X)[i].1.v,(aF X)[i].2.v,iN 0]/\Fm No H H':=by
 obtain⟨j,rfl⟩:=aO s;rw[lk (zst ..)];unfold XC;refine aS ?_;have f:Fm No H (aH H (aB 0 [sv])):=om;refine Ok.ve (Mt q (k:=j) om om c) ?_;rintro _ H1 ⟨rfl,m⟩;unfold zhv;have v:H1.get H.nx=aB 0 [sv]:=(m.keep gx).trans om;simp only[go_sem,v];have e:=(t.fm f).fm m;refine Ok.ve (Po (k:=j) om e c.pr c.al c.sp) ?_;rintro _ n ⟨ib,rfl,D,O⟩;obtain⟨mb,nb,P,iv,d,o,_,_,p,E,_,_,Q,F,_⟩:=D.ex;have w:(eG X).length=(aF X).length:=by rw[<-vC,vu]
 have g:=p.len;have a:i<(eG X).length:=om;have b:i<d.length:=om;have h:¬d.length<=i:=om;have x:¬i<0:=om;simp only[go_sem,x,o,g,h];unfold zhw;obtain⟨G,I,J,R,_,_,K⟩:=p.at' i b;obtain⟨L,M,g1,g2,_,_,g4⟩:=E.at' i a;have y:cB (n.get G) I=.val (.ptr d[i].1 d[i].2):=K 0 (by rw[HO];omega);have z:cB (n.get L) M=.val (.str (eG X)[i].1.n (eG X)[i].1.a):=g4 0 (by rw[zlo];omega);have A:=(F i b a).nm;simp only[go_sem,o,g1,z,J,y,A];have B:(aF X)[i]=kq (eG X)[i]:=by have:∀(l:List (SS×SS)) (N:i<l.length),l=(eG X).map kq->l[i]=kq (eG X)[i]:=om;exact this _ u (vC X).symm
 rw[B];exact Ok.ret ⟨rfl,om⟩
def jv(q:(SS×SS)×Nat):List AV:=[q.1.1.v,q.1.2.v,iN (q.2)]
theorem zj2(q:(SS×SS)×Nat):(jv q).length=3:=rfl
def Np:List AV:=[zS,zS,iN 0]
def fS(ps:List ((SS×SS)×Nat))(i:Nat):List AV:=(ps.take i).flatMap jv++(List.replicate (ps.length-i) Np).flatten
theorem AD(ps:List ((SS×SS)×Nat)):(ps.flatMap jv).length=ps.length*3:=by
 induction ps with
 |nil=>rfl
 |cons a l ih=>rw[DM,nj,ih,zj2,nk];omega
theorem MV(A B:List AV)(x c:AV)(k:Nat)(a:k=A.length):aY (A++x::B) k [c]=A++c::B:=by subst a;unfold aY;simp
theorem ztr{ps:List ((SS×SS)×Nat)}(h:i<ps.length):aY (aY (aY (fS ps i) (i*3) [ps[i].1.1.v]) (i*3+1) [ps[i].1.2.v]) (i*3+2) [iN (ps[i].2)]=fS ps (i+1):=by
 have a:((ps.take i).flatMap jv).length=i*3:=by rw[AD,sY];omega
 have e:fS ps i=(ps.take i).flatMap jv++zS::zS::iN 0::(List.replicate (ps.length-(i+1)) Np).flatten:=by unfold fS;rw[show ps.length-i=ps.length-(i+1)+1 by omega,List.replicate_succ,rf];rfl
 rw[e,MV _ _ _ _ _ a.symm];rw[show ∀(A B:List AV) (x y:AV),A++x::y::B=(A++[x])++y::B from λA B x y=>g3];rw[MV _ _ _ _ _ (by simp[a])];rw[show ∀(A B:List AV) (x y z:AV),A++[x]++y::z::B=(A++[x,y])++z::B from λA B x y z=>g3];rw[MV _ _ _ _ _ (by simp[a])];unfold fS;rw[nh h,nt,AJ];simp[jv]
theorem oi(l:List AV):∀n,aU l n=(List.replicate n l).flatten
 |0=>rfl
 |n+1=>by show l++aU l n=_;rw[oi l n,List.replicate_succ,rf]
theorem xb7{k:Nat}(a:1<=k){n:Int}(h:storeAt H b (i+2) [.int .i64 n] .undef=.ok .undef H'):C k (.f 231) [.ptr b i,.int .i64 n] H=.ok (.aX []) H':=by obtain⟨j,rfl⟩:=aO a;rw[lk (zss ..)];unfold XB;simp only[go_sem,h]
theorem RX(K:iO C){j:Nat}(L:22<=j){xb pb e:Nat}(Y:dB H0 sv X)(x:bV X)(Z:n=(aF X).length)(y:Gl 1 H0 gv n (aJ M))(o:H0.get xb=aB 0 [sv])(p:xb<H0.nx)(z:H0.get pb=aB 0 [.sl e 0 n n true])(l:pb<H0.nx)(f:xb≠e/\pb≠e/\e<H0.nx)(r:∀c,In gv c->c≠e)(A:∀H,Fm (λc=>c=e) H0 H->dB H sv X)(hq:∀H,Gl 3 H (.sl e 0 n n true) n (((aF X).zip M).flatMap jv)->Fm (λc=>c=e) H0 H->Ok (qe H) O):∀(k i:Nat) (H:Hp),i<=n->n-i<k->Gl 3 H (.sl e 0 n n true) n (fS ((aF X).zip M) i)->Fm (λc=>c=e) H0 H -> Ok (HU (C j) qe (.ptr xb 0) gv (.ptr pb 0) (iN n) k (iN i) H) O
 |0,i,_,_,h,_,_=>om
 |k+1,i,H,hi,hk,hg,hf=>by
  show Ok (KX (C j) _ _ _ _ _ (HU (C j) _ _ _ _ _ k) _ H) O;unfold KX;have mF:(aF X).length<=256:=by have:=x.pr.len;rw[<-vC,vu];exact this
  have s:M.length=n:=by have:=y.len;simpa [aJ] using this
  have B:((aF X).zip M).length=n:=om;by_cases d:i<n
  ·simp only[go_sem,d];unfold zit;have p1:=(hf.get pb l f.2.1).trans z;have x1:=(hf.get xb p f.1).trans o;obtain⟨b,q1,H2,g,e2,g2,f2,n2⟩:=hg.set1 d (j:=0) om ((aF X).zip M)[i].1.1.v;have D:b=e/\q1=i*3:=by rw[sD _ _ _ _ _ _ _ _ d,nr]at g;injection g with g;injection g with a b;exact⟨a.symm,b.symm⟩
   obtain⟨rfl,rfl⟩:=D;simp only[go_sem,p1,x1,g];have N:∀H',Fm No H H'->Fm (λc=>c=b) H0 H':=om;refine aS ?_;refine Ok.iC (xb5 K (k:=j) L om x (i:=i) om) ?_;rintro _ S ⟨rfl,f4⟩;have m:=om;have E:=N S m;have Q:=(E.get pb l f.2.1).trans z;have g4:=hg.fm m (λ_ _ h=>h);obtain⟨b4,q4,H5,u,J,g5,T,n5⟩:=g4.set1 d (j:=0) om (aF X)[i].1.v;rw[g]at u;injection u with u;injection u with ea eb;subst ea eb;have F:∀c,In (AV.sl b 0 n n true) c->c=b:=λc h=>by obtain⟨_,_,_,_,h⟩:=h;cases h;rfl
   have P:=(T.get pb (by have:=E.nx;omega) om).trans Q;unfold SS.v at J g5;rw[bf]at J;unfold SS.v;obtain⟨b5,q5,H6,v,U,g6,V,n6⟩:=g5.set1 d (j:=1) om (aF X)[i].2.v;rw[g]at v;injection v with v;injection v with ea eb;subst ea eb;have p6:=(V.get pb (by have:=E.nx;omega) om).trans P;obtain⟨b6,q6,H7,w,e7,g7,f7,n7⟩:=g6.set1 d (j:=2) om (iN ((M.getD i 0)));rw[g]at w;injection w with w;injection w with ea eb;subst ea eb;have t:Fm (λc=>c=b) H0 H6:=((N S m).then T om).then V om;obtain⟨vb,vo,v1,_,W⟩:=((y.fm t r).rl).at' i (by rw[oF];omega);have G:(aJ M)[i]'(by rw[oF];omega)=iN ((M.getD i 0)):=by simp[aJ,vt,s,d]
   rw[G]at W;unfold SS.v at U g6;have cp:=xb7 (k:=j) om e7;simp only[go_sem,seval,Q,g,J,P,U,p6,v1,W,cp];unfold ziu;refine aS ?_;have I:=t.then f7 λc _ h=>F c h;have hz:((aF X).zip M)[i]=((aF X)[i],M.getD i 0):=by simp[vt,s,d]
   have R:=ztr (ps:=(aF X).zip M) (i:=i) om;rw[hz]at R;refine RX K L Y x Z y o p z l f r A hq k (i+1) H7 om om ?_ I;rw[<-R];exact g7
  ·simp only[go_sem,d];have he:i=n:=om;subst he;have:fS ((aF X).zip M) i=((aF X).zip M).flatMap jv:=by
    unfold fS;rw[AQ om,B,gq];simp
   simp_all
theorem xb4(t:iO C)(D:fG C)(E:qM C)(F:pP C)(G:pZ LA LO C){k:Nat}(I:1003<=k)(W:dB H sv X)(h:f8 X):Ok (C k (.f 176) [.agg [sv]] H) λr H'=>∃m o,r=.aX [.agg [m],iN 0]/\Gl 3 H' m (aF X).length (((aF X).zip o).flatMap jv)/\wW m=true/\lG X o/\Fm No H H':=by
 have Y:=h.len;obtain⟨j,rfl⟩:=aO I;rw[lk (zta ..)];unfold XR;refine aS ?_;have f:Fm No H (aH (aH H (aB 0 [sv])) (aB 0 [.aA])):=fm;refine Ok.ve (zzf t D (k:=j) om om h.val) ?_;rintro _ H1 ⟨gv,rfl,T,_,s,_⟩;have J:=s.nx;simp only[np]at J;have K:H1.get H.nx=aB 0 [sv]:=(s.keep g1).trans g6;have L:H1.get (H.nx+1)=aB 0 [.aA]:=(s.keep gz).trans g5;refine aS ?_;unfold zir;have x:Fm No H1 ((aH H1 (aB 0 [iN 0,.aA])).put H1.nx (aB 0 [iN ((aF X).length),gv])):=fm;refine aS ?_;refine Ok.ve (zoh E F G (k:=j) om h (T.fm x)) ?_;rintro _ a ⟨B,w,o,rfl,U,_,i⟩;have M:=B.nx;simp only[np,nq]at M;have b:=x.trans B;refine aS ?_;unfold zis;have n:=U.bF;have N:=kP [zS,zS,iN 0] 40 a.nx (aF X).length om om;refine dS n N ?_;rw[dD];generalize V:(aH (aH a (aB 0 (aU [zS,zS,iN 0] (aF X).length))) (aB 0 [.aA])).put (a.nx+1) (aB 0 [.sl a.nx 0 (aF X).length (aF X).length true])=Hz;have y:Fm No a Hz:=om;have Z:Hz.nx=a.nx+2:=om;have z:Hz.get (a.nx+1)=aB 0 [.sl a.nx 0 (aF X).length (aF X).length true]:=om;have kc:Hz.get a.nx=aB 0 (aU [zS,zS,iN 0] (aF X).length):=om;have O:=((b.trans y).keep (show H.nx<H1.nx by omega)).trans K;have P:=((b.trans y).keep (show H.nx+1<H1.nx by omega)).trans L;have Q:o.length=(aF X).length:=i.len;have d:((aF X).zip o).length=(aF X).length:=om;have gz:Gl 3 Hz (.sl a.nx 0 (aF X).length (aF X).length true) (aF X).length (fS ((aF X).zip o) 0):=by
  have e:fS ((aF X).zip o) 0=aU [zS,zS,iN 0] (aF X).length:=by unfold fS;rw[d,oi];rfl
  have R:(fS ((aF X).zip o) 0).length=(aF X).length*3:=by unfold fS;rw[d];simp[Np]
  exact⟨R,om⟩
 have A:=om;have S:∀H',Fm (λc=>c=a.nx) Hz H'->Fm No H H':=om;have g:∀c,In w c->c≠a.nx:=om;refine RX t (j:=j) om om h.val rfl om O om z om ⟨om,om,om⟩ g om (λu g3 v=>?_) bT 0 Hz om lf gz om;unfold Kp;have p:=(v.get (a.nx+1) om om).trans z;have q:=(v.get (H.nx+1) om om).trans P;refine dS p q ?_;have g4:=g3.fm (show Fm (λc=>c=H.nx+1) u (u.put (H.nx+1) (aB 0 [.sl a.nx 0 (aF X).length (aF X).length true]))from(Fm.refl _ _).put _ _ λ_=>rfl) λc l h=>by obtain⟨_,_,_,_,l⟩:=l;cases l;omega
 exact Ok.ret ⟨_,o,rfl,g4,rfl,i,om⟩
structure yJ(H:Hp)(zv:AV)(X:List aP)(o:List Nat):Prop where
 rs:Rs 3 jv H zv ((aF X).zip o)
 flat:wW zv=true
 len:o.length=(aF X).length
 n:(aF X).length<13
 lt:∀x∈o,x<13
theorem yJ.fm(h:yJ H gv X ins)(f:Fm No H H'):yJ H' gv X ins:=⟨h.rs.fm f,h.flat,h.len,h.n,h.lt⟩
attribute [grind .] yJ.fm
variable {o:List Nat}
theorem yJ.zl(h:∃H a,yJ H a X o):((aF X).zip o).length=(aF X).length:=by obtain⟨_,_,h⟩:=h;have:=h.len;simp_all
theorem yJ.at'(h:yJ H gv X o)(d:i<(aF X).length):∃b p,aG 3 gv (iN i)=.val (.ptr b p)/\eY (H.get b) p 3=some [.str (aF X)[i].1.n (aF X)[i].1.a,.str (aF X)[i].2.n (aF X)[i].2.a,iN ((o.getD i 0))]:=by
 have f:=h.len;have j:((aF X).zip o).length=(aF X).length:=yJ.zl ⟨_,_,h⟩;obtain⟨b,p,g,_,_,c,_⟩:=h.rs.at' i om;have e:((aF X).zip o)[i]=((aF X)[i],o.getD i 0):=by simp[vt,f,d]
 rw[e]at c;exact⟨b,p,g,c⟩
theorem Rp(h:yJ H0 gv X o)(a b:SS){Q:pL}(w:∀H,Fm No H0 H->dA X a b<(aF X).length->Ok (V (iN ((o.getD (dA X a b) 0))) (iN 0) H) Q)(u:∀H,Fm No H0 H->(a,b)∉aF X->Ok (qe H) Q):∀(k i:Nat) (H:Hp),i<=(aF X).length->(aF X).length-i<k->(∀m (_:m<i) (x:m<(aF X).length),(aF X)[m]≠(a,b))->Fm No H0 H -> Ok (Cx P V qe a.v b.v gv (iN ((aF X).length)) k (iN i) H) Q
 |0,i,_,_,h,_,_=>om
 |k+1,i,H,hi,hk,hn,f=>by
  show Ok (DC P _ _ _ _ _ _ (Cx P _ _ _ _ _ _ k) _ H) Q;unfold DC;have z:=h.n;have next:i<(aF X).length->(aF X)[i]? ≠ some (a,b)->∀H,Fm No H0 H->Ok (w9 P (Cx P V qe a.v b.v gv (iN ((aF X).length)) k) (iN i) H) Q:=λd y H f=>by
   unfold w9;refine aS ?_;refine Rp h a b w u k (i+1) H om om (λm n x=>?_) f
   grind
  by_cases d:i<(aF X).length
  ·simp only[go_sem,d];unfold OS;obtain⟨C,p,s,t⟩:=(h.fm f).at' d;unfold SS.v;have v:∀c,Fm No H0 ((aH H (aB 0 [zS,zS,iN 0])).put H.nx c):=om;by_cases g:(aF X)[i].1.n=a.n/\(aF X)[i].1.a=a.a
   ·have e:=ae g;by_cases j:(aF X)[i].2.n=b.n/\(aF X)[i].2.a=b.a
    ·have r:=ae j;refine jF s t e r ?_;have A:(aF X)[i]=(a,b):=Prod.ext ((pE _ _).2 g) ((pE _ _).2 j);have B:dA X a b=i:=by
      unfold dA
      grind
     simp_all
    ·refine jF s t e j ?_;refine next d (λh=>j ?_) _ (v _)
     simp_all
   ·refine gW s t g ?_;refine next d (λh=>g ?_) _ (v _)
    simp_all
  ·simp only[go_sem,d];refine u H f λn=>?_;obtain⟨m,n,D⟩:=ku n
   grind
theorem z7p{k:Nat}(e:1<=k)(h:yJ H gv X o)(a b:SS):Ok (C k (.f 179) [.agg [gv],a.v,b.v] H) λr H'=>Fm No H H'/\((dA X a b<(aF X).length/\r=.aX [iN ((o.getD (dA X a b) 0)),iN 0])\/((a,b)∉aF X/\r=.aX [iN 0,iN 6])):=by
 obtain⟨j,rfl⟩:=aO e;rw[lk (zs5 ..)];unfold XM;have f:Fm No H (aH H (aB 0 [gv])):=om;have m:((aF X).zip o).length=(aF X).length:=yJ.zl ⟨_,_,h⟩;have d:=h.rs.len;rw[m]at d;refine dI d ?_;rw[dD];have n:=h.n;refine Rp (h.fm f) a b (λg i l=>?_) (λg i p=>?_) bT 0 _ om lf om om
 ·exact Ok.ret ⟨om,om⟩
 ·unfold OT;exact Ok.ret ⟨om,om⟩
def kf(o:List Nat)(i:Nat):Nat:=iX ((o.take i).map (· +1))
theorem Ts{j:Nat}(c:1<=j)(h:yJ H0 gv X o)(e:∀H,Fm No H0 H->Ok (qr (iN ((kf o (aF X).length))) H) O):∀(k i:Nat) (H:Hp),i<=(aF X).length->(aF X).length-i<k->Fm No H0 H -> Ok (Ej (C j) qr gv (iN ((aF X).length)) k (iN ((kf o i))) (iN i) H) O
 |0,i,_,_,h,_=>om
 |k+1,i,H,hi,hk,hf=>by
  show Ok (DA (C j) _ _ _ (Ej (C j) _ _ _ k) _ _ H) O;unfold DA;have f:=h.n;have g:=h.len;by_cases a:i<(aF X).length
  ·simp only[go_sem,a];unfold OJ;obtain⟨u,p,n,r⟩:=(h.fm hf).at' a;have l:o.getD i 0<13:=h.lt _ om;refine dS n r ?_;generalize s:aH _ (aB 0 [AV.int IntKind.i64 (Int.ofNat (kf o i)),AV.int IntKind.i64 (Int.ofNat (o.getD i 0+1))])=Hr;have t:Fm No H Hr:=om;have m:Gl 1 Hr (.sl (H.nx+1) 0 2 2 true) 2 (aJ [kf o i,o.getD i 0+1]):=⟨rfl,.inr ⟨H.nx+1,0,true,0,_,rfl,om,om,rfl,om,om⟩⟩;rw[Sd (k:=j) c m.rl g3];have b:iX [kf o i,o.getD i 0+1]=kf o (i+1):=by
    unfold kf;rw[nh om,AO];unfold iX;simp_all
   rw[b];unfold t9;refine aS ?_;exact Ts c h e k (i+1) Hr om om om
  ·simp only[go_sem,a]
   grind
def ke(X:List aP)(o:List Nat):Nat:=kf o (aF X).length
theorem zow{k:Nat}(c:2<=k)(h:yJ H gv X o):Ok (C k (.f 177) [.agg [gv]] H) λr H'=>r=iN ((ke X o))/\Fm No H H':=by obtain⟨j,rfl⟩:=aO c;rw[lk (zs4 ..)];unfold XL;have f:Fm No H (aH H (aB 0 [gv])):=om;have d:((aF X).zip o).length=(aF X).length:=yJ.zl ⟨_,_,h⟩;have b:=h.rs.len;rw[d]at b;refine dI b ?_;rw[dD];have e:=h.n;refine Ts (j:=j) om (h.fm f) (λg i=>?_) bT 0 _ om lf om;exact Ok.ret ⟨rfl,om⟩
end Go.Di
end
noncomputable section
namespace Go.Di
open Go.Ev
inductive Fo where
 |nil
 |cons (k:Nat) (rl to:SS) (a r:Fo)
namespace Fo
def len:Fo->Nat
 |nil=>0
 |cons _ _ _ _ r=>r.len+1
def size:Fo->Nat
 |nil=>0
 |cons _ _ _ a r=>a.size+1+r.size
def depth:Fo->Nat
 |nil=>0
 |cons _ _ _ a r=>max (a.depth+1) r.depth
def lv:Fo->Nat
 |nil=>0
 |cons k _ _ a r=>(if k<4 then 1 else a.lv)+r.lv
def app:Fo->Fo->Fo
 |nil,g=>g
 |cons k rl to a r,g=>cons k rl to a (r.app g)
def spl(k:Nat):Fo->Fo
 |nil=>nil
 |cons k' rl to a r=>if k'=k/\(k=4\/k=5)then a.app (spl k r)else cons k' rl to a (spl k r)
def flat:Fo->Fo
 |nil=>nil
 |cons k rl to a r=>cons k rl to (spl k a.flat) r.flat
def no(k:Nat):Fo->Prop
 |nil=>True
 |cons k' _ _ _ r=>¬(k'=k/\(k=4\/k=5))/\r.no k
def Rt(N:SS->Prop):Fo->Prop
 |nil=>True
 |cons k rl to a r=>((k=1/\rl=sE/\to=sE/\a=nil)\/(k=2/\N rl/\to=sE/\a=nil)\/(k=3/\N rl/\N to/\a=nil)\/(k=4/\rl=sE/\to=sE/\2<=a.len)\/(k=5/\rl=sE/\to=sE/\2<=a.len)\/(k=6/\rl=sE/\to=sE/\a.len=2))/\a.Rt N/\r.Rt N
theorem yP:∀f:Fo,f.app nil=f
 |nil=>rfl
 |cons k rl to a r=>by rw[app,yP r]
theorem lU:∀f g:Fo,(f.app g).len=f.len+g.len
 |nil,g=>by simp[app,len]
 |cons k rl to a r,g=>by simp only[app,len,lU r g];omega
theorem uF:∀f g:Fo,(f.app g).size=f.size+g.size
 |nil,g=>by simp[app,size]
 |cons k rl to a r,g=>by simp only[app,size,uF r g];omega
theorem qW:∀f g:Fo,(f.app g).depth=max f.depth g.depth
 |nil,g=>by simp[app,depth]
 |cons k rl to a r,g=>by simp only[app,depth,qW r g];omega
theorem aBz(N:SS->Prop):∀f g:Fo,(f.app g).Rt N↔f.Rt N/\g.Rt N
 |nil,g=>by simp[app,Rt]
 |cons k rl to a r,g=>by simp only[app,Rt,aBz N r g];exact⟨λ⟨a,b,c,d⟩=>⟨⟨a,b,c⟩,d⟩,λ⟨⟨a,b,c⟩,d⟩=>⟨a,b,c,d⟩⟩
theorem tK(k:Nat):∀f:Fo,(spl k f).size<=f.size
 |nil=>AF _
 |cons k' rl to a r=>by
  have:=tK k r;unfold spl;split
  ·rw[uF];simp only[size];omega
  ·simp only[size];omega
theorem UG(k:Nat):∀f:Fo,(spl k f).depth<=f.depth
 |nil=>AF _
 |cons k' rl to a r=>by
  have:=UG k r;unfold spl;split
  ·rw[qW];simp only[depth];omega
  ·simp only[depth];omega
theorem jQ:∀f:Fo,f.flat.size<=f.size
 |nil=>AF _
 |cons k rl to a r=>by have:=jQ a;have:=jQ r;have:=tK k a.flat;simp only[flat,size];omega
theorem oN:∀f:Fo,f.flat.depth<=f.depth
 |nil=>AF _
 |cons k rl to a r=>by have:=oN a;have:=oN r;have:=UG k a.flat;simp only[flat,depth];omega
theorem dN:∀f:Fo,f.flat.len=f.len
 |nil=>rfl
 |cons k rl to a r=>by simp only[flat,len,dN r]
theorem xR(k:Nat):∀f:Fo,f.no k->spl k f=f
 |nil,_=>rfl
 |cons k' rl to a r,⟨h1,h2⟩=>by unfold spl;rw[sy h1,xR k r h2]
theorem xO(N:SS->Prop)(k:Nat):∀f:Fo,f.Rt N->(spl k f).Rt N/\f.len<=(spl k f).len
 |nil,_=>⟨trivial,AF _⟩
 |cons k' rl to a r,⟨h1,h2,h3⟩=>by
  obtain⟨b,c⟩:=xO N k r h3;unfold spl;split
  ·next h=>
   refine⟨(aBz _ _ _).2 ⟨h2,b⟩,?_⟩;rw[lU];simp only[len]
   grind
  ·exact⟨⟨h1,h2,b⟩,by simp only[len];omega⟩
theorem lS(N:SS->Prop):∀f:Fo,f.Rt N->f.flat.Rt N
 |nil,_=>trivial
 |cons k rl to a r,⟨b,h2,h3⟩=>by
  have e:=lS N a h2;have i:=lS N r h3;obtain⟨j1,j2⟩:=xO N k _ e;rw[dN]at j2;refine⟨?_,j1,i⟩;have j:k=6->spl k a.flat=a.flat:=λh=>xR k _ (by
   subst h;generalize a.flat=g
   induction g with
   |nil=>trivial
   |cons _ _ _ _ _ _ ih=>exact⟨om,ih⟩)
  rcases b with⟨rfl,b,c,rfl⟩|⟨rfl,b,c,rfl⟩|⟨rfl,b,c,rfl⟩|⟨rfl,b,c,d⟩|⟨rfl,b,c,d⟩|⟨rfl,b,c,d⟩
  ·exact .inl ⟨rfl,b,c,rfl⟩
  ·exact .inr (.inl ⟨rfl,b,c,rfl⟩)
  ·exact .inr (.inr (.inl ⟨rfl,b,c,rfl⟩))
  ·grind
  ·grind
  ·exact .inr (.inr (.inr (.inr (.inr ⟨rfl,b,c,by rw[j rfl,dN];exact d⟩))))
def ixs:Fo->Nat->List Nat
 |nil,_=>[]
 |cons _ _ _ a r,p=>p::ixs r (p+1+a.size)
theorem pO:∀(f:Fo) (p:Nat),(ixs f p).length=f.len
 |nil,_=>rfl
 |cons _ _ _ a r,p=>by rw[ixs,nk,pO r,len]
end Fo
structure TN where
 k:Nat
 rl:SS
 to:SS
 args:List Nat
 leaf:Option Nat
namespace Fo
def dK:Fo->Nat->Nat->List TN
 |nil,_,_=>[]
 |cons k rl to a r,p,c=>⟨k,rl,to,ixs a (p+1),if k<4 then some c else none⟩::(dK a (p+1) c++dK r (p+1+a.size) (c+if k<4 then 1 else a.lv))
theorem fJ:∀(f:Fo) (p c:Nat),(dK f p c).length=f.size
 |nil,_,_=>rfl
 |cons k rl to a r,p,c=>by rw[dK,nk,nj,fJ a,fJ r,size];omega
end Fo
end Go.Di
end
noncomputable section
namespace Go.Di
open Go.Ev
variable {H H' H0:Hp} {b j n z:Nat} {cs l:List AV} {neg:Bool} {nv w:AV}
attribute [go_sem] Ud Yz zyp TQ UC QO PU
def iM(P:Nat->Prop)(H:Hp):Fo->List AV->Prop
 | .nil,cs=>cs=[]
 | .cons k rl to a r,cs=>∃av ca cr,cs=uN k::rl.v::to.v::av::cr/\Gl 4 H av a.len ca/\(∀b,In av b->P b)/\iM P H a ca/\iM P H r cr
theorem iM.dR{P S:Nat->Prop}(f:Fm S H H')(a:∀b,P b->¬S b):∀{g:Fo} {cs:List AV},iM P H g cs->iM P H' g cs
 | .nil,_,h=>h
 | .cons _ _ _ _ _,_,⟨av,ca,cr,h1,h2,h3,h4,h5⟩=>⟨av,ca,cr,h1,h2.fm f λb c=>a b (h3 b c),h3,iM.dR f a h4,iM.dR f a h5⟩
variable{P:Nat->Prop}{h:Fo}
theorem iM.fm(f:Fm No H H')(g:iM P H h cs):iM P H' h cs:=g.dR f λ_ _ g=>g
attribute [grind .] iM.fm
theorem iM.mono{P Q:Nat->Prop}(a:∀b,b<H.nx->P b->Q b):∀{g:Fo} {cs:List AV},iM P H g cs->iM Q H g cs
 | .nil,_,h=>h
 | .cons _ _ _ _ _,_,⟨av,ca,cr,h1,h2,h3,h4,h5⟩=>⟨av,ca,cr,h1,h2,λb c=>a b (h2.lt c) (h3 b c),iM.mono a h4,iM.mono a h5⟩
theorem iM.len:∀{g:Fo} {cs:List AV},iM P H g cs->cs.length=g.len*4
 | .nil,_,h=>by rw[show _=_ from h];rfl
 | .cons _ _ _ _ _,_,⟨av,ca,cr,h1,_,_,_,h5⟩=>by rw[h1];have:=iM.len h5;simp[Fo.len,this];omega
theorem iM.app:∀{f g:Fo} {cs ds:List AV},iM P H f cs->iM P H g ds->iM P H (f.app g) (cs++ds)
 | .nil,_,_,_,h,h'=>by rw[show _=_ from h];exact h'
 | .cons _ _ _ _ _,_,_,_,⟨av,ca,cr,h1,h2,h3,h4,h5⟩,h'=>⟨av,ca,_,by rw[h1];rfl,h2,h3,h4,iM.app h5 h'⟩
structure zC(X:Nat->Prop)(H0 H:Hp)(w:AV)(g:Fo):Prop where
 ex:∃cs,Gl 4 H w g.len cs/\iM (λb=>H0.nx<=b/\¬In w b/\¬X b) H g cs
 nw:∀b,In w b->H0.nx<=b/\¬X b
theorem bt(b:Nat):¬In .aA b:=λh=>by obtain⟨_,_,_,_,h⟩:=h;cases h
theorem zC.nil(X:Nat->Prop)(H0 H:Hp):zC X H0 H .aA .nil:=⟨⟨[],Gl.nil 4 H,rfl⟩,λb h=>absurd h (bt b)⟩
variable{X:Nat->Prop}
theorem zC.dR{S:Nat->Prop}(g:zC X H0 H w h)(f:Fm S H H')(i:∀b,S b->X b\/b<H0.nx):zC X H0 H' w h:=by obtain⟨cs,d,e⟩:=g.ex;have c:∀b,H0.nx<=b->¬X b->¬S b:=om;exact⟨⟨cs,d.fm f λb a=>c b (g.nw b a).1 (g.nw b a).2,e.dR f om⟩,g.nw⟩
theorem zC.no(g:zC X H0 H w h)(f:Fm No H H'):zC X H0 H' w h:=g.dR f λ_ g=>g.elim
attribute [grind .] zC.no
variable{D:Fo}
theorem zC.add{a:List AV}(g:zC X H0 H w h)(j:iM (λb=>H0.nx<=b/\¬In w b/\¬X b) H D a)(r:∀b,X b->b<H.nx)(s:H0.nx<=H.nx)(m:0<D.len)(t:h.len+D.len<=100000):Ok (jD 4 64 H w (some ⟨D.len,a⟩)) λv H'=>zC X H0 H' v (h.app D)/\Fm (In w) H H'/\H'.nx=H.nx+1/\v=.sl H.nx 0 (h.len+D.len) (h.len+D.len) false:=by
 obtain⟨cs,o,p⟩:=g.ex;obtain⟨H',e,q,_,c,nx'⟩:=o.append (k:=D.len) (w:=64) (x:=a) m j.len om om;refine⟨_,H',e,⟨⟨cs++a,by rw[Fo.lU];exact q,?_⟩,λb n=>?_⟩,c,nx',rfl⟩
 ·have i:iM (λb=>H0.nx<=b/\¬In w b/\¬X b) H (h.app D) (cs++a):=p.app j;refine(i.mono (Q:=λb=>H0.nx<=b/\¬In w b/\¬X b/\b<H.nx) om).dR c om |>.mono λb _ l=>⟨l.1,λd=>?_,l.2.2.1⟩;obtain⟨_,_,_,_,d⟩:=d;simp_all
 ·obtain⟨_,_,_,_,d⟩:=n
  grind
theorem Gl.src(h:Gl z H nv n l):nP z H nv=some ⟨n,l⟩:=by
 have d:=h.len;rcases h.is with⟨rfl,rfl⟩|⟨b,o,e,q,L,rfl,a,f,c,g,i⟩
 ·have:l=[]:=lE5.1 om;subst this;rfl
 ·rw[Db z H b o n n e q L a om,c,AQ om]
theorem iM.one{f:Fo}(h:iM P H f cs)(d:f.len=1):∃k rl to a c ca,f=.cons k rl to a .nil/\cs=[uN k,.str rl.n rl.a,.str to.n to.a,c]/\Gl 4 H c a.len ca/\(∀b,In c b->P b)/\iM P H a ca:=by
 cases f with
 |nil=>cases d
 |cons k rl to a r=>
  cases r with
  |nil=>obtain⟨c,ca,e,g,i,j,l,m⟩:=h;obtain rfl:e=[]:=m;exact⟨k,rl,to,a,c,ca,rfl,g,i,j,l⟩
  |cons _ _ _ _ _=>simp[Fo.len]at d
variable{E F:SS}{kd vb:Nat}
theorem Gl.rule{c:List AV}(a:Gl 4 H nv n (cs++c))(g:cs.length=kd*4)(q:iM P H (.cons vb E F h D) c):kd<n/\∃b o d ca e,aG 4 nv (iN kd)=.val (.ptr b o)/\b<H.nx/\In nv b/\eY (H.get b) o 4=some [uN vb,.str E.n E.a,.str F.n F.a,d]/\cB (H.get b) (o+3)=.val d/\c=uN vb::E.v::F.v::d::e/\Gl 4 H d h.len ca/\(∀b,In d b->P b)/\iM P H h ca/\iM P H D e /\ ∀j x,[uN vb,.str E.n E.a,.str F.n F.a,d][j]? =some x->cB (H.get b) (o+j)=.val x:=by
 obtain⟨d,ca,e,f,t,u,w,y⟩:=q;have r:=a.len;have l:kd<n:=om;obtain⟨b,o,z,A,B,C,p⟩:=a.oG l;refine⟨l,b,o,d,ca,e,z,A,B,?_,?_,f,t,u,w,y,λj x s=>?_⟩
 ·rw[C,<-g,List.drop_left,f];rfl
 ·rw[p 3 om,<-g,vt,AM om,mf,f];rfl
 ·have m:j<4:=by
   grind
  rw[p j m,<-g,vt,AM om,mf,f]
  match j,m with
  |0,_|1,_|2,_|3,_=>cases s;rfl
theorem Fo.qG:∀f g h:Fo,(f.app g).app h=f.app (g.app h)
 | .nil,_,_=>rfl
 | .cons k rl to a r,g,h=>by rw[Fo.app,Fo.app,Fo.app,Fo.qG r g h]
theorem Fo.jA:∀f:Fo,f.len<=f.size
 | .nil=>AF _
 | .cons k rl to a r=>by have:=Fo.jA r;simp only[Fo.len,Fo.size];omega
abbrev fe:=Nat×SS×SS×List Nat
def Fo.jC:Fo->Nat->List fe
 | .nil,_=>[]
 | .cons k rl to a r,p=>(k,rl,to,a.ixs (p+1))::(a.jC (p+1)++r.jC (p+1+a.size))
theorem Fo.kI:∀(f:Fo) (p:Nat),(f.jC p).length=f.size
 | .nil,_=>rfl
 | .cons k rl to a r,p=>by rw[Fo.jC,nk,nj,kI a,kI r,Fo.size];omega
structure NE where
 k:Nat
 rl:SS
 to:SS
 args:List Nat
 av:AV
 ng:Bool
def uZ(x:NE):List AV:=[uN x.k,x.rl.v,x.to.v,x.av,.bool x.ng]
theorem Ih(x:NE):(uZ x).length=5:=rfl
def NE.key(x:NE):fe:=(x.k,x.rl,x.to,x.args)
structure NE.Ar(P:Nat->Prop)(H:Hp)(x:NE):Prop where
 gl:Gl 1 H x.av x.args.length (aJ x.args)
 nw:∀b,In x.av b->P b
theorem NE.Ar.fm{Q:Nat->Prop}{x:NE}(h:x.Ar P H)(f:Fm X H H')(d:∀b,b<H.nx->P b->¬X b)(e:∀b,b<H.nx->P b->Q b):x.Ar Q H':=
 ⟨h.gl.keep f.nx λb a c=>f.get b c (d b c (h.nw b a)),λb a=>e b (h.gl.lt a) (h.nw b a)⟩
theorem zyv(a:AV):∀(l:List NE) (i:Nat) (x:NE),l[i]? =some x->aY (l.flatMap uZ) (i*5+3) [a]=(l.set i ⟨x.k,x.rl,x.to,x.args,a,x.ng⟩).flatMap uZ
 | [],_,_,h=>by simp at h
 |y::l,0,x,h=>by
  obtain rfl:y=x:=by simpa using h
  simp[aY,uZ]
 |y::l,i+1,x,h=>by
  have:=zyv a l i x om;rw[yc,DM,DM,<-this];unfold aY;have e:(i+1)*5+3=(uZ y).length+(i*5+3):=by rw[Ih];omega
  rw[e,qm,sR,sR];congr 1;rw[sR];congr 2;rw[af,qo]
theorem my{α:Type}(lo a:List α)(h x:α):(lo++[h]++a).set lo.length x=lo++([x]++a):=om
theorem iM.flat:∀{g:Fo} {cs:List AV},iM P H g cs->cs.all wW=true
 | .nil,_,h=>by rw[show _=_ from h];rfl
 | .cons _ _ _ _ _,_,⟨av,ca,cr,h1,h2,_,_,h5⟩=>by rw[h1];simp only[lq,iM.flat h5,Gl.flat h2];rfl
attribute [go_sem] zy0 ER zm4
theorem Yg{k:Nat}(a:1<=k)(h:Gl 4 H nv n l):∃w,C k (.f 248) [nv] H=.ok w H/\Gl 4 H w n l/\dX w=.val (iN n)/\(∀b,In w b->In nv b):=by obtain⟨j,rfl⟩:=aO a;obtain⟨w,e,c,d,f⟩:=h.clip;refine⟨w,?_,c,d,f⟩;rw[lk (zp1 ..)];unfold Wa;simp only[go_sem,h.bF,e]
def Dw(k:Nat)(rl to:SS)(m:Nat):Prop:=(k=1/\rl=sE/\to=sE/\m=0)\/(k=2/\Nm rl/\to=sE/\m=0)\/(k=3/\Nm rl/\Nm to/\m=0)\/((k=4\/k=5)/\rl=sE/\to=sE/\2<=m)\/(k=6/\rl=sE/\to=sE/\m=2)
theorem Fo.Rt.one(a:(Fo.cons j E F h D).Rt Nm):Dw j E F h.len:=by
 rcases a.1 with⟨b,c,d,rfl⟩|⟨b,c,d,rfl⟩|⟨b,c,d,rfl⟩|⟨b,c,d,e⟩|⟨b,c,d,e⟩|⟨b,c,d,e⟩
 ·exact .inl ⟨b,c,d,rfl⟩
 ·exact .inr (.inl ⟨b,c,d,rfl⟩)
 ·exact .inr (.inr (.inl ⟨b,c,d,rfl⟩))
 ·exact .inr om
 ·exact .inr om
 ·exact .inr om
theorem zm0(l:iO C){k:Nat}(z:2<=k){o:Nat}(e:pR H b o [uN kd,.str E.n E.a,.str F.n F.a,nv])(f:aD nv=.val (iN vb))(u:Dw kd E F vb):Ok (C k (.f 284) [.ptr b o] H) λv H'=>v=iN 0/\Fm No H H':=by
 obtain⟨j,rfl⟩:∃j,k=j+1+1:=⟨k-2,om⟩;rw[lk (QZ ..)];unfold Pz;have w:=e.lt;have a:cB (H.get b) o=.val (uN kd):=e.at' 0 g3;have c:cB (H.get b) (o+1)=.val (.str E.n E.a):=e.at' 1 g3;have d:cB (H.get b) (o+2)=.val (.str F.n F.a):=e.at' 2 g3;have g:cB (H.get b) (o+3)=.val nv:=e.at' 3 g3;rcases u with⟨rfl,rfl,rfl,rfl⟩|⟨rfl,i,rfl,rfl⟩|⟨rfl,i,t,rfl⟩|⟨r,rfl,rfl,y⟩|⟨rfl,rfl,rfl,rfl⟩
 ·unfold sE at c d;refine cF a c d g f and_self ?_;unfold ez;refine gW a ly and_self ?_;unfold h9 kJ;exact Ok.ret ⟨rfl,fm⟩
 ·have p:=i.ne;have h:=(l j).r E i;unfold SS.v at h;refine dG a c d g f p and_self ?_;unfold ez;refine jF a c ly h ?_;unfold h9 kJ;exact Ok.ret ⟨rfl,fm⟩
 ·have p:=i.ne;have x:=t.ne;have h:=(l j).r E i;have s:=(l j).r F t;unfold SS.v at h s;refine dG a c d g f p x ?_;unfold ez;refine cF a c d ly h s ?_;unfold h9 kJ;exact Ok.ret ⟨rfl,fm⟩
 ·unfold sE at c d;have q:=ae y;rcases r with rfl|rfl<;>(
   refine cF a c d g f and_self ?_;unfold B7;refine dI q ?_;unfold ez;refine gW a ly and_self ?_;unfold h9 kJ;exact Ok.ret ⟨rfl,fm⟩)
 ·unfold sE at c d;refine cF a c d g f and_self ?_;unfold B7;unfold ez;refine gW a ly and_self ?_;unfold h9 kJ;exact Ok.ret ⟨rfl,fm⟩
structure gQ(H:Hp)(nb db fb vb:Nat)(l:List NE)(nv:AV)(d:Nat):Prop where
 n:H.get nb=aB 0 [nv]
 d:H.get db=aB 0 [iN d]
 f:H.get fb=aB 0 [iN 0]
 v:H.get vb=aB 0 [.fn 283 [] [.ptr nb 0,.ptr db 0,.ptr fb 0,.ptr vb 0]]
 o:nb<db/\db<fb/\fb<vb/\vb<H.nx
 gl:Gl 5 H nv l.length (l.flatMap uZ)
 nin:∀c,In nv c->vb<c
def aYE(C:Nat->Ev.Call)(a:Fo)(k:Nat):Prop:=
 ∀(b o lv kd:Nat) (rl to:SS) (av:AV) (neg:Bool) (H:Hp) (nb db fb vb:Nat) (lo:List NE) (nv:AV) (d:Nat) (ca:List AV),gQ H nb db fb vb lo nv d->pR H b o [uN kd,.str rl.n rl.a,.str to.n to.a,av]->b<nb->Gl 4 H av a.len ca->(∀b,In av b->b<nb)->iM (· < nb) H a ca ->
  Dw kd rl to a.len->a.Rt Nm->lv+a.depth<=8->lo.length+a.size<32->d<=8 ->
  Ok (C k (.f 283) [.ptr b o,iN lv,.bool neg,.ptr nb 0,.ptr db 0,.ptr fb 0,.ptr vb 0] H) λv f=>v=.bool true/\∃ln wO d',gQ f nb db fb vb (lo++ln) wO d'/\ln.map NE.key=(Fo.cons kd rl to a .nil).jC lo.length/\(∀e∈ln,e.Ar (λc=>H.nx<=c/\¬In wO c) f)/\d'<=8/\Fm (ff nb db fb nv) H f/\∀c,In wO c->H.nx<=c
variable{I:List NE}
theorem q0e(M:iO C)(N:2<=j){o lv:Nat}{nb e fb:Nat}{d:Nat}{m:Nat}{s:AV}(f:gQ H nb e fb vb I nv d)(t:pR H b o [uN kd,.str E.n E.a,.str F.n F.a,s])(q:aD s=.val (iN m))(O:Dw kd E F m)(hb:b<nb)(P:lv<=8)(R:I.length<32)(hd:d<=8){Q:pL}(S:∀H' w l,gQ H' nb e fb vb (I++[⟨kd,E,F,[],.aA,neg⟩]) w l->l<=8->Fm (ff nb e fb nv) H H'->(∀c,In w c->H.nx<=c) -> Ok (jb (C j) (λy H=>.ok y H) (λT H=>oM (C j) (.ptr nb 0) (iN (I.length)) T H) (.ptr b o) (iN lv) (.bool neg) (.ptr nb 0) (.ptr vb 0) (iN m) bZ .aA (iN 0) H') Q):Ok (te (C j) (.ptr b o) (iN lv) (.bool neg) (.ptr nb 0) (.ptr e 0) (.ptr fb 0) (.ptr vb 0) H) Q:=by
 unfold te;obtain⟨o1,o2,o3,o4⟩:=f.o;have J:=f.n;have W:=f.d;have K:=f.f;have z:=f.gl.bF;have A:¬I.length=32:=om;have X:¬8<lv:=om;have u:∀c,c<=vb->¬In nv c:=λc g h=>by have:=f.nin c h;omega
 refine jF J z A X ?_;unfold Ka;refine dS W K ?_;have f1:Fm (λc=>c=e) H (H.put e (aB 0 [iN ((max d lv))])):=(Fm.refl _ _).put _ _ om;refine Ok.ve (zm0 M (k:=j) N om q O) ?_;rintro _ a ⟨rfl,f2⟩;have n2:H.nx<=a.nx:=om;have Y:a.get e=aB 0 [iN ((max d lv))]:=(f2.keep om).trans (gX _ _ _);have i:∀c,c<H.nx->c≠e->a.get c=H.get c:=om;have B:=(i fb om om).trans K;refine dI B ?_;unfold Hi;have r:=(i nb om om).trans J;have D:=(i vb om om).trans f.v;have n:=i b om om;have Z:cB (a.get b) o=.val (uN kd):=by rw[n];exact t.at' 0 g3
 have r1:cB (a.get b) (o+1)=.val (.str E.n E.a):=by rw[n];exact t.at' 1 g3
 have r2:cB (a.get b) (o+2)=.val (.str F.n F.a):=by rw[n];exact t.at' 2 g3
 have r3:cB (a.get b) (o+3)=.val s:=by rw[n];exact t.at' 3 g3
 refine lW r z Z r1 r2 ?_;have hlt:∀c,In nv c->c<H.nx:=λc g=>f.gl.lt g;have g2:Gl 5 ((Hp.mk (a.put fb (aB 0 [iN 0])).t (a.nx+18)).put (a.nx+15) (aB 0 [uN kd,.str E.n E.a,.str F.n F.a,.aA,.bool neg])) nv I.length (I.flatMap uZ):=by
  refine f.gl.keep om λc g z=>?_
  grind
 obtain⟨v,L,g3,q3,G,n3⟩:=g2.append (k:=1) (w:=72) (x:=[uN kd,.str E.n E.a,.str F.n F.a,.aA,.bool neg]) om rfl om om;simp only[nq]at L g3 q3 n3 G;refine Ok.vH L ?_;have p:∀c,c<a.nx->c≠fb->¬In nv c->v.get c=a.get c:=λc h1 h2 U=>by
  refine(G.get c om U).trans ?_
  grind
 have f33:v.get fb=aB 0 [iN 0]:=by
  refine(G.get fb om (u _ om)).trans ?_
  grind
 have rl:=(p nb om om (u _ om)).trans r;have d33:=(p e om om (u _ om)).trans Y;have v33:=(p vb om om (u _ om)).trans D;have hb3:=om;have to:cB (v.get b) (o+3)=.val s:=om;refine gW rl to q ?_;refine S _ _ (max d lv) ⟨gX _ _ _,?_,?_,?_,om,?_,?_⟩ om ⟨show H.nx<=v.nx by omega,λc g V=>?_⟩ ?_
 ·grind
 ·grind
 ·grind
 ·rw[nj,nt,AJ];exact g3.keep om λc g _=>by
   obtain⟨_,_,_,_,g⟩:=g
   grind
 ·rintro c ⟨_,_,_,_,g⟩
  grind
 ·unfold ff at V
  grind
 ·rintro c ⟨_,_,_,_,g⟩
  grind
theorem zcg(B:1<=j){nb fb:Nat}{l:List NE}{d:Nat}(a:gQ H nb n fb vb (I++[⟨kd,E,F,[],.aA,neg⟩]++l) nv d){x:AV}{xs:List Nat}(D:Gl 1 H x xs.length (aJ xs))(p:∀c,In x c->¬In nv c):Ok (oM (C j) (.ptr nb 0) (iN (I.length)) x H) λr H'=>r=.bool true/\∃q,gQ H' nb n fb vb (I++(⟨kd,E,F,xs,q,neg⟩::l)) nv d/\Gl 1 H' q xs.length (aJ xs)/\(∀c,In q c->In x c)/\Fm (In nv) H H':=by
 unfold oM;obtain⟨w,e,y,_,i⟩:=Iq (k:=j) B D;have s:=a.n;have v:=wK (Gl.flat a.gl) 63;have t:I.length<(I++[(⟨kd,E,F,[],.aA,neg⟩:NE)]++l).length:=g3;obtain⟨b,o,H',z,A,g,f,nx⟩:=a.gl.set1 t (j:=3) om w;rw[zyv w _ I.length ⟨kd,E,F,[],.aA,neg⟩ g3,my]at g;obtain⟨to,G,lo,J⟩:=a.o;have rl:∀c,c<=vb->¬In nv c:=λc u h=>by have:=a.nin c h;omega
 have fin:gQ H' nb n fb vb (I++(⟨kd,E,F,xs,w,neg⟩::l)) nv d:=by
  refine⟨om,(f.get _ om om).trans a.d,(f.get _ om om).trans a.f,(f.get _ om om).trans a.v,om,?_,a.nin⟩;have:(I++([(⟨kd,E,F,[],w,neg⟩:NE)]++l)).flatMap uZ=(I++(⟨kd,E,F,xs,w,neg⟩::l)).flatMap uZ:=by simp[uZ]
  grind
 have m:=y.fm f λc u=>p c (i c u);refine dI s ?_;refine Ok.vH e ?_;rcases y.is with⟨h,_⟩|⟨_,_,_,_,_,h,_⟩
 ·subst h;refine jF s v z A ?_;exact Ok.ret ⟨rfl,_,fin,m,i,f⟩
 ·subst h;refine jF s v z A ?_;exact Ok.ret ⟨rfl,_,fin,m,i,f⟩
structure PO(nb db fb vb:Nat)(S0:Nat->Prop)(H0 H:Hp)(nv xa:AV)(lo ln:List NE)(done:List Nat)(d:Nat):Prop where
 wk:gQ H nb db fb vb (lo++ln) nv d
 fm:Fm S0 H0 H
 nw:∀c,In nv c->H0.nx<=c
 xl:Gl 1 H xa done.length (aJ done)
 xw:∀c,In xa c->H0.nx<=c/\¬In nv c
 d8:d<=8
 ar:∀e∈ln,e.Ar (λc=>H0.nx<=c/\¬In nv c/\¬In xa c) H
def PV(C:Nat->Ev.Call)(f:Fo):Prop:=
 ∀(j:Nat),f.depth+2<=j->∀(nb db fb vb:Nat) (S0:Nat->Prop) (H0:Hp) (b o lv kd n i:Nat) (rl to:SS) (av:AV) (pre rest:List AV) (neg:Bool) (H:Hp) (nv xa:AV) (lo ln:List NE) (done:List Nat) (d:Nat) (qr:pD) (q:pD) (Q:pL) (k:Nat),n-i<k->n=i+f.len->done.length=i->n<=1000 ->
  (lo++ln).length+f.size<=32->lv+f.depth<=8->(∀c,S0 c->nb<=c)->S0 nb->S0 db->S0 fb->vb<H0.nx->pR H0 b o [uN kd,.str rl.n rl.a,.str to.n to.a,av]->b<nb->Gl 4 H0 av n (pre++rest)->pre.length=i*4->(∀b,In av b->b<nb)->iM (· < nb) H0 f rest->f.Rt Nm->PO nb db fb vb S0 H0 H nv xa lo ln done d ->
  (∀wO xa' H' ln' d',PO nb db fb vb S0 H0 H' wO xa' lo (ln++ln') (done++f.ixs (lo++ln).length) d'->ln'.map NE.key=f.jC (lo++ln).length->Ok (q xa' H') Q) ->
  Ok (jb (C j) qr q (.ptr b o) (iN lv) (.bool neg) (.ptr nb 0) (.ptr vb 0) (iN n) k xa (iN i) H) Q
theorem TK(B:iO C)(D:PV C h){k:Nat}(V:h.depth+3<=k):aYE C h k:=by
 obtain⟨j,rfl⟩:∃m,k=m+1:=⟨k-1,om⟩;intro b o lv kd rl to N neg H nb v fb vb lo nv d ca q x y z s i O P t Q R;rw[lk (MG ..)];unfold te;obtain⟨X,Y,Z,S⟩:=q.o;have M:=Fo.jA h;refine q0e B om q x z.bF O y om om R λH' w E F n G I=>?_;rw[dD];refine D j om nb v fb vb (ff nb v fb nv) H b o lv kd h.len 0 rl to N [] ca neg H' w .aA (lo++[⟨kd,rl,to,[],.aA,neg⟩]) [] [] E _ _ _ bT lf om rfl om g2 t (λc a=>?_) (.inl rfl) (.inr om) (.inr om) S x y z rfl s i P ⟨om,G,I,Gl.nil 1 H',λc a=>absurd a (bt c),n,om⟩ λp J W K L f g=>?_
 ·rcases a with a|a|a|a
  ·omega
  ·omega
  ·omega
  ·have:=q.nin c a;omega
 ·simp only[au,DN]at f g;have l:(lo++[(⟨kd,rl,to,[],.aA,neg⟩:NE)]).length=lo.length+1:=g3;rw[l]at f g;refine(zcg (j:=j) om f.wk f.xl λc i=>(f.xw c i).2).mono ?_;rintro r H3 ⟨rfl,x',T,U,e2,A⟩;refine⟨rfl,_,p,L,T,?_,?_,f.d8,f.fm.then A λc i a=>by have:=f.nw c a;omega,f.nw⟩
  ·rw[og,g];simp[NE.key,Fo.jC]
  ·intro e u;rcases lE4.1 u with rfl|u
   ·exact⟨U,λc i=>f.xw c om⟩
   ·exact(f.ar e u).fm A om om
theorem zbe(hN:iO C):∀f:Fo,PV C f:=by
 intro f
 induction f with
 |nil=>intro j hj nb J fb vb S0 H0 b o lv kd n i rl to V pre u neg H nv xa lo l done d qr q Q k hk hn D W K X s1 s2 s3 s4 Y h4 hb hg hp L z hr t hq;obtain⟨k,rfl⟩:∃m,k=m+1:=⟨k-1,om⟩;show Ok (jc (C j) _ _ _ _ _ _ _ _ (jb (C j) _ _ _ _ _ _ _ _ k) _ _ H) Q;unfold jc;simp only[Fo.len]at hn;have I:¬i<n:=om;refine dI I ?_;exact hq nv xa H [] d (by simpa [Fo.ixs] using t) rfl
 |cons k1 r1 t1 a r iha ihr=>
  intro j hj nb J fb vb S0 H0 b o lv kd n i rl to V pre u neg H nv xa lo l done d qr q Q k hk hn D W K X s1 s2 s3 s4 Y h4 hb hg hp L z hr t hq;obtain⟨k,rfl⟩:∃m,k=m+1:=⟨k-1,om⟩;show Ok (jc (C j) _ _ _ _ _ _ _ _ (jb (C j) _ _ _ _ _ _ _ _ k) _ _ H) Q;unfold jc;simp only[Fo.len]at hn;simp only[Fo.depth]at hj X;simp only[Fo.size]at K;have I:i<n:=om;refine dI I ?_;unfold Hj;have B:=t.wk;obtain⟨o1,o2,o3,o4⟩:=B.o;have e0:=B.n;have hl:=B.gl.bF;refine dS e0 hl ?_;have fp:Fm No H (aH H (aB 0 [iN ((lo++l).length)])):=fm;obtain⟨s,e2,g2,q2,f2,n2⟩:=(t.xl.no fp).append (k:=1) (w:=8) (x:=[iN ((lo++l).length)]) om rfl om om;simp only[np]at n2;rw[D]at e2 g2;refine Ok.veE e2 ?_;have n0:=t.fm.nx;have Z:Fm (In xa) H s:=om;have iF:Fm S0 H0 s:=t.fm.then Z λc z h=>by have:=(t.xw c h).1;omega
  have kx:∀c,c<H0.nx->s.get c=H.get c:=λc z=>Z.get c om λh=>by have:=(t.xw c h).1;omega
  have T:pR s b o [uN kd,.str rl.n rl.a,.str to.n to.a,V]:=h4.keep iF.nx (iF.get b h4.lt λh=>by have:=s1 b h;omega);have g02:Gl 4 s V n (pre++u):=om;have c02:iM (· < nb) s (.cons k1 r1 t1 a r) u:=z.dR iF om;obtain⟨_,b1,p1,M,ca,cr,i1,i2,i3,i4,_,i5,c1,c2,c3,c4,i6⟩:=g02.rule hp c02;have b1n:=L b1 i3;have I2:gQ s nb J fb vb (lo++l) nv d:=⟨om,(kx _ om).trans B.d,(kx _ om).trans B.f,(kx _ om).trans B.v,om,B.gl.fm Z λc z h=>(t.xw c h).2 z,B.nin⟩;have v2:=I2.v;have r0:cB (s.get b) o=.val (uN kd):=T.at' 0 g3;have r3:cB (s.get b) (o+3)=.val V:=T.at' 3 g3;have a4:pR s b1 p1 [uN k1,.str r1.n r1.a,.str t1.n t1.a,M]:=⟨i2,λm hm=>i6 m _ (j0 hm)⟩;have O:∀ng:Bool,Ok (C j (.f 283) [.ptr b1 p1,iN ((lv+1)),.bool ng,.ptr nb 0,.ptr J 0,.ptr fb 0,.ptr vb 0] s) _:=λng=>TK hN iha (k:=j) om b1 p1 (lv+1) k1 r1 t1 M ng s nb J fb vb (lo++l) nv d ca I2 a4 b1n c1 c2 c3 hr.one hr.2.1 om om t.d8;have fin:∀(A:Hp) (g:List NE) (p:AV) (G:Nat),gQ A nb J fb vb (lo++l++g) p G->g.map NE.key=(Fo.cons k1 r1 t1 a .nil).jC (lo++l).length->(∀e∈g,e.Ar (λc=>s.nx<=c/\¬In p c) A)->G<=8->Fm (ff nb J fb nv) s A->(∀c,In p c->s.nx<=c) ->
    Ok (jb (C j) qr q (.ptr b o) (iN lv) (.bool neg) (.ptr nb 0) (.ptr vb 0) (iN n) k (.sl (aH H (aB 0 [iN ((lo++l).length)])).nx 0 (i+1) (i+1) false) (iN ((i+1))) A) Q:=by
   intro A g p G xB v E F N y;have U:∀b,In (.sl (aH H (aB 0 [iN ((lo++l).length)])).nx 0 (i+1) (i+1) false) b->b=H.nx+1:=λb h=>by
    obtain⟨_,_,_,_,h⟩:=h
    grind
   have l3:g.length=1+a.size:=by have:=congrArg List.length v;rw[vu,Fo.kI]at this;rw[this];simp only[Fo.size];omega
   refine ihr j om nb J fb vb S0 H0 b o lv kd n (i+1) rl to V (pre++[uN k1,r1.v,t1.v,M]) cr neg A p _ lo (l++g) (done++[(lo++l).length]) G qr q Q k om om (by simp[D]) W (by simp at K ⊢;omega) om s1 s2 s3 s4 Y h4 hb (by rw[i5]at hg;simpa using hg) (by simp[hp];omega) L ?_ hr.2.2 ⟨by rw[<-sR];exact xB,iF.then N λc z h=>?_,λc h=>by have:=y c h;omega,?_,λc h=>?_,F,λe P=>?_⟩ λnv4 xa4 H4 ln4 d4 hI4 R=>?_
   ·obtain⟨_,_,cr',e1,_,_,_,e5⟩:=z
    grind
   ·rcases h with h|h|h|h
    ·grind
    ·grind
    ·grind
    ·have:=t.nw c h;omega
   ·have:(done++[(lo++l).length]).length=i+1:=by simp[D]
    rw[this];have e:aJ (done++[(lo++l).length])=aJ done++[iN ((lo++l).length)]:=by simp[aJ]
    rw[e];exact g2.fm N λc z h=>by
     have:=U c z;rcases h with h|h|h|h
     ·omega
     ·omega
     ·omega
     ·have:=B.gl.lt h;omega
   ·grind
   ·rcases lAJ.1 P with P|P
    ·refine((t.ar e P).fm (Q:=λc=>c<H.nx/\H0.nx<=c/\¬In nv c) Z (om) λc hl S=>⟨hl,S.1,S.2.1⟩).fm N (λc _ S h=>?_) λc _ S=>⟨S.2.1,λh=>by have:=y c h;omega,λh=>by have:=U c h;omega⟩;rcases h with h|h|h|h
     ·omega
     ·omega
     ·omega
     ·grind
    ·exact(E e P).fm om (λ_ _ _ h=>h) om
   ·have l4:(lo++(l++g)).length=(lo++l).length+1+a.size:=by simp[l3];omega
    rw[l4]at hI4 R;refine hq nv4 xa4 H4 (g++ln4) d4 ?_ ?_
    ·have:(done++[(lo++l).length])++r.ixs ((lo++l).length+1+a.size)=done++(Fo.cons k1 r1 t1 a r).ixs (lo++l).length:=by simp[Fo.ixs]
     grind
    ·rw[AO,v,R];simp[Fo.jC]
  cases neg
  ·by_cases h6:kd=6
   ·have h6t:=ae h6;refine lW v2 r0 r3 h6t i1 ?_;refine Ok.iC (O (decide (i=1))) ?_;rintro _ A ⟨rfl,g,p,G,xB,v,E,F,N,y⟩;refine aS ?_;unfold tU;refine aS ?_
    grind
   ·refine lW v2 r0 r3 h6 i1 ?_;refine Ok.iC (O false) ?_;rintro _ A ⟨rfl,g,p,G,xB,v,E,F,N,y⟩;refine aS ?_;unfold tU;refine aS ?_
    grind
  ·refine jF v2 r0 r3 i1 ?_;refine Ok.iC (O true) ?_;rintro _ A ⟨rfl,g,p,G,xB,v,E,F,N,y⟩;refine aS ?_;unfold tU;refine aS ?_
   grind
structure Fo.Ok1(f:Fo):Prop where
 one:f.len=1
 rt:f.Rt Nm
 dp:f.depth<=8
 sz:f.size<=32
theorem Gc(B:iO C){k:Nat}(J:12<=k)(D:pR H b 0 cs)(i:iM P H h cs)(m:h.Ok1):Ok (C k (.f 249) [.ptr b 0] H) λv H'=>∃(nv:AV) (p:List NE) (d:Nat),v=.aX [nv,iN d,iN 0]/\Gl 5 H' nv p.length (p.flatMap uZ)/\p.map NE.key=h.jC 0/\(∀e∈p,e.Ar (λc=>H.nx<=c/\¬In nv c) H')/\(∀c,In nv c->H.nx<=c)/\Fm No H H':=by
 obtain⟨j,rfl⟩:=aO J;rw[lk (Rj ..)];unfold PC;refine aS ?_;obtain⟨kd,rl,to,a,T,ca,rfl,rfl,g1,g2,g3⟩:=i.one m.one;generalize A:(aH ((aH (aH (aH H (aB 0 [.aA])) (aB 0 [iN 0])) (aB 0 [iN 0])).put (H.nx+1+1) (aB 0 [iN 0])) (aB 0 [.iV])).put (H.nx+1+1+1) (aB 0 [.fn 283 [] [.ptr H.nx 0,.ptr (H.nx+1) 0,.ptr (H.nx+1+1) 0,.ptr (H.nx+1+1+1) 0]])=H1;have q:Fm No H H1:=by rw[<-A];(repeat(first|exact Fm.refl _ _|assumption|refine Fm.push ?_ _|refine Fm.up2 ?_ (by go_size)|refine Fm.aN ?_ _ _ om))
 have k0:H1.get H.nx=aB 0 [.aA]:=om;have L:H1.get (H.nx+1)=aB 0 [iN 0]:=om;have k2:H1.get (H.nx+1+1)=aB 0 [iN 0]:=om;have k3:H1.get (H.nx+1+1+1)=aB 0 [.fn 283 [] [.ptr H.nx 0,.ptr (H.nx+1) 0,.ptr (H.nx+1+1) 0,.ptr (H.nx+1+1+1) 0]]:=om;have M:gQ H1 H.nx (H.nx+1) (H.nx+1+1) (H.nx+1+1+1) [] .aA 0:=⟨k0,L,k2,k3,om,Gl.nil 5 _,λc f=>absurd f (bt c)⟩;have N:=m.dp;have O:=m.sz;simp only[Fo.depth,Fo.size]at N O;refine Ok.ve (TK B (zbe B a) (k:=j) (by omega) b 0 1 kd rl to T false H1 _ _ _ _ [] .aA 0 ca M (D.fm q) D.lt (g1.no q) (λc i=>g1.lt i) ((g3.mono (Q:=λc=>c<H.nx) λc f _=>f).fm q) m.rt.one m.rt.2.1 (by omega) (by simp;omega) (by omega)) ?_;rintro _ r ⟨rfl,l,nv,d,g,o,z,U,V,W⟩;have Z:=om;have s:=g.n;have t:=g.d;have R:=g.f;refine aS ?_;unfold JO;refine dI R ?_;unfold JP;obtain⟨w,e,X,_,Y⟩:=Yh (k:=j) om g.gl;have n:=wK (Gl.flat g.gl) 63;refine dS s t ?_;refine Ok.vH e ?_;have fA:Fm No H r:=q.then V λc i f=>by
  rcases f with f|f|f|⟨_,_,_,_,f⟩
  ·omega
  ·omega
  ·omega
  ·cases f
 have S:∀c,In w c->H.nx+4<=c:=om;have E:∀(x y:cZ),Gl 5 ((r.put H.nx x).put (H.nx+1) y) w l.length (l.flatMap uZ):=om;have F:∀(x y:cZ),Fm No H ((r.put H.nx x).put (H.nx+1) y):=om;have G:∀(x y:cZ),∀e∈l,e.Ar (λc=>H.nx<=c/\¬In w c) ((r.put H.nx x).put (H.nx+1) y):=λx y e K=>by
  have u:=z e K;refine⟨u.gl.keep (AF _) λc i _=>?_,λc i=>?_⟩
  ·have:=(u.nw c i).1;rw[jR _ _ _ _ om,jR _ _ _ _ om]
  ·have:=u.nw c i;exact⟨om,om⟩
 have I:∀c,In w c->H.nx<=c:=om;rcases X.is with⟨f,_⟩|⟨_,_,_,_,_,f,_⟩
 ·subst f;refine gW s t n ?_;exact Ok.ret ⟨_,l,d,rfl,E _ _,o,G _ _,I,F _ _⟩
 ·subst f;refine gW s t n ?_;exact Ok.ret ⟨_,l,d,rfl,E _ _,o,G _ _,I,F _ _⟩
theorem zm1(m:iO C){k:Nat}(n:13<=k)(f:iM P H h cs)(i:h.Ok1):Ok (C k (.f 234) [.agg cs] H) λv H'=>∃(nv:AV) (b:List NE),v=.aX [nv,iN 0]/\Gl 5 H' nv b.length (b.flatMap uZ)/\b.map NE.key=h.jC 0/\(∀e∈b,e.Ar (λc=>H.nx<=c/\¬In nv c) H')/\(∀c,In nv c->H.nx<=c)/\Fm No H H':=by obtain⟨j,rfl⟩:=aO n;rw[lk (Rk ..)];unfold PG;obtain⟨kd,rl,to,a,t,ca,q,g,_⟩:=f.one i.one;have p:Fm No H (aH H (aB 0 cs)):=fm;have O:=Gc m (k:=j) om (pR.push (H:=H) (cs:=cs)) (f.fm p) i;subst g;refine aS ?_;refine Ok.ve O ?_;rintro _ H1 ⟨nv,l,d,rfl,g1,r,s,u,w⟩;refine aS ?_;exact Ok.ret ⟨nv,l,rfl,g1,r,λe o=>(s e o).fm (Fm.refl No H1) (om) om,om,om⟩
theorem L8(g:iO C){k:Nat}(f:13<=k)(c:iM P H h cs)(e:h.Ok1):Ok (C k (.f 201) [.agg cs] H) λv H'=>v=iN 0/\Fm No H H':=by obtain⟨j,rfl⟩:=aO f;rw[lk (Q0 ..)];unfold PA;obtain⟨kd,rl,to,a,n,ca,m,b,_⟩:=c.one e.one;have i:Fm No H (aH H (aB 0 cs)):=fm;have O:=Gc g (k:=j) om (pR.push (H:=H) (cs:=cs)) (c.fm i) e;subst b;refine aS ?_;refine Ok.ve O ?_;rintro _ H1 ⟨nv,l,d,rfl,_,_,_,_,o⟩;refine aS ?_;exact Ok.ret ⟨rfl,om⟩
end Go.Di
end
