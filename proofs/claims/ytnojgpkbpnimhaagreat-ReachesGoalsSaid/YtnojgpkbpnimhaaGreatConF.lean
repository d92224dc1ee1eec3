/-
 For ReachesGoals: functions in direct style, their contracts, and the plain mathematics, part 6 of 11. No conditions beyond those that each theorem states.
-/
import Derived.Test.YtnojgpkbpnimhaaGreatConA
import Derived.Test.YtnojgpkbpnimhaaGreatConE
import Derived.Test.YtnojgpkbpnimhaaGreatConD
import Derived.Test.YtnojgpkbpnimhaaGreatEv4
import Derived.Sort.AssemblyPlain
import Derived.Test.YtnojgpkbpnimhaaGreatConC
import Derived.KernelRfl
set_option linter.unusedSimpArgs false
set_option linter.unusedVariables false
open Nat renaming reduceAdd->rB,reduceMul->rI,reduceSub->rK,reduceLeDiff->rL,reduceEqDiff->rN,reduceShiftRight->rS,reduceAnd->r6
section
namespace Go.Di
open Go.Ev
variable {H H' Hb:Hp} {N b gb m n sb:Nat} {X:List aQ} {g:aQ} {nv sv:AV}
theorem zt6(nm n a:Nat):nV nm (.str n a)=.new (.ptr nm 0) (aB 0 [.str n a]):=id rfl
theorem zt7(nm n a:Nat):nV nm (.ptr n a)=.new (.ptr nm 0) (aB 0 [.ptr n a]):=id rfl
attribute [go_sem] zt6 zt7
theorem qk2{j:Nat}(G:2<=j){Hb:Hp}{ib:Nat}{sv nv:AV}{X:List aQ}(r:bY Hb sv X)(t:IdR Hb ib sv X)(c:dB X)(s:SS){l:List (Nd×AV)}(v:Rs 5 kR Hb nv l)(f:l.length<=1000)(d:∀ y∈l,(y.1.k=2\/y.1.k=3->(s,y.1.rl)∈aF X)/\(y.1.k=3->iZ X s y.1.rl y.1.to≠[])){Q:pL}{q:pD}{qr:AV->pD}(w:∀ H,Fm No Hb H->Ok (q (.bool (l.any fun y=>decide (y.1.k=1))) H) Q):∀(k i:Nat) (u:Bool) (H:Hp),i<=l.length->l.length-i<k->Fm No Hb H->u=((l.take i).any fun y=>decide (y.1.k=1))->Ok (qwq (C j) qr q (.ptr ib 0) (.str s.n s.a) nv (iN (l.length)) k (.bool u) (iN i) H) Q
 |0,i,_,_,_,h,_,_=>om
 |k+1,i,u,H,hi,hk,hf,hu=>by
  show Ok (zec (C j) _ _ _ _ _ _ (qwq (C j) _ _ _ _ _ _ k) _ _ H) Q;unfold zec;by_cases b:i<l.length
  ·simp only[go_sem,b];unfold zeb;have K:=v.fm hf;obtain⟨S,T,F,U,_,p,_⟩:=K.at' i b;unfold kR SS.v at p;have z:=d _ (lg b);have m:Fm No H ((aI H (aB 0 [uN 0,zS,zS,.aA,.bool false])).put H.nx (aB 0 [uN (l[i].1.k),.str l[i].1.rl.n l[i].1.rl.a,.str l[i].1.to.n l[i].1.to.a,l[i].2,.bool l[i].1.neg])):=by exact kP
   obtain⟨H1,a⟩:∃ H1,H1=(aI H (aB 0 [uN 0,zS,zS,.aA,.bool false])).put H.nx (aB 0 [uN (l[i].1.k),.str l[i].1.rl.n l[i].1.rl.a,.str l[i].1.to.n l[i].1.to.a,l[i].2,.bool l[i].1.neg]):=⟨_,rfl⟩;rw[<-a]at m;have pb:H1.get H.nx=aB 0 [uN (l[i].1.k),.str l[i].1.rl.n l[i].1.rl.a,.str l[i].1.to.n l[i].1.to.a,l[i].2,.bool l[i].1.neg]:=by rw[a];exact dN _ _ _
   have L:H.nx<H1.nx:=by rw[a];simp only[np,nq];omega
   have e:=(t.fm hf).fm m;have I:((l.take (i+1)).any fun y=>decide (y.1.k=1))=(((l.take i).any fun y=>decide (y.1.k=1))||decide (l[i].1.k=1)):=by rw[lh b,lAP];simp
   have fin:∀ g,Fm No H1 g->Ok (q05 (C j) (qwq (C j) qr q (.ptr ib 0) (.str s.n s.a) nv (iN (l.length)) k) (.bool u) (.ptr H.nx 0) (iN i) g) Q:=fun g x=>by
    unfold q05;have M:=(x.keep L).trans pb;cases u with
    |true=>unfold qln;refine aT ?_;exact qk2 G r t c s v f d w k (i+1) true g om om (hf.trans (m.trans x)) (by rw[I,<-hu];rfl)
    |false=>simp only[go_sem,M];unfold qln;refine aT ?_;exact qk2 G r t c s v f d w k (i+1) _ g om om (hf.trans (m.trans x)) (by rw[I,<-hu];rfl)
   by_cases q2:l[i].1.k=2
   ·have A:=yt q2;obtain⟨P,y,_,o,_⟩:=qhx (k:=j) om e c.al c.sp (z.1 (.inl q2));have q3:¬ l[i].1.k=3:=om;rw[a]at o;refine nI F p A q3 o ?_;rw[<-a];exact fin H1 (Fm.refl _ _)
   ·by_cases q3:l[i].1.k=3
    ·have B:=yt q3;have n:=z.1 (.inr q3);obtain⟨P,y,_,o,_⟩:=qhx (k:=j) om e c.al c.sp n;have N:=qqo (k:=j) om ((r.fm hf).fm m) c.pr.sml e c.al c.sp s l[i].1.rl l[i].1.to n;rw[a]at o;refine nI F p B q2 o ?_;rw[<-a];refine Ok.ve N ?_;intro tv R J;have D:=J.bM;have E:¬(iZ X s l[i].1.rl l[i].1.to).length=0:=fun h=>z.2 q3 (tu.1 h);simp only[go_sem,D,E];exact fin R J.fm
    ·refine jD F p q2 q3 ?_;rw[<-a];exact fin H1 (Fm.refl _ _)
  ·simp only[go_sem,b];have O:i=l.length:=om;rw[O,um]at hu;rw[hu];exact w H hf
theorem zun{k:Nat}(e:3<=k){ib:Nat}(f:bY H sv X)(g:IdR H ib sv X)(h:dB X)(s:SS){l:List (Nd×AV)}(d:Rs 5 kR H nv l)(a:l.length<=1000)(b:∀ y∈l,(y.1.k=2\/y.1.k=3->(s,y.1.rl)∈aF X)/\(y.1.k=3->iZ X s y.1.rl y.1.to≠[])):Ok (C k (.f 238) [.ptr ib 0,.str s.n s.a,nv] H) fun r H'=>r=.bA [.bool (l.any fun y=>decide (y.1.k=1)),iN 0]/\Fm No H H':=by obtain⟨j,rfl⟩:=aP e;rw[lk (zpq ..)];unfold zCz z0g;have c:=d.len;simp only[go_sem,c];unfold zv9;rw[dD];refine qk2 om f g h s d a b (fun m i=>?_) bZ 0 false H (gp _) lf (Fm.refl _ _) rfl;exact Ok.ret ⟨rfl,i⟩
theorem q8j{j:Nat}(x:1<=j){Hb:Hp}{nv:AV}{l:List (Nd×AV)}(r:Rs 5 kR Hb nv l)(n:l.length<=1000){s:SS}{sb:Nat}(t:Hb.get sb=aB 0 [.str s.n s.a])(d:sb<Hb.nx){Q:pL}{q:pH}{qr:pD}(u:∀ i H,l.any (fun y=>iA 3 s y.1)=true->Fm No Hb H->Ok (qr (iN i) H) Q)(z:∀ H,l.any (fun y=>iA 3 s y.1)=false->Fm No Hb H->Ok (q H) Q):∀(k i:Nat) (H:Hp),i<=l.length->l.length-i<k->Fm No Hb H->(l.take i).any (fun y=>iA 3 s y.1)=false->Ok (qwp (C j) qr q nv (.fn 257 [] [.ptr sb 0]) (iN (l.length)) k (iN i) H) Q
 |0,i,_,_,h,_,_=>om
 |k+1,i,H,hi,hk,hf,hn=>by
  show Ok (zd0 (C j) _ _ _ _ _ (qwp (C j) _ _ _ _ _ k) _ H) Q;unfold zd0;obtain⟨m,rfl⟩:∃ m,j=m+1:=⟨j-1,om⟩;by_cases a:i<l.length
  ·simp only[go_sem,a];unfold zv0;have A:=r.fm hf;obtain⟨F,G,E,I,_,w,_⟩:=A.at' i a;unfold kR SS.v at w;have e:=(hf.keep d).trans t;have B:=hf.nx;simp only[go_sem,E,w];rw[lk (zpd ..)];unfold zDn zz6;have v:Fm No H (aI H (aB 0 [uN (l[i].1.k),.str l[i].1.rl.n l[i].1.rl.a,.str l[i].1.to.n l[i].1.to.a,l[i].2,.bool l[i].1.neg])):=by exact jF
   have o:(l.take (i+1)).any (fun y=>iA 3 s y.1)=iA 3 s l[i].1:=by rw[lh a,lAP,hn];simp
   have b:iA 3 s l[i].1=false->Ok (kQ (C (m+1)) (qwp (C (m+1)) qr q nv (.fn 257 [] [.ptr sb 0]) (iN (l.length)) k) (iN i) (aI H (aB 0 [uN (l[i].1.k),.str l[i].1.rl.n l[i].1.rl.a,.str l[i].1.to.n l[i].1.to.a,l[i].2,.bool l[i].1.neg]))) Q:=fun c=>by unfold kQ;refine aT ?_;exact q8j x r n t d u z k (i+1) _ om om (hf.trans v) (by rw[o,c])
   by_cases q3:l[i].1.k=3
   ·have f:=yt q3;by_cases g:l[i].1.rl.n=s.n/\l[i].1.rl.a=s.a
    ·have p:=yt g;have c:iA 3 s l[i].1=true:=by unfold iA;rw[qc q3,qc ((oD _ _).2 g)];rfl
     refine iG f e p ?_;exact u i _ (dC.2 ⟨_,lg a,c⟩) (hf.trans v)
    ·have c:iA 3 s l[i].1=false:=by unfold iA;rw[ql (fun h=>g ((oD _ _).1 h))];simp
     refine iG f e g ?_;exact b c
   ·have c:iA 3 s l[i].1=false:=by unfold iA;rw[ql q3];simp
    refine eP q3 ?_;exact b c
  ·simp only[go_sem,a];have D:i=l.length:=om;rw[D,um]at hn;simp_all
theorem qz2{k:Nat}(n:3<=k){l:List (Nd×AV)}(d:Rs 5 kR H nv l)(a:l.length<=1000){s:SS}(m:H.get sb=aB 0 [.str s.n s.a])(b:sb<H.nx):Ok (C k (.f 256) [nv,.fn 257 [] [.ptr sb 0]] H) fun r H'=>r=.bool (l.any fun y=>iA 3 s y.1)/\Fm No H H':=by
 obtain⟨j,rfl⟩:∃ j,k=j+1+1:=⟨k-2,om⟩;rw[lk (zpc ..)];unfold zDo zz5;simp only[go_sem];rw[lk (zo8 ..)];unfold zDs zz2;have c:=d.len;simp only[go_sem,c];unfold zv1;rw[dD];refine Ok.ve (R:=fun r H'=>Fm No H H'/\((l.any (fun y=>iA 3 s y.1)=true/\∃ i,r=iN i)\/(l.any (fun y=>iA 3 s y.1)=false/\r=.int .i64 (.negSucc 0)))) (q8j om d a m b (fun i e h f=>Ok.ret ⟨f,.inl ⟨h,i,rfl⟩⟩) (fun e h f=>?_) bZ 0 H (gp _) lf (Fm.refl _ _) rfl) ?_
 ·unfold qT;exact Ok.ret ⟨f,.inr ⟨h,rfl⟩⟩
 ·rintro r e ⟨g,⟨h,i,rfl⟩|⟨h,rfl⟩⟩
  ·simp only[go_sem,gp];exact Ok.ret ⟨by rw[h],g⟩
  ·simp only[go_sem];exact Ok.ret ⟨by rw[h],g⟩
theorem qk0{x:bB}(h:oJ H x):∃ c0 b c d,x.cs=[c0,b,c,d]/\gP x=[.str x.r.name.n x.r.name.a,x.tv,c0,b,c,d]:=by obtain⟨c0,b,c,d,a⟩:=h.ru.four;exact⟨c0,b,c,d,a,by unfold gP;rw[a];rfl⟩
theorem zmw(m:iQ C){k:Nat}(n:14<=k){x:bB}(e:oJ H x)(g:x.r.rule.Rt){s:SS}(o:H.get sb=aB 0 [.str s.n s.a])(a:sb<H.nx):Ok (C k (.f 255) [.agg (gP x),.ptr sb 0] H) fun r H'=>r=.bool (gK x.r.rule 3 s)/\Fm No H H':=by
 obtain⟨j,rfl⟩:=aP n;rw[lk (zpj ..)];unfold zDg z0b;obtain⟨c0,q,t,u,c,d⟩:=qk0 e;rw[d];have f:Fm No H (aI H (aB 0 [.str x.r.name.n x.r.name.a,x.tv,c0,q,t,u])):=by exact jF
 have h:=e.ru.fm f;rw[c]at h;refine aT ?_;refine Ok.ve (qqp m (k:=j) om h g) ?_;rintro _ w ⟨nv,l,rfl,b,i⟩;have p:l.length<=32:=by have:=congrArg List.length i;simp only[pz,qby]at this;have:=g.sz;omega
 refine Ok.ve (qz2 (k:=j) om (b.rs r9) om (s:=s) ((b.fm.keep (show sb<(aI H _).nx by simp only[np,nq];omega)).trans ((f.keep a).trans o)) (ku a (rq f.nx b.fm.nx))) ?_;rintro _ y ⟨rfl,v⟩;refine Ok.ret ⟨?_,f.trans (b.fm.trans v)⟩;unfold gK;rw[<-i,lE9];rfl
theorem q7v(m:iQ C){j:Nat}(n:14<=j){Hb:Hp}{g:aQ}(p:SpR Hb g)(e:g.gs.length<=16)(r:∀ x∈g.gs,x.r.rule.Rt){s:SS}{sb:Nat}(t:Hb.get sb=aB 0 [.str s.n s.a])(c:sb<Hb.nx){Q:pL}{q:pH}{qr:pD}(d:∀ i H,g.gs.any (fun x=>gK x.r.rule 3 s)=true->Fm No Hb H->Ok (qr (iN i) H) Q)(y:∀ H,g.gs.any (fun x=>gK x.r.rule 3 s)=false->Fm No Hb H->Ok (q H) Q):∀(k i:Nat) (H:Hp),i<=g.gs.length->g.gs.length-i<k->Fm No Hb H->(g.gs.take i).any (fun x=>gK x.r.rule 3 s)=false->Ok (q5h (C j) qr q g.rv (.fn 255 [] [.ptr sb 0]) (iN (g.gs.length)) k (iN i) H) Q
 |0,i,_,_,h,_,_=>om
 |k+1,i,H,hi,hk,hf,hn=>by
  show Ok (zd3 (C j) _ _ _ _ _ (q5h (C j) _ _ _ _ _ k) _ H) Q;unfold zd3;by_cases a:i<g.gs.length
  ·simp only[go_sem,a];unfold zv3;have u:=p.fm hf;obtain⟨b,o,z,_,_,_,_,A⟩:=u.at' i a;have f:=lg a;simp only[go_sem,z,A];refine Ok.ve (zmw m n (u.rel _ f) (r _ f) ((hf.keep c).trans t) (ku c hf.nx)) ?_;rintro _ D ⟨rfl,v⟩;have l:(g.gs.take (i+1)).any (fun x=>gK x.r.rule 3 s)=gK g.gs[i].r.rule 3 s:=by
    rw[lh a,lAP,hn];simp
   cases w:gK g.gs[i].r.rule 3 s with
   |true=>exact d i _ (dC.2 ⟨_,f,w⟩) (hf.trans v)
   |false=>unfold kQ;refine aT ?_;exact q7v m n p e r t c d y k (i+1) _ om om (hf.trans v) (by rw[l,w])
  ·simp only[go_sem,a];have B:i=g.gs.length:=om;simp_all
theorem zm8(l:iQ C){k:Nat}(n:17<=k)(e:SpR H g)(b:g.gs.length<=16)(m:∀ x∈g.gs,x.r.rule.Rt)(s:SS):Ok (C k (.f 240) [.agg [.str g.name.n g.name.a,g.rv],.str s.n s.a] H) fun r H'=>r=.bool (g.gs.any fun x=>gK x.r.rule 3 s)/\Fm No H H':=by
 obtain⟨j,rfl⟩:∃ j,k=j+1+1+1:=⟨k-3,om⟩;rw[lk (zpp ..)];unfold zDa z0f;refine aT ?_;have f:Fm No H (aI (aI H (aB 0 [.str g.name.n g.name.a,g.rv])) (aB 0 [.str s.n s.a])):=by exact qO
 rw[lk (zpi ..)];unfold zDh z0a;simp only[go_sem];rw[lk (zpb ..)];unfold zDp zz4;have d:=e.len;simp only[go_sem,d];unfold zv4;rw[dD];refine Ok.ve (R:=fun r H'=>r=.bool (g.gs.any fun x=>gK x.r.rule 3 s)/\Fm No H H') (Ok.ve (R:=fun r H'=>Fm No H H'/\((g.gs.any (fun x=>gK x.r.rule 3 s)=true/\∃ i,r=iN i)\/(g.gs.any (fun x=>gK x.r.rule 3 s)=false/\r=.int .i64 (.negSucc 0)))) (q7v l (j:=j) om (e.fm f) b m (s:=s) (sb:=H.nx+1) g5 gz (fun i c h a=>Ok.ret ⟨f.trans a,.inl ⟨h,i,rfl⟩⟩) (fun c h a=>?_) bZ 0 _ (gp _) lf (Fm.refl _ _) rfl) ?_) ?_
 ·unfold qT;exact Ok.ret ⟨f.trans a,.inr ⟨h,rfl⟩⟩
 ·rintro r c ⟨a,⟨h,i,rfl⟩|⟨h,rfl⟩⟩
  ·simp only[go_sem,gp];exact Ok.ret ⟨by rw[h],a⟩
  ·simp only[go_sem];exact Ok.ret ⟨by rw[h],a⟩
 ·rintro _ c ⟨rfl,a⟩;exact Ok.ret ⟨rfl,a⟩
structure RlI(H:Hp)(X:List aQ)(g:aQ)(x:bB)(sv:AV)(ib n A0 A1 AR A2:Nat)(q:Nat×Nat):Prop where
 qM:bY H sv X
 id:IdR H ib sv X
 mem:g∈X/\x∈g.gs
 a0:H.get A0=aB 0 [.ptr ib 0]
 a1:H.get A1=aB 0 [.str g.name.n g.name.a,g.rv]
 ar:H.get AR=aB 0 [.ptr q.1 q.2]
 a2:H.get A2=aB 0 [iN n]
 lt:A0<H.nx/\A1<H.nx/\AR<H.nx/\A2<H.nx
 pt:PtR H q x
 nu:cB X g.name x.r.name=n
theorem RlI.fm{x:bB}{ib n a b c d:Nat}{q:Nat×Nat}(h:RlI H X g x sv ib n a b c d q)(f:Fm No H H'):RlI H' X g x sv ib n a b c d q:=by obtain⟨e,l1,i,l3⟩:=h.lt;have:=f.nx;exact⟨h.qM.fm f,h.id.fm f,h.mem,(f.keep e).trans h.a0,(f.keep l1).trans h.a1,(f.keep i).trans h.ar,(f.keep l3).trans h.a2,⟨om,om,om,om⟩,h.pt.fm f,h.nu⟩
theorem z2o{k:Nat}(i:1<=k){x:bB}{ib n b c d e:Nat}{q:Nat×Nat}(h:RlI H X g x sv ib n b c d e q):C k (.f 234) [.ptr b 0,.ptr c 0,.ptr d 0,.ptr e 0] H=.ok (iN 0) H:=by obtain⟨j,rfl⟩:=aP i;rw[lk (zp3 ..)];unfold zCj z0r;have l:=h.a0;have m:=h.a1;have o:=h.ar;have p:=h.a2;have r:=h.pt.nm;obtain⟨mb,nb,s,iv,t,g1,g2,g3,_⟩:=h.id.ex;have f:=g3.aNC (iN 0) g.name x.r.name (qd0.2 ⟨g,h.mem.1,x,h.mem.2,rfl,rfl⟩);have a:(List.findIdx (fun q=>decide (q=(g.name,x.r.name))) (aF X))=n:=h.nu;rw[a]at f;refine siH l m o p r g1 f ?_;rfl
theorem z2n{k:Nat}(e:4<=k){x:bB}{ib n b f c i:Nat}{q:Nat×Nat}(h:RlI H X g x sv ib n b f c i q)(a:dB X):Ok (C k (.f 235) [.ptr b 0,.ptr c 0] H) fun r H'=>r=iN 0/\Fm No H H':=by obtain⟨j,rfl⟩:=aP e;rw[lk (zp2 ..)];unfold zCk z0q;have l:=h.a0;have m:=h.ar;simp only[go_sem,l,m];have d:=a.ty _ h.mem.1 _ h.mem.2;refine Ok.ve (zm6 (k:=j) om h.id a h.pt ((h.qM.sp _ h.mem.1).rel _ h.mem.2) (a.pr.x _ h.mem.1 _ h.mem.2).1 d.1 d.2) ?_;rintro _ p ⟨rfl,o⟩;exact Ok.ret ⟨rfl,o⟩
theorem z2m{k:Nat}(t:4<=k){x:bB}{ib n o p v w c a:Nat}{q:Nat×Nat}(h:RlI H X g x sv ib n o p v w q)(d:dB X){l:List (Nd×AV)}(z:Rs 5 kR H nv l)(b:l.map Prod.fst=x.r.rule.nodes false)(e:H.get c=aB 0 [nv]){u:Bool}(f:H.get a=aB 0 [.bool u])(i:a<H.nx):Ok (C k (.f 237) [.ptr o 0,.ptr p 0,.ptr c 0,.ptr a 0] H) fun r H'=>r=iN 0/\∃ H1,Fm No H H1/\H'=H1.put a (aB 0 [.bool ((x.r.rule.nodes false).any fun y=>decide (y.k=1))]):=by
 obtain⟨j,rfl⟩:=aP t;rw[lk (zp1 ..)];unfold zCl z0p;have B:=h.a0;have D:=h.a1;simp only[go_sem,B,D,e];have E:l.length<=32:=by have:=congrArg List.length b;simp only[pz,qby]at this;have:=(d.pr.x _ h.mem.1 _ h.mem.2).2.2.1.sz;omega
 refine Ok.ve (zun (k:=j) om h.qM h.id d g.name z om fun y A=>?_) ?_
 ·exact d.nd _ h.mem.1 _ h.mem.2 y.1 (by rw[<-b];exact xu A)
 rintro _ F ⟨rfl,s⟩;have m:=(s.keep i).trans f;simp only[go_sem,m];refine Ok.ret ⟨rfl,F,s,?_⟩;rw[<-b,lE9];rfl
theorem z2l(v:iQ C){k:Nat}(w:18<=k){x:bB}{ib n z s t A c:Nat}{q:Nat×Nat}(h:RlI H X g x sv ib n z s t A q)(f:dB X)(a:H.get c=aB 0 [.bool ((x.r.rule.nodes false).any fun y=>decide (y.k=1))]):Ok (C k (.f 239) [.ptr c 0,.ptr t 0,.ptr s 0] H) fun r H'=>r=iN 0/\Fm No H H':=by
 obtain⟨j,rfl⟩:=aP w;rw[lk (zp0 ..)];unfold zCm z0o;have D:=h.a1;have i:=h.ar;have E:=h.pt.nm;have l:=h.pt.tv;have d:=h.qM.sp _ h.mem.1;have m:=((d.rel _ h.mem.2).ty).len;have u:=f.us _ h.mem.1 _ h.mem.2;cases e:(x.r.rule.nodes false).any fun y=>decide (y.k=1)with
 |true=>rw[e]at a;have o:¬ x.r.types.length=0:=fun b=>u.1 e (tu.1 b);simp only[go_sem,a,i,l,m,o];exact Ok.ret ⟨rfl,Fm.refl _ _⟩
 |false=>
  rw[e]at a;by_cases b:0<x.r.types.length
  ·have p:=u.2 e (fun h=>by rw[h]at b;exact absurd b g3);refine siH a i l m b D E ?_;refine Ok.iD (zm8 v (k:=j) om d (f.pr.r _ h.mem.1).1 (fun y B=>(f.pr.x _ h.mem.1 y B).2.2.1) x.r.name) ?_;rintro _ G ⟨rfl,F⟩;rw[p];simp only[go_sem];exact Ok.ret ⟨rfl,F⟩
  ·simp only[go_sem,a,i,l,m,b];exact Ok.ret ⟨rfl,Fm.refl _ _⟩
theorem sf2(O:Ev.Call)(qr:pD)(q:pH)(a b:AV)(n:Nat):q5t O qr q a b (n+1)=qn6 O qr q a b (q5t O qr q a b n):=rfl
theorem zmp(f:FuncId)(x y:List AV):uQ (.fn f x y)=some [.fn f x y]:=id rfl
attribute [go_sem] zmp
theorem z9c{k:Nat}(u:1<=k){g h i l:FuncId}{n o p c4:List AV}(c:H.get b=aB 0 [.fn g [] n,.fn h [] o,.fn i [] p,.fn l [] c4]){R1' R2' R3' a:Hp->Prop}(v:Ok (C (k-1) (.f g) n H) fun r H'=>r=iN 0/\R1' H')(g1:∀ H',R1' H'->H'.get b=H.get b)(w:∀ H1,R1' H1->Ok (C (k-1) (.f h) o H1) fun r H'=>r=iN 0/\R2' H')(g2:∀ H',R2' H'->H'.get b=H.get b)(x:∀ H1,R2' H1->Ok (C (k-1) (.f i) p H1) fun r H'=>r=iN 0/\R3' H')(g3:∀ H',R3' H'->H'.get b=H.get b)(y:∀ H1,R3' H1->Ok (C (k-1) (.f l) c4 H1) fun r H'=>r=iN 0/\a H'):Ok (C k (.f 233) [.sl b 0 4 4 true] H) fun r H'=>r=iN 0/\a H':=by obtain⟨j,rfl⟩:=aP u;rw[lk (zpz ..)];unfold zCn z0n;simp only[go_sem];unfold zwj;obtain⟨m,z⟩:∃ m,bZ=m+5:=⟨999995,by rw[wH]⟩;rw[dD,z,sf2];unfold qn6;unfold qn5;refine eP c ?_;refine Ok.ve v ?_;rintro _ H1 ⟨rfl,q⟩;unfold kQ;rw[sf2];unfold qn6;unfold qn5;have d:=(g1 _ q).trans c;refine eP d ?_;refine Ok.ve (w _ q) ?_;rintro _ B ⟨rfl,s⟩;unfold kQ;rw[sf2];unfold qn6;unfold qn5;have e:=(g2 _ s).trans c;refine eP e ?_;refine Ok.ve (x _ s) ?_;rintro _ D ⟨rfl,t⟩;unfold kQ;rw[sf2];unfold qn6;unfold qn5;have f:=(g3 _ t).trans c;refine eP f ?_;refine Ok.ve (y _ t) ?_;rintro _ E ⟨rfl,A⟩;unfold kQ;rw[sf2];unfold qn6;exact Ok.ret ⟨rfl,A⟩
theorem qz1(O:iQ C){k:Nat}(E:20<=k){x:bB}{ib n:Nat}(F:bY H sv X)(G:IdR H ib sv X)(s:dB X)(hn:(d9 X)[n]? =some (g.name,x))(p:g∈X/\x∈g.gs):Ok (C k (.f 208) [.ptr ib 0,.agg [.str g.name.n g.name.a,g.rv],iN n] H) fun r H'=>r=iN 0/\Fm No H H':=by
 obtain⟨j,rfl⟩:=aP E;rw[lk (zqd ..)];unfold zBv z0y;obtain⟨mb,nb,av,iv,w,g1,g2,g3,g4,g5,g6,g7,g8,Y,_⟩:=G.ex;have o:n<(d9 X).length:=by
  rcases cu n (d9 X).length with h|h
  ·exact h
  ·simp_all
 have A:(d9 X)[n]=(g.name,x):=by simp_all
 have I:=Y n om o;rw[A]at I;obtain⟨Z,o1,e1,e2,_,_,e4⟩:=g4.at' n om;have T:bX (H.get Z) o1=.val (.ptr (w[n]'om).1 (w[n]'om).2):=e4 0 (by rw[qvb];omega);have il:=G.lt;simp(disch:=first|go_size|omega)only[go_sem,seval,g1,e1,T];have U:=s.pr.x _ p.1 _ p.2;generalize m:(((Hp.mk (aI (aI (aI H (aB 0 [.ptr ib 0])) (aB 0 [.str g.name.n g.name.a,g.rv])) (aB 0 [iN n])).t (H.nx+1+1+1+9)).put (H.nx+1+1+1+7) (aB 0 [.bJ])).put (H.nx+1+1+1+7) (aB 0 [.ptr (w[n]'om).1 (w[n]'om).2]))=Ha;have v:Fm No H Ha:=by rw[<-m];exact(((((Fm.refl No H).push _).push _).push _).up2 (n:=H.nx+1+1+1+9) om).aG _ _ om |>.aG _ _ om
 have na:Ha.nx=H.nx+12:=by rw[<-m];rfl
 have P:RlI Ha X g x sv ib n H.nx (H.nx+1) (H.nx+1+1+1+7) (H.nx+1+1) (w[n]'om):=by
  refine⟨F.fm v,G.fm v,p,?_,?_,?_,?_,⟨om,om,om,om⟩,I.fm v,?_⟩
  ·rw[<-m];simp(disch:=first|omega|exact ti rfl|simp only[np,nq];first|done|omega)only[go_sem]
  ·rw[<-m];simp(disch:=first|omega|exact ti rfl|simp only[np,nq];first|done|omega)only[go_sem]
  ·rw[<-m];exact dN _ _ _
  ·rw[<-m];simp(disch:=first|omega|exact ti rfl|simp only[np,nq];first|done|omega)only[go_sem]
  ·obtain⟨y,_,hy⟩:=qda s.al s.sp (qd0.2 ⟨g,p.1,x,p.2,rfl,rfl⟩);have B:=qpy s.al (i:=n) (by rw[<-uV,pz];exact o);have E:(aF X)[n]'(by rw[<-uV,pz];exact o)=(g.name,x.r.name):=by
    have Q:(aF X)[n]? =some (kq (d9 X)[n]):=by rw[<-uV,xy,lq o];rfl
    rw[lq (by rw[<-uV,pz];exact o),A]at Q;exact Option.some.inj Q
   rw[E]at B;exact B
 have V:=(I.fm v).ru;obtain⟨c0,c1,c2,c3,hcs,_⟩:=qk0 ((F.sp _ p.1).rel _ p.2);have W:=(((F.sp _ p.1).rel _ p.2).ru).fm v;simp only[go_sem,V];refine Ok.ve (qqp O (k:=j) om W U.2.2.1) ?_;rintro _ a ⟨nv,l,rfl,D,hl⟩;have n2:=D.fm.nx;obtain⟨c,d⟩:∃ c,c=aI ((aI ((aI a (aB 0 [.aA])).put a.nx (aB 0 [nv])) (aB 0 [.bool false])).put (a.nx+1) (aB 0 [.bool false])) (aB 0 [.fn 234 [] [.ptr H.nx 0,.ptr (H.nx+1) 0,.ptr (H.nx+1+1+1+7) 0,.ptr (H.nx+1+1) 0],.fn 235 [] [.ptr H.nx 0,.ptr (H.nx+1+1+1+7) 0],.fn 237 [] [.ptr H.nx 0,.ptr (H.nx+1) 0,.ptr a.nx 0,.ptr (a.nx+1) 0],.fn 239 [] [.ptr (a.nx+1) 0,.ptr (H.nx+1+1+1+7) 0,.ptr (H.nx+1) 0]]):=⟨_,rfl⟩;have R:Fm No a c:=by rw[d];repeat first|exact Fm.refl _ _|assumption|refine Fm.push ?_ _|refine Fm.aG ?_ _ _ om
 have nf:c.nx=a.nx+3:=by rw[d];rfl
 have J:c.get a.nx=aB 0 [nv]:=by rw[d];simp(disch:=first|go_size|omega)only[go_sem]
 have K:c.get (a.nx+1)=aB 0 [.bool false]:=by rw[d];simp(disch:=first|go_size|omega)only[go_sem]
 have L:c.get (a.nx+1+1)=aB 0 [.fn 234 [] [.ptr H.nx 0,.ptr (H.nx+1) 0,.ptr (H.nx+1+1+1+7) 0,.ptr (H.nx+1+1) 0],.fn 235 [] [.ptr H.nx 0,.ptr (H.nx+1+1+1+7) 0],.fn 237 [] [.ptr H.nx 0,.ptr (H.nx+1) 0,.ptr a.nx 0,.ptr (a.nx+1) 0],.fn 239 [] [.ptr (a.nx+1) 0,.ptr (H.nx+1+1+1+7) 0,.ptr (H.nx+1) 0]]:=by rw[d];simp(disch:=go_size)only[go_sem]
 have t:Fm No Ha c:=D.fm.trans R;have u:=P.fm t;have M:Rs 5 kR c nv l:=(D.rs r9).fm R;have q:Ok (C j (.f 233) [.sl (a.nx+1+1) 0 4 4 true] c) fun r H'=>r=iN 0/\∃ b,Fm No c b/\Fm No (b.put (a.nx+1) (aB 0 [.bool ((x.r.rule.nodes false).any fun y=>decide (y.k=1))])) H':=by
  refine z9c (k:=j) om L (R1':=fun H'=>H'=c) (R2':=fun H'=>Fm No c H') (R3':=fun H'=>∃ b,Fm No c b/\H'=b.put (a.nx+1) (aB 0 [.bool ((x.r.rule.nodes false).any fun y=>decide (y.k=1))])) ?_ ?_ ?_ ?_ ?_ ?_ ?_
  ·rw[z2o om u];exact Ok.ret ⟨rfl,rfl⟩
  ·simp
  ·rintro _ rfl;exact z2n om u s
  ·intro H' f;exact f.keep om
  ·intro H1 z;exact z2m om (u.fm z) s (M.fm z) hl ((z.keep om).trans J) ((z.keep om).trans K) (by have:=z.nx;omega) |>.mono fun r H' ⟨e,b,f,h⟩=>⟨e,b,z.trans f,h⟩
  ·rintro _ ⟨b,fm,rfl⟩;rw[dO _ _ _ _ om];exact fm.keep om
  ·rintro _ ⟨b,fm,rfl⟩;have N:RlI (b.put (a.nx+1) (aB 0 [.bool ((x.r.rule.nodes false).any fun y=>decide (y.k=1))])) X g x sv ib n H.nx (H.nx+1) (H.nx+1+1+1+7) (H.nx+1+1) (w[n]'om):=P.fm ((t.trans fm).aG _ _ om);exact(z2l O om N s (dN _ _ _)).mono fun r H' ⟨e,f⟩=>⟨e,b,fm,f⟩
 have done:∀ r H',r=AV.int .i64 (.ofNat 0)/\(∃b,Fm No c b/\Fm No (b.put (a.nx+1) (aB 0 [.bool ((x.r.rule.nodes false).any fun y=>decide (y.k=1))])) H')->Ok (.ok r H') fun r H'=>r=iN 0/\Fm No H H':=fun r H' ⟨e,b,f,S⟩=>
  Ok.ret ⟨e,(((v.trans t).trans f).aG (a.nx+1) _ om).trans S⟩
 rcases D.gl.is with⟨h,_⟩|⟨_,_,_,_,_,h,_⟩
 ·subst h;simp(disch:=first|omega|exact ti rfl)only[go_sem,seval];simp(disch:=first|go_size|omega)only[go_sem,rB,rI,rK,rL,rN,rS,r6];rw[<-d];exact Ok.ve q done
 ·subst h;simp(disch:=first|omega|exact ti rfl)only[go_sem,seval];simp(disch:=first|go_size|omega)only[go_sem,rB,rI,rK,rL,rN,rS,r6];rw[<-d];exact Ok.ve q done
theorem q8a{s i:Nat}(b:s<X.length)(a:i<X[s].gs.length):(d9 X)[(dI X s).length+i]? =some (X[s].name,X[s].gs[i]):=by obtain⟨Z,h⟩:=zj1 b a;rw[h,uh g2];simp[yu (zo a)]
theorem qst(f:iQ C){j:Nat}(g:20<=j){sv:AV}{X:List aQ}{ib pb:Nat}{Hb:Hp}(l:bY Hb sv X)(m:IdR Hb ib sv X)(c:dB X){s:Nat}(d:s<X.length)(n:Hb.get pb=aB 0 [.str X[s].name.n X[s].name.a,X[s].rv])(b:pb<Hb.nx){Q:pL}{q:pD}{qr:pD}(o:∀ H,Fm No Hb H->Ok (q (iN (((dI X s).length+X[s].gs.length))) H) Q):∀(k i:Nat) (H:Hp),i<=X[s].gs.length->X[s].gs.length-i<k->Fm No Hb H->Ok (qtr (C j) qr q (.ptr ib 0) (.ptr pb 0) (iN (X[s].gs.length)) k (iN (((dI X s).length+i))) (iN i) H) Q
 |0,i,_,_,h,_=>om
 |k+1,i,H,hi,hk,hf=>by
  show Ok (q10 (C j) _ _ _ _ _ (qtr (C j) _ _ _ _ _ k) _ _ H) Q;unfold q10;have v:=c.pr.len;have p:=q79 X s;by_cases a:i<X[s].gs.length
  ·have r:=(c.pr.r _ (lg d)).1;simp only[go_sem,a];unfold zfw;have e:=(hf.keep b).trans n;simp only[go_sem,e];refine Ok.ve (qz1 f g (l.fm hf) (m.fm hf) c (q8a d a) ⟨lg d,lg a⟩) ?_;rintro _ t ⟨rfl,u⟩;unfold zfx;unfold vN;refine aT ?_;exact qst f g l m c d n b o k (i+1) t om om (hf.trans u)
  ·simp only[go_sem,a];have w:i=X[s].gs.length:=om;simp_all
theorem qzi(f:iQ C){j:Nat}(g:20<=j){sv:AV}{X:List aQ}{ib:Nat}{Hb:Hp}(l:bY Hb sv X)(m:IdR Hb ib sv X)(b:dB X){Q:pL}{q:pH}{qr:pD}(n:∀ H,Fm No Hb H->Ok (q H) Q):∀(k s:Nat) (H:Hp),s<=X.length->X.length-s<k->Fm No Hb H->Ok (qwv (C j) qr q (.ptr ib 0) sv (iN (X.length)) k (iN ((dI X s).length)) (iN s) H) Q
 |0,i,_,_,h,_=>om
 |k+1,s,H,hi,hk,hf=>by
  show Ok (zfy (C j) _ _ _ _ _ (qwv (C j) _ _ _ _ _ k) _ _ H) Q;unfold zfy;have x:=b.pr.n;by_cases a:s<X.length
  ·simp only[go_sem,a];unfold zfv;have c:=l.fm hf;obtain⟨y,z,w,A,_,o,_⟩:=c.rs.at' s a;unfold yA SS.v at o;have d:=c.sp _ (lg a);have t:=d.len;have u:=(b.pr.r _ (lg a)).1;refine iG w o t ?_;have e:Fm No H ((aI H (aB 0 [zS,.aA])).put H.nx (aB 0 [.str X[s].name.n X[s].name.a,X[s].rv])):=by exact kP
   unfold zfz;rw[dD];refine qst f g (c.fm e) ((m.fm hf).fm e) b a (pb:=H.nx) (dN _ _ _) gz (fun p r=>?_) bZ 0 _ (gp _) lf (Fm.refl _ _);unfold q1y;refine aT ?_;have v:(dI X s).length+X[s].gs.length=(dI X (s+1)).length:=by unfold dI d9;rw[lh a,qy,ry,lL,pz]
   rw[v];exact qzi f g l m b n k (s+1) p om om ((hf.trans e).trans r)
  ·simp only[go_sem,a];exact n H hf
theorem qqm(i:iQ C){k:Nat}(p:21<=k)(l:bY H sv X)(a:dB X):Ok (C k (.f 172) [.agg [sv]] H) fun r H'=>r=iN 0/\Fm No H H':=by
 obtain⟨j,rfl⟩:=aP p;rw[lk (zqq ..)];unfold zBj z07;refine aT ?_;have f:Fm No H (aI H (aB 0 [sv])):=by exact jF
 refine Ok.ve (zm7 i (k:=j) om (l.fm f) a.pr) ?_;rintro _ H1 ⟨rfl,e⟩;unfold zft;have t:=e.nx;simp only[np]at t;have m:H1.get H.nx=aB 0 [sv]:=(e.keep gx).trans (jG _ _);simp only[go_sem,seval,m];have b:=(l.fm f).fm e;refine Ok.ve (zm4 (k:=j) om b a.pr a.al a.sp) ?_;rintro _ u ⟨ib,rfl,o,h⟩;have k2:=(h.keep om).trans m;have c:=b.fm h;obtain⟨mb,nb,y,iv,z,g1,g2,_⟩:=o.ex;have g:=g2.len;have d:=c.rs.len;have w:=a.pr.n;simp only[go_sem,g1,g,k2,d,xx];unfold zfu;simp only[go_sem,k2,d];unfold zwq;rw[dD];have x:(0:Nat)=(dI X 0).length:=by unfold dI d9;simp
 have n:=qzi i (j:=j) om c o a (Q:=fun r H'=>r=iN 0/\Fm No H H') (q:=fun H=>jW (C j) H) (qr:=fun x2 H=>.ok x2 H) (fun v s=>by exact Ok.ret ⟨rfl,((f.trans e).trans h).trans s⟩) bZ 0 u (gp _) lf (Fm.refl _ _);trivial
theorem qql(p:iQ C){k:Nat}(s:22<=k)(l:bY H sv X)(c:dB X)(a b to:SS)(d:(a,b)∈aF X)(i:iZ X a b to≠[]):Ok (C k (.f 126) [.agg [sv],.str a.n a.a,.str b.n b.a,.str to.n to.a] H) fun r H'=>∃ tv,r=.bA [tv,iN 0]/\Ac 1 sC H H' tv (iZ X a b to):=by
 obtain⟨j,rfl⟩:=aP s;rw[lk (zqn ..)];unfold zBm z05;refine aT ?_;have f:Fm No H (aI H (aB 0 [sv])):=by exact jF
 refine Ok.ve (qqm p (k:=j) om (l.fm f) c) ?_;rintro _ H1 ⟨rfl,g⟩;unfold zfs;have y:=g.nx;have t:H1.get H.nx=aB 0 [sv]:=(g.keep gx).trans (jG _ _);simp only[go_sem,t];have e:=(l.fm f).fm g;refine Ok.ve (zm4 (k:=j) om e c.pr c.al c.sp) ?_;rintro _ z ⟨ib,rfl,m,n⟩;obtain⟨q,x,_,w,_⟩:=qhx (k:=j) om m c.al c.sp d;simp only[go_sem,w];refine Ok.ve (qqo (k:=j) om (e.fm n) c.pr.sml m c.al c.sp a b to d) ?_;intro tv A o;have u:=o.bM;have v:¬(iZ X a b to).length=0:=fun h=>i (tu.1 h);simp only[go_sem,u,v];exact Ok.ret ⟨tv,rfl,o.trans ((f.trans g).trans n)⟩
theorem zk1(p q:SS×SS):dQ (fun xs a=>qcx p1 ⟨bL⟩ 1 xs a 2 0) (kyP p) (kyP q)=some (decide (p=q)):=qvz p q
theorem iT.aHa{ps:List (SS×SS)}(h:iT H b ps)(z:AV)(x y:SS)(a:(x,y)∈ps):nR ⟨dQ fun xs c=>qcx p1 ⟨bL⟩ 1 xs c 2 0,some 2⟩ z false H (.map b) (.agg [.str x.n x.a,.str y.n y.a])=.val (iN ((ps.findIdx fun q=>decide (q=(x,y))))):=by have:=h.look (s:=some 2) zk1 (fun _=>rfl) z false (x,y);rw[qj a]at this;exact this
theorem iT.bAC{ps:List (SS×SS)}(h:iT H b ps)(x y:SS)(a:(x,y)∉ps):∃k,kL ⟨dQ fun xs c=>qcx p1 ⟨bL⟩ 1 xs c 2 0,some 2⟩ H (.map b) (.agg [.str x.n x.a,.str y.n y.a]) (iN (ps.length))=.ok .undef (H.put b k)/\iT (H.put b k) b (ps++[(x,y)]):=
 h.upd (s:=some 2) zk1 (fun _=>rfl) a
structure tN(Hb:Hp)(jN:AV)(H:Hp)(gb N:Nat)(ev:AV)(es:List Edge):Prop where
 blk:H.get gb=aB 0 [iN N,ev]
 lt:gb<Hb.nx
 gl:Gl 3 H ev es.length (es.flatMap Edge.cells)
 fm:Fm (fun c=>c=gb\/In jN c) Hb H
 nw:∀ c,In ev c->In jN c\/Hb.nx<=c
 nin:∀ c,In ev c->gb<c
theorem tN.no{jN a:AV}{es:List Edge}(h:tN Hb jN H gb N a es)(f:Fm No H H'):tN Hb jN H' gb N a es:=
 ⟨(f.keep (ku h.lt h.fm.nx)).trans h.blk,h.lt,h.gl.no f,h.fm.then f fun _ _ h=>absurd h id,h.nw,h.nin⟩
theorem tN.base{jN a:AV}{es:List Edge}(h:tN Hb jN H gb N a es)(f:Fm No H H'):tN H' a H' gb N a es:=
 ⟨(f.keep (ku h.lt h.fm.nx)).trans h.blk,ku h.lt (rq h.fm.nx f.nx),h.gl.no f,Fm.refl _ _,fun _ h=>.inl h,h.nin⟩
theorem tN.comp{Hb H H1 g:Hp}{jN i a:AV}{es b:List Edge}(h:tN Hb jN H gb N i es)(f:Fm No H H1)(d:tN H1 i g gb N a b):tN Hb jN g gb N a b:=
 ⟨d.blk,h.lt,d.gl,(h.fm.then f fun _ _ h=>absurd h id).then d.fm fun c j e=>by
  rcases e with e|e
  ·omega
  ·rcases h.nw c e with h|h
   ·exact .inr h
   ·omega,fun c j=>by
  have l:=h.fm.nx;have m:=f.nx;rcases d.nw c j with k|k
  ·exact h.nw c k
  ·exact .inr om,d.nin⟩
structure ToR(X:List aQ)(g:aQ)(x:bB)(y:Nd×AV)(nb mb pb rb yb:Nat)(H:Hp):Prop where
 n:H.get nb=aB 0 [.map mb]
 m:iT H mb (aF X)
 p:H.get pb=aB 0 [.str g.name.n g.name.a,g.rv]
 r:∃ c1 c2 c3 c4 c5,H.get rb=aB 0 [.str x.r.name.n x.r.name.a,c1,c2,c3,c4,c5]
 y:H.get yb=aB 0 (kR y)
theorem z19{k:Nat}(D:1<=k){jN l:AV}{es:List Edge}(e:tN Hb jN H gb N l es)(E:es.length<=1000000){x:bB}{y:Nd×AV}{nb mb pb rb v:Nat}(i:ToR X g x y nb mb pb rb v H)(f:(g.name,x.r.name)∈aF X){a b:SS}(m:(a,b)∈aF X)(P:(aF X).length<=256):Ok (C k (.f 189) [.str a.n a.a,.str b.n b.a,.ptr gb 0,.ptr nb 0,.ptr pb 0,.ptr rb 0,.ptr v 0] H) fun _ H'=>∃ o,tN Hb jN H' gb N o (es++[⟨cB X g.name x.r.name,cB X a b,y.1.neg⟩]):=by
 obtain⟨j,rfl⟩:=aP D;rw[lk (zqo ..)];unfold zBl z06;have e0:=e.blk;have F:=i.n;have G:=i.p;obtain⟨S,T,U,c4,c5,L⟩:=i.r;have z:=i.y;have I:=i.m.aHa (iN 0) g.name x.r.name f;have J:=i.m.aHa (iN 0) a b m;have Q:(List.findIdx (fun q=>decide (q=(g.name,x.r.name))) (aF X))=cB X g.name x.r.name:=rfl;have R:(List.findIdx (fun q=>decide (q=(a,b))) (aF X))=cB X a b:=rfl;have p:nR ⟨dQ fun xs n=>qcx p1 ⟨bL⟩ 1 xs n 2 0,some 2⟩ (iN 0) false ⟨H.t,H.nx+21⟩ (.map mb) (.agg [.str g.name.n g.name.a,.str x.r.name.n x.r.name.a])=.val (iN ((cB X g.name x.r.name))):=I;have r:nR ⟨dQ fun xs n=>qcx p1 ⟨bL⟩ 1 xs n 2 0,some 2⟩ (iN 0) false ⟨H.t,H.nx+21⟩ (.map mb) (.agg [.str a.n a.a,.str b.n b.a])=.val (iN ((cB X a b))):=J;unfold kR SS.v at z;refine siH e0 F G L z p r ?_;have s:=ku e.lt e.fm.nx;have t:Fm No H ((Hp.mk H.t (H.nx+21)).put (H.nx+17) (aB 0 [iN ((cB X g.name x.r.name)),iN ((cB X a b)),.bool y.1.neg])):=fm;obtain⟨M,A,g2,_,B,O⟩:=(e.gl.no t).append (k:=1) (w:=24) (x:=Edge.cells ⟨cB X g.name x.r.name,cB X a b,y.1.neg⟩) om rfl om om;simp only[nq]at A g2 O;refine Ok.uU A ?_;have u:¬ In l gb:=fun h=>by have:=e.nin gb h;omega
 have k2:M.get gb=aB 0 [iN N,l]:=(B.get gb (show gb<H.nx+21 by omega) u).trans ((t.keep s).trans e0);simp only[go_sem,seval,k2];have K:=e.fm.nx;refine Ok.ret ⟨.sl (H.nx+21) 0 (es.length+1) (es.length+1) false,dN _ _ _,e.lt,?_,?_,?_,?_⟩
 ·rw[lL,qy,ry];refine g2.keep (lu _) fun c d _=>?_;obtain⟨_,_,_,_,d⟩:=d;injection d with d;rw[dO _ _ _ _ om]
 ·refine((e.fm.then t fun _ _ h=>absurd h id).then B fun c d h=>?_).put _ _ fun _=>.inl rfl;rcases e.nw c h with h|h
  ·exact .inr h
  ·omega
 ·rintro c ⟨_,_,_,_,d⟩;injection d with d;omega
 ·rintro c ⟨_,_,_,_,d⟩;injection d with d;omega
def eE(X:List aQ)(n:Nat)(neg:Bool)(p:SS×SS):Edge:=⟨n,cB X p.1 p.2,neg⟩
def toF(gb nb pb rb yb:Nat):AV:=.fn 189 [] [.ptr gb 0,.ptr nb 0,.ptr pb 0,.ptr rb 0,.ptr yb 0]
theorem q21(l:List jL):(tyT l).length<=l.length:=by unfold tyT;rw[pz];exact zn _ _
theorem qvv{j:Nat}(o:1<=j){Hb:Hp}{jN tv:AV}{gb N nb mb pb rb G:Nat}{X:List aQ}{g:aQ}{x:bB}{y:Nd×AV}(r:∀ H,Fm (fun c=>c=gb\/In jN c) Hb H->ToR X g x y nb mb pb rb G H)(s:∀ H,Fm (fun c=>c=gb\/In jN c) Hb H->Rs 2 tC H tv x.r.types)(f:x.r.types.length<=8)(a:(g.name,x.r.name)∈aF X)(t:(aF X).length<=256)(d:∀ p∈tyT x.r.types,p∈aF X){E:List Edge}(I:E.length<=900000){Q:pL}{q:pH}(u:∀ H e,tN Hb jN H gb N e (E++(tyT x.r.types).map (eE X (cB X g.name x.r.name) y.1.neg))->Ok (q H) Q):∀(k i:Nat) (H:Hp) (e:AV),i<=x.r.types.length->x.r.types.length-i<k->tN Hb jN H gb N e (E++(tyT (x.r.types.take i)).map (eE X (cB X g.name x.r.name) y.1.neg)) -> Ok (qt3 (C j) q (toF gb nb pb rb G) tv (iN (x.r.types.length)) k (iN i) H) Q
 |0,i,_,_,_,h,_=>om
 |k+1,i,H,e,hi,hk,hG=>by
  show Ok (q2f (C j) _ _ _ _ (qt3 (C j) _ _ _ _ k) _ H) Q;unfold q2f;by_cases b:i<x.r.types.length
  ·simp only[go_sem,b];unfold zgl;obtain⟨L,M,J,O,_,B,_⟩:=(s H hG.fm).at' i b;unfold tC SS.v at B;have m:=zrr b;have v:Fm No H ((aI H (aB 0 [zS,zS])).put H.nx (aB 0 [.str x.r.types[i].sp.n x.r.types[i].sp.a,.str x.r.types[i].rl.n x.r.types[i].rl.a])):=by exact kP
   have w:=q21 (x.r.types.take i);rw[qx]at w;by_cases n:x.r.types[i].rl.n=0/\x.r.types[i].rl.a=0
   ·have z:=yt n;rw[qj ((oD _ _).2 n),uf]at m;refine iG J B z ?_;unfold qt4;refine aT ?_;exact qvv o r s f a t d I u k (i+1) _ e om om (by rw[m];exact hG.no v)
   ·have l:¬ x.r.types[i].rl=sE:=fun h=>n ((oD _ _).1 h);rw[pg l]at m;have A:(x.r.types[i].sp,x.r.types[i].rl)∈aF X:=d _ (by
     unfold tyT;rw[uC];exact⟨x.r.types[i],by rw[xF];exact⟨lg b,by simpa using l⟩,rfl⟩)
    refine iG J B n ?_;refine Ok.ve (z19 o (hG.no v) (by rw[lL,pz];omega) (r _ (hG.no v).fm) a A t) ?_;rintro _ P ⟨D,F⟩;unfold qt4;refine aT ?_;refine qvv o r s f a t d I u k (i+1) _ D om om ?_;rw[m,ui,<-qw];exact F
  ·simp only[go_sem,b];have K:i=x.r.types.length:=om;rw[K,um]at hG;exact u H e hG
theorem q8p{j:Nat}(o:1<=j){Hb:Hp}{jN tv:AV}{gb N nb mb pb rb f:Nat}{X:List aQ}{g:aQ}{x:bB}{y:Nd×AV}(p:∀ H,Fm (fun c=>c=gb\/In jN c) Hb H->ToR X g x y nb mb pb rb f H){ts:List SS}(t:∀ H,Fm (fun c=>c=gb\/In jN c) Hb H->Rs 1 sC H tv ts)(l:ts.length<=100)(a:(g.name,x.r.name)∈aF X)(u:(aF X).length<=256)(d:∀ s∈ts,(s,y.1.to)∈aF X){E:List Edge}(w:E.length<=900000){Q:pL}{q:pH}(v:∀ H e,tN Hb jN H gb N e (E++(ts.map fun s=>(s,y.1.to)).map (eE X (cB X g.name x.r.name) y.1.neg))->Ok (q H) Q):∀(k i:Nat) (H:Hp) (e:AV),i<=ts.length->ts.length-i<k->tN Hb jN H gb N e (E++((ts.take i).map fun s=>(s,y.1.to)).map (eE X (cB X g.name x.r.name) y.1.neg)) -> Ok (qt2 (C j) q (.ptr f 0) (toF gb nb pb rb f) tv (iN (ts.length)) k (iN i) H) Q
 |0,i,_,_,_,h,_=>om
 |k+1,i,H,e,hi,hk,hG=>by
  show Ok (q2d (C j) _ _ _ _ _ (qt2 (C j) _ _ _ _ _ k) _ H) Q;unfold q2d;by_cases b:i<ts.length
  ·simp only[go_sem,b];unfold q6h;obtain⟨F,G,B,I,D⟩:=(t H hG.fm).at1 (g:=SS.v) (fun _=>rfl) b;have r:=p H hG.fm;have z:=r.y;simp only[go_sem,B,D,z];refine Ok.ve (z19 o hG (by rw[lL,pz,pz,qx];omega) r a (d ts[i] (lg b)) u) ?_;rintro _ J ⟨m,n⟩;unfold zgk;refine aT ?_;refine q8p o p t l a u d w v k (i+1) _ m om om ?_;rw[lh b,ui,ui,<-qw];exact n
  ·simp only[go_sem,b];have A:i=ts.length:=om;rw[A,um]at hG;exact v H e hG
def ndF(X:List aQ)(g:aQ)(x:bB)(y:Nd):List Edge:=(ndT X g.name x y).map (eE X (cB X g.name x.r.name) y.neg)
structure NdR(X:List aQ)(g:aQ)(x:bB)(sv nv:AV)(l:List (Nd×AV))(xb nb mb pb rb:Nat)(H:Hp):Prop where
 qM:bY H sv X
 x1:H.get xb=aB 0 [sv]
 n:H.get nb=aB 0 [.map mb]
 m:iT H mb (aF X)
 p:H.get pb=aB 0 [.str g.name.n g.name.a,g.rv]
 r:∃ c2 c3 c4 c5,H.get rb=aB 0 [.str x.r.name.n x.r.name.a,x.tv,c2,c3,c4,c5]
 nd:Rs 5 kR H nv l
theorem z3e(b:sD X){a:SS}{x:bB}(c:x.r.types.length<=100)(y:Nd):(ndT X a x y).length<=100:=by
 unfold ndT;split
 ·have:=q21 x.r.types;omega
 split
 ·simp
 split
 ·rw[pz];exact qji b _ _ _
 ·simp
theorem z3f(a:sD X){x:bB}(b:x.r.types.length<=100)(y:Nd):(ndF X g x y).length<=100:=by unfold ndF;rw[pz];exact z3e a b y
theorem q8v(hN:iQ C){j:Nat}(hj:22<=j){Hb:Hp}{jN sv nv:AV}{gb N G nb mb pb rb:Nat}{X:List aQ}(A:dB X){g:aQ}{x:bB}(t:g∈X/\x∈g.gs){l:List (Nd×AV)}(I:∀ H,Fm (fun c=>c=gb\/In jN c) Hb H->NdR X g x sv nv l G nb mb pb rb H)(J:G<Hb.nx/\nb<Hb.nx/\mb<Hb.nx/\pb<Hb.nx/\rb<Hb.nx)(W:l.length<=32)(K:l.map Prod.fst=x.r.rule.nodes false)(L:∀ y∈l,∀p∈ndT X g.name x y.1,p∈aF X){E:List Edge}(hE:E.length<=800000){Q:pL}{q:pH}(hq:∀ H o,tN Hb jN H gb N o (E++l.flatMap fun y=>ndF X g x y.1)->Ok (q H) Q):∀(k i:Nat) (H:Hp) (o:AV),i<=l.length->l.length-i<k->tN Hb jN H gb N o (E++(l.take i).flatMap fun y=>ndF X g x y.1) -> Ok (qkk (C j) q (.ptr G 0) (.ptr nb 0) (.ptr gb 0) (.ptr pb 0) (.ptr rb 0) nv (iN (l.length)) k (iN i) H) Q
 |0,i,_,_,_,h,_=>om
 |k+1,i,H,o,hi,hk,hG=>by
  show Ok (q2g (C j) _ _ _ _ _ _ _ _ (qkk (C j) _ _ _ _ _ _ _ _ k) _ H) Q;unfold q2g;obtain⟨t1,t2,t3,t4,t5⟩:=J;by_cases n:i<l.length
  ·simp only[go_sem,n];unfold q6g;have r:=I H hG.fm;obtain⟨b1,o1,V,e2,_,T,_⟩:=r.nd.at' i n;unfold kR SS.v at T;have O:=A.pr.sml;have Z:=(A.pr.x _ t.1 _ t.2).1;have m:(g.name,x.r.name)∈aF X:=qd0.2 ⟨g,t.1,x,t.2,rfl,rfl⟩;have jP:(aF X).length<=256:=by have:=A.pr.len;rw[<-uV,pz];exact this
   have D:Fm No H ((aI H (aB 0 [uN 0,zS,zS,.aA,.bool false])).put H.nx (aB 0 [uN (l[i].1.k),.str l[i].1.rl.n l[i].1.rl.a,.str l[i].1.to.n l[i].1.to.a,l[i].2,.bool l[i].1.neg])):=by exact kP
   obtain⟨H1,d⟩:∃ H1,H1=(aI H (aB 0 [uN 0,zS,zS,.aA,.bool false])).put H.nx (aB 0 [uN (l[i].1.k),.str l[i].1.rl.n l[i].1.rl.a,.str l[i].1.to.n l[i].1.to.a,l[i].2,.bool l[i].1.neg]):=⟨_,rfl⟩;rw[<-d]at D;have kb:H1.get H.nx=aB 0 (kR l[i]):=by rw[d];exact dN _ _ _
   have n1:H1.nx=H.nx+1:=by rw[d];rfl
   have e:=hG.no D;have nx0:=hG.fm.nx;have P:(E++(l.take i).flatMap fun y=>ndF X g x y.1).length<=900000:=by
    have h1:=qcf (fun y:Nd×AV=>ndF X g x y.1) 100 (l.take i) fun y _=>z3f O om _;rw[lL];have h2:(l.take i).length<=32:=by rw[qx];omega
    omega
   have next:∀ H' f,tN Hb jN H' gb N f ((E++(l.take i).flatMap fun y=>ndF X g x y.1)++ndF X g x l[i].1)->Ok (qib (C j) (qkk (C j) q (.ptr G 0) (.ptr nb 0) (.ptr gb 0) (.ptr pb 0) (.ptr rb 0) nv (iN (l.length)) k) (iN i) H') Q:=fun H' f h=>by unfold qib;refine aT ?_;refine q8v hN hj A t I ⟨t1,t2,t3,t4,t5⟩ W K L hE hq k (i+1) H' f om om ?_;rw[lh n,qy,ry,<-qw];exact h
   have p8:∀ c,In o c->c<H.nx:=fun c M=>hG.gl.lt M;have gbl:=hG.lt;have z:∀ w,Fm No H1 w->∀ H',Fm (fun c=>c=gb\/In o c) w H'->ToR X g x l[i] nb mb pb rb H.nx H':=fun w Y H' B=>by
    have ft:Fm (fun c=>c=gb\/In jN c) Hb H':=((e.fm).then Y fun _ _ h=>absurd h id).then B fun c M a=>by
     rcases a with a|a
     ·omega
     ·rcases hG.nw c a with h|h
      ·exact .inr h
      ·omega
    have U:=I H' ft;refine⟨U.n,U.m,U.p,?_,?_⟩
    ·obtain⟨c2,c3,c4,c5,h⟩:=U.r;exact⟨_,_,_,_,_,h⟩
    ·have:=Y.nx;refine(B.get H.nx om fun a=>?_).trans ((Y.keep om).trans kb);rcases a with a|a
     ·omega
     ·have:=p8 _ a;omega
   have r1:=I H1 e.fm;have u:=L _ (lg n);have b:ndF X g x l[i].1=(ndT X g.name x l[i].1).map (eE X (cB X g.name x.r.name) l[i].1.neg):=rfl;unfold ndT at u b;by_cases q1:l[i].1.k=1
   ·have q1t:=yt q1;rw[qj q1]at u b;obtain⟨c2,c3,c4,c5,hrb⟩:=r.r;have rr:=(D.keep (show rb<H.nx by omega)).trans hrb;rw[d]at rr;have hty:=((r.qM.sp _ t.1).rel _ t.2).ty;have hl:=hty.len;refine nI V T q1t rr hl ?_;unfold zgn;rw[dD,<-d];have v:=e.base (Fm.refl No H1);refine qvv om (N:=N) (Hb:=H1) (jN:=o) (y:=l[i]) (z H1 (Fm.refl _ _)) (fun H' B=>?_) Z m jP u P (fun H' f h=>?_) bZ 0 H1 o (gp _) lf ?_
    ·have ft:Fm (fun c=>c=gb\/In jN c) Hb H':=(e.fm).then B fun c M a=>by
      rcases a with a|a
      ·omega
      ·rcases hG.nw c a with h|h
       ·exact .inr h
       ·omega
     exact(((I H' ft).qM.sp _ t.1).rel _ t.2).ty
    ·refine next H' f ?_
     rw[b];exact e.comp (Fm.refl _ _) h
    ·rw[lA0];simpa [tyT] using v
   ·rw[pg q1]at u b;by_cases q2:l[i].1.k=2
    ·have q2t:=yt q2;rw[qj q2]at u b;have R:=(D.keep (show pb<H.nx by omega)).trans r.p;rw[d]at R;refine nI V T q1 q2t R ?_;rw[<-d];have v:=e.base (Fm.refl No H1);refine Ok.ve (z19 om v om (z H1 (Fm.refl _ _) H1 (Fm.refl _ _)) m (u _ ug) jP) ?_;rintro _ H3 ⟨ev3,hG3⟩;refine next H3 ev3 ?_
     rw[b];exact e.comp (Fm.refl _ _) hG3
    ·rw[pg q2]at u b;by_cases q3:l[i].1.k=3
     ·have q3t:=yt q3;rw[qj q3]at u b;have R:=(D.keep (show pb<H.nx by omega)).trans r.p;have rx:=(D.keep (show G<H.nx by omega)).trans r.x1;rw[d]at R rx;refine siH V T q1 q2 q3t R rx ?_;rw[<-d];have S:=A.nd _ t.1 _ t.2 l[i].1 (by rw[<-K];exact xu (lg n));refine Ok.ve (qql hN (k:=j) om r1.qM A g.name l[i].1.rl l[i].1.to (S.1 (.inr q3)) (S.2 q3)) ?_;rintro _ w ⟨tv,rfl,F⟩;have hl:=F.bM;simp only[go_sem,hl];unfold zgm;rw[dD];have v:=e.base F.fm;have htl:=qji O g.name l[i].1.rl l[i].1.to;refine q8p om (N:=N) (Hb:=w) (jN:=o) (y:=l[i]) (z w F.fm) (fun H' B=>(F.rs qlp).dP B fun c M a=>?_) htl m jP (fun s a=>u _ (xu a)) P (fun H' f h=>?_) bZ 0 w o (gp _) lf ?_
      ·have:=F.nw c M;rcases a with a|a
       ·omega
       ·have:=p8 c a;omega
      ·refine next H' f ?_
       rw[b];exact e.comp F.fm h
      ·simp_all
     ·rw[pg q3]at b;refine nI V T q1 q2 q3 ?_;rw[<-d];refine next H1 o ?_
      simp_all
  ·simp only[go_sem,n];have he:i=l.length:=om;rw[he,um]at hG;exact hq H o hG
theorem dB.tg(c:dB X){a b to s:SS}(h:s∈iZ X a b to):(s,to)∈aF X:=by
 unfold iZ at h;cases f:lF X a b with
 |none=>rw[f]at h;cases h
 |some x=>rw[f]at h;unfold tgL at h;rw[uC]at h;obtain⟨t,e,rfl⟩:=h;rw[xF]at e;have d:=e.2;unfold tgP at d;rw[qh,qhr c.al c.sp]at d;simp_all
theorem dB.ndt(c:dB X){x:bB}(b:g∈X/\x∈g.gs){y:Nd}(e:y∈x.r.rule.nodes false):∀ p∈ndT X g.name x y,p∈aF X:=by
 intro p a;unfold ndT at a;have f:=c.nd _ b.1 _ b.2 y e;split at a
 ·unfold tyT at a;rw[uC]at a;obtain⟨t,d,rfl⟩:=a;rw[xF]at d;rcases((c.ty _ b.1 _ b.2).2 t d.1).2 with h|h
  ·simp[h]at d
  ·exact h
 split at a
 ·simp_all
 split at a
 ·rw[uC]at a;obtain⟨s,i,rfl⟩:=a;exact c.tg i
 ·cases a
theorem qks(c:PrX X)(a b to:SS):(iZ X a b to).length<=8:=by
 unfold iZ;cases h:lF X a b with
 |none=>simp
 |some g=>refine rq (qup X to _) ?_;obtain⟨p,d,e,_,_⟩:=qci h;exact(c.x p d g e).1
theorem zs1(a:PrX X){x:bB}(b:x.r.types.length<=8)(y:Nd):(ndF X g x y).length<=8:=by
 unfold ndF ndT;rw[pz];split
 ·have:=q21 x.r.types;omega
 split
 ·simp
 split
 ·rw[pz];exact qks a _ _ _
 ·simp
def relE(X:List aQ)(g:aQ)(x:bB):List Edge:=(x.r.rule.nodes false).flatMap (ndF X g x)
theorem q70(b:PrX X){x:bB}(a:g∈X/\x∈g.gs):(relE X g x).length<=256:=by unfold relE;have c:=qcf (ndF X g x) 8 (x.r.rule.nodes false) fun y _=>zs1 b (b.x _ a.1 _ a.2).1 y;have d:=qby x.r.rule false;have e:=(b.x _ a.1 _ a.2).2.2.1.sz;omega
def goE(X:List aQ)(l:List aQ):List Edge:=l.flatMap fun g=>g.gs.flatMap (relE X g)
structure RlR(X:List aQ)(sv:AV)(xb nb mb:Nat)(H:Hp):Prop where
 qM:bY H sv X
 x1:H.get xb=aB 0 [sv]
 n:H.get nb=aB 0 [.map mb]
 m:iT H mb (aF X)
theorem q8s(D:iQ C){j:Nat}(Z:22<=j){Hb:Hp}{jN sv:AV}{gb N F nb mb pb:Nat}{X:List aQ}(m:dB X){g:aQ}(f:g∈X)(G:∀ H,Fm (fun c=>c=gb\/In jN c) Hb H->RlR X sv F nb mb H/\H.get pb=aB 0 [.str g.name.n g.name.a,g.rv])(o:F<Hb.nx/\nb<Hb.nx/\mb<Hb.nx/\pb<Hb.nx){E:List Edge}(hE:E.length<=100000){Q:pL}{q:pH}(hq:∀ H e,tN Hb jN H gb N e (E++g.gs.flatMap (relE X g))->Ok (q H) Q):∀(k i:Nat) (H:Hp) (e:AV),i<=g.gs.length->g.gs.length-i<k->tN Hb jN H gb N e (E++(g.gs.take i).flatMap (relE X g)) -> Ok (qof (C j) q (.ptr F 0) (.ptr nb 0) (.ptr gb 0) (.ptr pb 0) g.rv (iN (g.gs.length)) k (iN i) H) Q
 |0,i,_,_,_,h,_=>om
 |k+1,i,H,e,hi,hk,hG=>by
  show Ok (q2h (C j) _ _ _ _ _ _ _ (qof (C j) _ _ _ _ _ _ _ k) _ H) Q;unfold q2h;obtain⟨t1,t2,t3,t4⟩:=o;by_cases b:i<g.gs.length
  ·simp only[go_sem,b];unfold q6f;obtain⟨r,rp⟩:=G H hG.fm;have p:=r.qM.sp _ f;obtain⟨b1,o1,e1,e2,_,_,_,e6⟩:=p.at' i b;have n:=lg b;have s:=p.rel _ n;obtain⟨c0,S,T,U,V,W⟩:=qk0 s;have t:=m.pr.x _ f _ n;rw[W]at e6;have h16:=(m.pr.r _ f).1;obtain⟨H1,d⟩:∃ H1,H1=(aI H (aB 0 [zS,.aA,uN 0,zS,zS,.aA])).put H.nx (aB 0 [.str g.gs[i].r.name.n g.gs[i].r.name.a,g.gs[i].tv,c0,S,T,U]):=⟨_,rfl⟩;have w:Fm No H H1:=by rw[d];exact kP
   have kb:H1.get H.nx=aB 0 [.str g.gs[i].r.name.n g.gs[i].r.name.a,g.gs[i].tv,c0,S,T,U]:=by rw[d];exact dN _ _ _
   have n1:H1.nx=H.nx+1:=by rw[d];rfl
   have lT:=s.ru.fm w;rw[V]at lT;have O:=qqp D (k:=j) om lT t.2.2.1;refine eF e1 e6 ?_;rw[<-d];refine Ok.ve O ?_;rintro _ H2 ⟨nv,l,rfl,z,A⟩;have K:=z.bM;simp only[go_sem,K];unfold zgo;rw[dD];have u:=z.fm;have n2:=u.nx;have nx0:=hG.fm.nx;have gbl:=hG.lt;have p8:∀ c,In e c->c<H.nx:=fun c v=>hG.gl.lt v;have L:l.length<=32:=by have:=congrArg List.length A;simp only[pz,qby]at this;have:=t.2.2.1.sz;omega
   have M:(E++(g.gs.take i).flatMap (relE X g)).length<=800000:=by
    have h1:=qcf (relE X g) 256 (g.gs.take i) fun x n=>q70 m.pr ⟨f,oz n⟩;rw[lL];have h2:(g.gs.take i).length<=16:=by rw[qx];omega
    omega
   have P:=hG.base (w.trans u);refine q8v D Z (N:=N) (Hb:=H2) (jN:=e) (sv:=sv) (mb:=mb) m (x:=g.gs[i]) ⟨f,n⟩ (l:=l) (fun H' I=>?_) ⟨om,om,om,om,om⟩ L A (fun y hy=>m.ndt ⟨f,n⟩ (by rw[<-A];exact xu hy)) M (fun H' J h=>?_) bZ 0 H2 e (gp _) lf (by simpa using P)
   ·have ft:Fm (fun c=>c=gb\/In jN c) Hb H':=(hG.fm.then (w.trans u) fun _ _ h=>absurd h id).then I fun c v a=>by
     rcases a with a|a
     ·exact .inl a
     ·rcases hG.nw c a with h|h
      ·exact .inr h
      ·omega
    obtain⟨B,Y⟩:=G H' ft;refine⟨B.qM,B.x1,B.n,B.m,Y,⟨c0,S,T,U,?_⟩,(z.rs r9).dP I fun c v a=>?_⟩
    ·refine(I.get H.nx om fun a=>?_).trans ((u.keep om).trans kb);rcases a with a|a
     ·omega
     ·have:=p8 _ a;omega
    ·have:=z.nw c v;rcases a with a|a
     ·omega
     ·have:=p8 c a;omega
   ·unfold q2c;refine aT ?_;refine q8s D Z m f G ⟨t1,t2,t3,t4⟩ hE hq k (i+1) H' J om om ?_;have R:relE X g g.gs[i]=l.flatMap fun y=>ndF X g g.gs[i] y.1:=by
     unfold relE;rw[<-A,lAK]
    rw[lh b,qy,ry,<-qw,R];exact hG.comp (w.trans u) h
  ·simp only[go_sem,b];have he:i=g.gs.length:=om;rw[he,um]at hG;exact hq H e hG
theorem q8u(b:PrX X)(i:Nat):(goE X (X.take i)).length<=65536:=by
 unfold goE;have f:=qcf (fun g:aQ=>g.gs.flatMap (relE X g)) 4096 (X.take i) fun g c=>by have a:=oz c;have e:=qcf (relE X g) 256 g.gs fun x d=>q70 b ⟨a,d⟩;have:=(b.r g a).1;omega
 have e:(X.take i).length<=16:=by rw[qx];have:=b.n;omega
 omega
theorem q8q(u:iQ C){j:Nat}(v:22<=j){Hb:Hp}{jN sv:AV}{gb N l nb mb:Nat}{X:List aQ}(f:dB X)(m:∀ H,Fm (fun c=>c=gb\/In jN c) Hb H->RlR X sv l nb mb H)(g:l<Hb.nx/\nb<Hb.nx/\mb<Hb.nx){Q:pL}{q:pH}(w:∀ H e,tN Hb jN H gb N e (goE X X)->Ok (q H) Q):∀(k s:Nat) (H:Hp) (e:AV),s<=X.length->X.length-s<k->tN Hb jN H gb N e (goE X (X.take s)) -> Ok (qkl (C j) q (.ptr l 0) (.ptr nb 0) (.ptr gb 0) sv (iN (X.length)) k (iN s) H) Q
 |0,i,_,_,_,h,_=>om
 |k+1,s,H,e,hi,hk,hG=>by
  show Ok (q2i (C j) _ _ _ _ _ _ (qkl (C j) _ _ _ _ _ _ k) _ H) Q;unfold q2i;obtain⟨K,L,M⟩:=g;have P:=f.pr.n;by_cases a:s<X.length
  ·simp only[go_sem,a];unfold q6e;have r:=m H hG.fm;obtain⟨S,T,O,U,_,z,_⟩:=r.qM.rs.at' s a;unfold yA SS.v at z;have o:=lg a;have A:=(r.qM.sp _ o).len;have B:=(f.pr.r _ o).1;obtain⟨H1,d⟩:∃ H1,H1=(aI H (aB 0 [zS,.aA])).put H.nx (aB 0 [.str X[s].name.n X[s].name.a,X[s].rv]):=⟨_,rfl⟩;have p:Fm No H H1:=by rw[d];exact kP
   have D:H1.get H.nx=aB 0 [.str X[s].name.n X[s].name.a,X[s].rv]:=by rw[d];exact dN _ _ _
   have R:H1.nx=H.nx+1:=by rw[d];rfl
   refine iG O z A ?_;rw[<-d];unfold zgp;rw[dD];have F:=hG.fm.nx;have G:=hG.lt;have p8:∀ c,In e c->c<H.nx:=fun c x=>hG.gl.lt x;have t:=hG.base p;refine q8s u v (N:=N) (Hb:=H1) (jN:=e) (sv:=sv) (mb:=mb) f o (fun H' y=>?_) ⟨om,om,om,om⟩ (E:=goE X (X.take s)) (by have:=q8u f.pr s;omega) (fun H' n h=>?_) bZ 0 H1 e (gp _) lf (by simpa using t)
   ·have I:Fm (fun c=>c=gb\/In jN c) Hb H':=(hG.fm.then p fun _ _ h=>absurd h id).then y fun c x b=>by
     rcases b with b|b
     ·omega
     ·rcases hG.nw c b with h|h
      ·exact .inr h
      ·omega
    refine⟨m H' I,(y.get H.nx om fun b=>?_).trans D⟩;rcases b with b|b
    ·omega
    ·have:=p8 _ b;omega
   ·unfold qkm;refine aT ?_;refine q8q u v f m ⟨K,L,M⟩ w k (s+1) H' n om om ?_;unfold goE at h ⊢;rw[lh a,qy,ry];exact hG.comp p h
  ·simp only[go_sem,a];have J:s=X.length:=om;rw[J,um]at hG;exact w H e hG
def ltE(x y:Edge):Bool:=decide (xP x y<0)
def bn(b:Bool):Nat:=if b then 1 else 0
theorem z9u{a b:Bool}(h:bn a=bn b):a=b:=by cases a<;>cases b<;>first|rfl|(simp[bn]at h)
theorem zxl(b:Bool):sgn b=(bn b:Int):=by cases b<;>rfl
def wZ(x y:Edge):Prop:=x.f<y.f\/(x.f=y.f/\(x.t<y.t\/(x.t=y.t/\bn x.s<bn y.s)))
theorem zkt(x y:Edge):ltE x y=true↔wZ x y:=by unfold ltE xP wZ;rw[zxl,zxl];simp only[orI,pP,ut,yc];omega
theorem q31(x y:Edge):ltE x y=false↔¬ wZ x y:=by rw[<-zkt];cases ltE x y<;>simp
theorem wZ.tri{x y:Edge}(g:¬ wZ x y)(h:¬ wZ y x):x=y:=by unfold wZ at g h;obtain⟨a,b,c⟩:=x;obtain⟨d,e,f⟩:=y;simp only at g h;have i:a=d:=om;have j:b=e:=om;have k:bn c=bn f:=om;subst i;subst j;rw[z9u k]
theorem wZ.irr(x:Edge):¬ wZ x x:=by unfold wZ;omega
abbrev Asc(l:List Edge):Prop:=l.Pairwise wZ
theorem zt3{x y:Edge}:xP x y<0↔wZ x y:=by rw[<-zkt];unfold ltE;simp
theorem Asc.ok{es:List Edge}(h:Asc es)(a:∀ e∈es,e.f<n/\e.t<n):qf4 n es:=
 ⟨a,fun i b=>zt3.2 (yf.1 h i (i+1) om b om)⟩
def qk9{α:Type}[DecidableEq α](S:List α)(i:Nat):Bool:=decide (i=0)|| !decide (S[i]? =S[i-1]?)
def nN{α:Type}[DecidableEq α](S:List α)(m:Nat):List α:=(List.range m).filterMap fun i=>if qk9 S i then S[i]? else none
def jO{α:Type}[DecidableEq α](S:List α):List α:=nN S S.length
theorem qv1{α:Type}[DecidableEq α](S:List α)(h:m<S.length):nN S (m+1)=nN S m++if qk9 S m then[S[m]]else[]:=by unfold nN;rw[lAM,List.filterMap_append];congr 1;rw[List.filterMap_cons,List.filterMap_nil,lq h];cases qk9 S m<;>rfl
theorem qv3{α:Type}[DecidableEq α]{S:List α}{x:α}:x∈jO S↔x∈S:=by
 unfold jO nN;rw[List.mem_filterMap];constructor
 ·rintro ⟨i,g,h⟩;split at h
  ·exact uz h
  ·cases h
 ·intro e;have a:S.findIdx (fun y=>decide (y=x))<S.length:=by rw[List.findIdx_lt_length];exact⟨x,e,g3⟩
  have c:=lEF (w:=a);refine⟨S.findIdx fun y=>decide (y=x),xg.2 a,?_⟩;have d:S[S.findIdx fun y=>decide (y=x)]=x:=by simpa using c
  have f:qk9 S (S.findIdx fun y=>decide (y=x))=true:=by
   unfold qk9;rw[ah];by_cases j:(S.findIdx fun y=>decide (y=x))=0
   ·simp_all
   ·right;rw[yh,zf];intro h;have b:=List.not_of_lt_findIdx (xs:=S) (p:=fun y=>decide (y=x)) (i:=(S.findIdx fun y=>decide (y=x))-1) om;rw[lq a,lq om,d]at h;injection h with h;rw[<-h]at b;simp at b
  simp_all
theorem zma{α:Type}[DecidableEq α]{R:α->α->Prop}{S:List α}(m:∀ x∈S,¬R x x)(g:∀ x∈S,∀y∈S,¬R x y->¬ R y x->x=y)(n:S.Pairwise fun x y=>¬ R y x):(jO S).Pairwise R:=by
 unfold jO nN;rw[List.pairwise_filterMap];refine List.Pairwise.imp_of_mem ?_ List.pairwise_lt_range;intro i j s t l x d y f;have a:j<S.length:=xg.1 t;have b:i<S.length:=xg.1 s;split at f
 ·rename_i c;split at d
  ·rw[lq b]at d;rw[lq a]at f;injection d with d;injection f with f;subst d f;have k:=yf.1 n;have o:=k i j b a l;by_cases h:R S[i] S[j]
   ·exact h
   ·exfalso;have e:=g _ (lg b) _ (lg a) h o;have p:=k (j-1) j om a om;have q:¬ R S[j-1] S[j]:=by
     rw[<-e];by_cases u:i=j-1
     ·simp_all
     ·exact k i (j-1) b om om
    have r:=g _ (lg om) _ (lg a) q p;unfold qk9 at c;rw[ah,yh,zf,lq a,lq om,r]at c;rcases c with c|c
    ·simp at c;omega
    ·exact c rfl
  ·cases d
 ·cases f
theorem z4e{S:List Edge}(a:S.Pairwise fun x y=>¬ wZ y x):Asc (jO S):=zma (R:=wZ) (fun x _=>wZ.irr x) (fun _ _ _ _=>wZ.tri) a
def sortE(S:List Edge):List Edge:=S.mergeSort fun x y=> !ltE y x
theorem zr2(S:List Edge):(sortE S).Pairwise fun x y=>¬ wZ y x:=by
 have h:=List.pairwise_mergeSort (le:=fun x y=> !ltE y x) (fun a b c=>by
  simp only[yh,q31];unfold wZ;omega) (fun a b=>by
  simp only[ah,yh,q31];unfold wZ;omega) S
 refine List.Pairwise.imp ?_ h;intro a b h;rwa [yh,q31]at h
theorem qxp{S:List Edge}{x:Edge}:x∈sortE S↔x∈S:=(List.mergeSort_perm _ _).mem_iff
theorem qxq(S:List Edge):(sortE S).length=S.length:=lE6 _
structure CpW{α:Type}[DecidableEq α](z:Nat)(f:α->List AV)(e0:AV->AV->Option Bool)(zs:List AV):Prop where
 len:∀ x,(f x).length=z
 pos:0<z
 eq:∀(neg:Bool) (x y:α),jT neg (e0 (.agg (f x)) (.agg (f y)))=.val (.bool (bif neg then !decide (x=y)else decide (x=y)))
 zl:zs.length=z
theorem dK{α:Type}{z:Nat}{f:α->List AV}(b:∀ x,(f x).length=z):∀ l:List α,(l.flatMap f).length=l.length*z
 | []=>g3
 |a::l=>by rw[uA,lL,dK b l,b,pq,zk];omega
variable {α:Type} [DecidableEq α] {z:Nat} {f:α->List AV} {e0:AV->AV->Option Bool} {zs:List AV}
theorem zkm{i n:Nat}(z:Nat)(h:i<n):i*z+z<=n*z:=by have:=xh z h;rwa [lEM]at this
omit [DecidableEq α]in
theorem qsw(a:∀ x,(f x).length=z)(q:Nat)(A Z:List AV)(S:List α){i:Nat}(h:i<S.length):fD (aB q (A++S.flatMap f++Z)) (A.length+i*z) z=some (f S[i]):=by have b:=dK a S;have c:=zkm z h;rw[yU,qj (by simp only[lL];omega),qw,<-lAT,List.drop_left' rfl,xn om,lAF (by rw[vz];omega),qis a S i h]
omit [DecidableEq α]in
theorem z4m(c:∀ x,(f x).length=z)(A Z:List AV)(e:α):∀(S:List α) (i:Nat),i<S.length->aZ (A++S.flatMap f++Z) (A.length+i*z) (f e)=A++(S.set i e).flatMap f++Z:=by
 have b:∀(S:List α) (i:Nat),i<S.length->aZ (S.flatMap f++Z) (i*z) (f e)=(S.set i e).flatMap f++Z:=by
  intro S
  induction S with
  |nil=>intro i h;simp at h
  |cons a S ih=>
   intro i h;have d:=c a;have g:=c e;cases i with
   |zero=>unfold aZ;simp_all
   |succ i=>have:=ih i (by simpa using h);rw[lE0,uA,uA,qw,qw,<-this];unfold aZ;rw[show(i+1)*z=(f a).length+i*z by rw[d,lEM];omega,zx,qw,qw,qw,uu,zy]
 intro S i h;rw[qw,qw,<-b S i h];unfold aZ;rw[zx,uu,zy];simp
theorem zmu(n m i:Nat)(h:i<=n)(a:n<=m):bounds n m (some (iN i)) none none=some ⟨i,n,m⟩:=by show(match(bif Nat.ble i n then some i else none)with|none=>none|some l=>some (Bd.mk l n m))=_;rw[ble_eq,qc h];rfl
theorem q7e(z b o n i:Nat)(e:Bool)(h:i<n):kU z (.sl b o n n e) (some (iN i)) none none=.val (.sl b (o+i*z) (n-i) (n-i) e):=by show(match bounds n n (some (iN i)) none none with|some bd=>iV b o z bd e|none=>R0.bad)=_;rw[zmu _ _ _ om (lu _)];unfold iV;simp only[beq_eq];rw[ql om];rfl
theorem zr3(z b o n i:Nat)(e:Bool)(h:i<=n)(a:0<n):kU z (.sl b o n n e) none (some (iN i)) none=.val (.sl b o i n e):=by show(match bounds n n none (some (iN i)) none with|some bd=>iV b o z bd e|none=>R0.bad)=_;rw[qzn _ _ _ h];unfold iV;simp only[beq_eq];rw[ql om,af];simp
structure CpO{α:Type}(f:α->List AV)(H:Hp)(b q:Nat)(A:List AV)(l:List α)(w:AV)(e:Bool)(H':Hp):Prop where
 is:∃ m Z,w=.sl b A.length l.length m e/\l.length<=m/\0<m/\H'.get b=aB q (A++(l.flatMap f)++Z)
 fm:Fm (· =b) H H'
 nx:H'.nx=H.nx
theorem qzh(m:CpW z f e0 zs){O:Ev.Call}{H0:Hp}{b q k0:Nat}{A:List AV}{S:List α}{e:Bool}(P:b<H0.nx)(C:0<k0/\k0<S.length)(R:S.length<900000){Q:pL}{qe:pD}(N:∀ H (d:List α),d.length=S.length->H.get b=aB q (A++(d.flatMap f)++[])->d.take (jO S).length=jO S->(jO S).length<S.length->0<(jO S).length->Fm (· =b) H0 H->H.nx=H0.nx->Ok (qe (iN ((jO S).length)) H) Q):∀(k k2:Nat) (H:Hp) (d:List α),1<=k2->k0+k2<=S.length->S.length-(k0+k2)<k->d.length=S.length->H.get b=aB q (A++(d.flatMap f)++[])->(∀p (h:p<S.length) (T:p<d.length),k0+k2-1<=p->d[p]=S[p]) -> d.take (nN S (k0+k2)).length=nN S (k0+k2)->(nN S (k0+k2)).length<k0+k2->0<(nN S (k0+k2)).length->Fm (· =b) H0 H->H.nx=H0.nx -> Ok (qqa O z e0 zs qe (.sl b A.length S.length S.length e) (.sl b (A.length+k0*z) (S.length-k0) (S.length-k0) e) k (iN ((nN S (k0+k2)).length)) (iN k2) H) Q
 |0,k2,_,_,_,_,h,_,_,_,_,_,_,_,_=>om
 |k+1,k2,H,d,h1,h2,h3,L,M,hp,ht,hl,h0,hf,hx=>by
  show Ok (q4i O z e0 zs _ _ _ (qqa O z e0 zs _ _ _ k) _ _ H) Q;unfold q4i;obtain⟨J,K⟩:=C;by_cases s:k0+k2<S.length
  ·have l:k2<S.length-k0:=om;have o:k2-1<S.length-k0:=om;unfold zme;have t:=qsw m.len q A [] d (i:=k0+k2) om;have u:=qsw m.len q A [] d (i:=k0+k2-1) om;rw[hp (k0+k2) s om om]at t;rw[hp (k0+k2-1) om om om]at u;rw[show A.length+(k0+k2)*z=A.length+k0*z+k2*z by rw[zk,uu]]at t;rw[show A.length+(k0+k2-1)*z=A.length+k0*z+(k2-1)*z by rw[show k0+k2-1=k0+(k2-1)by omega,zk,uu]]at u;rw[uf]at t u;have v:H.get b=aB q (A++(d.flatMap f)):=by rw[M,uf]
   have g:=qv1 S s;have next:∀(H':Hp) (j:List α) (D:Nat),D=(nN S (k0+k2+1)).length->j.length=S.length->H'.get b=aB q (A++(j.flatMap f)++[])->(∀p (h:p<S.length) (T:p<j.length),k0+(k2+1)-1<=p->j[p]=S[p]) ->
     j.take (nN S (k0+(k2+1))).length=nN S (k0+(k2+1))->(nN S (k0+(k2+1))).length<k0+(k2+1)->0<(nN S (k0+(k2+1))).length->Fm (· =b) H0 H'->H'.nx=H0.nx ->
     Ok (qv4 O z e0 zs (qqa O z e0 zs qe (.sl b A.length S.length S.length e) (.sl b (A.length+k0*z) (S.length-k0) (S.length-k0) e) k) (iN D) (iN k2) H') Q:=fun H' j D E U V W X Y Z a7 a8=>by
    subst E;unfold qv4;simp(disch:=go_size)only[go_sem,rB,rI,rK,rL,rN,rS,r6];exact qzh m P ⟨J,K⟩ R N k (k2+1) H' j (by omega) (by omega) (by omega) U V W X Y Z a7 a8
   have w:qk9 S (k0+k2)= !decide (S[k0+k2]=S[k0+k2-1]):=by unfold qk9;rw[ql (show ¬k0+k2=0 by omega),Bool.false_or,lq s,lq om];simp
   by_cases B:S[k0+k2]=S[k0+k2-1]
   ·have F:=yt B;rw[w,qc B]at g;rw[show nN S (k0+k2)++(if(!true)=true then[S[k0+k2]]else[])=nN S (k0+k2)by simp]at g;simp(disch:=go_size)only[go_sem,rB,rI,rK,rL,rN,rS,r6,l,o,v,t,u,m.eq,F];exact next H d _ (by rw[g]) L M (fun p a b c=>hp p a b om) (by rw[<-uu,g];exact ht) (by rw[<-uu,g];omega) (by rw[<-uu,g];exact h0) hf hx
   ·rw[w,ql B]at g;rw[show nN S (k0+k2)++(if(!false)=true then[S[k0+k2]]else[])=nN S (k0+k2)++[S[k0+k2]]by simp]at g;have G:(nN S (k0+k2)).length<S.length:=om;have x:=yt (show A.length+(nN S (k0+k2)).length*z+(f S[k0+k2]).length<=(A++(d.flatMap f)).length by
     have h1:=dK m.len d;have h2:=zkm z (show(nN S (k0+k2)).length<d.length by omega);rw[lL,m.len];omega)
    have r:=z4m m.len A [] S[k0+k2] d (nN S (k0+k2)).length om;rw[uf,uf]at r;have y:(f S[k0+k2]).length=z:=m.len _;simp(disch:=go_size)only[go_sem,rB,rI,rK,rL,rN,rS,r6,l,o,v,t,u,m.eq,B,G,q68,y];rw[y]at x;simp(disch:=go_size)only[go_sem,rB,rI,rK,rL,rN,rS,r6,x,r];have I:(d.set (nN S (k0+k2)).length S[k0+k2]).length=S.length:=by rw[vw,L]
    have n:(nN S (k0+k2+1)).length=(nN S (k0+k2)).length+1:=by rw[g];simp
    refine next _ (d.set (nN S (k0+k2)).length S[k0+k2]) _ n.symm I ?_ (fun p a b c=>?_) ?_ ?_ ?_ (hf.put _ _ fun _=>rfl) hx
    ·rw[uf];exact dN _ _ _
    ·rw[List.getElem_set_ne om];exact hp p a om om
    ·rw[<-uu,n,g];rw[lh om,List.take_set_of_le (lu _),ht,List.getElem_set_self]
    ·rw[<-uu,n];omega
    ·rw[<-uu,n];omega
  ·have he:k0+k2=S.length:=om;have l:¬ k2<S.length-k0:=om;simp only[go_sem,l];rw[he]at ht hl h0 ⊢;exact N H d L M ht hl h0 hf hx
theorem qv2{α:Type}[DecidableEq α]{S:List α}:∀{m:Nat},m<=S.length->(∀i,i<m->qk9 S i=true)->nN S m=S.take m
 |0,_,_=>rfl
 |m+1,h,hk=>by rw[qv1 S h,qv2 om fun i a=>hk i om,hk m om,lh h];rfl
theorem q9d(d:CpW z f e0 zs){O:Ev.Call}{H0:Hp}{b q:Nat}{A:List AV}{S:List α}{e:Bool}(J:b<H0.nx)(K:S.length<900000)(v:H0.get b=aB q (A++(S.flatMap f)++[])){Q:pL}{qe:pH}{qr:pD}(L:∀ w H,CpO f H0 b q A (jO S) w e H->Ok (qr w H) Q)(M:jO S=S->Ok (qe H0) Q):∀(k i:Nat),0<i->i<=S.length->S.length-i<k->(∀p,p<i->qk9 S p=true)->Ok (q9c O z e0 zs qr qe (.sl b A.length S.length S.length e) k (iN i) H0) Q
 |0,i,_,_,h,_=>om
 |k+1,i,h0,hi,hk,hp=>by
  show Ok (zmg O z e0 zs _ _ _ (q9c O z e0 zs _ _ _ k) _ H0) Q;unfold zmg;by_cases a:i<S.length
  ·have c:i-1<S.length:=om;unfold zmd;have B:=qsw d.len q A [] S a;have C:=qsw d.len q A [] S c;rw[uf]at B C;have o:H0.get b=aB q (A++(S.flatMap f)):=by rw[v,uf]
   have m:qk9 S i= !decide (S[i]=S[i-1]):=by unfold qk9;rw[ql (show ¬i=0 by omega),Bool.false_or,lq a,lq c];simp
   by_cases u:S[i]=S[i-1]
   ·have D:=yt u;have E:=q7e z b A.length S.length i e a;rw[qc u]at m;have g:=qv1 S a;rw[m]at g;have r:=qv2 (zo a) hp;have s:nN S (i+1)=S.take i:=by rw[g,r];simp
    have F:(nN S (i+1)).length=i:=by rw[s,qx];omega
    simp(disch:=go_size)only[go_sem,seval,a,c,o,B,C,d.eq,D,E];unfold zmh;rw[dD];have R:=qzh d (O:=O) (Q:=Q) (e:=e) (qe:=fun T H=>qv5 O z e0 zs qr (.sl b A.length S.length S.length e) T H) J (k0:=i) (S:=S) (A:=A) (q:=q) ⟨h0,a⟩ K (fun H j N x U P V fm W=>by
     unfold qv5;have X:=q7e z b A.length S.length (jO S).length e P;have Y:=zr3 z b A.length S.length (jO S).length e om om;have Z:¬ S.length-(jO S).length=0:=om;have G:qgz zs H (.sl b (A.length+(jO S).length*z) (S.length-(jO S).length) (S.length-(jO S).length) e)=.ok .undef (H.put b (aB q (A++((jO S).flatMap f)++aS zs (S.length-(jO S).length)))):=by
      show(bif Nat.beq (S.length-(jO S).length) 0 then _ else storeAt H b (A.length+(jO S).length*z) (aS zs (S.length-(jO S).length)) .undef)=_;rw[beq_eq,ql Z,af];have t:∀ n,(aS zs n).length=n*z:=fun n=>by
       induction n with
       |zero=>exact(lAV z).symm
       |succ n ih=>show(_++aS _ n).length=_;rw[lL,ih,d.zl,lEM];omega
      have hsm:=Nat.sub_mul S.length (jO S).length z;have hml:=xh z (zo P);have I:=dK d.len j;rw[N]at I;have cDE:=dK d.len (jO S);have l:(j.flatMap f)=((jO S).flatMap f)++((j.drop (jO S).length).flatMap f):=by
       rw[<-qy];congr 1
       conv=>lhs;rw[<-dh (jO S).length j,U]
      rw[qb3 H b _ _ _ q _ x (by rw[lL,lL,t,uo];omega)];congr 3;unfold aZ;rw[l,uf,<-qw,List.take_left' (by rw[lL];omega),t];rw[xe (by rw[lL,lL,dK d.len,dK d.len,vz,N];omega),uf]
     refine iG X G Y ?_;exact L _ _ ⟨⟨S.length,_,rfl,om,om,dN _ _ _⟩,fm.put _ _ fun _=>rfl,W⟩) bZ 1 H0 S (lu _) om lf rfl v (fun _ _ _ _=>rfl) (by rw[F,s]) om om (Fm.refl _ _) rfl
    simp_all
   ·rw[ql u]at m;refine siH a c o B C d.eq u ?_;unfold zx5;refine aT ?_;refine q9d d J K v L M k (i+1) om om om fun p y=>?_;by_cases he:p=i
    ·simp_all
    ·exact hp p om
  ·simp only[go_sem,a];refine M ?_;have:=qv2 (lu S.length) fun p y=>hp p om;rw[um]at this;exact this
theorem zx4(c:CpW z f e0 zs){O:Ev.Call}{H:Hp}{b q:Nat}{A:List AV}{S:List α}{e:Bool}(d:b<H.nx)(g:S.length<900000)(i:0<S.length)(a:H.get b=aB q (A++S.flatMap f++[])):Ok (zmf O z e0 zs (.sl b A.length S.length S.length e) H) fun w H'=>CpO f H b q A (jO S) w e H':=by
 unfold zmf;have same:jO S=S->CpO f H b q A (jO S) (.sl b A.length S.length S.length e) e H:=fun h=>by rw[h];exact⟨⟨S.length,[],rfl,lu _,i,a⟩,Fm.refl _ _,rfl⟩
 have k0:qk9 S 0=true:=rfl;by_cases h:S.length<2
 ·simp only[go_sem,h];refine Ok.ret (same ?_);have:=qv2 (S:=S) (lu S.length) fun p j=>by
   obtain rfl:p=0:=om;exact k0
  rw[um]at this;exact this
 ·simp only[go_sem,h];unfold zmc zx7;rw[dD];refine q9d c d g a (fun w H' h=>Ok.ret h) (fun h=>?_) bZ 1 om om lf (fun p j=>by
   obtain rfl:p=0:=om;exact k0)
  exact Ok.ret (same h)
abbrev ceE(S:List Edge):List AV:=S.flatMap Edge.cells
theorem cells3(e:Edge):e.cells.length=3:=rfl
theorem ztm(neg:Bool)(x y:Edge):jT neg (dQ (eqFields [(p1,⟨qq1⟩,0),(p1,⟨qq1⟩,1),(p1,⟨qh5⟩,2)]) (.agg x.cells) (.agg y.cells))=.val (.bool (bif neg then !decide (x=y)else decide (x=y))):=by
 have e:dQ (eqFields [(p1,⟨qq1⟩,0),(p1,⟨qq1⟩,1),(p1,⟨qh5⟩,2)]) (.agg x.cells) (.agg y.cells)=some (decide (x=y)):=by
  show andThen (some (uS (.ofNat x.f) (.ofNat y.f))) (andThen (some (uS (.ofNat x.t) (.ofNat y.t))) (andThen (some (x.s==y.s)) (some true)))=_;obtain⟨a,b,c⟩:=x;obtain⟨d,e,f⟩:=y;simp only[qfd,q8f];by_cases g:a=d
  ·by_cases h:b=e
   ·cases c<;>cases f<;>simp[andThen,g,h]
   ·simp[andThen,g,h]
  ·simp[andThen,g]
 rw[e];rfl
theorem aWG:CpW 3 Edge.cells aBz aA9:=⟨cells3,g4,ztm,rfl⟩
theorem zbt{k:Nat}(a:1<=k){H:Hp}{b q:Nat}{A:List AV}{S:List Edge}{e:Bool}(c:b<H.nx)(d:S.length<900000)(f:0<S.length)(g:H.get b=aB q (A++ceE S++[])):Ok (C k (.f 220) [.sl b A.length S.length S.length e] H) fun w H'=>CpO Edge.cells H b q A (jO S) w e H':=by obtain⟨j,rfl⟩:=aP a;rw[lk (qtn ..)];exact zx4 aWG c d f g
variable {i o:Nat} {neg:Bool}
structure bCS(c:Ev.Call):Prop where
 srt:∀(H:Hp) (v:AV) (es:List Edge),Gl 3 H v es.length (ceE es)->es.length<=1000000->Ok (c (.f 218) [v,.fn 217 [] []] H) fun r H'=>r=.bA []/\Gl 3 H' v es.length (ceE (sortE es))/\Fm (In v) H H'
abbrev qer(C:Nat->Ev.Call):Prop:=∀ k,bCS (C (k+1))
theorem q9p{k:Nat}(c:1<=k){e:Bool}(a:n<=m):C k (.f 219) [.sl b o n m e] H=.ok (.sl b o n n true) H:=by
 obtain⟨j,rfl⟩:=aP c;rw[lk (q5y ..)];unfold zCc q9q;have d:kU 3 (.sl b o n m e) none (some (iN n)) (some (iN n))=.val (.sl b o n n true):=by
  show(match bounds n m none (some (iN n)) (some (iN n))with|some bd=>iV b o 3 bd true|none=>R0.bad)=_;have:bounds n m none (some (iN n)) (some (iN n))=some ⟨0,n,n⟩:=by show(match(bif Nat.ble n m then some n else none)with|none=>none|some m'=>match(bif Nat.ble n m' then some n else none)with|none=>none|some h=>match(some 0:Option Nat)with|none=>none|some l=>some (Bd.mk l h m'))=_;rw[ble_eq,qc a];simp only[uB,ble_eq,qc (lu n)]
  rw[this];unfold iV;simp only[beq_eq];by_cases f:n=0
  ·subst f;rfl
  ·simp_all
 simp only[go_sem,d]
theorem zni{k:Nat}(a:1<=k):C k (.f 219) [.aA] H=.ok .aA H:=by obtain⟨j,rfl⟩:=aP a;rw[lk (q5y ..)];rfl
theorem zal(z:qer C){k:Nat}(N:2<=k){v:AV}{es:List Edge}(B:Gl 3 H v es.length (ceE es))(O:es.length<900000):Ok (C k (.f 190) [v] H) fun w H'=>lV H' w (jO (sortE es))/\dU w=.val (iN ((jO (sortE es)).length))/\Fm (In v) H H'/\(w=.aA\/∃ b o n m e,w=.sl b o n m e)/\∀ c,In w c->In v c:=by
 obtain⟨j,rfl⟩:∃ j,k=j+1+1:=⟨k-2,om⟩;rw[lk (zqm ..)];refine Ok.ve ((z j).srt H v es B om) ?_;rintro _ H1 ⟨rfl,g1,t⟩;rcases g1.is with⟨rfl,y⟩|⟨b,o,e,q,L,rfl,F,Q,G,R,I⟩
 ·have g:es=[]:=tu.1 y;subst g;have d:C (j+1) (.f 220) [.aA] H1=.ok .aA H1:=by
   rw[lk (qtn ..)];rfl
  have f:=zni (k:=j+1) om (H:=H1);simp only[go_sem,d,f];have p:jO (sortE [])=[]:=by simp[jO,nN,sortE]
  rw[p];exact Ok.ret ⟨⟨rfl,rfl,(fun b D=>by obtain⟨_,_,_,_,h⟩:=D;cases h),(fun i l=>by simp at l)⟩,rfl,t,.inl rfl,fun _ h=>h⟩
 ·by_cases y:0<es.length
  ·have E:L=L.take o++ceE (sortE es)++[]:=by rw[<-G,dh,uf]
   have r:(L.take o).length=o:=by rw[qx];omega
   have s:=qxq es;have d:=zbt (k:=j+1) om (H:=H1) (b:=b) (q:=q) (A:=L.take o) (S:=sortE es) (e:=e) I om om (by rw[<-E];exact F);rw[r,s]at d;refine Ok.ve d ?_;rintro w J u;obtain⟨m,Z,rfl,K,M,x⟩:=u.is;have f:=q9p (k:=j+1) om (H:=J) (b:=b) (o:=(L.take o).length) (e:=e) K;simp only[go_sem,f];have P:=u.nx;refine Ok.ret ⟨⟨rfl,rfl,fun c a=>?_,fun i l=>⟨b,(L.take o).length+i*3,vL _ _ _ _ _ _ _ _ l,om,?_⟩⟩,rfl,?_,.inr ⟨_,_,_,_,_,rfl⟩,fun c a=>by obtain⟨_,_,_,_,a⟩:=a;injection a with a;subst a;exact⟨_,_,_,_,rfl⟩⟩
   ·obtain⟨_,_,_,_,a⟩:=a;injection a with a;omega
   ·rw[x];exact qsw cells3 q _ _ _ l
   ·exact t.then u.fm fun c _ h=>by subst h;exact⟨_,_,_,_,rfl⟩
  ·have g:es=[]:=tu.1 om;subst g;have d:C (j+1) (.f 220) [.sl b o 0 0 e] H1=.ok (.sl b o 0 0 e) H1:=by
    rw[lk (qtn ..)];rfl
   have f:=q9p (k:=j+1) om (H:=H1) (b:=b) (o:=o) (n:=0) (m:=0) (e:=e) (lu _);simp only[go_sem,d,f];have p:jO (sortE [])=[]:=by simp[jO,nN,sortE]
   rw[p];exact Ok.ret ⟨⟨rfl,rfl,(fun c a=>by obtain⟨_,_,_,_,h⟩:=a;injection h with h;omega),(fun i l=>by simp at l)⟩,rfl,t,.inr ⟨_,_,_,_,_,rfl⟩,fun c a=>by obtain⟨_,_,_,_,a⟩:=a;injection a with a;subst a;exact⟨_,_,_,_,rfl⟩⟩
structure NbI(H0 H:Hp)(nb mb:Nat)(ps:List (SS×SS)):Prop where
 n:H.get nb=aB 0 [.map mb]
 m:iT H mb ps
 o:H0.nx<=mb/\mb<nb/\nb<H.nx
 fm:Fm No H0 H
theorem qsf{O:Ev.Call}{H0:Hp}{sv:AV}{nb mb pb:Nat}{X:List aQ}(m:bY H0 sv X)(n:(aF X).Nodup)(o:PrX X){s:Nat}(e:s<X.length){Q:pL}{q:pH}(v:∀ H,NbI H0 H nb mb ((dI X s++X[s].gs.map fun x=>(X[s].name,x)).map kq)->Ok (q H) Q):∀(k i:Nat) (H:Hp),i<=X[s].gs.length->X[s].gs.length-i<k->NbI H0 H nb mb ((dI X s++(X[s].gs.take i).map fun x=>(X[s].name,x)).map kq)->H.get pb=aB 0 [.str X[s].name.n X[s].name.a,X[s].rv]->nb<pb->pb<H.nx -> Ok (qmx O q (.ptr nb 0) (.ptr pb 0) X[s].rv (iN (X[s].gs.length)) k (iN i) H) Q
 |0,i,_,_,h,_,_,_,_=>om
 |k+1,i,H,hi,hk,hI,hp,hpn,hpl=>by
  show Ok (qt6 O _ _ _ _ _ (qmx O _ _ _ _ _ k) _ H) Q;unfold qt6;obtain⟨r,z,A⟩:=hI.o;by_cases a:i<X[s].gs.length
  ·simp only[go_sem,a];unfold q6c;have g:=m.fm hI.fm;have c:=g.sp _ (lg e);obtain⟨L,B,C,M,_,_,_,t⟩:=c.at' i a;obtain⟨c0,D,E,F,_,l⟩:=qk0 (c.rel _ (lg a));rw[l]at t;have w:=(o.r _ (lg e)).1;obtain⟨H1,b⟩:∃ H1,H1=(aI H (aB 0 [zS,.aA,uN 0,zS,zS,.aA])).put H.nx (aB 0 [.str X[s].gs[i].r.name.n X[s].gs[i].r.name.a,X[s].gs[i].tv,c0,D,E,F]):=⟨_,rfl⟩;have f:Fm No H H1:=by rw[b];exact kP
   have I:H1.nx=H.nx+1:=by rw[b];rfl
   have y:=(f.keep A).trans hI.n;have k2:=(f.keep hpl).trans hp;have p:iT H1 mb ((dI X s++(X[s].gs.take i).map fun x=>(X[s].name,x)).map kq):=hI.m.eq (f.keep om);obtain⟨G,u,N⟩:=p.bAC X[s].name X[s].gs[i].r.name (qnk n e a);have d:=p.len;have j:=hI.n;rw[b,pz]at d u;refine siG C t j hp d u ?_;rw[<-b];unfold q6d;refine aT ?_;refine qsf m n o e v k (i+1) (H1.put mb G) om om ⟨?_,?_,⟨r,z,show nb<H1.nx by omega⟩,(hI.fm.trans f).aG _ _ r⟩ ?_ hpn (show pb<H1.nx by omega)
   ·rw[dO _ _ _ _ om];exact y
   ·have J:(dI X s++(X[s].gs.take (i+1)).map fun x=>(X[s].name,x)).map kq=(dI X s++(X[s].gs.take i).map fun x=>(X[s].name,x)).map kq++[(X[s].name,X[s].gs[i].r.name)]:=by
     have g:((X[s].gs.take (i+1)).map fun x=>(X[s].name,x))=((X[s].gs.take i).map fun x=>(X[s].name,x))++[(X[s].name,X[s].gs[i])]:=by rw[lh a,ui];rfl
     rw[g,<-qw,ui];rfl
    simp_all
   ·rw[dO _ _ _ _ om];exact k2
  ·simp only[go_sem,a];have K:i=X[s].gs.length:=om;simp_all
theorem qsg{O:Ev.Call}{H0:Hp}{sv:AV}{nb mb:Nat}{X:List aQ}(c:bY H0 sv X)(e:(aF X).Nodup)(b:PrX X){Q:pL}{q:pH}(f:∀ H,NbI H0 H nb mb (aF X)->Ok (q H) Q):∀(k s:Nat) (H:Hp),s<=X.length->X.length-s<k->NbI H0 H nb mb ((dI X s).map kq) -> Ok (qi8 O q (.ptr nb 0) sv (iN (X.length)) k (iN s) H) Q
 |0,i,_,_,h,_=>om
 |k+1,s,H,hi,hk,hI=>by
  show Ok (qt7 O _ _ _ _ (qi8 O _ _ _ _ k) _ H) Q;unfold qt7;obtain⟨t,u,j⟩:=hI.o;have y:=b.n;by_cases a:s<X.length
  ·simp only[go_sem,a];unfold q6b;have g:=c.fm hI.fm;obtain⟨A,v,w,B,_,l,_⟩:=g.rs.at' s a;unfold yA SS.v at l;have o:=(g.sp _ (lg a)).len;have p:=(b.r _ (lg a)).1;have d:Fm No H ((aI H (aB 0 [zS,.aA])).put H.nx (aB 0 [.str X[s].name.n X[s].name.a,X[s].rv])):=by exact kP
   refine iG w l o ?_;unfold q6i;rw[dD];refine qsf c e b a (pb:=H.nx) (fun m n=>?_) bZ 0 _ (gp _) lf ⟨(d.keep j).trans hI.n,?_,⟨t,u,gx⟩,hI.fm.trans d⟩ (dN _ _ _) j gx
   ·unfold qt5;refine aT ?_;refine qsg c e b f k (s+1) m om om ?_;have z:dI X (s+1)=dI X s++X[s].gs.map fun x=>(X[s].name,x):=by
     unfold dI d9;rw[lh a,qy,ry]
    simp_all
   ·rw[lA0,List.map_nil,uf];exact hI.m.eq (d.keep om)
  ·simp only[go_sem,a];have r:s=X.length:=om;refine f H ?_;have:dI X X.length=d9 X:=by unfold dI;rw[um]
   rw[r,this,uV]at hI;exact hI
theorem q92(H:Hp)(b o m:Nat):j5 H (.ptr b o) (.map m)=storeAt H b o [.map m] .undef:=id rfl
theorem z6q(a b x:AV):aZ [a,b] 1 [x]=[a,x]:=id rfl
attribute [go_sem] q92 z6q
theorem zyd(Z:iQ C)(hS:qer C){k:Nat}(hk:23<=k)(K:bY H sv X)(p:dB X):Ok (C k (.f 141) [.agg [sv]] H) fun r H'=>∃ w,r=.bA [.agg [iN ((aF X).length),w],iN 0]/\lV H' w (jO (sortE (goE X X)))/\dU w=.val (iN ((jO (sortE (goE X X))).length))/\Fm No H H'/\(w=.aA\/∃ b o n m e,w=.sl b o n m e):=by
 obtain⟨j,rfl⟩:=aP hk;rw[lk (zq5 ..)];unfold zAt z1m;refine aT ?_;have f:Fm No H (aI (aI H (aB 0 [sv])) (aB 0 [iN 0,.aA])):=by exact qO
 refine Ok.ve (qqm Z (k:=j) om (K.fm f) p) ?_;rintro _ H1 ⟨rfl,J⟩;have n1:=J.nx;simp only[np]at n1;have fA:=f.trans J;have x1:H1.get H.nx=aB 0 [sv]:=(J.keep g1).trans g6;have M:H1.get (H.nx+1)=aB 0 [iN 0,.aA]:=(J.keep gz).trans g5;have i:=K.fm fA;have O:=i.rs.len;have hn16:=p.pr.n;unfold q6a;refine eF x1 O ?_;unfold q6j;rw[dD];generalize d:(aI (aI H1 (.map [] 0)) (aB 0 [.bQ])).put (H1.nx+1) (aB 0 [.map H1.nx])=Hn;have fn:Fm No H1 Hn:=by rw[<-d];repeat first|exact Fm.refl _ _|assumption|refine Fm.push ?_ _|refine Fm.aG ?_ _ _ om
 have nn:Hn.nx=H1.nx+2:=by rw[<-d];rfl
 have kn:Hn.get (H1.nx+1)=aB 0 [.map H1.nx]:=by rw[<-d];exact dN _ _ _
 have km:Hn.get H1.nx=.map [] 0:=by rw[<-d];simp(disch:=first|go_size|omega)only[go_sem,seval]
 have P:iT Hn H1.nx ((dI X 0).map kq):=by
  have:(dI X 0).map kq=[]:=by unfold dI d9;simp
  exact kM.nil _ _ km
 refine qsg (sv:=sv) i p.al p.pr (H0:=H1) (nb:=H1.nx+1) (mb:=H1.nx) (fun a s=>?_) bZ 0 Hn (gp _) lf ⟨kn,P,⟨lu _,om,om⟩,fn⟩;unfold qmy;have u:=s.n;have Q:=s.m.len;have I:=s.fm;obtain⟨_,_,o3⟩:=s.o;have x2:=(I.keep (show H.nx<H1.nx by omega)).trans x1;have R:=(i.fm I).rs.len;refine jD u Q x2 R ?_;unfold zgq;rw[dD];generalize l:(aI a (aB 0 [iN 0,.aA])).put a.nx (aB 0 [iN ((aF X).length),.aA])=Hg;have v:Fm No a Hg:=by rw[<-l];exact kP
 have ng:Hg.nx=a.nx+1:=by rw[<-l];rfl
 have kg:Hg.get a.nx=aB 0 [iN ((aF X).length),.aA]:=by rw[<-l];exact dN _ _ _
 have A:∀ c,¬In AV.aA c:=fun c h=>by obtain⟨_,_,_,_,h⟩:=h;cases h
 have B:∀ H',Fm (fun c=>c=a.nx\/In AV.aA c) Hg H'->Fm No H H':=fun H' q=>(((fA.trans I).trans v)).then q fun c t h=>by
  rcases h with h|h
  ·omega
  ·simp_all
 refine q8q Z (j:=j) om (sv:=sv) (mb:=H1.nx) (Hb:=Hg) (jN:=.aA) (N:=(aF X).length) p (fun H' q=>?_) ⟨om,om,om⟩ (fun H3 ev g=>?_) bZ 0 Hg .aA (gp _) lf ⟨kg,om,?_,Fm.refl _ _,fun c h=>.inl h,fun c h=>absurd h (A c)⟩
 ·have S:∀ c,c<a.nx->¬(c=a.nx\/In AV.aA c):=fun c t h=>by
   simp_all
  refine⟨K.fm (B H' q),?_,?_,?_⟩
  ·exact(q.get _ om (S _ om)).trans ((v.keep om).trans x2)
  ·exact(q.get _ om (S _ om)).trans ((v.keep om).trans u)
  ·exact(s.m.eq (v.keep om)).eq (q.get _ om (S _ om))
 ·unfold qog;have D:=g.blk;have T:=g.fm;have n3:=T.nx;have E:(goE X X).length<900000:=by
   have:=q8u p.pr X.length;rw[um]at this;omega
  simp only[go_sem,D];refine Ok.ve (zal hS (k:=j) om g.gl E) ?_;rintro w U ⟨hw,t,V,W,Y⟩;have F:=(V.get a.nx om (fun h=>by have:=g.nin _ h;omega)).trans D;have G:U.get (H.nx+1)=aB 0 [iN 0,.aA]:=by
   refine(V.get _ om (fun h=>by have:=g.nin _ h;omega)).trans ((T.get _ om (fun h=>?_)).trans ((v.keep om).trans ((I.keep om).trans M)));rcases h with h|h
   ·omega
   ·exact A _ h
  have fin:∀ x y z:bW,lV (((U.put a.nx x).put (H.nx+1) y)) w (jO (sortE (goE X X)))/\Fm No H ((U.put a.nx x).put (H.nx+1) y):=fun x y z=>by
   refine⟨hw.keep (lu _) fun c L _=>?_,?_⟩
   ·have:=g.nin c (Y c L);rw[dO _ _ _ _ om,dO _ _ _ _ om]
   ·refine((((B H3 T).then V fun c t h=>?_).aG _ _ om).aG _ _ om);have:=g.nin c h;omega
  rcases W with rfl|⟨wb,wo,wn,wm,we,rfl⟩
  ·refine eF F G ?_;obtain⟨g1,g2⟩:=fin (aB 0 [iN ((aF X).length),.aA]) (aB 0 [iN ((aF X).length),.aA]) .dead;exact Ok.ret ⟨_,rfl,g1,t,g2,.inl rfl⟩
  ·refine eF F G ?_;obtain⟨g1,g2⟩:=fin (aB 0 [iN ((aF X).length),.sl wb wo wn wm we]) (aB 0 [iN ((aF X).length),.sl wb wo wn wm we]) .dead;exact Ok.ret ⟨_,rfl,g1,t,g2,.inr ⟨_,_,_,_,_,rfl⟩⟩
 ·rw[lA0];exact Gl.nil 3 _
theorem qx4{a b:Nat}(h:fO a=fO b):a%4=b%4:=by injection h with _ h;omega
theorem qur{a b:Nat}(h:dJ a=dJ b):a%3=b%3:=by unfold dJ at h;simp_all
theorem qx3(a:Nat):fO (a%4)=fO a:=by unfold fO;rw[Nat.mod_mod]
theorem zr0(a:Nat):dJ (a%3)=dJ a:=by unfold dJ;rw[Nat.mod_mod]
theorem qhl(a:Nat):Nm (fO a):=by rw[<-qx3];have:∀ i,i<4->fO i∈nmL:=g4;exact this _ (xq _ om)
theorem q3a(a:Nat):Nm (dJ a):=by rw[<-zr0];have:∀ i,i<3->dJ i∈nmL:=g4;exact this _ (xq _ om)
theorem z6t:Nm sU:=by show sU∈nmL;decide
theorem zsb(a:Nat):¬ fO a=sE:=fun h=>(qhl a).ne (by rw[h];exact⟨rfl,rfl⟩)
def Blo(m n k:Nat):Prop:=n / 4*4<=k/\k<n / 4*4+4/\k<m
def RuP(L:List (List Nat))(n:Nat):Ru->Prop
 | .leaf k rl to=>(k=1/\rl=sE/\to=sE)\/(k=2/\to=sE/\∃ i,rl=fO i/\Blo (bS L) n i)\/(k=3/\∃ i j,rl=fO i/\Blo (bS L) n i/\to=fO j/\j<bS L/\(⟨dJ (j / 4),sE⟩:jL)∈lK L i)
 | .node k a b=>(k=4\/k=5\/k=6)/\RuP L n a/\RuP L n b
theorem RuP.fit{L:List (List Nat)}:∀{r:Ru},RuP L n r->r.Fit
 | .leaf _ _ _,h=>by
  rcases h with h|⟨h,a,i,rfl,_⟩|⟨h,i,j,rfl,_,rfl,_⟩
  ·exact .inl h
  ·exact .inr (.inl ⟨h,qhl i,a⟩)
  ·exact .inr (.inr ⟨h,qhl i,qhl j⟩)
 | .node _ _ _,⟨h,ha,hb⟩=>⟨h,ha.fit,hb.fit⟩
def NdP(L:List (List Nat))(n:Nat)(y:Nd):Prop:=
 (y.k=1/\y.rl=sE)\/(y.k=2/\∃ i,y.rl=fO i/\Blo (bS L) n i)\/(y.k=3/\∃ i j,y.rl=fO i/\Blo (bS L) n i/\y.to=fO j/\j<bS L/\(⟨dJ (j / 4),sE⟩:jL)∈lK L i)\/4<=y.k
theorem RuP.nd{L:List (List Nat)}:∀{r:Ru} {neg:Bool},RuP L n r->∀ y∈r.nodes neg,NdP L n y
 | .leaf _ _ _,neg,h,y,c=>by
  rw[Ru.nodes,qf]at c;subst c;rcases h with⟨h,d,_⟩|⟨h,_,d⟩|⟨h,d⟩
  ·exact .inl ⟨h,d⟩
  ·exact .inr (.inl ⟨h,d⟩)
  ·exact .inr (.inr (.inl ⟨h,d⟩))
 | .node k a b,neg,⟨h,ha,hb⟩,y,c=>by
  rw[Ru.nodes,su,qi]at c;rcases c with rfl|c|c
  ·exact .inr (.inr (.inr (by show 4<=k;omega)))
  ·exact ha.nd y c
  ·exact hb.nd y c
theorem qen{α:Type}{l:List α}{d:α}(h:i<l.length):l.getD i d∈l:=by simp_all
theorem qvn{L:List (List Nat)}(a:n<bS L)(neg:Bool):RuP L n (qjz neg):=by
 cases neg
 ·exact .inl ⟨rfl,rfl,rfl⟩
 ·refine .inr (.inl ⟨rfl,rfl,n / 4*4,?_,om,om,om⟩);rw[<-qx3 (n / 4*4),Nat.mul_mod_left]
theorem zug{L:List (List Nat)}{x:ArS}(h:x∈l9 L n neg):∃ i j,x.rl=fO i/\Blo (bS L) n i/\x.to=fO j/\j<bS L/\(⟨dJ (j / 4),sE⟩:jL)∈lK L i:=by
 unfold l9 nU at h;rw[xm]at h;obtain⟨i,b,h⟩:=h;rw[qgt]at b;unfold arK at h;rw[xm]at h;obtain⟨t,d,h⟩:=h;unfold zR at h;rw[uC]at h;obtain⟨j,a,rfl⟩:=h;rw[xF,qgt]at a;obtain⟨a,c⟩:=a;unfold arP at c;rw[qh,qh,yl,yl]at c;refine⟨i,j,rfl,⟨b.1,om,om⟩,rfl,a.2,?_⟩;have:t=⟨dJ (j / 4),sE⟩:=by cases t;simp_all
 simp_all
theorem q3k{L:List (List Nat)}{n:Nat}(a:n<bS L):∀(d i:Nat) (neg:Bool),(neg=true->0<lvl n)->RuP L n (fM L n d i neg).1
 |0,i,neg,_=>by unfold fM;exact qvn a neg
 |d+1,i,neg,hneg=>by
  have c:At (bS L) n neg:=⟨a,uy _ _,hneg⟩;unfold fM;split
  ·exact qvn a neg
  split
  ·exact qvn a neg
  split
  ·have e:=qv7 c;have b:=qen (d:=sE) (xq (fJ L n i / 8) e);unfold cmpL at b;rw[uC]at b;obtain⟨k,f,g⟩:=b;rw[xF,qgt]at f;refine .inr (.inl ⟨rfl,rfl,k,?_,om,om,om⟩);rw[g];rfl
  split
  ·unfold xI;split
   ·exact qvn a neg
   ·rename_i h;have b:=qen (d:=(⟨sE,sE⟩:ArS)) (xq (fJ L n i / 8) (show 0<(l9 L n neg).length by omega));exact .inr (.inr ⟨rfl,zug b⟩)
  refine⟨?_,q3k a d _ _ hneg,q3k a d _ _ fun h=>?_⟩
  ·unfold xX;split
   ·omega
   split<;>omega
  ·rw[ah,yl]at h;rcases h with h|h
   ·exact hneg h
   ·unfold xX at h;split at h
    ·omega
    split at h
    ·omega
    ·omega
theorem qjx{α β:Type}{f:α->β}:∀{l:List α},l.Nodup->(∀x∈l,∀y∈l,f x=f y->x=y)->(l.map f).Nodup
 | [],_,_=>List.nodup_nil
 |a::l,h,hf=>by rw[lAC]at h;rw[ou,lAC];refine⟨fun c=>?_,qjx h.2 fun x d y g=>hf x (uk _ d) y (uk _ g)⟩;obtain⟨b,i,e⟩:=uC.1 c;have:=hf b (uk _ i) a ug e;simp_all
theorem qrx{L:List (List Nat)}(e:n<bS L){t:jL}(h:t∈lK L n):(t.rl=sE/\(t.sp=sU\/∃ i,i<(bS L+3) / 4/\t.sp=dJ i))\/∃ k,k<bS L/\t=⟨dJ (k / 4),fO k⟩:=by
 unfold lK at h;rw[qi]at h;rcases h with h|h
 ·left;unfold wK at h;rw[su]at h;rcases h with rfl|h
  ·simp
  ·rw[uC]at h;obtain⟨i,b,rfl⟩:=h;rw[xF,qgt]at b;have:=b.1.2;unfold nS at this;exact⟨rfl,.inr ⟨i,om,rfl⟩⟩
 ·right;split at h
  ·rw[qf]at h;have a:=qen (d:=(⟨sE,sE⟩:jL)) (xq (fJ L n 1 / 2) (qun e));rw[<-h]at a;unfold sS at a;rw[uC]at a;obtain⟨k,c,rfl⟩:=a;rw[xF,qgt]at c;exact⟨k,c.1.2,rfl⟩
  ·cases h
theorem qxc{L:List (List Nat)}(l:n<bS L):(lK L n).Nodup:=by
 have p:(wK (fJ L n 0) (nS (bS L))).Nodup:=by
  unfold wK;rw[lAC];constructor
  ·intro h;rw[uC]at h;obtain⟨i,_,e⟩:=h;injection e with e;injection e with e;omega
  ·have c:(rg 0 (nS (bS L))).Nodup:=by
    unfold rg;rw[lA4];exact List.nodup_range
   refine qjx (List.Pairwise.filter _ c) fun x m y o e=>?_
   ·rw[xF,qgt]at m o;injection e with e;have:=qur e;have q:nS (bS L)<=3:=iy _ _;omega
 unfold lK;split
 ·rw[yw];refine⟨p,bf _ _,fun a g b j=>?_⟩;rw[qf]at j;intro e;subst e;have f:=qen (d:=(⟨sE,sE⟩:jL)) (xq (fJ L n 1 / 2) (qun l));rw[<-j]at f;unfold sS at f;rw[uC]at f;obtain⟨k,_,e⟩:=f;have c:a.rl=sE:=by
   unfold wK at g;rw[su,uC]at g;rcases g with rfl|⟨i,_,rfl⟩<;>rfl
  rw[<-e]at c;exact zsb k c
 ·simp_all
def prN(n:Nat):SS×SS:=(dJ (n / 4),fO n)
def rls(L:List (List Nat))(i:Nat):List jQ:=(rg (4*i) (min (bS L) (4*i+4))).map (mR L)
theorem z2z{a b:Nat}(c:a<12)(d:b<12)(h:prN a=prN b):a=b:=by injection h with h1 h2;have:=qur h1;have:=qx4 h2;omega
theorem aWU(m:Nat)(h:m<13):((List.range ((m+3) / 4)).flatMap fun i=>(rg (4*i) (min m (4*i+4))).map fun n=>(dJ i,fO n))=(List.range m).map prN:=by have:∀ m,m<13->((List.range ((m+3) / 4)).flatMap fun i=>(rg (4*i) (min m (4*i+4))).map fun n=>(dJ i,fO n))=(List.range m).map prN:=g4;exact this m h
theorem zi2(k:Nat)(h:k<4):(sU::(List.range k).map dJ).Nodup:=by have:∀ k,k<4->(sU::(List.range k).map dJ).Nodup:=g4;exact this k h
theorem qkz(L:List (List Nat)):bS L<13:=by have:bS L<=12:=uy _ _;omega
structure qK(L:List (List Nat))(X:List aQ):Prop where
 map:X.map aQ.sp=aAm L
theorem qeb(bT:List jQ)(r:jQ):(uW bT r).name=r.name:=by unfold uW;split<;>rfl
variable {L:List (List Nat)} {X:List aQ}
theorem qK.names(h:qK L X):X.map aQ.name=sU::(List.range ((bS L+3) / 4)).map dJ:=by
 have e:X.map aQ.name=(X.map aQ.sp).map SpS.name:=by rw[oh];rfl
 rw[e,h.map];unfold aAm vM;rw[oh,ou,oh];rfl
theorem qK.all(h:qK L X):aF X=(List.range (bS L)).map prN:=by
 have e:aF X=(X.map aQ.sp).flatMap fun s=>s.bT.map fun r=>(s.name,r.name):=by unfold aF;rw[lAK];congr 1;funext g;unfold aQ.sp;simp
 rw[e,h.map,<-aWU _ (qkz L)];unfold aAm vM;rw[lAK,uA,lAK];show[]++_=_;rw[yj];congr 1;funext i;show((spN L i (min (bS L) (4*i+4))).bT.map (uW _)).map _=_;unfold spN;rw[oh,oh];refine lAX fun n _=>?_;simp only[Function.comp,qeb];rfl
theorem qK.xJ(h:qK L X){k:Nat}(a:k<bS L):(dJ (k / 4),fO k)∈aF X:=by rw[h.all];exact uC.2 ⟨k,xg.2 a,rfl⟩
theorem qK.gs(h:qK L X){g:aQ}(b:g∈X):(g.name=sU/\g.gs=[])\/∃ i,i<(bS L+3) / 4/\g.name=dJ i/\g.gs.map bB.r=(rls L i).map (uW (rls L i)):=by
 have a:g.sp∈aAm L:=by rw[<-h.map];exact xu b
 unfold aAm vM at a;rw[ou,su,oh,uC]at a;rcases a with a|⟨i,e,a⟩
 ·left;have c:=congrArg SpS.name a;have d:=congrArg SpS.bT a;refine⟨c,?_⟩;have:g.gs.map bB.r=[]:=d;simp_all
 ·right;refine⟨i,xg.1 e,(congrArg SpS.name a).symm,(congrArg SpS.bT a).symm⟩
theorem qK.x(h:qK L X){g:aQ}(d:g∈X){x:bB}(e:x∈g.gs):∃ i n,i<(bS L+3) / 4/\g.name=dJ i/\g.gs.map bB.r=(rls L i).map (uW (rls L i))/\n / 4=i/\n<bS L/\x.r=uW (rls L i) (mR L n):=by
 rcases h.gs d with⟨_,a⟩|⟨i,f,j,a⟩
 ·simp_all
 ·have c:x.r∈g.gs.map bB.r:=xu e;rw[a,uC]at c;obtain⟨r,b,k⟩:=c;unfold rls at b;rw[uC]at b;obtain⟨n,l,rfl⟩:=b;rw[qgt]at l;exact⟨i,n,f,j,a,om,om,k.symm⟩
theorem qg0(bT:List jQ)(r:jQ):∀ t∈(uW bT r).types,t∈r.types:=by
 unfold uW;split
 ·simp
 ·simp
theorem zti{L:List (List Nat)}{n:Nat}{r:Ru}(h:RuP L n r):((r.nodes false).any fun y=>decide (y.k=1))=gK r 1 sE:=by
 unfold gK;have b:=h.nd (neg:=false);generalize r.nodes false=l at b
 induction l with
 |nil=>rfl
 |cons y l ih=>
  rw[List.any_cons,List.any_cons,ih fun z c=>b z (uk _ c)];congr 1;unfold iA;rcases b y ug with⟨a,d⟩|⟨a,_⟩|⟨a,_⟩|a
  ·simp_all
  ·rw[a];rfl
  ·rw[a];rfl
  ·rw[ql om];rfl
theorem qK.val(h:qK L X):dB X:=by
 have bZh:bS L<=12:=uy _ _;have p:(X.map aQ.name).Nodup:=by rw[h.names];exact zi2 _ om
 have A:(aF X).Nodup:=by rw[h.all];exact qjx List.nodup_range fun a Z b hb e=>z2z (by have:=xg.1 Z;omega) (by have:=xg.1 hb;omega) e
 have B:∀ n,n<bS L->RuP L n (mR L n).rule:=fun n f=>q3k f 6 2 false fun h=>by cases h
 have bRh:X.length<=4:=by have:=congrArg List.length h.names;simp at this;omega
 refine⟨⟨om,fun g l=>⟨?_,?_⟩,fun g l x v=>?_⟩,A,p,fun g l x v=>?_,fun g l x v y K=>?_,fun g l x v=>?_⟩
 ·rcases h.gs l with⟨_,s⟩|⟨i,D,_,s⟩
  ·rw[s];simp
  ·have:=congrArg List.length s;unfold rls at this;simp only[pz,qlr]at this;omega
 ·rcases h.gs l with⟨q,_⟩|⟨i,D,q,_⟩
  ·rw[q];exact z6t
  ·rw[q];exact q3a i
 ·obtain⟨i,n,D,q,s,r,f,c⟩:=h.x l v;have hsm:=qo4 L n;refine⟨?_,?_,⟨?_,?_,?_⟩,fun t w=>?_⟩
  ·have:x.r.types.length<=(lK L n).length:=by
    rw[c];unfold uW;split
    ·exact lu _
    ·simp
   have:=qhc L n;omega
  ·rw[c,qeb];exact qhl n
  ·rw[c,qb8];exact(B n f).fit
  ·rw[c,qb8];omega
  ·rw[c,qb8];omega
  ·rw[c]at w;have C:=qg0 _ _ t w;rcases qrx f C with⟨u,d⟩|⟨k,o,rfl⟩
   ·refine⟨?_,.inl u⟩;rcases d with d|⟨i,_,d⟩
    ·rw[d];exact z6t
    ·rw[d];exact q3a i
   ·exact⟨q3a _,.inr (qhl _)⟩
 ·obtain⟨i,n,D,q,s,r,f,c⟩:=h.x l v;constructor
  ·rw[c];unfold uW;split
   ·exact qxc f
   ·simp
  ·intro t w;rw[c]at w;have C:=qg0 _ _ t w;rw[h.names];rcases qrx f C with⟨u,d⟩|⟨k,o,rfl⟩
   ·refine⟨?_,.inl u⟩;rcases d with d|⟨i,D,d⟩
    ·simp_all
    ·rw[d];exact uk _ (uC.2 ⟨i,xg.2 D,rfl⟩)
   ·exact⟨uk _ (uC.2 ⟨k / 4,xg.2 om,rfl⟩),.inr (h.xJ o)⟩
 ·obtain⟨i,n,D,q,s,r,f,c⟩:=h.x l v;rw[c,qb8]at K;have E:∀ k,Blo (bS L) n k->(g.name,fO k)∈aF X:=fun k o=>by
   have:=h.xJ o.2.2;unfold Blo at o;rw[q,<-r];rwa [show k / 4=n / 4 by omega]at this
  rcases(B n f).nd y K with⟨e,_⟩|⟨e,k,u,o⟩|⟨e,k,j,u,o,d,hj,w⟩|e
  ·omega
  ·simp_all
  ·refine⟨fun _=>by rw[u];exact E k o,fun _=>?_⟩;rw[u,d];obtain⟨x',V,_⟩:=qda A p (E k o);obtain⟨W,F,Q,R,G⟩:=qci V;have M:W=g:=qpp p F l (by rw[R]);subst M;obtain⟨Y,H,hi',S,h2',cA9,hn',I⟩:=h.x F Q;have N:Y=i:=by
    have:=qur (S.symm.trans q);omega
   subst N;have O:H=k:=by rw[I,qeb]at G;have:=qx4 G;unfold Blo at o;omega
   subst O;have m:qum (rls L Y) (mR L H)=true:=by
    unfold qum;rw[ah];right;rw[dC];refine⟨mR L n,?_,?_⟩
    ·unfold rls;exact uC.2 ⟨n,qgt.2 ⟨om,om⟩,rfl⟩
    ·unfold gK;rw[dC];refine⟨y,K,?_⟩;unfold iA;rw[qc e,qc (show y.rl=(mR L H).name from u)];rfl
   have P:x'.r.types=lK L H:=by rw[I];unfold uW;rw[qj m];rfl
   have U:dJ (j / 4)∈iZ X W.name (fO H) (fO j):=by unfold iZ;rw[V];unfold tgL;rw[uC];refine⟨⟨dJ (j / 4),sE⟩,?_,rfl⟩;rw[xF,P];refine⟨w,?_⟩;unfold tgP;rw[qhr A p,qc (h.xJ hj)];rfl
   intro h0;simp_all
  ·omega
 ·obtain⟨i,n,D,q,s,r,f,c⟩:=h.x l v;rw[c,qb8,zti (B n f),qeb];constructor
  ·intro T;unfold uW;rw[qj (by unfold qum;rw[T];rfl)];show lK L n≠[];unfold lK wK;simp
  ·intro T J;have m:qum (rls L i) (mR L n)=true:=by
    unfold uW at J;split at J
    ·assumption
    ·trivial
   unfold qum at m;rw[T,Bool.false_or]at m;have e:(g.gs.any fun z=>gK z.r.rule 3 (mR L n).name)=(g.gs.map bB.r).any fun z=>gK z.rule 3 (mR L n).name:=by rw[lE9];rfl
   rw[e,s,lE9];refine Eq.trans ?_ m;congr 1;funext z;simp only[Function.comp,qb8]
theorem qjn(X:List aQ):(d9 X).length=(aF X).length:=by rw[<-uV,pz]
theorem qnh{X:List aQ}{i:Nat}(h:i<(d9 X).length)(a:i<(aF X).length):(aF X)[i]=((d9 X)[i].1,(d9 X)[i].2.r.name):=by
 have e:(aF X)[i]? =some (kq (d9 X)[i]):=by rw[<-uV,xy,lq h];rfl
 rw[lq a]at e;exact Option.some.inj e
theorem dB.at{X:List aQ}(d:dB X){i:Nat}(h:i<(d9 X).length):lF X (d9 X)[i].1 (d9 X)[i].2.r.name=some (d9 X)[i].2/\cB X (d9 X)[i].1 (d9 X)[i].2.r.name=i/\∃ g∈X,(d9 X)[i].2∈g.gs/\g.name=(d9 X)[i].1:=by
 have b:i<(aF X).length:=by rw[<-qjn];exact h
 have j:=qpy d.al b;have k:cB X (d9 X)[i].1 (d9 X)[i].2.r.name=i:=by rw[qnh h b]at j;exact j
 have a:((d9 X)[i].1,(d9 X)[i].2.r.name)∈aF X:=by rw[<-qnh h b];exact lg b
 obtain⟨x,l,c⟩:=qda d.al d.sp a;rw[k,lq h]at c;injection c with c;refine⟨by rw[l,c],k,?_⟩;obtain⟨g,m,f,e⟩:=qgl.1 (show((d9 X)[i].1,(d9 X)[i].2)∈d9 X from lg h);exact⟨g,m,f,e⟩
structure bEn(c d:Ev.Call):Prop where
 aWJ:∀(b o n m:Nat) (x:Bool) (H:Hp) (r:R1),qoz H b o n=some r->c (.f 247) [.sl b o n m x,.fn 248 [] []] H=r
 aIC:∀(H:Hp),c (.f 247) [.aA,.fn 248 [] []] H=.ok (.bA []) H
 aW2:∀(b o m:Nat) (x:Bool) (H:Hp),c (.f 247) [.sl b o 0 m x,.fn 248 [] []] H=.ok (.bA []) H
abbrev qbv(C:Nat->Ev.Call):Prop:=∀ k,bEn (C (k+1)) (C k)
structure aVc(c d:Ev.Call):Prop where
 kJ:∀(x0:AV) (H:Hp),c (.f 226) [x0] H=Di.kJ d x0 H
 srt:∀(b o n m:Nat) (x:Bool) (H:Hp) (r:R1),qxo H b o n=some r->c (.f 225) [.sl b o n m x] H=r
 aIC:∀(H:Hp),c (.f 225) [.aA] H=.ok (.bA []) H
abbrev pJ(C:Nat->Ev.Call):Prop:=∀ k,aVc (C (k+1)) (C k)
variable {LA LO:LP}
variable {H0:Hp} {O:Ev.Call} {l:List AV}
theorem Gl.rl{v:AV}(h:Gl 1 H v n l):Rl H v l:=by
 have a:l.length=n:=by have:=h.len;omega
 refine⟨by rw[h.bM,a],fun i f=>?_⟩;obtain⟨b,o,c,d,_,e⟩:=h.at (i:=i) (x:=l[i]) g3;exact⟨b,o,c,d,e⟩
theorem qiq(l:List Nat)(h:i<(aJ l).length):(aJ l)[i]=.int .i64 (.ofNat (l[i]'(by simpa [aJ] using h))):=by simp[aJ]
theorem mP(l:List Nat):(aJ l).length=l.length:=by simp[aJ]
theorem qs0{O:Ev.Call}{H:Hp}{v:AV}{l pre a:List Nat}{x:Nat}(j:Rl H v (aJ l))(r:l.length<900000)(c:l=pre++x::a)(m:x∉pre){n:pD}{f:pH}{Q:pL}(p:Ok (n (.int .i64 (.ofNat pre.length)) H) Q):∀(k i:Nat),pre.length+1-i<k+1->i<=pre.length -> Ok (q5j O n f v (.int .i64 (.ofNat x)) (.int .i64 (.ofNat l.length)) k (.int .i64 (.ofNat i)) H) Q
 |0,i,h,hi=>om
 |k+1,i,h,hi=>by
  show Ok (zd6 O _ _ _ _ _ (q5j O _ _ _ _ _ k) _ H) Q;unfold zd6;have s:l.length=pre.length+1+a.length:=by rw[c];simp;omega
  have hil:i<l.length:=om;obtain⟨b,o,q,u,d⟩:=j.at' i (by rw[mP];exact hil);rw[qiq]at d;simp only[go_sem,hil];unfold zv7;by_cases t:i=pre.length
  ·subst t;have g:l[pre.length]'hil=x:=by subst c;simp
   rw[g]at d;simp only[go_sem,q,d];exact p
  ·have g:x≠l[i]'hil:=fun e=>m (by
    have:l[i]'hil=pre[i]'om:=by subst c;rw[lAW]
    rw[e,this];exact lg _)
   simp only[go_sem,q,d,g];unfold kQ;refine aT ?_;exact qs0 j r c m p k (i+1) om om
theorem zur{k:Nat}(e:1<=k){v:AV}{l pre a:List Nat}{x:Nat}(b:Rl H v (aJ l))(f:l.length<900000)(c:l=pre++x::a)(g:x∉pre):Ok (C k (.f 294) [v,.int .i64 (.ofNat x)] H) fun r H'=>r=.int .i64 (.ofNat pre.length)/\H'=H:=by
 obtain⟨j,rfl⟩:=aP e;rw[lk (zph ..)];unfold zDj zz9;have d:=b.len;rw[mP]at d;simp only[go_sem,d];unfold zv8;rw[dD];have h:l.length=pre.length+1+a.length:=by rw[c];simp;omega
 exact qs0 b f c g (Ok.ret ⟨rfl,rfl⟩) bZ 0 lf om
theorem zms(O:Ev.Call)(l:Nat)(args:List AV)(H:Hp):wY O (.yield l) args H=O (.y l) args H:=id rfl
theorem qqk{d:Ev.Call}{v:AV}{l:List AV}{H0:Hp}(m:l.length<900000)(f:Rl H0 v l){y:Nat}{Inv:Nat->Hp->Prop}(g:∀ i H,Inv i H->Fm No H0 H)(j:∀ i (h:i<l.length) H,Inv i H->Ok (d (.y y) [l[i]] H) fun r H'=>r=.bool true/\Inv (i+1) H'){n c:pH}{Q:pL}(p:∀ H,Inv l.length H->Ok (c H) Q):∀(k i:Nat) (H:Hp),l.length-i<k->i<=l.length->Inv i H -> Ok (q5g d n c (.yield y) v (.int .i64 (.ofNat l.length)) k (.int .i64 (.ofNat i)) H) Q
 |0,i,H,h,_,_=>om
 |k+1,i,H,h,hi,hI=>by
  show Ok (zd2 d _ _ _ _ _ (q5g d _ _ _ _ _ k) _ H) Q;unfold zd2;by_cases a:i<l.length
  ·obtain⟨b,o,q,t,s⟩:=(f.fm (g i H hI)).at' i a;simp only[go_sem,a];unfold zd1;simp only[go_sem,q,s,zms];refine Ok.ve (j i a H hI) ?_;rintro r H' ⟨rfl,e⟩;unfold kQ;refine aT ?_;exact qqk m f g j p k (i+1) H' om om e
  ·have:i=l.length:=om;simp only[go_sem,a];simp_all
theorem zbp{k:Nat}(b:1<=k){v:AV}(c:l.length<900000)(a:Rl H0 v l){vb y:Nat}(d:H.get vb=aB 0 [v]){Inv:Nat->Hp->Prop}(e:∀ i H',Inv i H'->Fm No H0 H')(f:∀ i (h:i<l.length) H',Inv i H'->Ok (C (k-1) (.y y) [l[i]] H') fun r H'=>r=.bool true/\Inv (i+1) H')(g:Inv 0 H):Ok (C k (.f 309) [.yield y,.ptr vb 0] H) fun r H'=>r=.bA []/\Inv l.length H':=by obtain⟨j,rfl⟩:=aP b;rw[lk (zpa ..)];unfold zDq zz3;have m:=a.len;simp only[go_sem,d,m];unfold zv2;rw[dD];exact qqk c a e f (fun H' h=>Ok.ret ⟨rfl,h⟩) bZ 0 H lf om g
theorem qcw(H:Hp)(c:Nat)(k:bW)(h:c≠H.nx):(aI H k).get c=H.get c:=by rw[qhq,pg h]
theorem Ok.aHA{l:Nat}{r:R1}{R Q:pL}{L:TT AV 2}{K:Kt 2}(h:Ok r R)(a:∀ v H,R v H->Ok (fin (endLoop l (.ok v H) L) K) Q):Ok (fin (endLoop l r L) K) Q:=by obtain⟨v,H,rfl,b⟩:=h;exact a v H b
structure Col(LA:LP)(H0:Hp)(L:TT AV 2)(l sb:Nat)(xs:List AV)(n:Nat)(H:Hp):Prop where
 fm:Fm No H0 H
 lp:H.get l=LA.blk true L
 hl:H0.nx<=l/\l<H.nx
 hs:H0.nx<=sb/\sb<H.nx
 ne:sb≠l
 vs:∃ v,H.get sb=aB 0 [v]/\Gl 1 H v n (xs.take n)/\∀ b,In v b->H0.nx<=b/\b≠l/\b≠sb
theorem qq5{L:TT AV 2}{l sb:Nat}{xs:List AV}(z:i<xs.length)(J:xs.length<900000)(g:∃ n:Nat,xs[i]=.int .i64 (.ofNat n))(a:Col LA H0 L l sb xs i H):Ok (fI O l L (.ptr sb 0) xs[i] (H.put l (LA.blk false L))) fun r H'=>r=.bool true/\Col LA H0 L l sb xs (i+1) H':=by
 obtain⟨v,g1,g2,g3⟩:=a.vs;obtain⟨m,y⟩:=g;unfold fI;have d:=a.ne;have u:(H.put l (LA.blk false L)).get sb=aB 0 [v]:=by rw[dO _ _ _ _ d];exact g1
 have A:Gl 1 (H.put l (LA.blk false L)) v i (xs.take i):=g2.keep (lu _) fun b e _=>dO _ _ _ _ (g3 b e).2.1;rw[y];have o:Gl 1 (aI (H.put l (LA.blk false L)) (aB 0 [.int .i64 (.ofNat m)])) v i (xs.take i):=A.no ((Fm.refl _ _).push _);obtain⟨f,G,I,N,t,P⟩:=o.append (w:=8) (k:=1) (x:=[.int .i64 (.ofNat m)]) (by omega) rfl (by omega) (by omega);have j:(aI (H.put l (LA.blk false L)) (aB 0 [.int .i64 (.ofNat m)])).nx=H.nx+1:=rfl;have B:=a.hl.2;have C:=a.hs.2;have p:f.get sb=aB 0 [v]:=by rw[t.get sb (by rw[j];omega) fun h=>(g3 sb h).2.2 rfl,qcw _ _ _ (by rw[nq];omega)];exact u
 have q:f.get l=LA.blk false L:=by rw[t.get l (by rw[j];omega) fun h=>(g3 l h).2.1 rfl,qcw _ _ _ (by rw[nq];omega),dN]
 simp(disch:=go_size)only[go_sem,seval,u,G,p,pq,uo];have s:(f.put sb (aB 0 [.sl (H.nx+1) 0 (i+1) (i+1) false])).get l=LA.blk false L:=by rw[dO _ _ _ _ (Ne.symm d)];exact q
 rw[zlx s];have D:Fm No H0 (aI (H.put l (LA.blk false L)) (aB 0 [.int .i64 (.ofNat m)])):=((a.fm.aG l _ a.hl.1).push _);have E:Fm No H0 f:=D.then t fun c K h=>absurd (g3 c h).1 (by omega);have F:Fm No H0 ((f.put sb (aB 0 [.sl (H.nx+1) 0 (i+1) (i+1) false])).put l (LA.blk true L)):=(E.aG sb _ a.hs.1).aG l _ a.hl.1;have M:=a.fm.nx;refine Ok.ret ⟨rfl,F,dN _ _ _,⟨a.hl.1,?_⟩,⟨a.hs.1,?_⟩,d,.sl (H.nx+1) 0 (i+1) (i+1) false,?_,?_,?_⟩
 ·show l<f.nx;omega
 ·show sb<f.nx;omega
 ·rw[dO _ _ _ _ d,dN]
 ·have:xs.take (i+1)=xs.take i++[.int .i64 (.ofNat m)]:=by rw[lh z,y]
  rw[this];refine I.keep (lu _) fun b e _=>?_;obtain⟨_,_,_,_,e⟩:=e;cases e;rw[dO _ _ _ _ (by omega),dO _ _ _ _ (by omega)]
 ·rintro b ⟨_,_,_,_,e⟩;cases e;omega
theorem qz6(l:oL LA LO C){k:Nat}(z:3<=k){v:AV}{xs:List AV}(m:xs.length<900000)(s:Rl H v xs)(c:∀ i (h:i<xs.length),∃n:Nat,xs[i]=.int .i64 (.ofNat n)){vb:Nat}(d:H.get vb=aB 0 [v])(e:vb<H.nx):Ok (C k (.f 313) [.aA,.fn 309 [] [.ptr vb 0]] H) fun r H'=>Gl 1 H' r xs.length xs/\(∀b,In r b->H.nx<=b)/\Fm No H H':=by
 obtain⟨j,rfl⟩:∃ j,k=j+3:=⟨k-3,om⟩;rw[(l (j+2)).kF];unfold kF qiw;simp only[go_sem];unfold qiv;generalize x:pu (pX [.aA,.fn 309 [] [.ptr vb 0]] 0 (same .undef 2)) [(2,.ptr H.nx 0),(4,.aA),(6,.fn 309 [] [.ptr vb 0])]=L;have p:G L 2=.ptr H.nx 0:=by rw[<-x];kernel_rfl
 generalize a:aI H (aB 0 [.aA])=H1;have A:H1.nx=H.nx+1:=by rw[<-a];rfl
 have t:Fm No H H1:=by rw[<-a];exact(Fm.refl _ _).push _
 have q:Fm No H (aI H1 (LA.blk true L)):=t.push _;have O:qj3 (C (j+2)) (.fn 309 [] [.ptr vb 0]) [.yield H1.nx] (aI H1 (LA.blk true L))=C (j+2) (.f 309) [.yield H1.nx,.ptr vb 0] (aI H1 (LA.blk true L)):=rfl;have u:Col LA H L H1.nx H.nx xs 0 (aI H1 (LA.blk true L)):=by
  refine⟨q,jG _ _,⟨om,by rw[np];omega⟩,⟨lu _,by rw[np];omega⟩,om,.aA,?_,?_,?_⟩
  ·rw[qbs _ _ _ om,<-a,jG]
  ·exact Gl.nil _ _
  ·rintro b ⟨_,_,_,_,h⟩;cases h
 refine Ok.aHA (zbp (k:=j+2) om m s (vb:=vb) (y:=H1.nx) (by rw[q.keep e];exact d) (Inv:=fun i H'=>Col LA H L H1.nx H.nx xs i H') (fun i H' h=>h.fm) (fun i o H' h=>?_) u) ?_
 ·rw[show j+2-1=j+1 from rfl,(l j).fI L _ _ _ h.lp,p];exact qq5 o m (c i o) h
 ·rintro r H' ⟨rfl,g⟩;rw[z6z g.lp];unfold qg4;rw[p];obtain⟨w,g1,g2,g3⟩:=g.vs;have f:(H'.put H1.nx .dead).get H.nx=aB 0 [w]:=by rw[dO _ _ _ _ om];exact g1
  rw[tq (lu _)]at g2;simp only[go_sem,f];refine Ok.ret ⟨g2.keep (lu _) fun b d _=>dO _ _ _ _ (g3 b d).2.1,fun b d=>(g3 b d).1,g.fm.aG _ _ om⟩
theorem zbu(d:oL LA LO C){k:Nat}(e:4<=k){v:AV}{xs:List AV}(f:xs.length<900000)(g:Rl H v xs)(a:∀ i (h:i<xs.length),∃n:Nat,xs[i]=.int .i64 (.ofNat n)){vb:Nat}(l:H.get vb=aB 0 [v])(c:vb<H.nx):Ok (C k (.f 308) [.fn 309 [] [.ptr vb 0]] H) fun r H'=>Gl 1 H' r xs.length xs/\(∀b,In r b->H.nx<=b)/\Fm No H H':=by obtain⟨j,rfl⟩:=aP e;rw[lk (zo9 ..)];refine Ok.ve (qz6 d (k:=j) om f g a l c) ?_;rintro r H' h;exact Ok.ret h
open Go.Sort
theorem qpw:∀ l:List Nat,qpx (aJ l)=some (l.map Int.ofNat)
 | []=>rfl
 |n::l=>by show(match qpx (aJ l)with|some r=>some (Int.ofNat n::r)|none=>none)=_;rw[qpw l];rfl
theorem q9n(E:pJ C)(K:qbv C){k:Nat}{n:Nat}{v:AV}{l:List Nat}{H:Hp}(M:n<900)(F:1<=n)(N:n+10<=k)(A:Gl 1 H v n (aJ l)):Ok (C k (.f 225) [v] H) fun r H'=>r=.bA []/\∃ R:List Nat,R.Perm l/\R.Pairwise (· <= ·)/\Gl 1 H' v n (aJ R)/\Fm (In v) H H':=by
 obtain⟨k,rfl⟩:∃ j,k=j+1:=⟨k-1,om⟩;have g:l.length=n:=by have:=A.len;rw[mP]at this;omega
 rcases A.is with⟨_,O⟩|⟨b,o,e,q,L,rfl,g1,g2,g3,g4,g5⟩
 ·omega
 have i:L.length=o+n:=by have:=congrArg List.length g3;rw[vz,mP]at this;omega
 let R:List Nat:=(qjk (l.map Int.ofNat)).map Int.toNat
 have D:(qjk (l.map Int.ofNat)).Perm (l.map Int.ofNat):=List.mergeSort_perm _ _;have p:∀ x∈qjk (l.map Int.ofNat),∃m:Nat,x=Int.ofNat m:=fun x f=>by obtain⟨m,_,rfl⟩:=uC.1 (D.mem_iff.1 f);exact⟨m,rfl⟩
 have s:R.map Int.ofNat=qjk (l.map Int.ofNat):=by rw[oh];refine(lAX fun x f=>?_).trans (List.map_id _);obtain⟨m,rfl⟩:=p x f;rfl
 have t:(qjk (l.map Int.ofNat)).map (fun z=>AV.int .i64 z)=aJ R:=by rw[<-s,oh];rfl
 have d:R.length=n:=by rw[pz,qox,pz,g]
 have u:storeAt H b o (aJ R) (.bA [])=.ok (.bA []) (H.put b (aB q (aZ L o (aJ R)))):=qb3 _ _ _ _ _ _ _ g1 (by rw[mP,d,i];omega);have G:qxo H b o n=some (.ok (.bA []) (H.put b (aB q (aZ L o (aJ R))))):=by
  unfold qxo;have I:fD (H.get b) o n=some (aJ l):=by rw[g1,yU,qj (by rw[i];omega),g3,tq (by rw[mP];omega)]
  rw[I];simp only[qpw,t,u];have J:Nat.blt n 4611686018427387904=true:=by rw[blt_eq,qc om]
  rw[J];rfl
 rw[(E k).srt _ _ _ _ _ _ _ G];refine Ok.ret ⟨rfl,R,?_,?_,?_,?_⟩
 ·have B:=D.map Int.toNat;have:(l.map Int.ofNat).map Int.toNat=l:=by
   rw[oh];exact(lAX fun x _=>rfl).trans (List.map_id _)
  rwa [this]at B
 ·have w:(qjk (l.map Int.ofNat)).Pairwise fun x y=>decide (x<=y)=true:=List.pairwise_mergeSort (fun a b c F B=>by simp only[yc]at *;omega) (fun a b=>by simp only[ah,yc];omega) _;rw[List.pairwise_map];refine w.imp fun{a c} h=>?_;rw[yc]at h;omega
 ·refine⟨by rw[mP,d,qm],.inr ⟨b,o,e,q,_,rfl,dN _ _ _,?_,?_,g4,g5⟩⟩
  ·unfold aZ;simp_all
  ·unfold aZ;rw[qw,xn (by rw[qx];omega),xe (by rw[qx];omega),yj,xe (by rw[mP,d,i];omega),uf]
 ·exact(Fm.refl _ _).put _ _ fun _=>⟨_,_,_,_,rfl⟩
theorem zm1(d:pJ C)(e:qbv C)(f:oL LA LO C){k:Nat}{v:AV}{l:List Nat}{H:Hp}(s:l.length<900)(g:1<=l.length)(t:l.length+11<=k)(m:Rl H v (aJ l)){vb:Nat}(n:H.get vb=aB 0 [v])(a:vb<H.nx):Ok (C k (.f 295) [.fn 309 [] [.ptr vb 0]] H) fun r H'=>∃ R:List Nat,R.Perm l/\R.Pairwise (· <= ·)/\Gl 1 H' r l.length (aJ R)/\(∀b,In r b->H.nx<=b)/\Fm No H H':=by obtain⟨j,rfl⟩:∃ j,k=j+1:=⟨k-1,om⟩;rw[lk (zpf ..)];refine Ok.ve (zbu f (k:=j) om (by rw[mP];omega) m (fun i h=>⟨_,qiq l h⟩) n a) ?_;rintro r H1 ⟨g1,g2,g3⟩;rw[mP]at g1;refine Ok.ve (q9n d e (k:=j) om g om g1) ?_;rintro w x ⟨rfl,R,o,p,g4,q⟩;exact Ok.ret ⟨R,o,p,g4,g2,g3.then q fun c u h=>absurd (g2 c h) om⟩
end Go.Di
end
