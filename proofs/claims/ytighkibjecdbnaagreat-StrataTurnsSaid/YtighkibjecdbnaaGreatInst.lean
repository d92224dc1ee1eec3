/-
 For StrataTurns: the law at all arguments, over the evaluator. No conditions beyond those that each theorem states.
-/
import Derived.Test.YtighkibjecdbnaaGreatLinkA
import Derived.Test.YtighkibjecdbnaaGreatRunA
import Derived.Test.YtighkibjecdbnaaGreatConJ
import Derived.Test.YtighkibjecdbnaaGreatRunB
set_option linter.unusedSimpArgs false
set_option linter.unusedVariables false
noncomputable section
namespace Go.Di
open Go.Ev Go.Proofs
theorem zdo{P:Program}{ext:Ext}{f:FuncId}{args:List AV}{H:Hp}(h:ext f args H=none)(k:Nat):eY P ext (k+1) (.f f) args H=(aP P f).f (eY P ext k) args H:=by show @Option.rec R1 (fun _=>R1) ((uO P f).f (eY P ext k) args H) (fun r=>r) (ext f args H)=_;rw[h,q63]
theorem q7i{P:Program}{ext:Ext}{f:FuncId}{args:List AV}{H:Hp}{r:R1}(h:ext f args H=some r)(k:Nat):eY P ext (k+1) (.f f) args H=r:=by show @Option.rec R1 (fun _=>R1) ((uO P f).f (eY P ext k) args H) (fun r=>r) (ext f args H)=_;rw[h]
theorem z3z{P:Program}{ext:Ext}{l:Nat}{args:List AV}{H:Hp}(k:Nat):eY P ext (k+1) (.y l) args H=qhi P (eY P ext k) l args H:=by show qy0 P (eY P ext k) l args H=_;rw[qyz]
def nZ:List (Nat×Nat):=nmL.map fun s=>(s.n,s.a)
def eZ:Ext:=qgq 68 67 (qmt 112 113 (qwu 82 (qwk [129,90,71] nZ (qxb [109] nZ (q84 [5])))))
attribute [local irreducible] Go.Ev.eY Go.Ev.aP Go.Ev.uO
def CZ(k:Nat):Ev.Call:=eY Tryz.prog eZ k
theorem znq(k:Nat)(f:FuncId)(l:List AV)(H:Hp)(h:eZ f l H=none):CZ (k+1) (.f f) l H=(aP Tryz.prog f).f (CZ k) l H:=
 zdo (P:=Tryz.prog) (ext:=eZ) (f:=f) (args:=l) (H:=H) h k
theorem sz{k:Nat}{f:FuncId}{l:List AV}{H:Hp}(h:eZ f l H=none):CZ (k+1) (.f f) l H=(aP Tryz.prog f).f (CZ k) l H:=znq _ _ _ _ h
theorem qc7(k:Nat)(f:FuncId)(l:List AV)(H:Hp){r:R1}(h:eZ f l H=some r):CZ (k+1) (.f f) l H=r:=
 q7i (P:=Tryz.prog) (ext:=eZ) (f:=f) (args:=l) (H:=H) h k
theorem aM9(k l:Nat)(a:List AV)(H:Hp):CZ (k+1) (.y l) a H=qhi Tryz.prog (CZ k) l a H:=z3z k
theorem zup(k:Nat)(H:Hp)(h:1<=k):CZ k (.f 5) [] H=.ok (.bool true) H:=by
 have:k=(k-1)+1:=by omega
 rw[this];exact qc7 _ _ _ _ rfl
theorem links:aV CZ:=fun k=>⟨ fun _ _ _=>(sz (by rfl)).trans (q7y ..), fun _ _=>(sz (by rfl)).trans (zr7 ..), fun _ _=>(sz (by rfl)).trans (zpl ..), fun _ _=>(sz (by rfl)).trans (zr6 ..), fun _ _=>(sz (by rfl)).trans (zrt ..), fun _ _=>(sz (by rfl)).trans (zpk ..), fun _ _=>(sz (by rfl)).trans (zpj ..), fun _ _=>(sz (by rfl)).trans (zr1 ..), fun _ _=>(sz (by rfl)).trans (zr0 ..), fun _ _ _ _ _ _=>(sz (by rfl)).trans (zry ..), fun _ _=>(sz (by rfl)).trans (zrx ..), fun _ _ _=>(sz (by rfl)).trans (zrw ..), fun _ _ _ _=>(sz (by rfl)).trans (zrv ..), fun _ _=>(sz (by rfl)).trans (zr5 ..), fun _ _=>(sz (by rfl)).trans (zr4 ..), fun _ _=>(sz (by rfl)).trans (zrs ..), fun _ _=>(sz (by rfl)).trans (zrc ..), fun _ _=>(sz (by rfl)).trans (zrb ..), fun _ _ _ _ _ _ _ _=>(sz (by rfl)).trans (zra ..), fun _ _ _ _ _=>(sz (by rfl)).trans (zq9 ..), fun _ _=>(sz (by rfl)).trans (zq8 ..), fun _ _=>(sz (by rfl)).trans (zpi ..), fun _ _ _=>(sz (by rfl)).trans (zq2 ..), fun _ _ _ _=>(sz (by rfl)).trans (zph ..), fun _ _ _=>(sz (by rfl)).trans (zpg ..), fun _ _ _=>(sz (by rfl)).trans (zpf ..), fun _ _ _ _=>(sz (by rfl)).trans (zpe ..), fun _ _=>(sz (by rfl)).trans (zrj ..), fun _ _=>(sz (by rfl)).trans (zri ..), fun _ _ _ _ _=>(sz (by rfl)).trans (zrh ..), fun _ _ _ _ _=>(sz (by rfl)).trans (zrg ..), fun _ _=>(sz (by rfl)).trans (zrf ..), fun _ _ _ _=>(sz (by rfl)).trans (zre ..), fun _ _ _ _=>(sz (by rfl)).trans (zro ..), fun _ _=>(sz (by rfl)).trans (zr3 ..), fun _ _=>(sz (by rfl)).trans (zrr ..), fun _ _ _ _=>(sz (by rfl)).trans (zrq ..), fun _ _ _ _=>(sz (by rfl)).trans (zr2 ..), fun _ _ _ _ _=>(sz (by rfl)).trans (zrn ..), fun _ _ _ _ _=>(sz (by rfl)).trans (zrm ..), fun _ _=>(sz (by rfl)).trans (zq5 ..), fun _ _=>(sz (by rfl)).trans (zq4 ..), fun _ _=>(sz (by rfl)).trans (zrl ..), fun _ _=>(sz (by rfl)).trans (zq0 ..), fun _ _=>(sz (by rfl)).trans (zq3 ..), fun _ _ _ _=>(sz (by rfl)).trans (zqz ..), fun _ _=>(sz (by rfl)).trans (zqx ..), fun _ _ _ _=>(sz (by rfl)).trans (zqv ..), fun _ _ _ _ _=>(sz (by rfl)).trans (zqu ..), fun _ _ _=>(sz (by rfl)).trans (zqt ..), fun _ _=>(sz (by rfl)).trans (zqs ..), fun _ _=>(sz (by rfl)).trans (zqr ..), fun _ _=>(sz (by rfl)).trans (zpd ..), fun _ _ _=>(sz (by rfl)).trans (zpc ..), fun _ _=>(sz (by rfl)).trans (zqq ..), fun _ _=>(sz (by rfl)).trans (zqp ..), fun _ _ _=>(sz (by rfl)).trans (zqo ..), fun _ _=>(sz (by rfl)).trans (zqn ..), fun _ _ _=>(sz (by rfl)).trans (zpb ..), fun _ _=>(sz (by rfl)).trans (zpa ..), fun _ _ _=>(sz (by rfl)).trans (zo9 ..), fun _ _=>(sz (by rfl)).trans (zo8 ..), fun _ _ _ _=>(sz (by rfl)).trans (zq1 ..), fun _ _=>(sz (by rfl)).trans (zqm ..), fun _ _ _ _ _=>(sz (by rfl)).trans (zql ..), fun _ _ _=>(sz (by rfl)).trans (zqk ..), fun _ _ _ _ _=>(sz (by rfl)).trans (zqj ..), fun _ _ _ _=>(sz (by rfl)).trans (zqi ..), fun _ _=>(sz (by rfl)).trans (zqh ..), fun _ _ _ _ _ _ _ _=>(sz (by rfl)).trans (zqg ..), fun _ _=>(sz (by rfl)).trans (zqf ..), fun _ _=>(sz (by rfl)).trans (zqe ..), fun _ _ _=>(sz (by rfl)).trans (zqd ..), fun _ _=>(sz (by rfl)).trans (zqc ..), fun _ _=>(sz (by rfl)).trans (zqb ..), fun _ _ _=>(sz (by rfl)).trans (zo6 ..), fun _ _=>(sz (by rfl)).trans (zo4 ..), fun _ _ _=>(sz (by rfl)).trans (zqa ..), fun _ _ _=>(sz (by rfl)).trans (zp9 ..), fun _ _ _ _ _=>(sz (by rfl)).trans (zp8 ..), fun _ _=>(sz (by rfl)).trans (zp7 ..), fun _ _ _=>(sz (by rfl)).trans (zp6 ..), fun _ _ _ _=>(sz (by rfl)).trans (zp5 ..), fun _ _ _=>(sz (by rfl)).trans (zp4 ..), fun _ _=>(sz (by rfl)).trans (zp3 ..), fun _ _=>(sz (by rfl)).trans (zp2 ..), fun _ _=>(sz (by rfl)).trans (zo3 ..), fun _ _ _=>(sz (by rfl)).trans (zp1 ..), fun _ _ _=>(sz (by rfl)).trans (zpz ..), fun _ _ _=>(sz (by rfl)).trans (zpy ..), fun _ _ _=>(sz (by rfl)).trans (zpx ..), fun _ _ _=>(sz (by rfl)).trans (zpw ..), fun _ _ _=>(sz (by rfl)).trans (zpv ..), fun _ _=>(sz (by rfl)).trans (zpu ..), fun _ _=>(sz (by rfl)).trans (zpt ..), fun _ _ _=>(sz (by rfl)).trans (zps ..), fun _ _ _=>(sz (by rfl)).trans (zpr ..), fun _ _ _=>(sz (by rfl)).trans (zpq ..), fun _ _ _=>(sz (by rfl)).trans (zpp ..), fun _ _ _=>(sz (by rfl)).trans (zpo ..), fun _ _=>(sz (by rfl)).trans (zpn ..), fun _ _ _=>(sz (by rfl)).trans (zpm ..)⟩
theorem z7l:nV CZ:=fun k=>⟨fun b o n m x H r h=>qc7 _ _ _ _ (by
  cases n with
  |zero=>
   exfalso;unfold qow at h;split at h
   ·rename_i l c;obtain⟨_,_,_,_,_,_,_,a,_⟩:=qgw c;obtain rfl:=tq.1 a;split at h
    ·rename_i zs d;cases d;split at h
     ·rename_i e;exact absurd e.pos (xq _)
     ·cases h
    ·cases h
   ·cases h
  |succ n=>exact h),fun H=>qc7 _ _ _ _ rfl,fun b o m x H=>qc7 _ _ _ _ rfl⟩
theorem z7n:pI CZ:=fun k=>⟨ fun _ _=>(sz (by rfl)).trans (qqr ..), fun b o n m x H r h=>qc7 _ _ _ _ h, fun H=>qc7 _ _ _ _ rfl⟩
theorem z7m:oZ LAc LOc CZ:=fun k=>⟨ fun _ _ _=>(sz (by rfl)).trans (qqz ..), fun L l v H h=>(aM9 _ _ _ _).trans (qqm _ L l v H h), fun _ _=>(sz (by rfl)).trans (zq7 ..), fun L l v H h=>(aM9 _ _ _ _).trans (zha _ L l v H h)⟩
theorem zxn{s:SS}(h:Nm s):nZ.any (fun t=>Nat.beq s.n t.1&&Nat.beq s.a t.2)=true:=by rw[zt];exact⟨(s.n,s.a),qj.2 ⟨s,h,rfl⟩,by simp⟩
theorem q7a{f:FuncId}(a:f=129\/f=90\/f=71){s:SS}(h:Nm s)(H:Hp):eZ f [s.v] H=some (.ok (.bool true) H):=by
 have b:=zxn h;rcases a with rfl|rfl|rfl<;>(
  show(bif nZ.any (fun t=>Nat.beq s.n t.1&&Nat.beq s.a t.2)then some (R1.ok (.bool true) H)else none)=_;rw[b];rfl)
theorem z3h{s:SS}(h:Nm s)(H:Hp):eZ 109 [s.v] H=some (.ok (iN 1) H):=by have a:=zxn h;show(bif nZ.any (fun t=>Nat.beq s.n t.1&&Nat.beq s.a t.2)then some (R1.ok (iN 1) H)else none)=_;rw[a];rfl
theorem z7o:kH CZ:=fun _=>⟨fun _ h H=>qc7 _ _ _ _ (q7a (.inl rfl) h H),fun _ h H=>qc7 _ _ _ _ (q7a (.inr (.inl rfl)) h H)⟩
theorem z7p:qep CZ:=fun _=>⟨fun _ h H=>qc7 _ _ _ _ (z3h h H),fun _ h H=>qc7 _ _ _ _ (q7a (.inr (.inr rfl)) h H)⟩
theorem z7q:qho CZ:=fun k=>⟨fun H v e h a=>by obtain⟨r,c,d⟩:=q6c 68 67 (qmt 112 113 (qwu 82 (qwk [129,90,71] nZ (qxb [109] nZ (q84 [5]))))) h a;have b:CZ (k+1) (.f 68) [v,.fn 67 [] []] H=r:=qc7 k 68 [v,.fn 67 [] []] H c;rw[b];exact d⟩
set_option maxRecDepth 100000
theorem aCR:Tryz.prog.follows .mixedOrders=true:=by kernel_rfl
theorem ztr:Yes Tryz.prog 5:=zbx aCR qm1 zts
theorem ztm:∀ f∈[129,90,71],∀s∈nZ,aHS Tryz.prog f s:=fun f a s b=>by obtain⟨t,c,rfl⟩:=qj.1 b;exact q52 aCR qm1 (yl.1 (yl.1 ztn f a) t c)
theorem zto:∀ f∈[109],∀s∈nZ,aH7 Tryz.prog f s:=fun f a s b=>by obtain rfl:=gq.1 a;obtain⟨t,c,rfl⟩:=qj.1 b;exact q6w aCR qm1 (yl.1 z2p t c)
theorem aUv:vQ Tryz.prog eZ:=q6d (q6b (zca (zby (zcr (zjt (fun f a=>by obtain rfl:=gq.1 a;exact ztr) (by kernel_rfl)) zto (by kernel_rfl)) ztm (by kernel_rfl)) Tryz.sortCalls (qqo aCR qm1 z1f) (by kernel_rfl)) Tryz.sortFCalls Tryz.sortFNone (by kernel_rfl)) Tryz.sortECalls Tryz.sortENone (by kernel_rfl)
theorem aVO{a lv:AV}{L:List (List Nat)}{b:List Q2}{H:Hp}(c:gT H a L)(d:Rs 2 Q2.cells H lv b):Ok (CZ 2000 (.f 4) [.agg [a],lv] H) fun r _=>r=.bool true:=by
 have h:CZ 2000 (.f 4) [.agg [a],lv] H=zFz (CZ 1999) (.agg [a]) lv H:=
  (znq _ _ _ _ (by rfl)).trans (q7y _ _ _ H)
 rw[h];exact qqx links z7o z7q z7n z7l z7m z7p (k:=1999) (by omega) (fun k H h=>zup k H h) c d
end Go.Di
end
