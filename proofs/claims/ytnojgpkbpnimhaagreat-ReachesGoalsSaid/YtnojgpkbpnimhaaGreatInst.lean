/-
 For ReachesGoals: the law at all arguments, over the evaluator. No conditions beyond those that each theorem states.
-/
import Derived.Test.YtnojgpkbpnimhaaGreatLinkA
import Derived.Test.YtnojgpkbpnimhaaGreatRunB
import Derived.Test.YtnojgpkbpnimhaaGreatConK
import Derived.Test.YtnojgpkbpnimhaaGreatRunK
set_option linter.unusedSimpArgs false
set_option linter.unusedVariables false
section
namespace Go.Di
open Go.Ev Go.Proofs
theorem z8k:qbv CZ:=fun k=>⟨fun b o n m x H r h=>qdl _ _ _ _ (by
  cases n with
  |zero=>
   exfalso;unfold qoz at h;split at h
   ·rename_i l c;obtain⟨_,_,_,_,_,_,_,a,_⟩:=qe5 c;obtain rfl:=tu.1 a;split at h
    ·rename_i zs d;cases d;split at h
     ·rename_i e;exact absurd e.pos (xx _)
     ·cases h
    ·cases h
   ·cases h
  |succ n=>exact h),fun H=>qdl _ _ _ _ rfl,fun b o m x H=>qdl _ _ _ _ rfl⟩
theorem z8m:pJ CZ:=fun k=>⟨ fun _ _=>(sz (by rfl)).trans (qqy ..), fun b o n m x H r h=>qdl _ _ _ _ h, fun H=>qdl _ _ _ _ rfl⟩
theorem z8l:oL LAc LOc CZ:=fun k=>⟨ fun _ _ _=>(sz (by rfl)).trans (qq6 ..), fun L l v H h=>(aOb _ _ _ _).trans (qqr _ L l v H h), fun _ _=>(sz (by rfl)).trans (zql ..), fun L l v H h=>(aOb _ _ _ _).trans (zfr _ L l v H h)⟩
theorem z7z:nZ=nmL.map fun s=>(s.n,s.a):=by decide
theorem z7v{s:SS}(h:Nm s):nZ.any (fun t=>Nat.beq s.n t.1&&Nat.beq s.a t.2)=true:=by rw[dC];exact⟨(s.n,s.a),z7z▸uC.2 ⟨s,h,rfl⟩,by simp⟩
theorem zl5{f:FuncId}(b:f=252\/f=231){s:SS}(h:Nm s)(H:Hp):eZ f [s.v] H=some (.ok (.bool true) H):=by
 have a:=z7v h;rcases b with rfl|rfl
 ·show(bif nZ.any (fun t=>Nat.beq s.n t.1&&Nat.beq s.a t.2)then some (R1.ok (.bool true) H)else none)=_;rw[a];rfl
 ·show(bif nZ.any (fun t=>Nat.beq s.n t.1&&Nat.beq s.a t.2)then some (R1.ok (.bool true) H)else none)=_;rw[a];rfl
theorem z8n:iQ CZ:=fun _=>⟨fun _ h H=>qdl _ _ _ _ (zl5 (.inl rfl) h H),fun _ h H=>qdl _ _ _ _ (zl5 (.inr rfl) h H)⟩
theorem z8o:qer CZ:=fun k=>⟨fun H v es h a=>by obtain⟨r,c,d⟩:=q3f 218 217 (qnc 247 248 (qus 225 (quh [252,231] nZ (q6x [4])))) h a;have b:CZ (k+1) (.f 218) [v,.fn 217 [] []] H=r:=qdl k 218 [v,.fn 217 [] []] H c;rw[b];exact d⟩
set_option maxRecDepth 100000
theorem aCv:Tryz.prog.follows .mixedOrders=true:=by kernel_rfl
theorem zs8:Yes Tryz.prog 4:=by have w:=(qh _ _).mp bBt;exact q9t aCv (qvq fun e h=>⟨qy0 aCv (qvq fun e h=>⟨qy0 aCv qvg (vk.1 aMU e h),vk.1 w.1 e h⟩) (vk.1 aPa e h),vk.1 w.2 e h⟩) zs9
theorem zs3:∀ f∈[252,231],∀s∈nZ,aJA Tryz.prog f s:=fun f a s b=>by obtain⟨t,c,rfl⟩:=uC.1 (z7z▸b);exact q2x aCv qvg (vk.1 (vk.1 zs4 f a) t c)
theorem aVK:xC Tryz.prog eZ:=q3c (q3g (q3e (q95 (q9u (zh1 (fun f a=>by obtain rfl:=qf.1 a;exact zs8) (by kernel_rfl)) zs3 (by kernel_rfl)) Tryz.sortCalls (qqu aCv qvg z2f) (by kernel_rfl)) Tryz.sortFCalls Tryz.sortFNone (by kernel_rfl)) Tryz.sortECalls Tryz.sortENone (by kernel_rfl)) Tryz.sortTCalls Tryz.sortTNone (by kernel_rfl)
theorem z8j:qj7 CZ:=fun k=>⟨fun H v l h a b=>by obtain⟨r,d,e⟩:=q3b 128 129 eZ0 b h a;have c:CZ (k+1) (.f 128) [v,.fn 129 [] []] H=r:=qdl k 128 [v,.fn 129 [] []] H d;rw[c];exact e⟩
theorem aWO{a lv:AV}{L:List (List Nat)}{b:List Q4}{m:Nat}{H:Hp}(c:iB H a L)(d:Rs 4 Q4.cells H lv b)(e:m<256)(g:G3):Ok (CZ 2000 (.f 3) [.agg [a,lv],uN m,.agg (gC g)] H) fun r _=>r=.bool true:=by rw[<-xN,lk (znz ..)];exact qqn (xN▸z8n) (xN▸z8o) (xN▸z8m) (xN▸z8k) (xN▸z8l) (xN▸z8j) (k:=1999) (by omega) (fun k H h=>by rw[xN];exact zt0 k H h) c d e g
end Go.Di
end
