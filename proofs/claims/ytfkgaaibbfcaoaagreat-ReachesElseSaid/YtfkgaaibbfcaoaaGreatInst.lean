/-
 For ReachesElse: the law at all arguments, over the evaluator. No conditions beyond those that each theorem states.
-/
import Derived.Test.YtfkgaaibbfcaoaaGreatLinkA
import Derived.Test.YtfkgaaibbfcaoaaGreatRunA
import Derived.Test.YtfkgaaibbfcaoaaGreatConF
import Derived.Test.YtfkgaaibbfcaoaaGreatConG
import Derived.Test.YtfkgaaibbfcaoaaGreatRunC
set_option linter.all false
section
namespace Go.Di
open Go.Ev Go.Proofs
theorem xap:pP CZ:=λk=>⟨λb o n m x H r h=>i0 _ _ _ _ (by
  cases n with
  |zero=>
   exfalso;unfold uJ at h;split at h
   ·rename_i l c;obtain⟨_,_,_,_,_,_,_,a,_⟩:=Ba c;obtain rfl:=lE5.1 a;split at h
    ·rename_i zs d;cases d;split at h
     ·rename_i e;exact absurd e.pos (dC _)
     ·cases h
    ·cases h
   ·cases h
  |succ n=>exact h),λH=>i0 _ _ _ _ rfl,λb o m x H=>i0 _ _ _ _ rfl⟩
theorem xar:qM CZ:=λk=>⟨ λ_ _=>(sz (by rfl)).trans (qri ..), λb o n m x H r h=>i0 _ _ _ _ h, λH=>i0 _ _ _ _ rfl⟩
theorem xaq:pZ LAc LOc CZ:=λk=>⟨ λ_ _ _=>(sz (by rfl)).trans (qro ..), λL l v H h=>(P4 _ _ _ _).trans (qra _ L l v H h), λ_ _=>(sz (by rfl)).trans (zsd ..), λL l v H h=>(P4 _ _ _ _).trans (zhg _ L l v H h)⟩
theorem Vm:nZ=nmL.map λs=>(s.n,s.a):=by decide
theorem z99{s:SS}(h:Nm s):nZ.any (λt=>Nat.beq s.n t.1&&Nat.beq s.a t.2)=true:=by rw[lIE];exact⟨(s.n,s.a),Vm▸lEA.2 ⟨s,h,rfl⟩,by simp⟩
theorem zng{f:FuncId}(b:f=309\/f=288){s:SS}(h:Nm s)(H:Hp):eZ f [s.v] H=some (.ok (.bool true) H):=by
 have a:=z99 h;rcases b with rfl|rfl
 ·show(bif nZ.any (λt=>Nat.beq s.n t.1&&Nat.beq s.a t.2)then some (R1.ok (.bool true) H)else none)=_;rw[a];rfl
 ·show(bif nZ.any (λt=>Nat.beq s.n t.1&&Nat.beq s.a t.2)then some (R1.ok (.bool true) H)else none)=_;rw[a];rfl
theorem xas:iO CZ:=λ_=>⟨λ_ h H=>i0 _ _ _ _ (zng (.inl rfl) h H),λ_ h H=>i0 _ _ _ _ (zng (.inr rfl) h H)⟩
theorem xat:fG CZ:=λk=>⟨λH v es h a=>by obtain⟨r,c,d⟩:=q4u 274 273 (Gv 304 305 (HZ 281 (HV [309,288] nZ (Em [35])))) h a;have b:CZ (k+1) (.f 274) [v,.fn 273 [] []] H=r:=i0 k 274 [v,.fn 273 [] []] H c;rw[b];exact d⟩
set_option maxRecDepth 100000
theorem vi:Tryz.prog.follows .mixedOrders=true:=by kernel_rfl
theorem zu1:I1 Tryz.prog 35:=by have w:=(sA _ _).mp bB6;exact zbb vi (Nc λe h=>⟨UN vi (Nc λe h=>⟨UN vi M5 (lEN.1 aNP e h),lEN.1 w.1 e h⟩) (lEN.1 aQi e h),lEN.1 w.2 e h⟩) zu3
theorem zuw:∀f∈[309,288],∀s∈nZ,Jg Tryz.prog f s:=λf a s b=>by obtain⟨t,c,rfl⟩:=lEA.1 (Vm▸b);exact q4f vi M5 (lEN.1 (lEN.1 zux f a) t c)
theorem aW8:xM Tryz.prog eZ:=q4q (q4v (q4t (zbn (zbc (zi5 (λf a=>by obtain rfl:=lAK.1 a;exact zu1) (by kernel_rfl)) zuw (by kernel_rfl)) Tryz.sortCalls (qre vi M5 z0e) (by kernel_rfl)) Tryz.sortFCalls Tryz.sortFNone (by kernel_rfl)) Tryz.sortECalls Tryz.sortENone (by kernel_rfl)) Tryz.sortTCalls Tryz.sortTNone (by kernel_rfl)
theorem xao:uK CZ:=λk=>⟨λH v l h a b=>by obtain⟨r,d,e⟩:=q4p 185 186 Qq b h a;have c:CZ (k+1) (.f 185) [v,.fn 186 [] []] H=r:=i0 k 185 [v,.fn 186 [] []] H d;rw[c];exact e⟩
theorem aXW{b lv:AV}{L:List (List Nat)}{c:List Q4}{m p q r:Nat}{H:Hp}(d:iD H b L)(e:Rs 4 Q4.cells H lv c)(f:m<256)(g:p<256)(a:q<256)(i:r<256):Ok (CZ 2000 (.f 7) [.agg [b,lv],.agg [uN p,uN q,uN r],uN m] H) λr _=>r=.bool true:=by rw[<-yB,lk (zox ..)];exact qrm (yB▸xas) (yB▸xat) (yB▸xar) (yB▸xap) (yB▸xaq) (yB▸xao) (k:=1999) (by omega) (λk H h=>by rw[yB];exact zvx k H h) d e f g a i
end Go.Di
end
