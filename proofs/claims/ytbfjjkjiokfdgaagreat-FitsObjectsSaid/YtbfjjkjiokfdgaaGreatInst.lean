/-
 For FitsObjects: the law at all arguments, over the evaluator. No conditions beyond those that each theorem states.
-/
import Derived.Test.YtbfjjkjiokfdgaaGreatLinkA
import Derived.Test.YtbfjjkjiokfdgaaGreatRunA
import Derived.Test.YtbfjjkjiokfdgaaGreatRunB
import Derived.Test.YtbfjjkjiokfdgaaGreatConI
import Derived.Test.YtbfjjkjiokfdgaaGreatRunC
set_option linter.unusedSimpArgs false
set_option linter.unusedVariables false
noncomputable section
namespace Go.Di
open Go.Ev Go.Proofs
theorem q71{P:Program}{ext:Ext}{f:FuncId}{args:List AV}{H:Hp}(h:ext f args H=none)(k:Nat):gD P ext (k+1) (.f f) args H=(aP P f).f (gD P ext k) args H:=by show @Option.rec R1 (fun _=>R1) ((sS P f).f (gD P ext k) args H) (fun r=>r) (ext f args H)=_;rw[h,q1d]
theorem q1y{P:Program}{ext:Ext}{f:FuncId}{args:List AV}{H:Hp}{r:R1}(h:ext f args H=some r)(k:Nat):gD P ext (k+1) (.f f) args H=r:=by show @Option.rec R1 (fun _=>R1) ((sS P f).f (gD P ext k) args H) (fun r=>r) (ext f args H)=_;rw[h]
theorem zx8{P:Program}{ext:Ext}{l:Nat}{args:List AV}{H:Hp}(k:Nat):gD P ext (k+1) (.y l) args H=zV P (gD P ext k) l args H:=by show quy P (gD P ext k) l args H=_;rw[qux]
def nZ:List (Nat×Nat):=nmL.map fun s=>(s.n,s.a)
def eZ:Ext:=qgb 96 58 (qex 114 113 (qhz 147 148 (ql9 122 (ql1 [170,130] nZ (quz [6])))))
attribute [local irreducible] Go.Ev.gD Go.Ev.aP Go.Ev.sS
def CZ(k:Nat):Ev.Call:=gD Tryz.prog eZ k
theorem zhz(k:Nat)(f:FuncId)(l:List AV)(H:Hp)(h:eZ f l H=none):CZ (k+1) (.f f) l H=(aP Tryz.prog f).f (CZ k) l H:=
 q71 (P:=Tryz.prog) (ext:=eZ) (f:=f) (args:=l) (H:=H) h k
theorem sz{k:Nat}{f:FuncId}{l:List AV}{H:Hp}(h:eZ f l H=none):CZ (k+1) (.f f) l H=(aP Tryz.prog f).f (CZ k) l H:=zhz _ _ _ _ h
theorem qcx(k:Nat)(f:FuncId)(l:List AV)(H:Hp){r:R1}(h:eZ f l H=some r):CZ (k+1) (.f f) l H=r:=
 q1y (P:=Tryz.prog) (ext:=eZ) (f:=f) (args:=l) (H:=H) h k
theorem aGi(k l:Nat)(a:List AV)(H:Hp):CZ (k+1) (.y l) a H=zV Tryz.prog (CZ k) l a H:=zx8 k
theorem zo6(k:Nat)(H:Hp)(h:1<=k):CZ k (.f 6) [] H=.ok (.bool true) H:=by
 have:k=(k-1)+1:=by omega
 rw[this];exact qcx _ _ _ _ rfl
theorem links:bA CZ:=fun k=>⟨ fun _ _ _=>(sz (by rfl)).trans (q2b ..), fun _ _=>(sz (by rfl)).trans (zj7 ..), fun _ _ _=>(sz (by rfl)).trans (zjx ..), fun _ _=>(sz (by rfl)).trans (zjw ..), fun _ _=>(sz (by rfl)).trans (zjv ..), fun _ _ _=>(sz (by rfl)).trans (zju ..), fun _ _=>(sz (by rfl)).trans (zjt ..), fun _ _=>(sz (by rfl)).trans (zjs ..), fun _ _ _=>(sz (by rfl)).trans (zjr ..), fun _ _ _=>(sz (by rfl)).trans (zjq ..), fun _ _=>(sz (by rfl)).trans (zml ..), fun _ _ _=>(sz (by rfl)).trans (zj6 ..), fun _ _=>(sz (by rfl)).trans (zj5 ..), fun _ _=>(sz (by rfl)).trans (zmk ..), fun _ _ _=>(sz (by rfl)).trans (zjo ..), fun _ _ _=>(sz (by rfl)).trans (zjn ..), fun _ _=>(sz (by rfl)).trans (zjm ..), fun _ _ _=>(sz (by rfl)).trans (zjl ..), fun _ _=>(sz (by rfl)).trans (zjk ..), fun _ _ _=>(sz (by rfl)).trans (zjj ..), fun _ _ _=>(sz (by rfl)).trans (zji ..), fun _ _=>(sz (by rfl)).trans (zmj ..), fun _ _=>(sz (by rfl)).trans (zmi ..), fun _ _=>(sz (by rfl)).trans (zmh ..), fun _ _ _ _ _ _=>(sz (by rfl)).trans (zmf ..), fun _ _=>(sz (by rfl)).trans (zme ..), fun _ _ _=>(sz (by rfl)).trans (zmd ..), fun _ _ _ _=>(sz (by rfl)).trans (zmc ..), fun _ _ _ _=>(sz (by rfl)).trans (zl9 ..), fun _ _=>(sz (by rfl)).trans (zj4 ..), fun _ _ _=>(sz (by rfl)).trans (zj3 ..), fun _ _ _=>(sz (by rfl)).trans (zj2 ..), fun _ _=>(sz (by rfl)).trans (zmb ..), fun _ _=>(sz (by rfl)).trans (zma ..), fun _ _ _=>(sz (by rfl)).trans (zjh ..), fun _ _=>(sz (by rfl)).trans (zjg ..), fun _ _=>(sz (by rfl)).trans (zje ..), fun _ _ _=>(sz (by rfl)).trans (zjd ..), fun _ _ _=>(sz (by rfl)).trans (zjc ..), fun _ _=>(sz (by rfl)).trans (zl3 ..), fun _ _ _ _ _=>(sz (by rfl)).trans (zl2 ..), fun _ _ _ _ _=>(sz (by rfl)).trans (zl1 ..), fun _ _=>(sz (by rfl)).trans (zl0 ..), fun _ _ _ _=>(sz (by rfl)).trans (zlz ..), fun _ _ _ _=>(sz (by rfl)).trans (zl7 ..), fun _ _ _=>(sz (by rfl)).trans (zlo ..), fun _ _ _=>(sz (by rfl)).trans (zj1 ..), fun _ _ _=>(sz (by rfl)).trans (zj0 ..), fun _ _=>(sz (by rfl)).trans (zly ..), fun _ _=>(sz (by rfl)).trans (zlx ..), fun _ _ _ _ _ _ _ _=>(sz (by rfl)).trans (zlw ..), fun _ _ _ _ _=>(sz (by rfl)).trans (zlv ..), fun _ _=>(sz (by rfl)).trans (zlu ..), fun _ _=>(sz (by rfl)).trans (zlr ..), fun _ _=>(sz (by rfl)).trans (zlq ..), fun _ _=>(sz (by rfl)).trans (zl6 ..), fun _ _=>(sz (by rfl)).trans (zjb ..), fun _ _ _ _=>(sz (by rfl)).trans (zln ..), fun _ _ _=>(sz (by rfl)).trans (zjz ..), fun _ _ _=>(sz (by rfl)).trans (zjy ..), fun _ _=>(sz (by rfl)).trans (zlm ..), fun _ _=>(sz (by rfl)).trans (zlp ..), fun _ _ _ _=>(sz (by rfl)).trans (zll ..), fun _ _=>(sz (by rfl)).trans (zlk ..), fun _ _ _ _=>(sz (by rfl)).trans (zli ..), fun _ _ _ _ _=>(sz (by rfl)).trans (zlh ..), fun _ _ _=>(sz (by rfl)).trans (zlg ..), fun _ _=>(sz (by rfl)).trans (zlf ..), fun _ _=>(sz (by rfl)).trans (zle ..), fun _ _=>(sz (by rfl)).trans (zld ..), fun _ _=>(sz (by rfl)).trans (zlc ..), fun _ _ _=>(sz (by rfl)).trans (zlb ..), fun _ _=>(sz (by rfl)).trans (zl4 ..), fun _ _=>(sz (by rfl)).trans (zla ..), fun _ _=>(sz (by rfl)).trans (zk9 ..), fun _ _ _ _ _=>(sz (by rfl)).trans (zk8 ..), fun _ _ _=>(sz (by rfl)).trans (zk7 ..), fun _ _ _ _ _=>(sz (by rfl)).trans (zk6 ..), fun _ _ _ _=>(sz (by rfl)).trans (zk5 ..), fun _ _=>(sz (by rfl)).trans (zk4 ..), fun _ _ _ _ _ _ _ _=>(sz (by rfl)).trans (zk2 ..), fun _ _=>(sz (by rfl)).trans (zk1 ..), fun _ _=>(sz (by rfl)).trans (zk0 ..), fun _ _ _=>(sz (by rfl)).trans (zkz ..), fun _ _=>(sz (by rfl)).trans (zky ..), fun _ _=>(sz (by rfl)).trans (zkx ..), fun _ _ _=>(sz (by rfl)).trans (zkw ..), fun _ _ _=>(sz (by rfl)).trans (zkv ..), fun _ _ _ _ _=>(sz (by rfl)).trans (zku ..), fun _ _=>(sz (by rfl)).trans (zkt ..), fun _ _ _=>(sz (by rfl)).trans (zks ..), fun _ _ _ _=>(sz (by rfl)).trans (zkr ..), fun _ _ _=>(sz (by rfl)).trans (zkq ..), fun _ _=>(sz (by rfl)).trans (zkp ..), fun _ _=>(sz (by rfl)).trans (zko ..), fun _ _ _=>(sz (by rfl)).trans (zkn ..), fun _ _ _=>(sz (by rfl)).trans (zkl ..), fun _ _ _=>(sz (by rfl)).trans (zkk ..), fun _ _ _=>(sz (by rfl)).trans (zkj ..), fun _ _ _=>(sz (by rfl)).trans (zki ..), fun _ _ _=>(sz (by rfl)).trans (zkh ..), fun _ _=>(sz (by rfl)).trans (zkg ..), fun _ _=>(sz (by rfl)).trans (zkf ..), fun _ _ _=>(sz (by rfl)).trans (zke ..), fun _ _ _=>(sz (by rfl)).trans (zkd ..), fun _ _ _=>(sz (by rfl)).trans (zkc ..), fun _ _ _=>(sz (by rfl)).trans (zkb ..), fun _ _ _=>(sz (by rfl)).trans (zka ..), fun _ _=>(sz (by rfl)).trans (zj9 ..), fun _ _ _=>(sz (by rfl)).trans (zj8 ..)⟩
theorem z0n:qR CZ:=fun k=>⟨fun b o n m x H r h=>qcx _ _ _ _ (by
  show(bif Nat.beq n 0 then some (.ok (.aY []) H)else qj2 H b o n)=_;cases n with
  |zero=>
   exfalso;unfold qj2 at h;split at h
   ·rename_i l hl;obtain⟨_,_,_,_,_,_,_,hll,_⟩:=qen hl;obtain rfl:=List.length_eq_zero_iff.1 hll;split at h
    ·rename_i zs hz;cases hz;split at h
     ·rename_i hk;exact absurd hk.pos (Nat.lt_irrefl _)
     ·cases h
    ·cases h
   ·cases h
  |succ n=>exact h),fun H=>qcx _ _ _ _ rfl,fun b o m x H=>qcx _ _ _ _ rfl⟩
theorem z0q:r9 CZ:=fun k=>⟨ fun _ _=>(sz (by rfl)).trans (qnz ..), fun b o n m x H r h=>qcx _ _ _ _ h, fun H=>qcx _ _ _ _ rfl⟩
theorem z0o:rM LAc LOc CZ:=fun k=>⟨ fun _ _ _=>(sz (by rfl)).trans (qn6 ..), fun L l v H h=>(aGi _ _ _ _).trans (qnu _ L l v H h), fun _ _=>(sz (by rfl)).trans (zlt ..), fun L l v H h=>(aGi _ _ _ _).trans (zb8 _ L l v H h)⟩
theorem z0b{s:SS}(h:Nm s):nZ.any (fun t=>Nat.beq s.n t.1&&Nat.beq s.a t.2)=true:=by rw[List.any_eq_true];exact⟨(s.n,s.a),List.mem_map.2 ⟨s,h,rfl⟩,by simp⟩
theorem zhu{f:FuncId}(hf:f=170\/f=130){s:SS}(h:Nm s)(H:Hp):eZ f [s.v] H=some (.ok (.bool true) H):=by
 have h1:=z0b h;rcases hf with rfl|rfl
 ·show(bif nZ.any (fun t=>Nat.beq s.n t.1&&Nat.beq s.a t.2)then some (R1.ok (.bool true) H)else none)=_;rw[h1];rfl
 ·show(bif nZ.any (fun t=>Nat.beq s.n t.1&&Nat.beq s.a t.2)then some (R1.ok (.bool true) H)else none)=_;rw[h1];rfl
theorem z0r:qbv CZ:=fun _=>⟨fun _ h H=>qcx _ _ _ _ (zhu (.inl rfl) h H),fun _ h H=>qcx _ _ _ _ (zhu (.inr rfl) h H)⟩
theorem z0s:qqt CZ:=fun k=>⟨fun H v es h hl=>by obtain⟨r,h1,h2⟩:=q0k 114 113 (qhz 147 148 (ql9 122 (ql1 [170,130] nZ (quz [6])))) h hl;have h3:CZ (k+1) (.f 114) [v,.fn 113 [] []] H=r:=qcx k 114 [v,.fn 113 [] []] H h1;rw[h3];exact h2⟩
theorem zw4:qjx CZ:=fun k=>⟨fun H v os hw h hl=>by obtain⟨r,h1,h2⟩:=q0g 96 58 (qex 114 113 (qhz 147 148 (ql9 122 (ql1 [170,130] nZ (quz [6]))))) hw h hl;have h3:CZ (k+1) (.f 96) [v,.fn 58 [] []] H=r:=qcx k 96 [v,.fn 58 [] []] H h1;rw[h3];exact h2⟩
theorem z0p:qnt zK CZ:=fun k=>⟨ fun _ _ _=>(sz (by rfl)).trans (zi9 ..), fun L l x y H h hl=>(aGi _ _ _ _).trans (q8f _ L l x y H h hl)⟩
set_option maxRecDepth 100000
theorem aCz:Tryz.prog.follows .mixedOrders=true:=by kernel_rfl
theorem zn8:Yes Tryz.prog 6:=q59 aCz qte zn9
theorem zn3:∀ f∈[170,130],∀s∈nZ,aFj Tryz.prog f s:=fun f hf s hs=>by obtain⟨t,ht,rfl⟩:=List.mem_map.1 hs;exact qz7 aCz qte (List.all_eq_true.1 (List.all_eq_true.1 zn4 f hf) t ht)
theorem aTN:uV Tryz.prog eZ:=q0h (q0l (q0j (q6m (q6a (zd5 (fun f hf=>by obtain rfl:=List.mem_singleton.1 hf;exact zn8) (by kernel_rfl)) zn3 (by kernel_rfl)) Tryz.sortCalls (qnw aCz qte zvv) (by kernel_rfl)) Tryz.sortFCalls Tryz.sortFNone (by kernel_rfl)) Tryz.sortECalls Tryz.sortENone (by kernel_rfl)) Tryz.sortOCalls Tryz.sortONone (by kernel_rfl)
theorem aRV{cv lv v:AV}{L:List (List Nat)}{ls:List Q4}{l:List Tu}{H:Hp}(hv:gN H cv L)(hq:Rs 4 Q4.cells H lv ls)(hl:Rs 6 Tu.cells H v l)(hw:∀ t∈l,WfT t):Ok (CZ 2000 (.f 3) [.agg [cv,lv],v] H) fun r _=>r=.bool true:=by
 have h:CZ 2000 (.f 3) [.agg [cv,lv],v] H=zEz (CZ 1999) (.agg [cv,lv]) v H:=
  (zhz _ _ _ _ (by rfl)).trans (q2b _ _ _ H)
 rw[h];exact qn4 links z0r z0s z0q z0n z0o z0p zw4 (k:=1999) (by omega) (fun k H h=>zo6 k H h) hv hq hl hw
end Go.Di
end
