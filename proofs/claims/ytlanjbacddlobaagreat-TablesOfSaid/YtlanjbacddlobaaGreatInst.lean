/-
 For TablesOf: the law at all arguments, over the evaluator. No conditions beyond those that each theorem states.
-/
import Derived.Test.YtlanjbacddlobaaGreatConA
import Derived.Test.YtlanjbacddlobaaGreatLinkA
import Derived.Test.YtlanjbacddlobaaGreatRunA
import Derived.Test.YtlanjbacddlobaaGreatConJ
import Derived.Test.YtlanjbacddlobaaGreatRunB
set_option linter.unusedSimpArgs false
set_option linter.unusedVariables false
noncomputable section
namespace Go.Di
open Go.Ev Go.Proofs
theorem zf8{P:Program}{ext:Ext}{f:FuncId}{args:List AV}{H:Hp}(h:ext f args H=none)(k:Nat):gV P ext (k+1) (.f f) args H=(aO P f).f (gV P ext k) args H:=by show @Option.rec R1 (fun _=>R1) ((vX P f).f (gV P ext k) args H) (fun r=>r) (ext f args H)=_;rw[h,q8s]
theorem q84{P:Program}{ext:Ext}{f:FuncId}{args:List AV}{H:Hp}{r:R1}(h:ext f args H=some r)(k:Nat):gV P ext (k+1) (.f f) args H=r:=by show @Option.rec R1 (fun _=>R1) ((vX P f).f (gV P ext k) args H) (fun r=>r) (ext f args H)=_;rw[h]
theorem xat{P:Program}{ext:Ext}{l:Nat}{args:List AV}{H:Hp}(k:Nat):gV P ext (k+1) (.y l) args H=qg5 P (gV P ext k) l args H:=by show q1c P (gV P ext k) l args H=_;rw[q1b]
def nZ:List (Nat×Nat):=nmL.map fun s=>(s.n,s.a)
def eZ:Ext:=qgm 123 122 (qn6 148 149 (qyt 130 (qyk [142,132] nZ (zby [4]))))
attribute [local irreducible] Go.Ev.gV Go.Ev.aO Go.Ev.vX
def CZ(k:Nat):Ev.Call:=gV Tryz.prog eZ k
theorem zrv(k:Nat)(f:FuncId)(l:List AV)(H:Hp)(h:eZ f l H=none):CZ (k+1) (.f f) l H=(aO Tryz.prog f).f (CZ k) l H:=
 zf8 (P:=Tryz.prog) (ext:=eZ) (f:=f) (args:=l) (H:=H) h k
theorem sz{k:Nat}{f:FuncId}{l:List AV}{H:Hp}(h:eZ f l H=none):CZ (k+1) (.f f) l H=(aO Tryz.prog f).f (CZ k) l H:=zrv _ _ _ _ h
theorem bO{k:Nat}{f:FuncId}{l:List AV}{H:Hp}{r:R1}(h:(aO Tryz.prog f).f (CZ k) l H=r)(e:eZ f l H=none:=by rfl):CZ (k+1) (.f f) l H=r:=(sz e).trans h
theorem qdk(k:Nat)(f:FuncId)(l:List AV)(H:Hp){r:R1}(h:eZ f l H=some r):CZ (k+1) (.f f) l H=r:=
 q84 (P:=Tryz.prog) (ext:=eZ) (f:=f) (args:=l) (H:=H) h k
theorem aOt(k l:Nat)(a:List AV)(H:Hp):CZ (k+1) (.y l) a H=qg5 Tryz.prog (CZ k) l a H:=xat k
theorem zzf(k:Nat)(H:Hp)(h:1<=k):CZ k (.f 4) [] H=.ok (.bool true) H:=by have:k=(k-1)+1:=om;rw[this];exact qdk _ _ _ _ rfl
theorem links:aU CZ:=fun k=>⟨ fun _ _ _ _=>bO (q9y ..), fun _ _=>bO (zww ..), fun _ _=>bO (zt1 ..), fun _ _=>bO (zws ..), fun _ _=>bO (zwu ..), fun _ _=>bO (zwt ..), fun _ _=>bO (zt0 ..), fun _ _=>bO (ztz ..), fun _ _ _=>bO (zty ..), fun _ _ _ _=>bO (ztx ..), fun _ _ _ _=>bO (ztw ..), fun _ _ _ _=>bO (ztv ..), fun _ _=>bO (ztu ..), fun _ _=>bO (ztt ..), fun _ _ _ _=>bO (zwc ..), fun _ _=>bO (zts ..), fun _ _ _=>bO (ztr ..), fun _ _ _ _=>bO (zwp ..), fun _ _=>bO (zwo ..), fun _ _=>bO (zwn ..), fun _ _ _ _ _ _=>bO (zwl ..), fun _ _=>bO (zwk ..), fun _ _ _=>bO (zwj ..), fun _ _ _ _=>bO (zwi ..), fun _ _=>bO (zwv ..), fun _ _=>bO (zwq ..), fun _ _=>bO (ztq ..), fun _ _ _ _=>bO (zwr ..), fun _ _=>bO (ztp ..), fun _ _ _ _ _=>bO (zto ..), fun _ _ _=>bO (ztn ..), fun _ _=>bO (zwd ..), fun _ _ _ _=>bO (zwb ..), fun _ _ _ _ _=>bO (zwa ..), fun _ _ _ _ _=>bO (zv9 ..), fun _ _=>bO (ztm ..), fun _ _ _ _=>bO (ztl ..), fun _ _ _=>bO (ztk ..), fun _ _ _=>bO (ztj ..), fun _ _ _=>bO (zti ..), fun _ _=>bO (zur ..), fun _ _ _=>bO (zth ..), fun _ _=>bO (ztg ..), fun _ _ _=>bO (zvp ..), fun _ _=>bO (zv5 ..), fun _ _ _ _ _=>bO (zv4 ..), fun _ _ _ _ _=>bO (zv3 ..), fun _ _=>bO (zv2 ..), fun _ _ _ _=>bO (zv1 ..), fun _ _=>bO (zwh ..), fun _ _=>bO (zwg ..), fun _ _ _=>bO (zwf ..), fun _ _ _=>bO (zwe ..), fun _ _=>bO (zv8 ..), fun _ _=>bO (ztf ..), fun _ _ _ _ _=>bO (zvw ..), fun _ _=>bO (zvy ..), fun _ _=>bO (zte ..), fun _ _=>bO (ztd ..), fun _ _=>bO (ztc ..), fun _ _=>bO (ztb ..), fun _ _=>bO (zuz ..), fun _ _=>bO (zta ..), fun _ _=>bO (zv6 ..), fun _ _=>bO (zs9 ..), fun _ _=>bO (zvk ..), fun _ _ _ _=>bO (zs8 ..), fun _ _ _=>bO (zs7 ..), fun _ _ _=>bO (zs6 ..), fun _ _ _ _=>bO (zvo ..), fun _ _=>bO (zv0 ..), fun _ _ _ _ _ _ _ _=>bO (zvx ..), fun _ _=>bO (zvv ..), fun _ _=>bO (zvs ..), fun _ _=>bO (zvr ..), fun _ _=>bO (zvq ..), fun _ _ _ _=>bO (zvi ..), fun _ _ _ _ _=>bO (zvh ..), fun _ _ _ _ _ _ _ _=>bO (zu3 ..), fun _ _=>bO (zu1 ..), fun _ _ _=>bO (zs5 ..), fun _ _=>bO (zvn ..), fun _ _ _ _=>bO (zvm ..), fun _ _ _=>bO (zvg ..), fun _ _=>bO (zvf ..), fun _ _=>bO (zve ..), fun _ _=>bO (zvd ..), fun _ _=>bO (zvc ..), fun _ _ _=>bO (zvb ..), fun _ _=>bO (zva ..), fun _ _=>bO (zum ..), fun _ _=>bO (zu9 ..), fun _ _ _ _ _=>bO (zu8 ..), fun _ _ _=>bO (zu7 ..), fun _ _ _ _ _=>bO (zu6 ..), fun _ _ _ _=>bO (zu5 ..), fun _ _=>bO (zu4 ..), fun _ _ _=>bO (zuy ..), fun _ _=>bO (zux ..), fun _ _=>bO (zuw ..), fun _ _ _=>bO (zuv ..), fun _ _ _=>bO (zuu ..), fun _ _ _ _ _=>bO (zut ..), fun _ _ _=>bO (zuq ..), fun _ _ _ _=>bO (zup ..), fun _ _ _=>bO (zuo ..), fun _ _=>bO (zul ..), fun _ _ _=>bO (zuk ..), fun _ _ _=>bO (zui ..), fun _ _ _=>bO (zuh ..), fun _ _ _=>bO (zug ..), fun _ _ _=>bO (zuf ..), fun _ _ _=>bO (zue ..), fun _ _=>bO (zua ..), fun _ _=>bO (zt9 ..), fun _ _ _=>bO (zt8 ..), fun _ _ _=>bO (zt7 ..), fun _ _ _=>bO (zt6 ..), fun _ _ _=>bO (zt5 ..), fun _ _ _=>bO (zt4 ..), fun _ _=>bO (zt3 ..), fun _ _ _=>bO (zt2 ..)⟩
theorem xdd:tJ CZ:=fun k=>⟨fun b o n m x H r h=>qdk _ _ _ _ (by
  cases n with
  |zero=>
   exfalso;unfold qq2 at h;split at h
   ·rename_i l c;obtain⟨_,_,_,_,_,_,_,a,_⟩:=qgr c;obtain rfl:=lIG.1 a;split at h
    ·rename_i zs d;cases d;split at h
     ·rename_i e;exact absurd e.pos (lOB _)
     ·cases h
    ·cases h
   ·cases h
  |succ n=>exact h),fun H=>qdk _ _ _ _ rfl,fun b o m x H=>qdk _ _ _ _ rfl⟩
theorem xdf:uZ CZ:=fun k=>⟨ fun _ _=>bO (qsy ..), fun b o n m x H r h=>qdk _ _ _ _ h, fun H=>qdk _ _ _ _ rfl⟩
theorem xde:uI LAc LOc CZ:=fun k=>⟨ fun _ _ _=>bO (qs2 ..), fun L l v H h=>(aOt _ _ _ _).trans (qss _ L l v H h), fun _ _=>bO (zvu ..), fun L l v H h=>(aOt _ _ _ _).trans (zk8 _ L l v H h)⟩
theorem xc1{s:SS}(h:Nm s):nZ.any (fun t=>Nat.beq s.n t.1&&Nat.beq s.a t.2)=true:=by rw[lUH];exact⟨(s.n,s.a),lIB.2 ⟨s,h,rfl⟩,g3⟩
theorem zrq{f:FuncId}(b:f=142\/f=132){s:SS}(h:Nm s)(H:Hp):eZ f [s.v] H=some (.ok (.bool true) H):=by
 have a:=xc1 h;rcases b with rfl|rfl
 ·show(bif nZ.any (fun t=>Nat.beq s.n t.1&&Nat.beq s.a t.2)then some (R1.ok (.bool true) H)else none)=_;rw[a];rfl
 ·show(bif nZ.any (fun t=>Nat.beq s.n t.1&&Nat.beq s.a t.2)then some (R1.ok (.bool true) H)else none)=_;rw[a];rfl
theorem xdg:iL CZ:=fun _=>⟨fun _ h H=>qdk _ _ _ _ (zrq (.inl rfl) h H),fun _ h H=>qdk _ _ _ _ (zrq (.inr rfl) h H)⟩
theorem xdh:qwg CZ:=fun k=>⟨fun H v es h a=>by obtain⟨r,c,d⟩:=q72 123 122 (qn6 148 149 (qyt 130 (qyk [142,132] nZ (zby [4])))) h a;have b:CZ (k+1) (.f 123) [v,.fn 122 [] []] H=r:=qdk k 123 [v,.fn 122 [] []] H c;rw[b];exact d⟩
set_option maxRecDepth 100000
theorem aEp:Tryz.prog.follows .mixedOrders=true:=kr
theorem zyk:Yes Tryz.prog 4:=zei aEp qzc zyl
theorem zyf:∀ f∈[142,132],∀s∈nZ,aIE Tryz.prog f s:=fun f a s b=>by obtain⟨t,c,rfl⟩:=lIB.1 b;exact q7s aEp qzc (lOQ.1 (lOQ.1 zyg f a) t c)
theorem aXC:qh2 Tryz.prog eZ:=q73 (q71 (zet (zej (zn2 (fun f a=>by obtain rfl:=lI3.1 a;exact zyk) kr) zyf kr) Tryz.sortCalls (qsu aEp qzc z8i) kr) Tryz.sortFCalls Tryz.sortFNone kr) Tryz.sortECalls Tryz.sortENone kr
theorem aY5{v:AV}{L:List (List Nat)}{H:Hp}(a:iE H v L)(x:Int)(p q:SS):Ok (CZ 2000 (.f 3) [.agg [v],.int .i64 x,.agg [.str p.n p.a,.str q.n q.a]] H) fun r _=>r=.bool true:=by
 have h:CZ 2000 (.f 3) [.agg [v],.int .i64 x,.agg [.str p.n p.a,.str q.n q.a]] H=zGt (CZ 1999) (.agg [v]) (.int .i64 x) (.agg [.str p.n p.a,.str q.n q.a]) H:=
  (zrv _ _ _ _ (by rfl)).trans (q9y _ _ _ _ H)
 rw[h];exact q87 links xdg xdh xdf xdd xde (k:=1999) om (fun k H h=>zzf k H h) a x p q
end Go.Di
end
