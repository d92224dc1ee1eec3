/-
 For countersign/countersignlaw20.FitsAll: the law at all arguments, over the evaluator. No conditions beyond those that each theorem states.
-/
import Derived.Test.YtbfjjkjiokfdgaaGreatLinkA
import Derived.Test.YtbfjjkjiokfdgaaGreatRunA
import Derived.Test.YtbfjjkjiokfdgaaGreatRunB
import Derived.Test.YtbfjjkjiokfdgaaGreatConI
import Derived.Test.YtbfjjkjiokfdgaaGreatRunC
import Derived.Test.YtbfjjkjiokfdgaaGreatConJ
set_option linter.unusedSimpArgs false
set_option linter.unusedVariables false
noncomputable section
namespace Go.Di
open Go.Ev Go.Proofs
theorem zb6{P:Program}{ext:Ext}{f:FuncId}{args:List AV}{H:Hp}(h:ext f args H=none)(k:Nat):gQ P ext (k+1) (.f f) args H=(aM P f).f (gQ P ext k) args H:=by show @Option.rec R1 (fun _=>R1) ((uP P f).f (gQ P ext k) args H) (fun r=>r) (ext f args H)=_;rw[h,q5i]
theorem q52{P:Program}{ext:Ext}{f:FuncId}{args:List AV}{H:Hp}{r:R1}(h:ext f args H=some r)(k:Nat):gQ P ext (k+1) (.f f) args H=r:=by show @Option.rec R1 (fun _=>R1) ((uP P f).f (gQ P ext k) args H) (fun r=>r) (ext f args H)=_;rw[h]
theorem z3g{P:Program}{ext:Ext}{l:Nat}{args:List AV}{H:Hp}(k:Nat):gQ P ext (k+1) (.y l) args H=qez P (gQ P ext k) l args H:=by show qxy P (gQ P ext k) l args H=_;rw[qxx]
def nZ:List (Nat×Nat):=nmL.map fun s=>(s.n,s.a)
def eZ:Ext:=qg4 96 58 (qfi 114 113 (qjd 147 148 (qoj 122 (qoa [170,130] nZ (qxz [6])))))
attribute [local irreducible] Go.Ev.gQ Go.Ev.aM Go.Ev.uP
def CZ(k:Nat):Ev.Call:=gQ Tryz.prog eZ k
theorem zmn(k:Nat)(f:FuncId)(l:List AV)(H:Hp)(h:eZ f l H=none):CZ (k+1) (.f f) l H=(aM Tryz.prog f).f (CZ k) l H:=
 zb6 (P:=Tryz.prog) (ext:=eZ) (f:=f) (args:=l) (H:=H) h k
theorem sz{k:Nat}{f:FuncId}{l:List AV}{H:Hp}(h:eZ f l H=none):CZ (k+1) (.f f) l H=(aM Tryz.prog f).f (CZ k) l H:=zmn _ _ _ _ h
theorem qdb(k:Nat)(f:FuncId)(l:List AV)(H:Hp){r:R1}(h:eZ f l H=some r):CZ (k+1) (.f f) l H=r:=
 q52 (P:=Tryz.prog) (ext:=eZ) (f:=f) (args:=l) (H:=H) h k
theorem aG7(k l:Nat)(a:List AV)(H:Hp):CZ (k+1) (.y l) a H=qez Tryz.prog (CZ k) l a H:=z3g k
theorem ztz(k:Nat)(H:Hp)(h:1<=k):CZ k (.f 6) [] H=.ok (.bool true) H:=by
 have:k=(k-1)+1:=by omega
 rw[this];exact qdb _ _ _ _ rfl
theorem links:aW CZ:=fun k=>⟨ fun _ _ _=>(sz (by rfl)).trans (q6d ..), fun _ _=>(sz (by rfl)).trans (zox ..), fun _ _ _=>(sz (by rfl)).trans (zov ..), fun _ _ _=>(sz (by rfl)).trans (zou ..), fun _ _ _=>(sz (by rfl)).trans (zoa ..), fun _ _ _=>(sz (by rfl)).trans (zot ..), fun _ _ _=>(sz (by rfl)).trans (zn7 ..), fun _ _ _=>(sz (by rfl)).trans (zn6 ..), fun _ _ _=>(sz (by rfl)).trans (zow ..), fun _ _=>(sz (by rfl)).trans (zrb ..), fun _ _ _=>(sz (by rfl)).trans (zos ..), fun _ _=>(sz (by rfl)).trans (zor ..), fun _ _=>(sz (by rfl)).trans (zra ..), fun _ _=>(sz (by rfl)).trans (zoq ..), fun _ _ _=>(sz (by rfl)).trans (zop ..), fun _ _=>(sz (by rfl)).trans (zoo ..), fun _ _=>(sz (by rfl)).trans (zn9 ..), fun _ _ _=>(sz (by rfl)).trans (zn5 ..), fun _ _ _=>(sz (by rfl)).trans (zn4 ..), fun _ _=>(sz (by rfl)).trans (zn3 ..), fun _ _=>(sz (by rfl)).trans (zn8 ..), fun _ _=>(sz (by rfl)).trans (zq9 ..), fun _ _=>(sz (by rfl)).trans (zq8 ..), fun _ _=>(sz (by rfl)).trans (zq7 ..), fun _ _ _ _ _ _=>(sz (by rfl)).trans (zq5 ..), fun _ _=>(sz (by rfl)).trans (zq4 ..), fun _ _ _=>(sz (by rfl)).trans (zq3 ..), fun _ _ _ _=>(sz (by rfl)).trans (zq2 ..), fun _ _ _ _=>(sz (by rfl)).trans (zqz ..), fun _ _=>(sz (by rfl)).trans (zon ..), fun _ _ _=>(sz (by rfl)).trans (zom ..), fun _ _ _=>(sz (by rfl)).trans (zol ..), fun _ _=>(sz (by rfl)).trans (zq1 ..), fun _ _=>(sz (by rfl)).trans (zq0 ..), fun _ _=>(sz (by rfl)).trans (zok ..), fun _ _ _=>(sz (by rfl)).trans (zpa ..), fun _ _ _=>(sz (by rfl)).trans (zn2 ..), fun _ _=>(sz (by rfl)).trans (zn1 ..), fun _ _ _=>(sz (by rfl)).trans (zn0 ..), fun _ _=>(sz (by rfl)).trans (zqt ..), fun _ _ _ _ _=>(sz (by rfl)).trans (zqs ..), fun _ _ _ _ _=>(sz (by rfl)).trans (zqr ..), fun _ _=>(sz (by rfl)).trans (zqq ..), fun _ _ _ _=>(sz (by rfl)).trans (zqp ..), fun _ _ _ _=>(sz (by rfl)).trans (zqx ..), fun _ _ _=>(sz (by rfl)).trans (zqe ..), fun _ _ _=>(sz (by rfl)).trans (zoj ..), fun _ _ _=>(sz (by rfl)).trans (zoi ..), fun _ _=>(sz (by rfl)).trans (zqo ..), fun _ _=>(sz (by rfl)).trans (zqn ..), fun _ _ _ _ _ _ _ _=>(sz (by rfl)).trans (zqm ..), fun _ _ _ _ _=>(sz (by rfl)).trans (zql ..), fun _ _=>(sz (by rfl)).trans (zqk ..), fun _ _=>(sz (by rfl)).trans (zqh ..), fun _ _=>(sz (by rfl)).trans (zqg ..), fun _ _=>(sz (by rfl)).trans (zqw ..), fun _ _=>(sz (by rfl)).trans (zoh ..), fun _ _=>(sz (by rfl)).trans (zog ..), fun _ _ _=>(sz (by rfl)).trans (zo4 ..), fun _ _ _=>(sz (by rfl)).trans (znz ..), fun _ _=>(sz (by rfl)).trans (zny ..), fun _ _=>(sz (by rfl)).trans (znx ..), fun _ _ _=>(sz (by rfl)).trans (znw ..), fun _ _ _=>(sz (by rfl)).trans (znv ..), fun _ _ _ _=>(sz (by rfl)).trans (zqd ..), fun _ _ _=>(sz (by rfl)).trans (zof ..), fun _ _ _=>(sz (by rfl)).trans (zoe ..), fun _ _=>(sz (by rfl)).trans (zqc ..), fun _ _=>(sz (by rfl)).trans (zqf ..), fun _ _ _ _=>(sz (by rfl)).trans (zqb ..), fun _ _=>(sz (by rfl)).trans (zqa ..), fun _ _ _ _=>(sz (by rfl)).trans (zp8 ..), fun _ _ _ _ _=>(sz (by rfl)).trans (zp7 ..), fun _ _ _=>(sz (by rfl)).trans (zp6 ..), fun _ _=>(sz (by rfl)).trans (zp5 ..), fun _ _=>(sz (by rfl)).trans (zp4 ..), fun _ _=>(sz (by rfl)).trans (zp3 ..), fun _ _=>(sz (by rfl)).trans (zp2 ..), fun _ _ _=>(sz (by rfl)).trans (zp1 ..), fun _ _=>(sz (by rfl)).trans (zqu ..), fun _ _=>(sz (by rfl)).trans (zp0 ..), fun _ _=>(sz (by rfl)).trans (zod ..), fun _ _=>(sz (by rfl)).trans (zoc ..), fun _ _=>(sz (by rfl)).trans (znu ..), fun _ _=>(sz (by rfl)).trans (zpz ..), fun _ _ _ _ _=>(sz (by rfl)).trans (zpy ..), fun _ _ _=>(sz (by rfl)).trans (zpx ..), fun _ _ _ _ _=>(sz (by rfl)).trans (zpw ..), fun _ _ _ _=>(sz (by rfl)).trans (zpv ..), fun _ _=>(sz (by rfl)).trans (zpu ..), fun _ _ _ _ _ _ _ _=>(sz (by rfl)).trans (zps ..), fun _ _=>(sz (by rfl)).trans (zpr ..), fun _ _=>(sz (by rfl)).trans (zpq ..), fun _ _ _=>(sz (by rfl)).trans (zpp ..), fun _ _=>(sz (by rfl)).trans (zpo ..), fun _ _=>(sz (by rfl)).trans (zpn ..), fun _ _ _=>(sz (by rfl)).trans (zpm ..), fun _ _ _=>(sz (by rfl)).trans (zpl ..), fun _ _ _ _ _=>(sz (by rfl)).trans (zpk ..), fun _ _=>(sz (by rfl)).trans (zob ..), fun _ _=>(sz (by rfl)).trans (zpj ..), fun _ _ _=>(sz (by rfl)).trans (zpi ..), fun _ _ _ _=>(sz (by rfl)).trans (zph ..), fun _ _ _=>(sz (by rfl)).trans (zpg ..), fun _ _=>(sz (by rfl)).trans (zpf ..), fun _ _=>(sz (by rfl)).trans (zpe ..), fun _ _ _=>(sz (by rfl)).trans (zpd ..), fun _ _ _=>(sz (by rfl)).trans (zpb ..), fun _ _ _=>(sz (by rfl)).trans (zo9 ..), fun _ _ _=>(sz (by rfl)).trans (zo8 ..), fun _ _ _=>(sz (by rfl)).trans (zo7 ..), fun _ _=>(sz (by rfl)).trans (zo6 ..), fun _ _=>(sz (by rfl)).trans (zo5 ..), fun _ _ _=>(sz (by rfl)).trans (zo3 ..), fun _ _ _=>(sz (by rfl)).trans (zo2 ..), fun _ _ _=>(sz (by rfl)).trans (zo1 ..), fun _ _ _=>(sz (by rfl)).trans (zo0 ..), fun _ _=>(sz (by rfl)).trans (zoz ..), fun _ _ _=>(sz (by rfl)).trans (zoy ..)⟩
theorem z6x:oO CZ:=fun k=>⟨fun b o n m x H r h=>qdb _ _ _ _ (by
  show(bif Nat.beq n 0 then some (.ok (.aX []) H)else qlf H b o n)=_;cases n with
  |zero=>
   exfalso;unfold qlf at h;split at h
   ·rename_i l hl;obtain⟨_,_,_,_,_,_,_,hll,_⟩:=qe7 hl;obtain rfl:=ry.1 hll;split at h
    ·rename_i zs hz;cases hz;split at h
     ·rename_i hk;exact absurd hk.pos (xn _)
     ·cases h
    ·cases h
   ·cases h
  |succ n=>exact h),fun H=>qdb _ _ _ _ rfl,fun b o m x H=>qdb _ _ _ _ rfl⟩
theorem z7a:pV CZ:=fun k=>⟨ fun _ _=>(sz (by rfl)).trans (qqc ..), fun b o n m x H r h=>qdb _ _ _ _ h, fun H=>qdb _ _ _ _ rfl⟩
theorem z6y:oP LAc LOc CZ:=fun k=>⟨ fun _ _ _=>(sz (by rfl)).trans (qqi ..), fun L l v H h=>(aG7 _ _ _ _).trans (qp7 _ L l v H h), fun _ _=>(sz (by rfl)).trans (zqj ..), fun L l v H h=>(aG7 _ _ _ _).trans (zgm _ L l v H h)⟩
theorem z6l{s:SS}(h:Nm s):nZ.any (fun t=>Nat.beq s.n t.1&&Nat.beq s.a t.2)=true:=by rw[ag];exact⟨(s.n,s.a),qp.2 ⟨s,h,rfl⟩,by simp⟩
theorem zmi{f:FuncId}(hf:f=170\/f=130){s:SS}(h:Nm s)(H:Hp):eZ f [s.v] H=some (.ok (.bool true) H):=by
 have h1:=z6l h;rcases hf with rfl|rfl
 ·show(bif nZ.any (fun t=>Nat.beq s.n t.1&&Nat.beq s.a t.2)then some (R1.ok (.bool true) H)else none)=_;rw[h1];rfl
 ·show(bif nZ.any (fun t=>Nat.beq s.n t.1&&Nat.beq s.a t.2)then some (R1.ok (.bool true) H)else none)=_;rw[h1];rfl
theorem z7b:mG CZ:=fun _=>⟨fun _ h H=>qdb _ _ _ _ (zmi (.inl rfl) h H),fun _ h H=>qdb _ _ _ _ (zmi (.inr rfl) h H)⟩
theorem z7c:qf5 CZ:=fun k=>⟨fun H v es h hl=>by obtain⟨r,h1,h2⟩:=q4p 114 113 (qjd 147 148 (qoj 122 (qoa [170,130] nZ (qxz [6])))) h hl;have h3:CZ (k+1) (.f 114) [v,.fn 113 [] []] H=r:=qdb k 114 [v,.fn 113 [] []] H h1;rw[h3];exact h2⟩
theorem z10:qp6 CZ:=fun k=>⟨fun H v os hw h hl=>by obtain⟨r,h1,h2⟩:=q4l 96 58 (qfi 114 113 (qjd 147 148 (qoj 122 (qoa [170,130] nZ (qxz [6]))))) hw h hl;have h3:CZ (k+1) (.f 96) [v,.fn 58 [] []] H=r:=qdb k 96 [v,.fn 58 [] []] H h1;rw[h3];exact h2⟩
theorem z6z:qtf LQc CZ:=fun k=>⟨ fun _ _ _=>(sz (by rfl)).trans (zns ..), fun L l x y H h hl=>(aG7 _ _ _ _).trans (zcl _ L l x y H h hl)⟩
set_option maxRecDepth 100000
theorem aDH:Tryz.prog.follows .mixedOrders=true:=by kernel_rfl
theorem zsz:Yes Tryz.prog 6:=zab aDH qwh zs1
theorem zsu:∀ f∈[170,130],∀s∈nZ,aHz Tryz.prog f s:=fun f hf s hs=>by obtain⟨t,ht,rfl⟩:=qp.1 hs;exact q4b aDH qwh (yc.1 (yc.1 zsv f hf) t ht)
theorem aUo:wX Tryz.prog eZ:=q4m (q4q (q4o (zaq (zac (zik (fun f hf=>by obtain rfl:=gy.1 hf;exact zsz) (by kernel_rfl)) zsu (by kernel_rfl)) Tryz.sortCalls (qp9 aDH qwh z0r) (by kernel_rfl)) Tryz.sortFCalls Tryz.sortFNone (by kernel_rfl)) Tryz.sortECalls Tryz.sortENone (by kernel_rfl)) Tryz.sortOCalls Tryz.sortONone (by kernel_rfl)
theorem aVK{cv lv:AV}{L:List (List Nat)}{ls:List Q4}{m:Nat}{H:Hp}(hv:gV H cv L)(hq:Rs 4 Q4.cells H lv ls):Ok (CZ 2000 (.f 4) [.agg [cv,lv],.int .u8 (.ofNat m)] H) fun r _=>r=.bool true:=by
 have h:CZ 2000 (.f 4) [.agg [cv,lv],.int .u8 (.ofNat m)] H=zFy (CZ 1999) (.agg [cv,lv]) (.int .u8 (.ofNat m)) H:=
  (zmn _ _ _ _ (by rfl)).trans (q6d _ _ _ H)
 rw[h];exact zci links z7b z7c z7a z6x z6y z6z z10 (k:=1999) (by omega) (fun k H h=>ztz k H h) hv hq
end Go.Di
end
