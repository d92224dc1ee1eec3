/-
 For FitsCheck: the law at all arguments, over the evaluator. No conditions beyond those that each theorem states.
-/
import Derived.Test.YtbfjjkjiokfdgaaGreatLinkA
import Derived.Test.YtbfjjkjiokfdgaaGreatRunA
import Derived.Test.YtbfjjkjiokfdgaaGreatConI
import Derived.Test.YtbfjjkjiokfdgaaGreatRunB
set_option linter.unusedSimpArgs false
set_option linter.unusedVariables false
noncomputable section
namespace Go.Di
open Go.Ev Go.Proofs
theorem q64{P:Program}{ext:Ext}{f:FuncId}{args:List AV}{H:Hp}(h:ext f args H=none)(k:Nat):fQ P ext (k+1) (.f f) args H=(aR P f).f (fQ P ext k) args H:=by show @Option.rec R1 (fun _=>R1) ((sJ P f).f (fQ P ext k) args H) (fun r=>r) (ext f args H)=_;rw[h,q02]
theorem q1d{P:Program}{ext:Ext}{f:FuncId}{args:List AV}{H:Hp}{r:R1}(h:ext f args H=some r)(k:Nat):fQ P ext (k+1) (.f f) args H=r:=by show @Option.rec R1 (fun _=>R1) ((sJ P f).f (fQ P ext k) args H) (fun r=>r) (ext f args H)=_;rw[h]
theorem zv6{P:Program}{ext:Ext}{l:Nat}{args:List AV}{H:Hp}(k:Nat):fQ P ext (k+1) (.y l) args H=qgs P (fQ P ext k) l args H:=by show quq P (fQ P ext k) l args H=_;rw[qup]
def nZ:List (Nat×Nat):=nmL.map fun s=>(s.n,s.a)
def eZ:Ext:=qf4 114 113 (qko 147 148 (qsr 122 (qsj [170,130] nZ (q2u [6]))))
attribute [local irreducible] Go.Ev.fQ Go.Ev.aR Go.Ev.sJ
def CZ(k:Nat):Ev.Call:=fQ Tryz.prog eZ k
theorem zgn(k:Nat)(f:FuncId)(l:List AV)(H:Hp)(h:eZ f l H=none):CZ (k+1) (.f f) l H=(aR Tryz.prog f).f (CZ k) l H:=
 q64 (P:=Tryz.prog) (ext:=eZ) (f:=f) (args:=l) (H:=H) h k
theorem sz{k:Nat}{f:FuncId}{l:List AV}{H:Hp}(h:eZ f l H=none):CZ (k+1) (.f f) l H=(aR Tryz.prog f).f (CZ k) l H:=zgn _ _ _ _ h
theorem qdi(k:Nat)(f:FuncId)(l:List AV)(H:Hp){r:R1}(h:eZ f l H=some r):CZ (k+1) (.f f) l H=r:=
 q1d (P:=Tryz.prog) (ext:=eZ) (f:=f) (args:=l) (H:=H) h k
theorem aHx(k l:Nat)(a:List AV)(H:Hp):CZ (k+1) (.y l) a H=qgs Tryz.prog (CZ k) l a H:=zv6 k
theorem zni(k:Nat)(H:Hp)(h:1<=k):CZ k (.f 6) [] H=.ok (.bool true) H:=by
 have:k=(k-1)+1:=by omega
 rw[this];exact qdi _ _ _ _ rfl
theorem links:aZ CZ:=fun k=>⟨ fun _ _ _=>(sz (by rfl)).trans (q1m ..), fun _ _=>(sz (by rfl)).trans (zil ..), fun _ _ _=>(sz (by rfl)).trans (zik ..), fun _ _ _=>(sz (by rfl)).trans (zij ..), fun _ _ _=>(sz (by rfl)).trans (zii ..), fun _ _ _=>(sz (by rfl)).trans (zih ..), fun _ _ _=>(sz (by rfl)).trans (zif ..), fun _ _=>(sz (by rfl)).trans (zk1 ..), fun _ _ _=>(sz (by rfl)).trans (zie ..), fun _ _=>(sz (by rfl)).trans (zid ..), fun _ _ _ _=>(sz (by rfl)).trans (zkp ..), fun _ _=>(sz (by rfl)).trans (zic ..), fun _ _=>(sz (by rfl)).trans (zk0 ..), fun _ _=>(sz (by rfl)).trans (zib ..), fun _ _ _=>(sz (by rfl)).trans (zia ..), fun _ _=>(sz (by rfl)).trans (zh9 ..), fun _ _=>(sz (by rfl)).trans (zky ..), fun _ _=>(sz (by rfl)).trans (zkx ..), fun _ _ _ _ _ _=>(sz (by rfl)).trans (zkv ..), fun _ _=>(sz (by rfl)).trans (zku ..), fun _ _ _=>(sz (by rfl)).trans (zkt ..), fun _ _ _ _=>(sz (by rfl)).trans (zks ..), fun _ _=>(sz (by rfl)).trans (zkz ..), fun _ _=>(sz (by rfl)).trans (zh8 ..), fun _ _ _=>(sz (by rfl)).trans (zh7 ..), fun _ _ _=>(sz (by rfl)).trans (zh6 ..), fun _ _ _=>(sz (by rfl)).trans (zj4 ..), fun _ _=>(sz (by rfl)).trans (zh5 ..), fun _ _=>(sz (by rfl)).trans (zh4 ..), fun _ _=>(sz (by rfl)).trans (zkr ..), fun _ _=>(sz (by rfl)).trans (zkq ..), fun _ _=>(sz (by rfl)).trans (zh3 ..), fun _ _ _=>(sz (by rfl)).trans (ziz ..), fun _ _=>(sz (by rfl)).trans (zkj ..), fun _ _ _ _ _=>(sz (by rfl)).trans (zki ..), fun _ _ _ _ _=>(sz (by rfl)).trans (zkh ..), fun _ _=>(sz (by rfl)).trans (zkg ..), fun _ _ _ _=>(sz (by rfl)).trans (zkf ..), fun _ _ _ _=>(sz (by rfl)).trans (zkn ..), fun _ _ _=>(sz (by rfl)).trans (zh2 ..), fun _ _ _=>(sz (by rfl)).trans (zh1 ..), fun _ _=>(sz (by rfl)).trans (zh0 ..), fun _ _=>(sz (by rfl)).trans (zhz ..), fun _ _=>(sz (by rfl)).trans (zke ..), fun _ _=>(sz (by rfl)).trans (zkd ..), fun _ _ _ _ _ _ _ _=>(sz (by rfl)).trans (zkc ..), fun _ _ _ _ _=>(sz (by rfl)).trans (zkb ..), fun _ _=>(sz (by rfl)).trans (zka ..), fun _ _=>(sz (by rfl)).trans (zj7 ..), fun _ _=>(sz (by rfl)).trans (zj6 ..), fun _ _=>(sz (by rfl)).trans (zkm ..), fun _ _=>(sz (by rfl)).trans (zhy ..), fun _ _=>(sz (by rfl)).trans (zhx ..), fun _ _ _=>(sz (by rfl)).trans (zit ..), fun _ _ _ _=>(sz (by rfl)).trans (zj3 ..), fun _ _ _=>(sz (by rfl)).trans (zhw ..), fun _ _ _=>(sz (by rfl)).trans (zhv ..), fun _ _=>(sz (by rfl)).trans (zj2 ..), fun _ _=>(sz (by rfl)).trans (zj5 ..), fun _ _ _ _=>(sz (by rfl)).trans (zj1 ..), fun _ _=>(sz (by rfl)).trans (zj0 ..), fun _ _ _ _=>(sz (by rfl)).trans (zjy ..), fun _ _ _ _ _=>(sz (by rfl)).trans (zjx ..), fun _ _ _=>(sz (by rfl)).trans (zjw ..), fun _ _=>(sz (by rfl)).trans (zjv ..), fun _ _=>(sz (by rfl)).trans (zju ..), fun _ _=>(sz (by rfl)).trans (zjt ..), fun _ _=>(sz (by rfl)).trans (zjs ..), fun _ _ _=>(sz (by rfl)).trans (zjr ..), fun _ _=>(sz (by rfl)).trans (zkk ..), fun _ _=>(sz (by rfl)).trans (zjq ..), fun _ _=>(sz (by rfl)).trans (zhu ..), fun _ _=>(sz (by rfl)).trans (zht ..), fun _ _=>(sz (by rfl)).trans (zjo ..), fun _ _ _ _ _=>(sz (by rfl)).trans (zjn ..), fun _ _ _=>(sz (by rfl)).trans (zjm ..), fun _ _ _ _ _=>(sz (by rfl)).trans (zjl ..), fun _ _ _ _=>(sz (by rfl)).trans (zjk ..), fun _ _=>(sz (by rfl)).trans (zjj ..), fun _ _ _ _ _ _ _ _=>(sz (by rfl)).trans (zjh ..), fun _ _=>(sz (by rfl)).trans (zjg ..), fun _ _=>(sz (by rfl)).trans (zjf ..), fun _ _ _=>(sz (by rfl)).trans (zje ..), fun _ _=>(sz (by rfl)).trans (zjd ..), fun _ _=>(sz (by rfl)).trans (zjc ..), fun _ _ _=>(sz (by rfl)).trans (zjb ..), fun _ _ _=>(sz (by rfl)).trans (zja ..), fun _ _ _ _ _=>(sz (by rfl)).trans (zi9 ..), fun _ _=>(sz (by rfl)).trans (zhs ..), fun _ _=>(sz (by rfl)).trans (zi8 ..), fun _ _ _=>(sz (by rfl)).trans (zi7 ..), fun _ _ _ _=>(sz (by rfl)).trans (zi6 ..), fun _ _ _=>(sz (by rfl)).trans (zi5 ..), fun _ _=>(sz (by rfl)).trans (zi4 ..), fun _ _=>(sz (by rfl)).trans (zi3 ..), fun _ _ _=>(sz (by rfl)).trans (zi2 ..), fun _ _ _=>(sz (by rfl)).trans (zi0 ..), fun _ _ _=>(sz (by rfl)).trans (ziy ..), fun _ _ _=>(sz (by rfl)).trans (zix ..), fun _ _ _=>(sz (by rfl)).trans (ziw ..), fun _ _=>(sz (by rfl)).trans (ziv ..), fun _ _=>(sz (by rfl)).trans (ziu ..), fun _ _ _=>(sz (by rfl)).trans (zis ..), fun _ _ _=>(sz (by rfl)).trans (zir ..), fun _ _ _=>(sz (by rfl)).trans (ziq ..), fun _ _ _=>(sz (by rfl)).trans (zio ..), fun _ _=>(sz (by rfl)).trans (zin ..), fun _ _ _=>(sz (by rfl)).trans (zim ..)⟩
theorem zyi:oV CZ:=fun k=>⟨fun b o n m x H r h=>qdi _ _ _ _ (by
  show(bif Nat.beq n 0 then some (.ok (.bG []) H)else qjy H b o n)=_;cases n with
  |zero=>
   exfalso;unfold qjy at h;split at h
   ·rename_i l hl;obtain⟨_,_,_,_,_,_,_,hll,_⟩:=qf9 hl;obtain rfl:=List.length_eq_zero_iff.1 hll;split at h
    ·rename_i zs hz;cases hz;split at h
     ·rename_i hk;exact absurd hk.pos (Nat.lt_irrefl _)
     ·cases h
    ·cases h
   ·cases h
  |succ n=>exact h),fun H=>qdi _ _ _ _ rfl,fun b o m x H=>qdi _ _ _ _ rfl⟩
theorem zyk:pP CZ:=fun k=>⟨ fun _ _=>(sz (by rfl)).trans (qn5 ..), fun b o n m x H r h=>qdi _ _ _ _ h, fun H=>qdi _ _ _ _ rfl⟩
theorem zyj:pJ LAc LOc CZ:=fun k=>⟨ fun _ _ _=>(sz (by rfl)).trans (qoa ..), fun L l v H h=>(aHx _ _ _ _).trans (qn0 _ L l v H h), fun _ _=>(sz (by rfl)).trans (zj9 ..), fun L l v H h=>(aHx _ _ _ _).trans (zaz _ L l v H h)⟩
theorem zx5{s:SS}(h:Nm s):nZ.any (fun t=>Nat.beq s.n t.1&&Nat.beq s.a t.2)=true:=by rw[List.any_eq_true];exact⟨(s.n,s.a),List.mem_map.2 ⟨s,h,rfl⟩,by simp⟩
theorem zgi{f:FuncId}(hf:f=170\/f=130){s:SS}(h:Nm s)(H:Hp):eZ f [s.v] H=some (.ok (.bool true) H):=by
 have h1:=zx5 h;rcases hf with rfl|rfl
 ·show(bif nZ.any (fun t=>Nat.beq s.n t.1&&Nat.beq s.a t.2)then some (R1.ok (.bool true) H)else none)=_;rw[h1];rfl
 ·show(bif nZ.any (fun t=>Nat.beq s.n t.1&&Nat.beq s.a t.2)then some (R1.ok (.bool true) H)else none)=_;rw[h1];rfl
theorem zyl:l8 CZ:=fun _=>⟨fun _ h H=>qdi _ _ _ _ (zgi (.inl rfl) h H),fun _ h H=>qdi _ _ _ _ (zgi (.inr rfl) h H)⟩
theorem zym:qim CZ:=fun k=>⟨fun H v es h hl=>by obtain⟨r,h1,h2⟩:=q0c 114 113 (qko 147 148 (qsr 122 (qsj [170,130] nZ (q2u [6])))) h hl;have h3:CZ (k+1) (.f 114) [v,.fn 113 [] []] H=r:=qdi k 114 [v,.fn 113 [] []] H h1;rw[h3];exact h2⟩
set_option maxRecDepth 100000
theorem aCp:Tryz.prog.follows .mixedOrders=true:=by kernel_rfl
theorem zmn:Yes Tryz.prog 6:=q49 aCp qta zmo
theorem zmj:∀ f∈[170,130],∀s∈nZ,aFJ Tryz.prog f s:=fun f hf s hs=>by obtain⟨t,ht,rfl⟩:=List.mem_map.1 hs;exact qz2 aCp qta (List.all_eq_true.1 (List.all_eq_true.1 zmk f hf) t ht)
theorem aXI:xI Tryz.prog eZ:=q0d (q0b (q5m (q5a (zcw (fun f hf=>by obtain rfl:=List.mem_singleton.1 hf;exact zmn) (by kernel_rfl)) zmj (by kernel_rfl)) Tryz.sortCalls (qn2 aCp qta ztu) (by kernel_rfl)) Tryz.sortFCalls Tryz.sortFNone (by kernel_rfl)) Tryz.sortECalls Tryz.sortENone (by kernel_rfl)
theorem aQx{cv lv v:AV}{L:List (List Nat)}{ls:List Q4}{l:List Tu}{H:Hp}(hv:gH H cv L)(hq:Rs 4 Q4.cells H lv ls)(hl:Rs 6 Tu.cells H v l):Ok (CZ 2000 (.f 5) [.agg [cv,lv],v] H) fun r _=>r=.bool true:=by
 have h:CZ 2000 (.f 5) [.agg [cv,lv],v] H=zDu (CZ 1999) (.agg [cv,lv]) v H:=
  (zgn _ _ _ _ (by rfl)).trans (q1m _ _ _ H)
 rw[h];exact qw8 links zyl zym zyk zyi zyj (k:=1999) (by omega) (fun k H h=>zni k H h) hv hq hl
end Go.Di
end
