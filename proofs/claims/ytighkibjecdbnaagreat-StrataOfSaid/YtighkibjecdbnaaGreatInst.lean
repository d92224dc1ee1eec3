/-
 For StrataOf: the law at all arguments, over the evaluator. No conditions beyond those that each theorem states.
-/
import Derived.Test.YtighkibjecdbnaaGreatLinkA
import Derived.Test.YtighkibjecdbnaaGreatRunA
import Derived.Test.YtighkibjecdbnaaGreatConH
import Derived.Test.YtighkibjecdbnaaGreatRunB
import Derived.Test.YtighkibjecdbnaaGreatConI
set_option linter.unusedSimpArgs false
set_option linter.unusedVariables false
noncomputable section
namespace Go.Di
open Go.Ev Go.Proofs
theorem q59{P:Program}{ext:Ext}{f:FuncId}{args:List AV}{H:Hp}(h:ext f args H=none)(k:Nat) :
  fM P ext (k+1) (.f f) args H=(aT P f).f (fM P ext k) args H:=by
 show @Option.rec R1 (fun _=>R1) ((rT P f).f (fM P ext k) args H) (fun r=>r) (ext f args H)=_
 rw[h,qzt]
theorem qz4{P:Program}{ext:Ext}{f:FuncId}{args:List AV}{H:Hp}{r:R1}(h:ext f args H=some r)(k:Nat) :
  fM P ext (k+1) (.f f) args H=r:=by
 show @Option.rec R1 (fun _=>R1) ((rT P f).f (fM P ext k) args H) (fun r=>r) (ext f args H)=_
 rw[h]
theorem zur{P:Program}{ext:Ext}{l:Nat}{args:List AV}{H:Hp}(k:Nat) :
  fM P ext (k+1) (.y l) args H=qgh P (fM P ext k) l args H:=by
 show qt9 P (fM P ext k) l args H=_
 rw[qt8]
def nZ:List (Nat×Nat):=nmL.map fun s=>(s.n,s.a)
def eZ:Ext:=qfw 68 67 (qjv 112 113 (qsb 82 (qr2 [129,90] nZ (q1w [5]))))
attribute [local irreducible] Go.Ev.fM Go.Ev.aT Go.Ev.rT
def CZ(k:Nat):Ev.Call:=fM Tryz.prog eZ k
theorem zf2(k:Nat)(f:FuncId)(l:List AV)(H:Hp)(h:eZ f l H=none):CZ (k+1) (.f f) l H=(aT Tryz.prog f).f (CZ k) l H :=
 q59 (P:=Tryz.prog) (ext:=eZ) (f:=f) (args:=l) (H:=H) h k
theorem sz{k:Nat}{f:FuncId}{l:List AV}{H:Hp}(h:eZ f l H=none):CZ (k+1) (.f f) l H=(aT Tryz.prog f).f (CZ k) l H:=zf2 _ _ _ _ h
theorem qdf(k:Nat)(f:FuncId)(l:List AV)(H:Hp){r:R1}(h:eZ f l H=some r):CZ (k+1) (.f f) l H=r :=
 qz4 (P:=Tryz.prog) (ext:=eZ) (f:=f) (args:=l) (H:=H) h k
theorem aH7(k l:Nat)(a:List AV)(H:Hp):CZ (k+1) (.y l) a H=qgh Tryz.prog (CZ k) l a H:=zur k
theorem zmd(k:Nat)(H:Hp)(h:1<=k):CZ k (.f 5) [] H= .ok (.bool true) H:=by
 have:k=(k-1)+1:=by omega
 rw[this]
 exact qdf _ _ _ _ rfl
theorem links:bC CZ:=fun k=>⟨
 fun _ _ _ _=>(sz (by rfl)).trans (q1s ..),
 fun _ _=>(sz (by rfl)).trans (zjw ..),
 fun _ _=>(sz (by rfl)).trans (zjv ..),
 fun _ _=>(sz (by rfl)).trans (zju ..),
 fun _ _=>(sz (by rfl)).trans (zjt ..),
 fun _ _=>(sz (by rfl)).trans (zjs ..),
 fun _ _=>(sz (by rfl)).trans (zjr ..),
 fun _ _ _ _=>(sz (by rfl)).trans (zjq ..),
 fun _ _=>(sz (by rfl)).trans (zjo ..),
 fun _ _ _=>(sz (by rfl)).trans (zjm ..),
 fun _ _ _ _ _=>(sz (by rfl)).trans (zjl ..),
 fun _ _ _ _=>(sz (by rfl)).trans (zjk ..),
 fun _ _=>(sz (by rfl)).trans (zjj ..),
 fun _ _=>(sz (by rfl)).trans (zji ..),
 fun _ _ _ _ _ _=>(sz (by rfl)).trans (zjg ..),
 fun _ _=>(sz (by rfl)).trans (zjf ..),
 fun _ _ _=>(sz (by rfl)).trans (zje ..),
 fun _ _ _ _=>(sz (by rfl)).trans (zjd ..),
 fun _ _=>(sz (by rfl)).trans (zjc ..),
 fun _ _=>(sz (by rfl)).trans (zjb ..),
 fun _ _ _=>(sz (by rfl)).trans (zja ..),
 fun _ _ _=>(sz (by rfl)).trans (zi9 ..),
 fun _ _=>(sz (by rfl)).trans (zi8 ..),
 fun _ _ _ _=>(sz (by rfl)).trans (zi7 ..),
 fun _ _ _ _=>(sz (by rfl)).trans (zi5 ..),
 fun _ _ _ _ _=>(sz (by rfl)).trans (zi4 ..),
 fun _ _ _ _ _=>(sz (by rfl)).trans (zi3 ..),
 fun _ _=>(sz (by rfl)).trans (zi2 ..),
 fun _ _=>(sz (by rfl)).trans (zi0 ..),
 fun _ _=>(sz (by rfl)).trans (ziz ..),
 fun _ _ _ _ _=>(sz (by rfl)).trans (ziy ..),
 fun _ _ _ _ _=>(sz (by rfl)).trans (zix ..),
 fun _ _=>(sz (by rfl)).trans (ziw ..),
 fun _ _ _ _=>(sz (by rfl)).trans (ziv ..),
 fun _ _=>(sz (by rfl)).trans (ziu ..),
 fun _ _=>(sz (by rfl)).trans (zit ..),
 fun _ _ _ _ _ _ _ _=>(sz (by rfl)).trans (zis ..),
 fun _ _ _ _ _=>(sz (by rfl)).trans (zir ..),
 fun _ _=>(sz (by rfl)).trans (ziq ..),
 fun _ _=>(sz (by rfl)).trans (zim ..),
 fun _ _=>(sz (by rfl)).trans (zil ..),
 fun _ _=>(sz (by rfl)).trans (zik ..),
 fun _ _ _=>(sz (by rfl)).trans (zij ..),
 fun _ _ _ _=>(sz (by rfl)).trans (zii ..),
 fun _ _=>(sz (by rfl)).trans (zih ..),
 fun _ _ _ _=>(sz (by rfl)).trans (zif ..),
 fun _ _=>(sz (by rfl)).trans (zie ..),
 fun _ _ _ _=>(sz (by rfl)).trans (zic ..),
 fun _ _ _ _ _=>(sz (by rfl)).trans (zib ..),
 fun _ _ _=>(sz (by rfl)).trans (zia ..),
 fun _ _=>(sz (by rfl)).trans (zh9 ..),
 fun _ _=>(sz (by rfl)).trans (zh8 ..),
 fun _ _=>(sz (by rfl)).trans (zh7 ..),
 fun _ _=>(sz (by rfl)).trans (zh6 ..),
 fun _ _ _=>(sz (by rfl)).trans (zh5 ..),
 fun _ _=>(sz (by rfl)).trans (zh4 ..),
 fun _ _=>(sz (by rfl)).trans (zh3 ..),
 fun _ _ _ _ _=>(sz (by rfl)).trans (zh2 ..),
 fun _ _ _=>(sz (by rfl)).trans (zh1 ..),
 fun _ _ _ _ _=>(sz (by rfl)).trans (zh0 ..),
 fun _ _ _ _=>(sz (by rfl)).trans (zhz ..),
 fun _ _=>(sz (by rfl)).trans (zhy ..),
 fun _ _ _ _ _ _ _ _=>(sz (by rfl)).trans (zhw ..),
 fun _ _=>(sz (by rfl)).trans (zhv ..),
 fun _ _=>(sz (by rfl)).trans (zhu ..),
 fun _ _ _=>(sz (by rfl)).trans (zht ..),
 fun _ _=>(sz (by rfl)).trans (zhs ..),
 fun _ _=>(sz (by rfl)).trans (zhr ..),
 fun _ _ _=>(sz (by rfl)).trans (zhq ..),
 fun _ _ _=>(sz (by rfl)).trans (zhp ..),
 fun _ _ _ _ _=>(sz (by rfl)).trans (zho ..),
 fun _ _=>(sz (by rfl)).trans (zhn ..),
 fun _ _ _=>(sz (by rfl)).trans (zhm ..),
 fun _ _ _ _=>(sz (by rfl)).trans (zhl ..),
 fun _ _ _=>(sz (by rfl)).trans (zhk ..),
 fun _ _=>(sz (by rfl)).trans (zhj ..),
 fun _ _=>(sz (by rfl)).trans (zhi ..),
 fun _ _ _=>(sz (by rfl)).trans (zhh ..),
 fun _ _ _=>(sz (by rfl)).trans (zhf ..),
 fun _ _ _=>(sz (by rfl)).trans (zhe ..),
 fun _ _ _=>(sz (by rfl)).trans (zhd ..),
 fun _ _ _=>(sz (by rfl)).trans (zhc ..),
 fun _ _ _=>(sz (by rfl)).trans (zhb ..),
 fun _ _=>(sz (by rfl)).trans (zha ..),
 fun _ _=>(sz (by rfl)).trans (zg9 ..),
 fun _ _ _=>(sz (by rfl)).trans (zg8 ..),
 fun _ _ _=>(sz (by rfl)).trans (zg7 ..),
 fun _ _ _=>(sz (by rfl)).trans (zg6 ..),
 fun _ _ _=>(sz (by rfl)).trans (zg5 ..),
 fun _ _ _=>(sz (by rfl)).trans (zg4 ..),
 fun _ _=>(sz (by rfl)).trans (zg3 ..),
 fun _ _ _=>(sz (by rfl)).trans (zg2 ..)⟩
theorem zw0:pU CZ:=fun k=>⟨fun b o n m x H r h=>qdf _ _ _ _ (by
  show(bif Nat.beq n 0 then some (.ok (.aZ []) H)else qja H b o n)=_
  cases n with
  |zero =>
   exfalso
   unfold qja at h
   split at h
   ·rename_i l hl
    obtain⟨_,_,_,_,_,_,_,hll,_⟩:=qf2 hl
    obtain rfl:=List.length_eq_zero_iff.1 hll
    split at h
    ·rename_i zs hz
     cases hz
     split at h
     ·rename_i hk;exact absurd hk.pos (Nat.lt_irrefl _)
     ·cases h
    ·cases h
   ·cases h
  |succ n=>exact h),fun H=>qdf _ _ _ _ rfl,fun b o m x H=>qdf _ _ _ _ rfl⟩
theorem zw2:qY CZ:=fun k=>⟨
 fun _ _=>(sz (by rfl)).trans (qnh ..),
 fun b o n m x H r h=>qdf _ _ _ _ h,
 fun H=>qdf _ _ _ _ rfl⟩
theorem zw1:qF LAc LOc CZ:=fun k=>⟨
 fun _ _ _=>(sz (by rfl)).trans (qnl ..),
 fun L l v H h=>(aH7 _ _ _ _).trans (qnb _ L l v H h),
 fun _ _=>(sz (by rfl)).trans (zio ..),
 fun L l v H h=>(aH7 _ _ _ _).trans (q88 _ L l v H h)⟩
theorem zwn{s:SS}(h:Nm s):nZ.any (fun t=>Nat.beq s.n t.1&&Nat.beq s.a t.2)=true:=by
 rw[List.any_eq_true]
 exact⟨(s.n,s.a),List.mem_map.2 ⟨s,h,rfl⟩,by simp⟩
theorem zfx{f:FuncId}(hf:f=129\/f=90){s:SS}(h:Nm s)(H:Hp):eZ f [s.v] H=some (.ok (.bool true) H):=by
 have h1:=zwn h
 rcases hf with rfl|rfl
 ·show(bif nZ.any (fun t=>Nat.beq s.n t.1&&Nat.beq s.a t.2)then some (R1.ok (.bool true) H)else none)=_
  rw[h1];rfl
 ·show(bif nZ.any (fun t=>Nat.beq s.n t.1&&Nat.beq s.a t.2)then some (R1.ok (.bool true) H)else none)=_
  rw[h1];rfl
theorem zw3:l9 CZ:=fun _=>⟨fun _ h H=>qdf _ _ _ _ (zfx (.inl rfl) h H),fun _ h H=>qdf _ _ _ _ (zfx (.inr rfl) h H)⟩
theorem zw4:qpr CZ:=fun k=>⟨fun H v es h hl=>by
 obtain⟨r,h1,h2⟩:=qy6 68 67 (qjv 112 113 (qsb 82 (qr2 [129,90] nZ (q1w [5])))) h hl
 have h3:CZ (k+1) (.f 68) [v,.fn 67 [] []] H=r:=qdf k 68 [v,.fn 67 [] []] H h1
 rw[h3]
 exact h2⟩
set_option maxRecDepth 100000
theorem aC1:Tryz.prog.follows .mixedOrders=true:=by kernel_rfl
theorem zlg:Yes Tryz.prog 5:=q4i aC1 qsv zlh
theorem zlb:∀ f∈[129,90],∀s∈nZ,aEu Tryz.prog f s:=fun f hf s hs=>by
 obtain⟨t,ht,rfl⟩:=List.mem_map.1 hs
 exact qyx aC1 qsv (List.all_eq_true.1 (List.all_eq_true.1 zlc f hf) t ht)
theorem aTe:wZ Tryz.prog eZ:=qy7 (qy5 (q4u (q4j (zcj (fun f hf=>by obtain rfl:=List.mem_singleton.1 hf;exact zlg) (by kernel_rfl)) zlb (by kernel_rfl)) Tryz.sortCalls (qnd aC1 qsv zsn) (by kernel_rfl)) Tryz.sortFCalls Tryz.sortFNone (by kernel_rfl)) Tryz.sortECalls Tryz.sortENone (by kernel_rfl)
theorem aSi{v:AV}{L:List (List Nat)}{H:Hp}(hv:gJ H v L)(x:Int)(p q:SS):Ok (CZ 2000 (.f 3) [.agg [v],.int .i64 x,.agg [.str p.n p.a,.str q.n q.a]] H) fun r _=>r= .bool true:=by
 have h:CZ 2000 (.f 3) [.agg [v],.int .i64 x,.agg [.str p.n p.a,.str q.n q.a]] H=zAa (CZ 1999) (.agg [v]) (.int .i64 x) (.agg [.str p.n p.a,.str q.n q.a]) H :=
  (zf2 _ _ _ _ (by rfl)).trans (q1s _ _ _ _ H)
 rw[h]
 exact qz8 links zw3 zw4 zw2 zw0 zw1 (k:=1999) (by omega) (fun k H h=>zmd k H h) hv x p q
end Go.Di
end
