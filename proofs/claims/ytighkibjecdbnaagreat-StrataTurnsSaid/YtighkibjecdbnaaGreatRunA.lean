/-
 For StrataTurns: the library sorts. No conditions beyond those that each theorem states.
-/
import Derived.Test.YtighkibjecdbnaaGreatProg
import Derived.Shelf.SlSortCmp.NoneTotal
import Derived.Shelf.SlicesG.Cmp
import Derived.Shelf.Sort.AssemblyIn
import Derived.Shelf.SlGeneric
import Derived.Ground.SlsfProg
import Derived.Ground.SlgcProg
import Derived.WalkKit
import Derived.Deep.QuietTactic
import Derived.Deep.RegionHeld3
import Derived.BigQuiet
import Derived.Test.YtighkibjecdbnaaGreatEv4
set_option linter.unusedSimpArgs false
set_option linter.unusedVariables false
section
namespace Go.Proofs
open Go.Shelf
def Tryz.sortE_ren:Go.Shelf.Ren:=⟨fun|6=>68|15=>108|14=>107|28=>139|29=>140|20=>131|21=>132|22=>133|23=>134|24=>135|25=>136|26=>137|27=>138|46=>158|47=>159|48=>160|49=>161|50=>162|57=>181|n=>n,fun|22=>70|24=>113|25=>151|3=>3|39=>194|0=>0|53=>235|55=>237|4=>4|46=>229|45=>228|50=>178|5=>5|9=>9|66=>255|70=>259|76=>274|77=>196|n=>n,fun|n=>n⟩
theorem Tryz.sortE:Go.Proofs.SlLaysF0.n6 Tryz.prog Tryz.sortE_ren:={
 mixed:=by kernel_rfl
 f6:=⟨Tryz.f68.name,by decide,Tryz.func68.trans (congrArg some (by kernel_rfl))⟩
 f14:=⟨Tryz.f107.name,by decide,Tryz.func107.trans (congrArg some (by kernel_rfl))⟩
 f15:=Tryz.func108.trans (congrArg some (by kernel_rfl))
 f20:=⟨Tryz.f131.name,by decide,Tryz.func131.trans (congrArg some (by kernel_rfl))⟩
 f21:=⟨Tryz.f132.name,by decide,Tryz.func132.trans (congrArg some (by kernel_rfl))⟩
 f22:=⟨Tryz.f133.name,by decide,Tryz.func133.trans (congrArg some (by kernel_rfl))⟩
 f23:=⟨Tryz.f134.name,by decide,Tryz.func134.trans (congrArg some (by kernel_rfl))⟩
 f24:=⟨Tryz.f135.name,by decide,Tryz.func135.trans (congrArg some (by kernel_rfl))⟩
 f25:=⟨Tryz.f136.name,by decide,Tryz.func136.trans (congrArg some (by kernel_rfl))⟩
 f26:=⟨Tryz.f137.name,by decide,Tryz.func137.trans (congrArg some (by kernel_rfl))⟩
 f27:=⟨Tryz.f138.name,by decide,Tryz.func138.trans (congrArg some (by kernel_rfl))⟩
 f28:=Tryz.func139.trans (congrArg some (by kernel_rfl))
 f29:=Tryz.func140.trans (congrArg some (by kernel_rfl))
 f46:=⟨Tryz.f158.name,by decide,Tryz.func158.trans (congrArg some (by kernel_rfl))⟩
 f47:=Tryz.func159.trans (congrArg some (by kernel_rfl))
 f48:=Tryz.func160.trans (congrArg some (by kernel_rfl))
 f49:=⟨Tryz.f161.name,by decide,Tryz.func161.trans (congrArg some (by kernel_rfl))⟩
 f50:=⟨Tryz.f162.name,by decide,Tryz.func162.trans (congrArg some (by kernel_rfl))⟩
 f57:=⟨Tryz.f181.name,by decide,Tryz.func181.trans (congrArg some (by kernel_rfl))⟩
 t0:=Tryz.underlying0
 a0:=Tryz.isAgg0
 z0:=Tryz.sizeOf0
 v0:=Tryz.zeroValue0
 t3:=Tryz.underlying3
 a3:=Tryz.isAgg3
 z3:=Tryz.sizeOf3
 v3:=Tryz.zeroValue3
 t4:=Tryz.underlying4
 a4:=Tryz.isAgg4
 z4:=Tryz.sizeOf4
 v4:=Tryz.zeroValue4
 t5:=Tryz.underlying5
 a5:=Tryz.isAgg5
 z5:=Tryz.sizeOf5
 v5:=Tryz.zeroValue5
 t9:=Tryz.underlying9
 a9:=Tryz.isAgg9
 z9:=Tryz.sizeOf9
 v9:=Tryz.zeroValue9
 t22:=Tryz.underlying70
 a22:=Tryz.isAgg70
 z22:=Tryz.sizeOf70
 v22:=Tryz.zeroValue70
 t25:=Tryz.underlying151
 a25:=Tryz.isAgg151
 z25:=Tryz.sizeOf151
 v25:=Tryz.zeroValue151
 t39:=Tryz.underlying194
 a39:=Tryz.isAgg194
 z39:=Tryz.sizeOf194
 v39:=Tryz.zeroValue194
 t45:=Tryz.underlying228
 a45:=Tryz.isAgg228
 z45:=Tryz.sizeOf228
 v45:=Tryz.zeroValue228
 t46:=Tryz.underlying229
 a46:=Tryz.isAgg229
 z46:=Tryz.sizeOf229
 v46:=Tryz.zeroValue229
 t50:=Tryz.underlying178
 a50:=Tryz.isAgg178
 z50:=Tryz.sizeOf178
 v50:=Tryz.zeroValue178
 t53:=Tryz.underlying235
 a53:=Tryz.isAgg235
 z53:=Tryz.sizeOf235
 v53:=Tryz.zeroValue235
 t55:=Tryz.underlying237
 a55:=Tryz.isAgg237
 z55:=Tryz.sizeOf237
 v55:=Tryz.zeroValue237
 t66:=Tryz.underlying255
 a66:=Tryz.isAgg255
 z66:=Tryz.sizeOf255
 v66:=Tryz.zeroValue255
 t70:=Tryz.underlying259
 a70:=Tryz.isAgg259
 z70:=Tryz.sizeOf259
 v70:=Tryz.zeroValue259
 t76:=Tryz.underlying274
 a76:=Tryz.isAgg274
 z76:=Tryz.sizeOf274
 v76:=Tryz.zeroValue274
 t77:=Tryz.underlying196
 a77:=Tryz.isAgg196
 z77:=Tryz.sizeOf196
 v77:=Tryz.zeroValue196}
def Tryz.cmpInt_ren:Go.Shelf.Ren:=⟨fun|5=>105|7=>130|n=>n,fun|22=>3|3=>3|4=>4|n=>n,fun|n=>n⟩
theorem Tryz.cmpInt:Go.Proofs.SlLaysC2.n5 Tryz.prog Tryz.cmpInt_ren:={
 mixed:=by kernel_rfl
 f5:=⟨Tryz.f105.name,by decide,Tryz.func105.trans (congrArg some (by kernel_rfl))⟩
 f7:=⟨Tryz.f130.name,by decide,Tryz.func130.trans (congrArg some (by kernel_rfl))⟩
 t3:=Tryz.underlying3
 a3:=Tryz.isAgg3
 z3:=Tryz.sizeOf3
 v3:=Tryz.zeroValue3
 t4:=Tryz.underlying4
 a4:=Tryz.isAgg4
 z4:=Tryz.sizeOf4
 v4:=Tryz.zeroValue4
 t22:=Tryz.underlying3
 a22:=Tryz.isAgg3
 z22:=Tryz.sizeOf3
 v22:=Tryz.zeroValue3}
def Tryz.sortL_ren:Go.Shelf.Ren:=⟨fun|6=>112|15=>108|14=>142|28=>139|29=>140|20=>163|21=>164|22=>165|23=>166|24=>167|25=>168|26=>169|27=>170|46=>182|47=>159|48=>160|49=>183|50=>184|57=>189|n=>n,fun|22=>120|24=>38|25=>199|3=>3|39=>194|0=>0|53=>235|55=>237|4=>4|46=>229|45=>228|50=>178|5=>5|9=>9|66=>255|70=>259|76=>274|77=>196|n=>n,fun|n=>n⟩
theorem Tryz.sortL:Go.Proofs.SlLaysF.n6 Tryz.prog Tryz.sortL_ren:={
 mixed:=by kernel_rfl
 f6:=⟨Tryz.f112.name,by decide,Tryz.func112.trans (congrArg some (by kernel_rfl))⟩
 f14:=⟨Tryz.f142.name,by decide,Tryz.func142.trans (congrArg some (by kernel_rfl))⟩
 f15:=Tryz.func108.trans (congrArg some (by kernel_rfl))
 f20:=⟨Tryz.f163.name,by decide,Tryz.func163.trans (congrArg some (by kernel_rfl))⟩
 f21:=⟨Tryz.f164.name,by decide,Tryz.func164.trans (congrArg some (by kernel_rfl))⟩
 f22:=⟨Tryz.f165.name,by decide,Tryz.func165.trans (congrArg some (by kernel_rfl))⟩
 f23:=⟨Tryz.f166.name,by decide,Tryz.func166.trans (congrArg some (by kernel_rfl))⟩
 f24:=⟨Tryz.f167.name,by decide,Tryz.func167.trans (congrArg some (by kernel_rfl))⟩
 f25:=⟨Tryz.f168.name,by decide,Tryz.func168.trans (congrArg some (by kernel_rfl))⟩
 f26:=⟨Tryz.f169.name,by decide,Tryz.func169.trans (congrArg some (by kernel_rfl))⟩
 f27:=⟨Tryz.f170.name,by decide,Tryz.func170.trans (congrArg some (by kernel_rfl))⟩
 f28:=Tryz.func139.trans (congrArg some (by kernel_rfl))
 f29:=Tryz.func140.trans (congrArg some (by kernel_rfl))
 f46:=⟨Tryz.f182.name,by decide,Tryz.func182.trans (congrArg some (by kernel_rfl))⟩
 f47:=Tryz.func159.trans (congrArg some (by kernel_rfl))
 f48:=Tryz.func160.trans (congrArg some (by kernel_rfl))
 f49:=⟨Tryz.f183.name,by decide,Tryz.func183.trans (congrArg some (by kernel_rfl))⟩
 f50:=⟨Tryz.f184.name,by decide,Tryz.func184.trans (congrArg some (by kernel_rfl))⟩
 f57:=⟨Tryz.f189.name,by decide,Tryz.func189.trans (congrArg some (by kernel_rfl))⟩
 t0:=Tryz.underlying0
 a0:=Tryz.isAgg0
 z0:=Tryz.sizeOf0
 v0:=Tryz.zeroValue0
 t3:=Tryz.underlying3
 a3:=Tryz.isAgg3
 z3:=Tryz.sizeOf3
 v3:=Tryz.zeroValue3
 t4:=Tryz.underlying4
 a4:=Tryz.isAgg4
 z4:=Tryz.sizeOf4
 v4:=Tryz.zeroValue4
 t5:=Tryz.underlying5
 a5:=Tryz.isAgg5
 z5:=Tryz.sizeOf5
 v5:=Tryz.zeroValue5
 t9:=Tryz.underlying9
 a9:=Tryz.isAgg9
 z9:=Tryz.sizeOf9
 v9:=Tryz.zeroValue9
 t22:=Tryz.underlying120
 a22:=Tryz.isAgg120
 z22:=Tryz.sizeOf120
 v22:=Tryz.zeroValue120
 a24:=Tryz.isAgg38
 z24:=Tryz.sizeOf38
 t25:=Tryz.underlying199
 a25:=Tryz.isAgg199
 z25:=Tryz.sizeOf199
 v25:=Tryz.zeroValue199
 t39:=Tryz.underlying194
 a39:=Tryz.isAgg194
 z39:=Tryz.sizeOf194
 v39:=Tryz.zeroValue194
 t45:=Tryz.underlying228
 a45:=Tryz.isAgg228
 z45:=Tryz.sizeOf228
 v45:=Tryz.zeroValue228
 t46:=Tryz.underlying229
 a46:=Tryz.isAgg229
 z46:=Tryz.sizeOf229
 v46:=Tryz.zeroValue229
 t50:=Tryz.underlying178
 a50:=Tryz.isAgg178
 z50:=Tryz.sizeOf178
 v50:=Tryz.zeroValue178
 t53:=Tryz.underlying235
 a53:=Tryz.isAgg235
 z53:=Tryz.sizeOf235
 v53:=Tryz.zeroValue235
 t55:=Tryz.underlying237
 a55:=Tryz.isAgg237
 z55:=Tryz.sizeOf237
 v55:=Tryz.zeroValue237
 t66:=Tryz.underlying255
 a66:=Tryz.isAgg255
 z66:=Tryz.sizeOf255
 v66:=Tryz.zeroValue255
 t70:=Tryz.underlying259
 a70:=Tryz.isAgg259
 z70:=Tryz.sizeOf259
 v70:=Tryz.zeroValue259
 t76:=Tryz.underlying274
 a76:=Tryz.isAgg274
 z76:=Tryz.sizeOf274
 v76:=Tryz.zeroValue274
 t77:=Tryz.underlying196
 a77:=Tryz.isAgg196
 z77:=Tryz.sizeOf196
 v77:=Tryz.zeroValue196}
def Tryz.lays189_ren:Go.Shelf.Ren:=⟨fun|189=>82|125=>108|257=>116|128=>139|129=>140|294=>145|295=>146|296=>147|297=>148|298=>149|299=>150|216=>151|300=>152|301=>153|328=>174|329=>159|330=>160|331=>175|332=>176|215=>130|343=>187|n=>n,fun|28=>38|3=>3|46=>194|0=>0|51=>235|53=>237|4=>4|183=>229|182=>228|131=>178|5=>5|9=>9|218=>255|222=>259|228=>274|229=>196|n=>n,fun|n=>n⟩
theorem Tryz.lays189:Go.Proofs.Lays.n189 Tryz.prog Tryz.lays189_ren:={
 mixed:=by kernel_rfl
 f125:=Tryz.func108.trans (congrArg some (by kernel_rfl))
 f128:=Tryz.func139.trans (congrArg some (by kernel_rfl))
 f129:=Tryz.func140.trans (congrArg some (by kernel_rfl))
 f189:=Tryz.func82.trans (congrArg some (by kernel_rfl))
 f215:=Tryz.func130.trans (congrArg some (by kernel_rfl))
 f216:=Tryz.func151.trans (congrArg some (by kernel_rfl))
 f257:=Tryz.func116.trans (congrArg some (by kernel_rfl))
 f294:=Tryz.func145.trans (congrArg some (by kernel_rfl))
 f295:=Tryz.func146.trans (congrArg some (by kernel_rfl))
 f296:=Tryz.func147.trans (congrArg some (by kernel_rfl))
 f297:=Tryz.func148.trans (congrArg some (by kernel_rfl))
 f298:=Tryz.func149.trans (congrArg some (by kernel_rfl))
 f299:=Tryz.func150.trans (congrArg some (by kernel_rfl))
 f300:=Tryz.func152.trans (congrArg some (by kernel_rfl))
 f301:=Tryz.func153.trans (congrArg some (by kernel_rfl))
 f328:=Tryz.func174.trans (congrArg some (by kernel_rfl))
 f329:=Tryz.func159.trans (congrArg some (by kernel_rfl))
 f330:=Tryz.func160.trans (congrArg some (by kernel_rfl))
 f331:=Tryz.func175.trans (congrArg some (by kernel_rfl))
 f332:=Tryz.func176.trans (congrArg some (by kernel_rfl))
 f343:=Tryz.func187.trans (congrArg some (by kernel_rfl))
 t0:=Tryz.underlying0
 a0:=Tryz.isAgg0
 z0:=Tryz.sizeOf0
 v0:=Tryz.zeroValue0
 t3:=Tryz.underlying3
 a3:=Tryz.isAgg3
 z3:=Tryz.sizeOf3
 v3:=Tryz.zeroValue3
 t4:=Tryz.underlying4
 a4:=Tryz.isAgg4
 z4:=Tryz.sizeOf4
 v4:=Tryz.zeroValue4
 t5:=Tryz.underlying5
 a5:=Tryz.isAgg5
 z5:=Tryz.sizeOf5
 v5:=Tryz.zeroValue5
 t9:=Tryz.underlying9
 a9:=Tryz.isAgg9
 z9:=Tryz.sizeOf9
 v9:=Tryz.zeroValue9
 t28:=Tryz.underlying38
 a28:=Tryz.isAgg38
 z28:=Tryz.sizeOf38
 v28:=Tryz.zeroValue38
 t46:=Tryz.underlying194
 a46:=Tryz.isAgg194
 z46:=Tryz.sizeOf194
 v46:=Tryz.zeroValue194
 t51:=Tryz.underlying235
 a51:=Tryz.isAgg235
 z51:=Tryz.sizeOf235
 v51:=Tryz.zeroValue235
 t53:=Tryz.underlying237
 a53:=Tryz.isAgg237
 z53:=Tryz.sizeOf237
 v53:=Tryz.zeroValue237
 t131:=Tryz.underlying178
 a131:=Tryz.isAgg178
 z131:=Tryz.sizeOf178
 v131:=Tryz.zeroValue178
 t182:=Tryz.underlying228
 a182:=Tryz.isAgg228
 z182:=Tryz.sizeOf228
 v182:=Tryz.zeroValue228
 t183:=Tryz.underlying229
 a183:=Tryz.isAgg229
 z183:=Tryz.sizeOf229
 v183:=Tryz.zeroValue229
 t218:=Tryz.underlying255
 a218:=Tryz.isAgg255
 z218:=Tryz.sizeOf255
 v218:=Tryz.zeroValue255
 t222:=Tryz.underlying259
 a222:=Tryz.isAgg259
 z222:=Tryz.sizeOf259
 v222:=Tryz.zeroValue259
 t228:=Tryz.underlying274
 a228:=Tryz.isAgg274
 z228:=Tryz.sizeOf274
 v228:=Tryz.zeroValue274
 t229:=Tryz.underlying196
 a229:=Tryz.isAgg196
 z229:=Tryz.sizeOf196
 v229:=Tryz.zeroValue196}
theorem Tryz.closure113{a b d ca f ob nb cb:Nat}{x y:Int}{W:World}(h:0<d)(i:0<nb)(g:W.cell? ⟨a,b,none⟩=some (.int .i64 x))(j:W.cell? ⟨f,ob,none⟩=some (.int .i64 y))(k:0<=x)(l:x<4611686018427387904)(m:0<=y)(n:y<4611686018427387904):Calls Tryz.prog 113 #[.slice (some ⟨a,b,none⟩) d ca,.slice (some ⟨f,ob,none⟩) nb cb] W fun e w'=>e= .returned (.int .i64 (x-y))/\∃ q,w'=W.drewN q:=by
 go_enter Tryz.func113,Tryz.ntmps113
 go_wp2
 have c:Tryz.prog.follows .mixedOrders=true:=by kernel_rfl
 have o:W.cell? {block:=a,off:=b+0}=some (.int .i64 x):=g
 go_quiet (fail)
 go_wp2
 go_ret
 exact⟨rfl,nq,rfl⟩
open Go.RowKit Go.Sort in
theorem Tryz.sortFCalls:Go.Ev.mY Tryz.prog 112 113:=fun zs h enc a c k w f u v=>by
 letI:Inhabited (Fin zs.length):=⟨⟨0,h.pos⟩⟩
 have r:(Array.finRange zs.length).size=zs.length:=by simp
 have A:Go.Proofs.OneCell enc:=fun i=>by obtain⟨_,_,_,_,e,_⟩:=f i;rw[e];rfl
 have B:SWO (ltOf fun i j:Fin zs.length=>zs[i]-zs[j]):={
  irrefl:=fun x=>by unfold ltOf;simp
  trans:=fun x y z=>by unfold ltOf;simp only[yc];omega
  ntrans:=fun x y z=>by unfold ltOf;simp only[yt];omega}
 have C:∀ args w,(callFunc 113 args).run Tryz.prog w= .ok (.enter 113 args) w:=enters_of Tryz.func113 (by kernel_rfl) rfl
 have D:CmpReads Tryz.prog 113 #[] enc (fun i j:Fin zs.length=>zs[i]-zs[j]) a c (Array.finRange zs.length).size w:=fun m g l hd i j=>by
  obtain⟨F,G,R,ca,H,I,d1,J,K⟩:=f i
  obtain⟨L,ob,nb,cb,M,N,O,P,Q⟩:=f j
  have d:∀(b o:Nat),b≠a->b<w.heap.size->(sortWorld enc w a c m l g).cell? ⟨b,o,none⟩=w.cell? ⟨b,o,none⟩:=fun b o p q=>by
   have E:(sortWorld enc w a c m l g).heap[b]? =w.heap[b]? :=by
    show(grow (putRow enc (Sort.ahead w m) a c l) g).heap[b]? =_
    rw[heap_grow_old _ _ (by rw[size_putRow];exact q)]
    show(w.heap.modify a _)[b]? =_
    rw[lE6,lu (fun e=>p e.symm)]
   unfold World.cell?
   rw[E]
  have s:=h.rng _ (lg i.2)
  have t:=h.rng _ (lg j.2)
  rw[H,M]
  exact Tryz.closure113 I N ((d F G d1 J).trans K) ((d L ob O P).trans Q) s.1 s.2 t.1 t.2
 have:=Any.slices_SortFunc_eq Tryz.sortL enc A _ B 113 #[] a c k (Array.finRange zs.length) w C D.lays u v (by rw[r];exact h.len)
 rw[r]at this
 refine this.mono ?_
 rintro e w' ⟨rfl,n,g,rfl⟩
 refine⟨rfl,n,g,?_⟩
 unfold Go.Ev.cB
 rw[r]
 rfl
theorem Tryz.sortFNone:Go.Ev.oF Tryz.prog 112:=fun p a fv w=>AnyF.slices_SortFunc_none {Tryz.sortL with} p a fv w
theorem Tryz.sortCalls:Go.Ev.oM Tryz.prog 82:=fun a b c zs w d e f =>
 calls_of_every_depth fun D=>AnyS.slices_Sort_int_in Tryz.lays189 D a b c zs w d e f
open Go.RowKit Go.Lib Go.Sort
set_option maxHeartbeats 1000000 in
theorem Tryz.sign106(a b:Int)(s:Bool)(W:World):Calls Tryz.prog 106 #[.agg #[.int .i64 a,.int .i64 b,.bool s]] W fun e w'=>e= .returned (.int .i64 (Go.Ev.yO s))/\∃ q c,w'=grow (W.drewN q) c:=by
 cases s
 ·go_enter Tryz.func106,Tryz.ntmps106
  go_wp2
  go_ret
  exact⟨rfl,0,_,by rw[alloc_eq_grow];rfl⟩
 ·go_enter Tryz.func106,Tryz.ntmps106
  go_wp2
  go_ret
  exact⟨rfl,0,_,by rw[alloc_eq_grow];rfl⟩
set_option maxHeartbeats 1000000 in
theorem Tryz.or104(x y z:Int)(a b d:Nat)(W:World)(j:W.cell? ⟨a,b,none⟩=some (.int .i64 x))(k:W.cell? ⟨a,b+1,none⟩=some (.int .i64 y))(l:W.cell? ⟨a,b+2,none⟩=some (.int .i64 z)):Calls Tryz.prog 104 #[.slice (some ⟨a,b,none⟩) 3 d] W fun e w'=>e= .returned (.int .i64 (Go.Ev.or3 x y z))/\∃ q c,w'=grow (W.drewN q) c:=by
 have done:∀ r,r=Go.Ev.or3 x y z->(Ending.returned (Value.int .i64 r)=Ending.returned (Value.int .i64 (Go.Ev.or3 x y z))/\∃ q c,W=grow (W.drewN q) c):=fun r h=>⟨by rw[h],0,#[],by rw[Go.Sort.grow_empty];rfl⟩
 by_cases f:x=0
 ·subst f
  by_cases g:y=0
  ·subst g
   by_cases i:z=0
   ·subst i
    go_enter Tryz.func104,Tryz.ntmps104
    go_wp2
    refine wp_loop_rounds 4 ?_
    rw[rounds_succ]
    go_wp2
    rw[rounds_succ]
    go_wp2
    rw[rounds_succ]
    go_wp2
    rw[rounds_succ]
    go_wp2
    go_ret
    exact done _ rfl
   ·go_enter Tryz.func104,Tryz.ntmps104
    go_wp2
    refine wp_loop_rounds 3 ?_
    rw[rounds_succ]
    go_wp2
    rw[rounds_succ]
    go_wp2
    rw[rounds_succ]
    go_wp2
    go_ret
    exact done _ (by simp[Go.Ev.or3])
  ·go_enter Tryz.func104,Tryz.ntmps104
   go_wp2
   refine wp_loop_rounds 2 ?_
   rw[rounds_succ]
   go_wp2
   rw[rounds_succ]
   go_wp2
   go_ret
   exact done _ (by simp[Go.Ev.or3,g])
 ·go_enter Tryz.func104,Tryz.ntmps104
  go_wp2
  refine wp_loop_rounds 1 ?_
  rw[rounds_succ]
  go_wp2
  go_ret
  exact done _ (by simp[Go.Ev.or3,f])
def GW(W w':World):Prop:=∃ q os',w'=grow (W.drewN q) os'
theorem GW.cell{W w':World}(h:GW W w'){a:Addr}{v:Value}(b:W.cell? a=some v):w'.cell? a=some v:=by
 obtain⟨q,d,rfl⟩:=h
 have c:a.block<W.heap.size:=by
  unfold World.cell? at b
  rcases hx:W.heap[a.block]? with _|o
  ·rw[hx]at b;cases b
  ·exact(ay.1 hx).1
 unfold World.cell? at b ⊢
 have:(grow (W.drewN q) d).heap[a.block]? =W.heap[a.block]? :=heap_grow_old _ _ c
 rw[this];exact b
theorem GW.refl(W:World):GW W W:=⟨0,#[],by rw[Go.Sort.grow_empty];rfl⟩
theorem GW.trans{A B C:World}(h:GW A B)(b:GW B C):GW A C:=by
 obtain⟨q,c,rfl⟩:=h
 obtain⟨d,a,rfl⟩:=b
 exact⟨q+d,c++a,by simp[grow,World.drewN,ui]⟩
theorem GW.alloc{A B:World}(h:GW A B)(o:Obj):GW A (B.alloc o):=h.trans ⟨0,#[o],by rw[alloc_eq_grow];rfl⟩
theorem GW.drew{A B:World}(h:GW A B):GW A B.drew:=h.trans ⟨1,#[],by rw[Go.Sort.grow_empty];rfl⟩
theorem S41.grow{x y:Go.Ev.Eg}{W w w':World}(h:w.cell? ⟨W.heap.size,0,none⟩=some (.int .i64 x.f)/\w.cell? ⟨W.heap.size,1,none⟩=some (.int .i64 x.t)/\w.cell? ⟨W.heap.size,2,none⟩=some (.bool x.s)/\w.cell? ⟨W.heap.size+1,0,none⟩=some (.int .i64 y.f)/\w.cell? ⟨W.heap.size+1,1,none⟩=some (.int .i64 y.t)/\w.cell? ⟨W.heap.size+1,2,none⟩=some (.bool y.s)/\GW W w)(g:GW w w'):w'.cell? ⟨W.heap.size,0,none⟩=some (.int .i64 x.f)/\w'.cell? ⟨W.heap.size,1,none⟩=some (.int .i64 x.t)/\w'.cell? ⟨W.heap.size,2,none⟩=some (.bool x.s)/\w'.cell? ⟨W.heap.size+1,0,none⟩=some (.int .i64 y.f)/\w'.cell? ⟨W.heap.size+1,1,none⟩=some (.int .i64 y.t)/\w'.cell? ⟨W.heap.size+1,2,none⟩=some (.bool y.s)/\GW W w':=⟨g.cell h.1,g.cell h.2.1,g.cell h.2.2.1,g.cell h.2.2.2.1,g.cell h.2.2.2.2.1,g.cell h.2.2.2.2.2.1,h.2.2.2.2.2.2.trans g⟩
theorem S41.start{x y:Go.Ev.Eg}{W:World}:((W.alloc (.cells #[.int .i64 x.f,.int .i64 x.t,.bool x.s] 113)).alloc (.cells #[.int .i64 y.f,.int .i64 y.t,.bool y.s] 113)).drew.cell? ⟨W.heap.size,0,none⟩=some (.int .i64 x.f)/\((W.alloc (.cells #[.int .i64 x.f,.int .i64 x.t,.bool x.s] 113)).alloc (.cells #[.int .i64 y.f,.int .i64 y.t,.bool y.s] 113)).drew.cell? ⟨W.heap.size,1,none⟩=some (.int .i64 x.t)/\((W.alloc (.cells #[.int .i64 x.f,.int .i64 x.t,.bool x.s] 113)).alloc (.cells #[.int .i64 y.f,.int .i64 y.t,.bool y.s] 113)).drew.cell? ⟨W.heap.size,2,none⟩=some (.bool x.s)/\((W.alloc (.cells #[.int .i64 x.f,.int .i64 x.t,.bool x.s] 113)).alloc (.cells #[.int .i64 y.f,.int .i64 y.t,.bool y.s] 113)).drew.cell? ⟨W.heap.size+1,0,none⟩=some (.int .i64 y.f)/\((W.alloc (.cells #[.int .i64 x.f,.int .i64 x.t,.bool x.s] 113)).alloc (.cells #[.int .i64 y.f,.int .i64 y.t,.bool y.s] 113)).drew.cell? ⟨W.heap.size+1,1,none⟩=some (.int .i64 y.t)/\((W.alloc (.cells #[.int .i64 x.f,.int .i64 x.t,.bool x.s] 113)).alloc (.cells #[.int .i64 y.f,.int .i64 y.t,.bool y.s] 113)).drew.cell? ⟨W.heap.size+1,2,none⟩=some (.bool y.s)/\GW W ((W.alloc (.cells #[.int .i64 x.f,.int .i64 x.t,.bool x.s] 113)).alloc (.cells #[.int .i64 y.f,.int .i64 y.t,.bool y.s] 113)).drew:=by
 refine⟨?_,?_,?_,?_,?_,?_,(((GW.refl W).alloc _).alloc _).drew⟩<;>go_simp
theorem S41.sign(x y:Go.Ev.Eg)(a b:Int)(s:Bool)(W w:World)(h:w.cell? ⟨W.heap.size,0,none⟩=some (.int .i64 x.f)/\w.cell? ⟨W.heap.size,1,none⟩=some (.int .i64 x.t)/\w.cell? ⟨W.heap.size,2,none⟩=some (.bool x.s)/\w.cell? ⟨W.heap.size+1,0,none⟩=some (.int .i64 y.f)/\w.cell? ⟨W.heap.size+1,1,none⟩=some (.int .i64 y.t)/\w.cell? ⟨W.heap.size+1,2,none⟩=some (.bool y.s)/\GW W w):Calls Tryz.prog 106 #[.agg #[.int .i64 a,.int .i64 b,.bool s]] w fun e w'=>e= .returned (.int .i64 (Go.Ev.yO s))/\w'.cell? ⟨W.heap.size,0,none⟩=some (.int .i64 x.f)/\w'.cell? ⟨W.heap.size,1,none⟩=some (.int .i64 x.t)/\w'.cell? ⟨W.heap.size,2,none⟩=some (.bool x.s)/\w'.cell? ⟨W.heap.size+1,0,none⟩=some (.int .i64 y.f)/\w'.cell? ⟨W.heap.size+1,1,none⟩=some (.int .i64 y.t)/\w'.cell? ⟨W.heap.size+1,2,none⟩=some (.bool y.s)/\GW W w':=(Tryz.sign106 a b s w).mono fun e w' c=>⟨c.1,S41.grow h c.2⟩
theorem Tryz.or104a(x y z:Int)(t:TypeId)(w:World):Calls Tryz.prog 104 #[.slice (some ⟨w.heap.size,0,none⟩) 3 3] (w.alloc (.cells #[.int .i64 x,.int .i64 y,.int .i64 z] t)) fun e w'=>e= .returned (.int .i64 (Go.Ev.or3 x y z))/\GW w w':=by
 refine(Tryz.or104 x y z w.heap.size 0 3 _ ?_ ?_ ?_).mono ?_
 ·go_simp
 ·go_simp
 ·go_simp
 ·intro e w' h
  exact⟨h.1,((GW.refl w).alloc _).trans h.2⟩
theorem S41.or(x y:Go.Ev.Eg)(a b c:Int)(t:TypeId)(W w:World)(h:w.cell? ⟨W.heap.size,0,none⟩=some (.int .i64 x.f)/\w.cell? ⟨W.heap.size,1,none⟩=some (.int .i64 x.t)/\w.cell? ⟨W.heap.size,2,none⟩=some (.bool x.s)/\w.cell? ⟨W.heap.size+1,0,none⟩=some (.int .i64 y.f)/\w.cell? ⟨W.heap.size+1,1,none⟩=some (.int .i64 y.t)/\w.cell? ⟨W.heap.size+1,2,none⟩=some (.bool y.s)/\GW W w):Calls Tryz.prog 104 #[.slice (some ⟨w.heap.size,0,none⟩) 3 3] (w.alloc (.cells #[.int .i64 a,.int .i64 b,.int .i64 c] t)) fun e w'=>e= .returned (.int .i64 (Go.Ev.or3 a b c))/\w'.cell? ⟨W.heap.size,0,none⟩=some (.int .i64 x.f)/\w'.cell? ⟨W.heap.size,1,none⟩=some (.int .i64 x.t)/\w'.cell? ⟨W.heap.size,2,none⟩=some (.bool x.s)/\w'.cell? ⟨W.heap.size+1,0,none⟩=some (.int .i64 y.f)/\w'.cell? ⟨W.heap.size+1,1,none⟩=some (.int .i64 y.t)/\w'.cell? ⟨W.heap.size+1,2,none⟩=some (.bool y.s)/\GW W w':=(Tryz.or104a a b c t w).mono fun e w' d=>⟨d.1,S41.grow h d.2⟩
set_option maxHeartbeats 2000000 in
theorem Tryz.compare67(x y:Go.Ev.Eg)(W:World):Calls Tryz.prog 67 #[.agg #[.int .i64 x.f,.int .i64 x.t,.bool x.s],.agg #[.int .i64 y.f,.int .i64 y.t,.bool y.s]] W fun e w'=>e= .returned (.int .i64 (Go.Ev.jI x y))/\∃ q os',w'=grow (W.drewN q) os':=by
 have hcon:=fun a b W'=>AnyG.cmp_Compare_int Tryz.cmpInt a b W'
 change ∀a b W',Calls Tryz.prog 105 _ _ _ at hcon
 have hs0:=@S41.start x y W
 go_enter Tryz.func67,Tryz.ntmps67
 go_wp2
 go_region_held3 (fun w'=>w'.cell? ⟨W.heap.size,0,none⟩=some (.int .i64 x.f)/\w'.cell? ⟨W.heap.size,1,none⟩=some (.int .i64 x.t)/\w'.cell? ⟨W.heap.size,2,none⟩=some (.bool x.s)/\w'.cell? ⟨W.heap.size+1,0,none⟩=some (.int .i64 y.f)/\w'.cell? ⟨W.heap.size+1,1,none⟩=some (.int .i64 y.t)/\w'.cell? ⟨W.heap.size+1,2,none⟩=some (.bool y.s)/\GW W w') (first|exact hs0|assumption|(exact S41.grow ‹_› (GW.alloc (GW.refl _) _))) (first|(go_at_call 105;refine(hcon _ _ _).mono ?_;rintro e w' ⟨rfl,rfl⟩)|(go_at_call 106;refine(S41.sign x y _ _ _ W _ ?_).mono ?_;assumption;rintro e w' ⟨rfl,hs⟩;have hs0:=hs)|(go_at_call 104;refine(S41.or x y _ _ _ _ W _ hs0).mono ?_;rintro e w' ⟨rfl,hs⟩;have hs0:=hs))
 go_wp2
 go_ret
 exact⟨rfl,hs0.2.2.2.2.2.2⟩
open Go.Ev (Eg jI cI or3 yO)
theorem z1h{a b:Bool}(h:yO a=yO b):a=b:=by cases a<;>cases b<;>first|rfl|(exact absurd h (by decide))
theorem zut{x y:Eg}:jI x y<0↔x.f<y.f\/(x.f=y.f/\(x.t<y.t\/(x.t=y.t/\yO x.s<yO y.s))):=by
 unfold jI or3 cI
 constructor
 ·intro h
  repeat' split at h
  all_goals omega
 ·intro h
  repeat' split
  all_goals omega
theorem aD1{x y:Eg}:ltOf jI x y=true↔x.f<y.f\/(x.f=y.f/\(x.t<y.t\/(x.t=y.t/\yO x.s<yO y.s))):=by
 unfold ltOf
 rw[zy]
 exact zut
theorem zcz{x y:Eg}:ltOf jI x y=false↔¬(x.f<y.f\/(x.f=y.f/\(x.t<y.t\/(x.t=y.t/\yO x.s<yO y.s)))):=by
 rw[<-aD1];simp
theorem aNE:SWO (ltOf jI) where
 irrefl x:=zcz.2 (by omega)
 trans x y z a b:=aD1.2 (by have a:=aD1.1 a;have b:=aD1.1 b;omega)
 ntrans x y z a b:=zcz.2 (by have a:=zcz.1 a;have b:=zcz.1 b;omega)
theorem aKP(x y:Eg)(d:ltOf jI x y=false)(e:ltOf jI y x=false):x=y:=by
 have d:=zcz.1 d
 have e:=zcz.1 e
 have a:x.f=y.f:=by omega
 have b:x.t=y.t:=by omega
 have c:yO x.s=yO y.s:=by omega
 cases x;cases y
 simp only at a b c
 rw[a,b,z1h c]
theorem Tryz.sortECalls:Go.Ev.mK Tryz.prog 68 67:=fun d a b f w j k g=>by
 have l:∀ args w,(callFunc 67 args).run Tryz.prog w= .ok (.enter 67 args) w:=enters_of Tryz.func67 (by kernel_rfl) rfl
 have c:CmpLays Tryz.prog 67 #[] Go.Ev.egU 3 jI a b d.size w:=fun m h o _ x y=>Tryz.compare67 x y _
 refine(AnyQ.slices_SortFunc_total Tryz.sortE 3 ?_ ?_ Go.Ev.egU (fun _=>rfl) ?_ jI aNE 67 #[] a b f d w l c j k g aKP).mono ?_
 ·intro w;kernel_rfl
 ·intro w;kernel_rfl
 ·intro x v i
  simp only[Go.Ev.egU,qm,List.not_mem_nil,or_false]at i
  rcases i with rfl|rfl|rfl<;>rfl
 ·rintro e w' ⟨rfl,n,h,rfl⟩
  exact⟨rfl,n,h,rfl⟩
theorem Tryz.sortENone:Go.Ev.tT Tryz.prog 68:=fun p a fv w=>AnyF.slices_SortFunc_none {Tryz.sortE with} p a fv w
end Go.Proofs
end
