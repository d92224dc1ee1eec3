/-
 For TablesOf: the library sorts. No conditions beyond those that each theorem states.
-/
import Derived.Test.YtlanjbacddlobaaGreatConA
import Derived.Test.YtlanjbacddlobaaGreatProg
import Derived.Shelf.SlSortCmp.NoneTotal
import Derived.Shelf.SlicesG.Cmp
import Derived.Shelf.Sort.AssemblyIn
import Derived.Shelf.SlGeneric
import Derived.Ground.SlsfProg
import Derived.Ground.SlgcProg
import Derived.WalkKit
import Derived.Deep.QuietTactic
import Derived.Deep.RegionHeld3
import Derived.BigQuiet
import Derived.Test.YtlanjbacddlobaaGreatEv4
set_option linter.unusedSimpArgs false
set_option linter.unusedVariables false
section
namespace Go.Proofs
open Go.Shelf
def Tryz.sortE_ren:Go.Shelf.Ren:=⟨fun|6=>123|15=>147|14=>146|28=>168|29=>169|20=>160|21=>161|22=>162|23=>163|24=>164|25=>165|26=>166|27=>167|46=>186|47=>187|48=>188|49=>189|50=>190|57=>209|n=>n,fun|22=>145|24=>193|25=>223|3=>3|39=>245|0=>0|53=>273|55=>275|4=>4|46=>267|45=>266|50=>123|5=>5|9=>9|66=>293|70=>297|76=>311|77=>240|n=>n,fun|n=>n⟩
theorem Tryz.sortE:Go.Proofs.SlLaysF0.n6 Tryz.prog Tryz.sortE_ren:={
 mixed:=kr
 f6:=⟨Tryz.f123.name,g4,Tryz.func123.trans (congrArg some kr)⟩
 f14:=⟨Tryz.f146.name,g4,Tryz.func146.trans (congrArg some kr)⟩
 f15:=Tryz.func147.trans (congrArg some kr)
 f20:=⟨Tryz.f160.name,g4,Tryz.func160.trans (congrArg some kr)⟩
 f21:=⟨Tryz.f161.name,g4,Tryz.func161.trans (congrArg some kr)⟩
 f22:=⟨Tryz.f162.name,g4,Tryz.func162.trans (congrArg some kr)⟩
 f23:=⟨Tryz.f163.name,g4,Tryz.func163.trans (congrArg some kr)⟩
 f24:=⟨Tryz.f164.name,g4,Tryz.func164.trans (congrArg some kr)⟩
 f25:=⟨Tryz.f165.name,g4,Tryz.func165.trans (congrArg some kr)⟩
 f26:=⟨Tryz.f166.name,g4,Tryz.func166.trans (congrArg some kr)⟩
 f27:=⟨Tryz.f167.name,g4,Tryz.func167.trans (congrArg some kr)⟩
 f28:=Tryz.func168.trans (congrArg some kr)
 f29:=Tryz.func169.trans (congrArg some kr)
 f46:=⟨Tryz.f186.name,g4,Tryz.func186.trans (congrArg some kr)⟩
 f47:=Tryz.func187.trans (congrArg some kr)
 f48:=Tryz.func188.trans (congrArg some kr)
 f49:=⟨Tryz.f189.name,g4,Tryz.func189.trans (congrArg some kr)⟩
 f50:=⟨Tryz.f190.name,g4,Tryz.func190.trans (congrArg some kr)⟩
 f57:=⟨Tryz.f209.name,g4,Tryz.func209.trans (congrArg some kr)⟩
 t0:=Tryz.underlying0
 a0:=Tryz.isAgg0
 z0:=Tryz.sizeOf0
 v0:=Tryz.zeroValue0
 t3:=Tryz.underlying3
 a3:=Tryz.isAgg3
 z3:=Tryz.sizeOf3
 v3:=Tryz.zeroValue3
 t4:=Tryz.underlying4
 a4:=Tryz.isAgg4
 z4:=Tryz.sizeOf4
 v4:=Tryz.zeroValue4
 t5:=Tryz.underlying5
 a5:=Tryz.isAgg5
 z5:=Tryz.sizeOf5
 v5:=Tryz.zeroValue5
 t9:=Tryz.underlying9
 a9:=Tryz.isAgg9
 z9:=Tryz.sizeOf9
 v9:=Tryz.zeroValue9
 t22:=Tryz.underlying145
 a22:=Tryz.isAgg145
 z22:=Tryz.sizeOf145
 v22:=Tryz.zeroValue145
 t25:=Tryz.underlying223
 a25:=Tryz.isAgg223
 z25:=Tryz.sizeOf223
 v25:=Tryz.zeroValue223
 t39:=Tryz.underlying245
 a39:=Tryz.isAgg245
 z39:=Tryz.sizeOf245
 v39:=Tryz.zeroValue245
 t45:=Tryz.underlying266
 a45:=Tryz.isAgg266
 z45:=Tryz.sizeOf266
 v45:=Tryz.zeroValue266
 t46:=Tryz.underlying267
 a46:=Tryz.isAgg267
 z46:=Tryz.sizeOf267
 v46:=Tryz.zeroValue267
 t50:=Tryz.underlying123
 a50:=Tryz.isAgg123
 z50:=Tryz.sizeOf123
 v50:=Tryz.zeroValue123
 t53:=Tryz.underlying273
 a53:=Tryz.isAgg273
 z53:=Tryz.sizeOf273
 v53:=Tryz.zeroValue273
 t55:=Tryz.underlying275
 a55:=Tryz.isAgg275
 z55:=Tryz.sizeOf275
 v55:=Tryz.zeroValue275
 t66:=Tryz.underlying293
 a66:=Tryz.isAgg293
 z66:=Tryz.sizeOf293
 v66:=Tryz.zeroValue293
 t70:=Tryz.underlying297
 a70:=Tryz.isAgg297
 z70:=Tryz.sizeOf297
 v70:=Tryz.zeroValue297
 t76:=Tryz.underlying311
 a76:=Tryz.isAgg311
 z76:=Tryz.sizeOf311
 v76:=Tryz.zeroValue311
 t77:=Tryz.underlying240
 a77:=Tryz.isAgg240
 z77:=Tryz.sizeOf240
 v77:=Tryz.zeroValue240}
def Tryz.cmpInt_ren:Go.Shelf.Ren:=⟨fun|5=>144|7=>159|n=>n,fun|22=>3|3=>3|4=>4|n=>n,fun|n=>n⟩
theorem Tryz.cmpInt:Go.Proofs.SlLaysC2.n5 Tryz.prog Tryz.cmpInt_ren:={
 mixed:=kr
 f5:=⟨Tryz.f144.name,g4,Tryz.func144.trans (congrArg some kr)⟩
 f7:=⟨Tryz.f159.name,g4,Tryz.func159.trans (congrArg some kr)⟩
 t3:=Tryz.underlying3
 a3:=Tryz.isAgg3
 z3:=Tryz.sizeOf3
 v3:=Tryz.zeroValue3
 t4:=Tryz.underlying4
 a4:=Tryz.isAgg4
 z4:=Tryz.sizeOf4
 v4:=Tryz.zeroValue4
 t22:=Tryz.underlying3
 a22:=Tryz.isAgg3
 z22:=Tryz.sizeOf3
 v22:=Tryz.zeroValue3}
def Tryz.sortL_ren:Go.Shelf.Ren:=⟨fun|6=>148|15=>147|14=>170|28=>168|29=>169|20=>191|21=>192|22=>193|23=>194|24=>195|25=>196|26=>197|27=>198|46=>210|47=>187|48=>188|49=>211|50=>212|57=>217|n=>n,fun|22=>196|24=>37|25=>247|3=>3|39=>245|0=>0|53=>273|55=>275|4=>4|46=>267|45=>266|50=>123|5=>5|9=>9|66=>293|70=>297|76=>311|77=>240|n=>n,fun|n=>n⟩
theorem Tryz.sortL:Go.Proofs.SlLaysF.n6 Tryz.prog Tryz.sortL_ren:={
 mixed:=kr
 f6:=⟨Tryz.f148.name,g4,Tryz.func148.trans (congrArg some kr)⟩
 f14:=⟨Tryz.f170.name,g4,Tryz.func170.trans (congrArg some kr)⟩
 f15:=Tryz.func147.trans (congrArg some kr)
 f20:=⟨Tryz.f191.name,g4,Tryz.func191.trans (congrArg some kr)⟩
 f21:=⟨Tryz.f192.name,g4,Tryz.func192.trans (congrArg some kr)⟩
 f22:=⟨Tryz.f193.name,g4,Tryz.func193.trans (congrArg some kr)⟩
 f23:=⟨Tryz.f194.name,g4,Tryz.func194.trans (congrArg some kr)⟩
 f24:=⟨Tryz.f195.name,g4,Tryz.func195.trans (congrArg some kr)⟩
 f25:=⟨Tryz.f196.name,g4,Tryz.func196.trans (congrArg some kr)⟩
 f26:=⟨Tryz.f197.name,g4,Tryz.func197.trans (congrArg some kr)⟩
 f27:=⟨Tryz.f198.name,g4,Tryz.func198.trans (congrArg some kr)⟩
 f28:=Tryz.func168.trans (congrArg some kr)
 f29:=Tryz.func169.trans (congrArg some kr)
 f46:=⟨Tryz.f210.name,g4,Tryz.func210.trans (congrArg some kr)⟩
 f47:=Tryz.func187.trans (congrArg some kr)
 f48:=Tryz.func188.trans (congrArg some kr)
 f49:=⟨Tryz.f211.name,g4,Tryz.func211.trans (congrArg some kr)⟩
 f50:=⟨Tryz.f212.name,g4,Tryz.func212.trans (congrArg some kr)⟩
 f57:=⟨Tryz.f217.name,g4,Tryz.func217.trans (congrArg some kr)⟩
 t0:=Tryz.underlying0
 a0:=Tryz.isAgg0
 z0:=Tryz.sizeOf0
 v0:=Tryz.zeroValue0
 t3:=Tryz.underlying3
 a3:=Tryz.isAgg3
 z3:=Tryz.sizeOf3
 v3:=Tryz.zeroValue3
 t4:=Tryz.underlying4
 a4:=Tryz.isAgg4
 z4:=Tryz.sizeOf4
 v4:=Tryz.zeroValue4
 t5:=Tryz.underlying5
 a5:=Tryz.isAgg5
 z5:=Tryz.sizeOf5
 v5:=Tryz.zeroValue5
 t9:=Tryz.underlying9
 a9:=Tryz.isAgg9
 z9:=Tryz.sizeOf9
 v9:=Tryz.zeroValue9
 t22:=Tryz.underlying196
 a22:=Tryz.isAgg196
 z22:=Tryz.sizeOf196
 v22:=Tryz.zeroValue196
 a24:=Tryz.isAgg37
 z24:=Tryz.sizeOf37
 t25:=Tryz.underlying247
 a25:=Tryz.isAgg247
 z25:=Tryz.sizeOf247
 v25:=Tryz.zeroValue247
 t39:=Tryz.underlying245
 a39:=Tryz.isAgg245
 z39:=Tryz.sizeOf245
 v39:=Tryz.zeroValue245
 t45:=Tryz.underlying266
 a45:=Tryz.isAgg266
 z45:=Tryz.sizeOf266
 v45:=Tryz.zeroValue266
 t46:=Tryz.underlying267
 a46:=Tryz.isAgg267
 z46:=Tryz.sizeOf267
 v46:=Tryz.zeroValue267
 t50:=Tryz.underlying123
 a50:=Tryz.isAgg123
 z50:=Tryz.sizeOf123
 v50:=Tryz.zeroValue123
 t53:=Tryz.underlying273
 a53:=Tryz.isAgg273
 z53:=Tryz.sizeOf273
 v53:=Tryz.zeroValue273
 t55:=Tryz.underlying275
 a55:=Tryz.isAgg275
 z55:=Tryz.sizeOf275
 v55:=Tryz.zeroValue275
 t66:=Tryz.underlying293
 a66:=Tryz.isAgg293
 z66:=Tryz.sizeOf293
 v66:=Tryz.zeroValue293
 t70:=Tryz.underlying297
 a70:=Tryz.isAgg297
 z70:=Tryz.sizeOf297
 v70:=Tryz.zeroValue297
 t76:=Tryz.underlying311
 a76:=Tryz.isAgg311
 z76:=Tryz.sizeOf311
 v76:=Tryz.zeroValue311
 t77:=Tryz.underlying240
 a77:=Tryz.isAgg240
 z77:=Tryz.sizeOf240
 v77:=Tryz.zeroValue240}
def Tryz.lays189_ren:Go.Shelf.Ren:=⟨fun|189=>130|125=>147|257=>152|128=>168|129=>169|294=>173|295=>174|296=>175|297=>176|298=>177|299=>178|216=>179|300=>180|301=>181|328=>202|329=>187|330=>188|331=>203|332=>204|215=>159|343=>215|n=>n,fun|28=>37|3=>3|46=>245|0=>0|51=>273|53=>275|4=>4|183=>267|182=>266|131=>123|5=>5|9=>9|218=>293|222=>297|228=>311|229=>240|n=>n,fun|n=>n⟩
theorem Tryz.lays189:Go.Proofs.Lays.n189 Tryz.prog Tryz.lays189_ren:={
 mixed:=kr
 f125:=Tryz.func147.trans (congrArg some kr)
 f128:=Tryz.func168.trans (congrArg some kr)
 f129:=Tryz.func169.trans (congrArg some kr)
 f189:=Tryz.func130.trans (congrArg some kr)
 f215:=Tryz.func159.trans (congrArg some kr)
 f216:=Tryz.func179.trans (congrArg some kr)
 f257:=Tryz.func152.trans (congrArg some kr)
 f294:=Tryz.func173.trans (congrArg some kr)
 f295:=Tryz.func174.trans (congrArg some kr)
 f296:=Tryz.func175.trans (congrArg some kr)
 f297:=Tryz.func176.trans (congrArg some kr)
 f298:=Tryz.func177.trans (congrArg some kr)
 f299:=Tryz.func178.trans (congrArg some kr)
 f300:=Tryz.func180.trans (congrArg some kr)
 f301:=Tryz.func181.trans (congrArg some kr)
 f328:=Tryz.func202.trans (congrArg some kr)
 f329:=Tryz.func187.trans (congrArg some kr)
 f330:=Tryz.func188.trans (congrArg some kr)
 f331:=Tryz.func203.trans (congrArg some kr)
 f332:=Tryz.func204.trans (congrArg some kr)
 f343:=Tryz.func215.trans (congrArg some kr)
 t0:=Tryz.underlying0
 a0:=Tryz.isAgg0
 z0:=Tryz.sizeOf0
 v0:=Tryz.zeroValue0
 t3:=Tryz.underlying3
 a3:=Tryz.isAgg3
 z3:=Tryz.sizeOf3
 v3:=Tryz.zeroValue3
 t4:=Tryz.underlying4
 a4:=Tryz.isAgg4
 z4:=Tryz.sizeOf4
 v4:=Tryz.zeroValue4
 t5:=Tryz.underlying5
 a5:=Tryz.isAgg5
 z5:=Tryz.sizeOf5
 v5:=Tryz.zeroValue5
 t9:=Tryz.underlying9
 a9:=Tryz.isAgg9
 z9:=Tryz.sizeOf9
 v9:=Tryz.zeroValue9
 t28:=Tryz.underlying37
 a28:=Tryz.isAgg37
 z28:=Tryz.sizeOf37
 v28:=Tryz.zeroValue37
 t46:=Tryz.underlying245
 a46:=Tryz.isAgg245
 z46:=Tryz.sizeOf245
 v46:=Tryz.zeroValue245
 t51:=Tryz.underlying273
 a51:=Tryz.isAgg273
 z51:=Tryz.sizeOf273
 v51:=Tryz.zeroValue273
 t53:=Tryz.underlying275
 a53:=Tryz.isAgg275
 z53:=Tryz.sizeOf275
 v53:=Tryz.zeroValue275
 t131:=Tryz.underlying123
 a131:=Tryz.isAgg123
 z131:=Tryz.sizeOf123
 v131:=Tryz.zeroValue123
 t182:=Tryz.underlying266
 a182:=Tryz.isAgg266
 z182:=Tryz.sizeOf266
 v182:=Tryz.zeroValue266
 t183:=Tryz.underlying267
 a183:=Tryz.isAgg267
 z183:=Tryz.sizeOf267
 v183:=Tryz.zeroValue267
 t218:=Tryz.underlying293
 a218:=Tryz.isAgg293
 z218:=Tryz.sizeOf293
 v218:=Tryz.zeroValue293
 t222:=Tryz.underlying297
 a222:=Tryz.isAgg297
 z222:=Tryz.sizeOf297
 v222:=Tryz.zeroValue297
 t228:=Tryz.underlying311
 a228:=Tryz.isAgg311
 z228:=Tryz.sizeOf311
 v228:=Tryz.zeroValue311
 t229:=Tryz.underlying240
 a229:=Tryz.isAgg240
 z229:=Tryz.sizeOf240
 v229:=Tryz.zeroValue240}
theorem Tryz.closure149{a b d ca f ob nb cb:Nat}{x y:Int}{W:World}(h:0<d)(i:0<nb)(g:W.cell? ⟨a,b,none⟩=some (.int .i64 x))(j:W.cell? ⟨f,ob,none⟩=some (.int .i64 y))(k:0<=x)(l:x<4611686018427387904)(m:0<=y)(n:y<4611686018427387904):Calls Tryz.prog 149 #[.slice (some ⟨a,b,none⟩) d ca,.slice (some ⟨f,ob,none⟩) nb cb] W fun e w'=>e= .returned (.int .i64 (x-y))/\∃ q,w'=W.drewN q:=by
 go_enter Tryz.func149,Tryz.ntmps149
 go_wp2
 have c:Tryz.prog.follows .mixedOrders=true:=kr
 have o:W.cell? {block:=a,off:=b+0}=some (.int .i64 x):=g
 go_quiet (fail)
 go_wp2
 go_ret
 exact⟨rfl,nq,rfl⟩
open Go.RowKit Go.Sort in
theorem Tryz.sortFCalls:Go.Ev.nY Tryz.prog 148 149:=fun zs h enc a c k w f u v=>by
 letI:Inhabited (Fin zs.length):=⟨⟨0,h.pos⟩⟩
 have r:(Array.finRange zs.length).size=zs.length:=g3
 have A:Go.Proofs.OneCell enc:=fun i=>by obtain⟨_,_,_,_,e,_⟩:=f i;rw[e];rfl
 have B:SWO (ltOf fun i j:Fin zs.length=>zs[i]-zs[j]):={
  irrefl:=fun x=>by unfold ltOf;simp
  trans:=fun x y z=>by unfold ltOf;simp only[lO8];omega
  ntrans:=fun x y z=>by unfold ltOf;simp only[lOG];omega}
 have C:∀ args w,(callFunc 149 args).run Tryz.prog w= .ok (.enter 149 args) w:=enters_of Tryz.func149 kr rfl
 have D:CmpReads Tryz.prog 149 #[] enc (fun i j:Fin zs.length=>zs[i]-zs[j]) a c (Array.finRange zs.length).size w:=fun m g l R i j=>by
  obtain⟨E,F,S,ca,G,H,I,J,K⟩:=f i
  obtain⟨L,ob,nb,cb,M,N,O,P,Q⟩:=f j
  have d:∀(b o:Nat),b≠a->b<w.heap.size->(sortWorld enc w a c m l g).cell? ⟨b,o,none⟩=w.cell? ⟨b,o,none⟩:=fun b o p q=>by
   have g1:(sortWorld enc w a c m l g).heap[b]? =w.heap[b]? :=by
    show(grow (putRow enc (Sort.ahead w m) a c l) g).heap[b]? =_
    rw[heap_grow_old _ _ (by rw[size_putRow];exact q)]
    show(w.heap.modify a _)[b]? =_
    rw[Array.getElem?_modify,lEU (fun e=>p e.symm)]
   unfold World.cell?
   rw[g1]
  have s:=h.rng _ (lEQ i.2)
  have t:=h.rng _ (lEQ j.2)
  rw[G,M]
  exact Tryz.closure149 H N ((d E F I J).trans K) ((d L ob O P).trans Q) s.1 s.2 t.1 t.2
 have:=Any.slices_SortFunc_eq Tryz.sortL enc A _ B 149 #[] a c k (Array.finRange zs.length) w C D.lays u v (by rw[r];exact h.len)
 rw[r]at this
 refine this.mono ?_
 rintro e w' ⟨rfl,n,g,rfl⟩
 refine⟨rfl,n,g,?_⟩
 unfold Go.Ev.dM
 rw[r]
 rfl
theorem Tryz.sortFNone:Go.Ev.pQ Tryz.prog 148:=fun p a fv w=>AnyF.slices_SortFunc_none {Tryz.sortL with} p a fv w
theorem Tryz.sortCalls:Go.Ev.pX Tryz.prog 130:=fun a b c zs w d e f =>
 calls_of_every_depth fun D=>AnyS.slices_Sort_int_in Tryz.lays189 D a b c zs w d e f
open Go.RowKit Go.Lib Go.Sort
set_option maxHeartbeats 1000000 in
theorem Tryz.sign145(a b:Int)(s:Bool)(W:World):Calls Tryz.prog 145 #[.agg #[.int .i64 a,.int .i64 b,.bool s]] W fun e w'=>e= .returned (.int .i64 (Go.Ev.zU s))/\∃ q c,w'=grow (W.drewN q) c:=by
 cases s
 ·go_enter Tryz.func145,Tryz.ntmps145
  go_wp2
  go_ret
  exact⟨rfl,0,_,by rw[alloc_eq_grow];rfl⟩
 ·go_enter Tryz.func145,Tryz.ntmps145
  go_wp2
  go_ret
  exact⟨rfl,0,_,by rw[alloc_eq_grow];rfl⟩
set_option maxHeartbeats 1000000 in
theorem Tryz.or100(x y z:Int)(a b d:Nat)(W:World)(j:W.cell? ⟨a,b,none⟩=some (.int .i64 x))(k:W.cell? ⟨a,b+1,none⟩=some (.int .i64 y))(l:W.cell? ⟨a,b+2,none⟩=some (.int .i64 z)):Calls Tryz.prog 100 #[.slice (some ⟨a,b,none⟩) 3 d] W fun e w'=>e= .returned (.int .i64 (Go.Ev.or3 x y z))/\∃ q c,w'=grow (W.drewN q) c:=by
 have done:∀ r,r=Go.Ev.or3 x y z->(Ending.returned (Value.int .i64 r)=Ending.returned (Value.int .i64 (Go.Ev.or3 x y z))/\∃ q c,W=grow (W.drewN q) c):=fun r h=>⟨by rw[h],0,#[],by rw[Go.Sort.grow_empty];rfl⟩
 by_cases f:x=0
 ·subst f
  by_cases g:y=0
  ·subst g
   by_cases i:z=0
   ·subst i
    go_enter Tryz.func100,Tryz.ntmps100
    go_wp2
    refine wp_loop_rounds 4 ?_
    rw[rounds_succ]
    go_wp2
    rw[rounds_succ]
    go_wp2
    rw[rounds_succ]
    go_wp2
    rw[rounds_succ]
    go_wp2
    go_ret
    exact done _ rfl
   ·go_enter Tryz.func100,Tryz.ntmps100
    go_wp2
    refine wp_loop_rounds 3 ?_
    rw[rounds_succ]
    go_wp2
    rw[rounds_succ]
    go_wp2
    rw[rounds_succ]
    go_wp2
    go_ret
    exact done _ (by simp[Go.Ev.or3])
  ·go_enter Tryz.func100,Tryz.ntmps100
   go_wp2
   refine wp_loop_rounds 2 ?_
   rw[rounds_succ]
   go_wp2
   rw[rounds_succ]
   go_wp2
   go_ret
   exact done _ (by simp[Go.Ev.or3,g])
 ·go_enter Tryz.func100,Tryz.ntmps100
  go_wp2
  refine wp_loop_rounds 1 ?_
  rw[rounds_succ]
  go_wp2
  go_ret
  exact done _ (by simp[Go.Ev.or3,f])
def GW(W w':World):Prop:=∃ q os',w'=grow (W.drewN q) os'
theorem GW.cell{W w':World}(h:GW W w'){a:Addr}{v:Value}(b:W.cell? a=some v):w'.cell? a=some v:=by
 obtain⟨q,d,rfl⟩:=h
 have c:a.block<W.heap.size:=by
  unfold World.cell? at b
  rcases hx:W.heap[a.block]? with _|o
  ·rw[hx]at b;cases b
  ·exact(lOY.1 hx).1
 unfold World.cell? at b ⊢
 have:(grow (W.drewN q) d).heap[a.block]? =W.heap[a.block]? :=heap_grow_old _ _ c
 rw[this];exact b
theorem GW.refl(W:World):GW W W:=⟨0,#[],by rw[Go.Sort.grow_empty];rfl⟩
theorem GW.trans{A B C:World}(h:GW A B)(b:GW B C):GW A C:=by
 obtain⟨q,c,rfl⟩:=h
 obtain⟨d,a,rfl⟩:=b
 exact⟨q+d,c++a,by simp[grow,World.drewN,lIP]⟩
theorem GW.alloc{A B:World}(h:GW A B)(o:Obj):GW A (B.alloc o):=h.trans ⟨0,#[o],by rw[alloc_eq_grow];rfl⟩
theorem GW.drew{A B:World}(h:GW A B):GW A B.drew:=h.trans ⟨1,#[],by rw[Go.Sort.grow_empty];rfl⟩
theorem S41.grow{x y:Go.Ev.Eg}{W w w':World}(h:w.cell? ⟨W.heap.size,0,none⟩=some (.int .i64 x.f)/\w.cell? ⟨W.heap.size,1,none⟩=some (.int .i64 x.t)/\w.cell? ⟨W.heap.size,2,none⟩=some (.bool x.s)/\w.cell? ⟨W.heap.size+1,0,none⟩=some (.int .i64 y.f)/\w.cell? ⟨W.heap.size+1,1,none⟩=some (.int .i64 y.t)/\w.cell? ⟨W.heap.size+1,2,none⟩=some (.bool y.s)/\GW W w)(g:GW w w'):w'.cell? ⟨W.heap.size,0,none⟩=some (.int .i64 x.f)/\w'.cell? ⟨W.heap.size,1,none⟩=some (.int .i64 x.t)/\w'.cell? ⟨W.heap.size,2,none⟩=some (.bool x.s)/\w'.cell? ⟨W.heap.size+1,0,none⟩=some (.int .i64 y.f)/\w'.cell? ⟨W.heap.size+1,1,none⟩=some (.int .i64 y.t)/\w'.cell? ⟨W.heap.size+1,2,none⟩=some (.bool y.s)/\GW W w':=⟨g.cell h.1,g.cell h.2.1,g.cell h.2.2.1,g.cell h.2.2.2.1,g.cell h.2.2.2.2.1,g.cell h.2.2.2.2.2.1,h.2.2.2.2.2.2.trans g⟩
theorem S41.start{x y:Go.Ev.Eg}{W:World}:((W.alloc (.cells #[.int .i64 x.f,.int .i64 x.t,.bool x.s] 193)).alloc (.cells #[.int .i64 y.f,.int .i64 y.t,.bool y.s] 193)).drew.cell? ⟨W.heap.size,0,none⟩=some (.int .i64 x.f)/\((W.alloc (.cells #[.int .i64 x.f,.int .i64 x.t,.bool x.s] 193)).alloc (.cells #[.int .i64 y.f,.int .i64 y.t,.bool y.s] 193)).drew.cell? ⟨W.heap.size,1,none⟩=some (.int .i64 x.t)/\((W.alloc (.cells #[.int .i64 x.f,.int .i64 x.t,.bool x.s] 193)).alloc (.cells #[.int .i64 y.f,.int .i64 y.t,.bool y.s] 193)).drew.cell? ⟨W.heap.size,2,none⟩=some (.bool x.s)/\((W.alloc (.cells #[.int .i64 x.f,.int .i64 x.t,.bool x.s] 193)).alloc (.cells #[.int .i64 y.f,.int .i64 y.t,.bool y.s] 193)).drew.cell? ⟨W.heap.size+1,0,none⟩=some (.int .i64 y.f)/\((W.alloc (.cells #[.int .i64 x.f,.int .i64 x.t,.bool x.s] 193)).alloc (.cells #[.int .i64 y.f,.int .i64 y.t,.bool y.s] 193)).drew.cell? ⟨W.heap.size+1,1,none⟩=some (.int .i64 y.t)/\((W.alloc (.cells #[.int .i64 x.f,.int .i64 x.t,.bool x.s] 193)).alloc (.cells #[.int .i64 y.f,.int .i64 y.t,.bool y.s] 193)).drew.cell? ⟨W.heap.size+1,2,none⟩=some (.bool y.s)/\GW W ((W.alloc (.cells #[.int .i64 x.f,.int .i64 x.t,.bool x.s] 193)).alloc (.cells #[.int .i64 y.f,.int .i64 y.t,.bool y.s] 193)).drew:=by
 refine⟨?_,?_,?_,?_,?_,?_,(((GW.refl W).alloc _).alloc _).drew⟩<;>go_simp
theorem S41.sign(x y:Go.Ev.Eg)(a b:Int)(s:Bool)(W w:World)(h:w.cell? ⟨W.heap.size,0,none⟩=some (.int .i64 x.f)/\w.cell? ⟨W.heap.size,1,none⟩=some (.int .i64 x.t)/\w.cell? ⟨W.heap.size,2,none⟩=some (.bool x.s)/\w.cell? ⟨W.heap.size+1,0,none⟩=some (.int .i64 y.f)/\w.cell? ⟨W.heap.size+1,1,none⟩=some (.int .i64 y.t)/\w.cell? ⟨W.heap.size+1,2,none⟩=some (.bool y.s)/\GW W w):Calls Tryz.prog 145 #[.agg #[.int .i64 a,.int .i64 b,.bool s]] w fun e w'=>e= .returned (.int .i64 (Go.Ev.zU s))/\w'.cell? ⟨W.heap.size,0,none⟩=some (.int .i64 x.f)/\w'.cell? ⟨W.heap.size,1,none⟩=some (.int .i64 x.t)/\w'.cell? ⟨W.heap.size,2,none⟩=some (.bool x.s)/\w'.cell? ⟨W.heap.size+1,0,none⟩=some (.int .i64 y.f)/\w'.cell? ⟨W.heap.size+1,1,none⟩=some (.int .i64 y.t)/\w'.cell? ⟨W.heap.size+1,2,none⟩=some (.bool y.s)/\GW W w':=(Tryz.sign145 a b s w).mono fun e w' c=>⟨c.1,S41.grow h c.2⟩
theorem Tryz.or100a(x y z:Int)(t:TypeId)(w:World):Calls Tryz.prog 100 #[.slice (some ⟨w.heap.size,0,none⟩) 3 3] (w.alloc (.cells #[.int .i64 x,.int .i64 y,.int .i64 z] t)) fun e w'=>e= .returned (.int .i64 (Go.Ev.or3 x y z))/\GW w w':=by
 refine(Tryz.or100 x y z w.heap.size 0 3 _ ?_ ?_ ?_).mono ?_
 ·go_simp
 ·go_simp
 ·go_simp
 ·intro e w' h
  exact⟨h.1,((GW.refl w).alloc _).trans h.2⟩
theorem S41.or(x y:Go.Ev.Eg)(a b c:Int)(t:TypeId)(W w:World)(h:w.cell? ⟨W.heap.size,0,none⟩=some (.int .i64 x.f)/\w.cell? ⟨W.heap.size,1,none⟩=some (.int .i64 x.t)/\w.cell? ⟨W.heap.size,2,none⟩=some (.bool x.s)/\w.cell? ⟨W.heap.size+1,0,none⟩=some (.int .i64 y.f)/\w.cell? ⟨W.heap.size+1,1,none⟩=some (.int .i64 y.t)/\w.cell? ⟨W.heap.size+1,2,none⟩=some (.bool y.s)/\GW W w):Calls Tryz.prog 100 #[.slice (some ⟨w.heap.size,0,none⟩) 3 3] (w.alloc (.cells #[.int .i64 a,.int .i64 b,.int .i64 c] t)) fun e w'=>e= .returned (.int .i64 (Go.Ev.or3 a b c))/\w'.cell? ⟨W.heap.size,0,none⟩=some (.int .i64 x.f)/\w'.cell? ⟨W.heap.size,1,none⟩=some (.int .i64 x.t)/\w'.cell? ⟨W.heap.size,2,none⟩=some (.bool x.s)/\w'.cell? ⟨W.heap.size+1,0,none⟩=some (.int .i64 y.f)/\w'.cell? ⟨W.heap.size+1,1,none⟩=some (.int .i64 y.t)/\w'.cell? ⟨W.heap.size+1,2,none⟩=some (.bool y.s)/\GW W w':=(Tryz.or100a a b c t w).mono fun e w' d=>⟨d.1,S41.grow h d.2⟩
set_option maxHeartbeats 2000000 in
theorem Tryz.compare122(x y:Go.Ev.Eg)(W:World):Calls Tryz.prog 122 #[.agg #[.int .i64 x.f,.int .i64 x.t,.bool x.s],.agg #[.int .i64 y.f,.int .i64 y.t,.bool y.s]] W fun e w'=>e= .returned (.int .i64 (Go.Ev.jS x y))/\∃ q os',w'=grow (W.drewN q) os':=by
 have hcon:=fun a b W'=>AnyG.cmp_Compare_int Tryz.cmpInt a b W'
 change ∀a b W',Calls Tryz.prog 144 _ _ _ at hcon
 have hs0:=@S41.start x y W
 go_enter Tryz.func122,Tryz.ntmps122
 go_wp2
 go_region_held3 (fun w'=>w'.cell? ⟨W.heap.size,0,none⟩=some (.int .i64 x.f)/\w'.cell? ⟨W.heap.size,1,none⟩=some (.int .i64 x.t)/\w'.cell? ⟨W.heap.size,2,none⟩=some (.bool x.s)/\w'.cell? ⟨W.heap.size+1,0,none⟩=some (.int .i64 y.f)/\w'.cell? ⟨W.heap.size+1,1,none⟩=some (.int .i64 y.t)/\w'.cell? ⟨W.heap.size+1,2,none⟩=some (.bool y.s)/\GW W w') (first|exact hs0|assumption|(exact S41.grow ‹_› (GW.alloc (GW.refl _) _))) (first|(go_at_call 144;refine(hcon _ _ _).mono ?_;rintro e w' ⟨rfl,rfl⟩)|(go_at_call 145;refine(S41.sign x y _ _ _ W _ ?_).mono ?_;assumption;rintro e w' ⟨rfl,hs⟩;have hs0:=hs)|(go_at_call 100;refine(S41.or x y _ _ _ _ W _ hs0).mono ?_;rintro e w' ⟨rfl,hs⟩;have hs0:=hs))
 go_wp2
 go_ret
 exact⟨rfl,hs0.2.2.2.2.2.2⟩
open Go.Ev (Eg jS cI or3 zU)
theorem z8k{a b:Bool}(h:zU a=zU b):a=b:=by cases a<;>cases b<;>first|rfl|(exact absurd h g4)
theorem zzh{x y:Eg}:jS x y<0↔x.f<y.f\/(x.f=y.f/\(x.t<y.t\/(x.t=y.t/\zU x.s<zU y.s))):=by
 unfold jS or3 cI
 constructor
 ·intro h
  repeat' split at h
  all_goals omega
 ·intro h
  repeat' split
  all_goals omega
theorem aEg{x y:Eg}:ltOf jS x y=true↔x.f<y.f\/(x.f=y.f/\(x.t<y.t\/(x.t=y.t/\zU x.s<zU y.s))):=by
 unfold ltOf
 rw[lUF]
 exact zzh
theorem zfk{x y:Eg}:ltOf jS x y=false↔¬(x.f<y.f\/(x.f=y.f/\(x.t<y.t\/(x.t=y.t/\zU x.s<zU y.s)))):=by
 rw[<-aEg];simp
theorem aPj:SWO (ltOf jS) where
 irrefl x:=zfk.2 om
 trans x y z a b:=aEg.2 (by have a:=aEg.1 a;have b:=aEg.1 b;omega)
 ntrans x y z a b:=zfk.2 (by have a:=zfk.1 a;have b:=zfk.1 b;omega)
theorem aLO(x y:Eg)(d:ltOf jS x y=false)(e:ltOf jS y x=false):x=y:=by
 have d:=zfk.1 d
 have e:=zfk.1 e
 have a:x.f=y.f:=om
 have b:x.t=y.t:=om
 have c:zU x.s=zU y.s:=om
 cases x;cases y
 simp only at a b c
 rw[a,b,z8k c]
theorem Tryz.sortECalls:Go.Ev.nM Tryz.prog 123 122:=fun d a b f w j k g=>by
 have l:∀ args w,(callFunc 122 args).run Tryz.prog w= .ok (.enter 122 args) w:=enters_of Tryz.func122 kr rfl
 have c:CmpLays Tryz.prog 122 #[] Go.Ev.egU 3 jS a b d.size w:=fun m h o _ x y=>Tryz.compare122 x y _
 refine(AnyQ.slices_SortFunc_total Tryz.sortE 3 ?_ ?_ Go.Ev.egU (fun _=>rfl) ?_ jS aPj 122 #[] a b f d w l c j k g aLO).mono ?_
 ·intro w;kernel_rfl
 ·intro w;kernel_rfl
 ·intro x v i
  simp only[Go.Ev.egU,lI8,List.not_mem_nil,or_false]at i
  rcases i with rfl|rfl|rfl<;>rfl
 ·rintro e w' ⟨rfl,n,h,rfl⟩
  exact⟨rfl,n,h,rfl⟩
theorem Tryz.sortENone:Go.Ev.vJ Tryz.prog 123:=fun p a fv w=>AnyF.slices_SortFunc_none {Tryz.sortE with} p a fv w
end Go.Proofs
end
