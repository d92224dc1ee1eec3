/-
 For FitsCheck: the library sorts. No conditions beyond those that each theorem states.
-/
import Derived.Test.YtbfjjkjiokfdgaaGreatProg
import Derived.Shelf.SlSortCmp.NoneTotal
import Derived.Shelf.SlicesG.Cmp
import Derived.Shelf.Sort.AssemblyIn
import Derived.Shelf.SlGeneric
import Derived.Ground.SlsfProg
import Derived.Ground.SlgcProg
import Derived.WalkKit
import Derived.Deep.QuietTactic
import Derived.Deep.RegionHeld3
import Derived.BigQuiet
import Derived.Test.YtbfjjkjiokfdgaaGreatEv4
set_option linter.unusedSimpArgs false
set_option linter.unusedVariables false
section
namespace Go.Proofs
open Go.Shelf
def Tryz.sortE_ren:Go.Shelf.Ren:=⟨fun|6=>114|15=>127|14=>146|28=>161|29=>162|20=>172|21=>173|22=>174|23=>175|24=>176|25=>177|26=>178|27=>179|46=>200|47=>193|48=>194|49=>201|50=>202|57=>222|n=>n,fun|22=>120|24=>169|25=>206|3=>3|39=>219|0=>0|53=>256|55=>258|4=>4|46=>250|45=>249|50=>144|5=>5|9=>9|66=>289|70=>293|76=>313|77=>188|n=>n,fun|n=>n⟩
theorem Tryz.sortE:Go.Proofs.SlLaysF0.n6 Tryz.prog Tryz.sortE_ren:={
 mixed:=by kernel_rfl
 f6:=⟨Tryz.f114.name,by decide,Tryz.func114.trans (congrArg some (by kernel_rfl))⟩
 f14:=⟨Tryz.f146.name,by decide,Tryz.func146.trans (congrArg some (by kernel_rfl))⟩
 f15:=Tryz.func127.trans (congrArg some (by kernel_rfl))
 f20:=⟨Tryz.f172.name,by decide,Tryz.func172.trans (congrArg some (by kernel_rfl))⟩
 f21:=⟨Tryz.f173.name,by decide,Tryz.func173.trans (congrArg some (by kernel_rfl))⟩
 f22:=⟨Tryz.f174.name,by decide,Tryz.func174.trans (congrArg some (by kernel_rfl))⟩
 f23:=⟨Tryz.f175.name,by decide,Tryz.func175.trans (congrArg some (by kernel_rfl))⟩
 f24:=⟨Tryz.f176.name,by decide,Tryz.func176.trans (congrArg some (by kernel_rfl))⟩
 f25:=⟨Tryz.f177.name,by decide,Tryz.func177.trans (congrArg some (by kernel_rfl))⟩
 f26:=⟨Tryz.f178.name,by decide,Tryz.func178.trans (congrArg some (by kernel_rfl))⟩
 f27:=⟨Tryz.f179.name,by decide,Tryz.func179.trans (congrArg some (by kernel_rfl))⟩
 f28:=Tryz.func161.trans (congrArg some (by kernel_rfl))
 f29:=Tryz.func162.trans (congrArg some (by kernel_rfl))
 f46:=⟨Tryz.f200.name,by decide,Tryz.func200.trans (congrArg some (by kernel_rfl))⟩
 f47:=Tryz.func193.trans (congrArg some (by kernel_rfl))
 f48:=Tryz.func194.trans (congrArg some (by kernel_rfl))
 f49:=⟨Tryz.f201.name,by decide,Tryz.func201.trans (congrArg some (by kernel_rfl))⟩
 f50:=⟨Tryz.f202.name,by decide,Tryz.func202.trans (congrArg some (by kernel_rfl))⟩
 f57:=⟨Tryz.f222.name,by decide,Tryz.func222.trans (congrArg some (by kernel_rfl))⟩
 t0:=Tryz.underlying0
 a0:=Tryz.isAgg0
 z0:=Tryz.sizeOf0
 v0:=Tryz.zeroValue0
 t3:=Tryz.underlying3
 a3:=Tryz.isAgg3
 z3:=Tryz.sizeOf3
 v3:=Tryz.zeroValue3
 t4:=Tryz.underlying4
 a4:=Tryz.isAgg4
 z4:=Tryz.sizeOf4
 v4:=Tryz.zeroValue4
 t5:=Tryz.underlying5
 a5:=Tryz.isAgg5
 z5:=Tryz.sizeOf5
 v5:=Tryz.zeroValue5
 t9:=Tryz.underlying9
 a9:=Tryz.isAgg9
 z9:=Tryz.sizeOf9
 v9:=Tryz.zeroValue9
 t22:=Tryz.underlying120
 a22:=Tryz.isAgg120
 z22:=Tryz.sizeOf120
 v22:=Tryz.zeroValue120
 t25:=Tryz.underlying206
 a25:=Tryz.isAgg206
 z25:=Tryz.sizeOf206
 v25:=Tryz.zeroValue206
 t39:=Tryz.underlying219
 a39:=Tryz.isAgg219
 z39:=Tryz.sizeOf219
 v39:=Tryz.zeroValue219
 t45:=Tryz.underlying249
 a45:=Tryz.isAgg249
 z45:=Tryz.sizeOf249
 v45:=Tryz.zeroValue249
 t46:=Tryz.underlying250
 a46:=Tryz.isAgg250
 z46:=Tryz.sizeOf250
 v46:=Tryz.zeroValue250
 t50:=Tryz.underlying144
 a50:=Tryz.isAgg144
 z50:=Tryz.sizeOf144
 v50:=Tryz.zeroValue144
 t53:=Tryz.underlying256
 a53:=Tryz.isAgg256
 z53:=Tryz.sizeOf256
 v53:=Tryz.zeroValue256
 t55:=Tryz.underlying258
 a55:=Tryz.isAgg258
 z55:=Tryz.sizeOf258
 v55:=Tryz.zeroValue258
 t66:=Tryz.underlying289
 a66:=Tryz.isAgg289
 z66:=Tryz.sizeOf289
 v66:=Tryz.zeroValue289
 t70:=Tryz.underlying293
 a70:=Tryz.isAgg293
 z70:=Tryz.sizeOf293
 v70:=Tryz.zeroValue293
 t76:=Tryz.underlying313
 a76:=Tryz.isAgg313
 z76:=Tryz.sizeOf313
 v76:=Tryz.zeroValue313
 t77:=Tryz.underlying188
 a77:=Tryz.isAgg188
 z77:=Tryz.sizeOf188
 v77:=Tryz.zeroValue188}
def Tryz.cmpInt_ren:Go.Shelf.Ren:=⟨fun|5=>144|7=>171|n=>n,fun|22=>3|3=>3|4=>4|n=>n,fun|n=>n⟩
theorem Tryz.cmpInt:Go.Proofs.SlLaysC2.n5 Tryz.prog Tryz.cmpInt_ren:={
 mixed:=by kernel_rfl
 f5:=⟨Tryz.f144.name,by decide,Tryz.func144.trans (congrArg some (by kernel_rfl))⟩
 f7:=⟨Tryz.f171.name,by decide,Tryz.func171.trans (congrArg some (by kernel_rfl))⟩
 t3:=Tryz.underlying3
 a3:=Tryz.isAgg3
 z3:=Tryz.sizeOf3
 v3:=Tryz.zeroValue3
 t4:=Tryz.underlying4
 a4:=Tryz.isAgg4
 z4:=Tryz.sizeOf4
 v4:=Tryz.zeroValue4
 t22:=Tryz.underlying3
 a22:=Tryz.isAgg3
 z22:=Tryz.sizeOf3
 v22:=Tryz.zeroValue3}
def Tryz.sortL_ren:Go.Shelf.Ren:=⟨fun|6=>147|15=>127|14=>180|28=>161|29=>162|20=>203|21=>204|22=>205|23=>206|24=>207|25=>208|26=>209|27=>210|46=>223|47=>193|48=>194|49=>224|50=>225|57=>230|n=>n,fun|22=>174|24=>125|25=>239|3=>3|39=>219|0=>0|53=>256|55=>258|4=>4|46=>250|45=>249|50=>144|5=>5|9=>9|66=>289|70=>293|76=>313|77=>188|n=>n,fun|n=>n⟩
theorem Tryz.sortL:Go.Proofs.SlLaysF.n6 Tryz.prog Tryz.sortL_ren:={
 mixed:=by kernel_rfl
 f6:=⟨Tryz.f147.name,by decide,Tryz.func147.trans (congrArg some (by kernel_rfl))⟩
 f14:=⟨Tryz.f180.name,by decide,Tryz.func180.trans (congrArg some (by kernel_rfl))⟩
 f15:=Tryz.func127.trans (congrArg some (by kernel_rfl))
 f20:=⟨Tryz.f203.name,by decide,Tryz.func203.trans (congrArg some (by kernel_rfl))⟩
 f21:=⟨Tryz.f204.name,by decide,Tryz.func204.trans (congrArg some (by kernel_rfl))⟩
 f22:=⟨Tryz.f205.name,by decide,Tryz.func205.trans (congrArg some (by kernel_rfl))⟩
 f23:=⟨Tryz.f206.name,by decide,Tryz.func206.trans (congrArg some (by kernel_rfl))⟩
 f24:=⟨Tryz.f207.name,by decide,Tryz.func207.trans (congrArg some (by kernel_rfl))⟩
 f25:=⟨Tryz.f208.name,by decide,Tryz.func208.trans (congrArg some (by kernel_rfl))⟩
 f26:=⟨Tryz.f209.name,by decide,Tryz.func209.trans (congrArg some (by kernel_rfl))⟩
 f27:=⟨Tryz.f210.name,by decide,Tryz.func210.trans (congrArg some (by kernel_rfl))⟩
 f28:=Tryz.func161.trans (congrArg some (by kernel_rfl))
 f29:=Tryz.func162.trans (congrArg some (by kernel_rfl))
 f46:=⟨Tryz.f223.name,by decide,Tryz.func223.trans (congrArg some (by kernel_rfl))⟩
 f47:=Tryz.func193.trans (congrArg some (by kernel_rfl))
 f48:=Tryz.func194.trans (congrArg some (by kernel_rfl))
 f49:=⟨Tryz.f224.name,by decide,Tryz.func224.trans (congrArg some (by kernel_rfl))⟩
 f50:=⟨Tryz.f225.name,by decide,Tryz.func225.trans (congrArg some (by kernel_rfl))⟩
 f57:=⟨Tryz.f230.name,by decide,Tryz.func230.trans (congrArg some (by kernel_rfl))⟩
 t0:=Tryz.underlying0
 a0:=Tryz.isAgg0
 z0:=Tryz.sizeOf0
 v0:=Tryz.zeroValue0
 t3:=Tryz.underlying3
 a3:=Tryz.isAgg3
 z3:=Tryz.sizeOf3
 v3:=Tryz.zeroValue3
 t4:=Tryz.underlying4
 a4:=Tryz.isAgg4
 z4:=Tryz.sizeOf4
 v4:=Tryz.zeroValue4
 t5:=Tryz.underlying5
 a5:=Tryz.isAgg5
 z5:=Tryz.sizeOf5
 v5:=Tryz.zeroValue5
 t9:=Tryz.underlying9
 a9:=Tryz.isAgg9
 z9:=Tryz.sizeOf9
 v9:=Tryz.zeroValue9
 t22:=Tryz.underlying174
 a22:=Tryz.isAgg174
 z22:=Tryz.sizeOf174
 v22:=Tryz.zeroValue174
 a24:=Tryz.isAgg125
 z24:=Tryz.sizeOf125
 t25:=Tryz.underlying239
 a25:=Tryz.isAgg239
 z25:=Tryz.sizeOf239
 v25:=Tryz.zeroValue239
 t39:=Tryz.underlying219
 a39:=Tryz.isAgg219
 z39:=Tryz.sizeOf219
 v39:=Tryz.zeroValue219
 t45:=Tryz.underlying249
 a45:=Tryz.isAgg249
 z45:=Tryz.sizeOf249
 v45:=Tryz.zeroValue249
 t46:=Tryz.underlying250
 a46:=Tryz.isAgg250
 z46:=Tryz.sizeOf250
 v46:=Tryz.zeroValue250
 t50:=Tryz.underlying144
 a50:=Tryz.isAgg144
 z50:=Tryz.sizeOf144
 v50:=Tryz.zeroValue144
 t53:=Tryz.underlying256
 a53:=Tryz.isAgg256
 z53:=Tryz.sizeOf256
 v53:=Tryz.zeroValue256
 t55:=Tryz.underlying258
 a55:=Tryz.isAgg258
 z55:=Tryz.sizeOf258
 v55:=Tryz.zeroValue258
 t66:=Tryz.underlying289
 a66:=Tryz.isAgg289
 z66:=Tryz.sizeOf289
 v66:=Tryz.zeroValue289
 t70:=Tryz.underlying293
 a70:=Tryz.isAgg293
 z70:=Tryz.sizeOf293
 v70:=Tryz.zeroValue293
 t76:=Tryz.underlying313
 a76:=Tryz.isAgg313
 z76:=Tryz.sizeOf313
 v76:=Tryz.zeroValue313
 t77:=Tryz.underlying188
 a77:=Tryz.isAgg188
 z77:=Tryz.sizeOf188
 v77:=Tryz.zeroValue188}
def Tryz.lays189_ren:Go.Shelf.Ren:=⟨fun|189=>122|125=>127|257=>151|128=>161|129=>162|294=>183|295=>184|296=>185|297=>186|298=>187|299=>188|216=>189|300=>190|301=>191|328=>214|329=>193|330=>194|331=>215|332=>216|215=>171|343=>228|n=>n,fun|28=>125|3=>3|46=>219|0=>0|51=>256|53=>258|4=>4|183=>250|182=>249|131=>144|5=>5|9=>9|218=>289|222=>293|228=>313|229=>188|n=>n,fun|n=>n⟩
theorem Tryz.lays189:Go.Proofs.Lays.n189 Tryz.prog Tryz.lays189_ren:={
 mixed:=by kernel_rfl
 f125:=Tryz.func127.trans (congrArg some (by kernel_rfl))
 f128:=Tryz.func161.trans (congrArg some (by kernel_rfl))
 f129:=Tryz.func162.trans (congrArg some (by kernel_rfl))
 f189:=Tryz.func122.trans (congrArg some (by kernel_rfl))
 f215:=Tryz.func171.trans (congrArg some (by kernel_rfl))
 f216:=Tryz.func189.trans (congrArg some (by kernel_rfl))
 f257:=Tryz.func151.trans (congrArg some (by kernel_rfl))
 f294:=Tryz.func183.trans (congrArg some (by kernel_rfl))
 f295:=Tryz.func184.trans (congrArg some (by kernel_rfl))
 f296:=Tryz.func185.trans (congrArg some (by kernel_rfl))
 f297:=Tryz.func186.trans (congrArg some (by kernel_rfl))
 f298:=Tryz.func187.trans (congrArg some (by kernel_rfl))
 f299:=Tryz.func188.trans (congrArg some (by kernel_rfl))
 f300:=Tryz.func190.trans (congrArg some (by kernel_rfl))
 f301:=Tryz.func191.trans (congrArg some (by kernel_rfl))
 f328:=Tryz.func214.trans (congrArg some (by kernel_rfl))
 f329:=Tryz.func193.trans (congrArg some (by kernel_rfl))
 f330:=Tryz.func194.trans (congrArg some (by kernel_rfl))
 f331:=Tryz.func215.trans (congrArg some (by kernel_rfl))
 f332:=Tryz.func216.trans (congrArg some (by kernel_rfl))
 f343:=Tryz.func228.trans (congrArg some (by kernel_rfl))
 t0:=Tryz.underlying0
 a0:=Tryz.isAgg0
 z0:=Tryz.sizeOf0
 v0:=Tryz.zeroValue0
 t3:=Tryz.underlying3
 a3:=Tryz.isAgg3
 z3:=Tryz.sizeOf3
 v3:=Tryz.zeroValue3
 t4:=Tryz.underlying4
 a4:=Tryz.isAgg4
 z4:=Tryz.sizeOf4
 v4:=Tryz.zeroValue4
 t5:=Tryz.underlying5
 a5:=Tryz.isAgg5
 z5:=Tryz.sizeOf5
 v5:=Tryz.zeroValue5
 t9:=Tryz.underlying9
 a9:=Tryz.isAgg9
 z9:=Tryz.sizeOf9
 v9:=Tryz.zeroValue9
 t28:=Tryz.underlying125
 a28:=Tryz.isAgg125
 z28:=Tryz.sizeOf125
 v28:=Tryz.zeroValue125
 t46:=Tryz.underlying219
 a46:=Tryz.isAgg219
 z46:=Tryz.sizeOf219
 v46:=Tryz.zeroValue219
 t51:=Tryz.underlying256
 a51:=Tryz.isAgg256
 z51:=Tryz.sizeOf256
 v51:=Tryz.zeroValue256
 t53:=Tryz.underlying258
 a53:=Tryz.isAgg258
 z53:=Tryz.sizeOf258
 v53:=Tryz.zeroValue258
 t131:=Tryz.underlying144
 a131:=Tryz.isAgg144
 z131:=Tryz.sizeOf144
 v131:=Tryz.zeroValue144
 t182:=Tryz.underlying249
 a182:=Tryz.isAgg249
 z182:=Tryz.sizeOf249
 v182:=Tryz.zeroValue249
 t183:=Tryz.underlying250
 a183:=Tryz.isAgg250
 z183:=Tryz.sizeOf250
 v183:=Tryz.zeroValue250
 t218:=Tryz.underlying289
 a218:=Tryz.isAgg289
 z218:=Tryz.sizeOf289
 v218:=Tryz.zeroValue289
 t222:=Tryz.underlying293
 a222:=Tryz.isAgg293
 z222:=Tryz.sizeOf293
 v222:=Tryz.zeroValue293
 t228:=Tryz.underlying313
 a228:=Tryz.isAgg313
 z228:=Tryz.sizeOf313
 v228:=Tryz.zeroValue313
 t229:=Tryz.underlying188
 a229:=Tryz.isAgg188
 z229:=Tryz.sizeOf188
 v229:=Tryz.zeroValue188}
theorem Tryz.closure148{ba oa na ca bb ob nb cb:Nat}{x y:Int}{W:World}(ha:0<na)(hb:0<nb)(hx:W.cell? ⟨ba,oa,none⟩=some (.int .i64 x))(hy:W.cell? ⟨bb,ob,none⟩=some (.int .i64 y))(h1:0<=x)(h2:x<4611686018427387904)(h3:0<=y)(h4:y<4611686018427387904):Calls Tryz.prog 148 #[.slice (some ⟨ba,oa,none⟩) na ca,.slice (some ⟨bb,ob,none⟩) nb cb] W fun e w'=>e= .returned (.int .i64 (x-y))/\∃ q,w'=W.drewN q:=by
 go_enter Tryz.func148,Tryz.ntmps148
 go_wp2
 have mixed:Tryz.prog.follows .mixedOrders=true:=by kernel_rfl
 have e1:W.cell? {block:=ba,off:=oa+0}=some (.int .i64 x):=hx
 go_quiet (fail)
 go_wp2
 go_ret
 exact⟨rfl,nq,rfl⟩
open Go.RowKit Go.Sort in
theorem Tryz.sortFCalls:Go.Ev.mH Tryz.prog 147 148:=fun zs h enc blk off cap w hel hH hb=>by
 letI:Inhabited (Fin zs.length):=⟨⟨0,h.pos⟩⟩
 have hs:(Array.finRange zs.length).size=zs.length:=by simp
 have h1:Go.Proofs.OneCell enc:=fun i=>by obtain⟨_,_,_,_,e,_⟩:=hel i;rw[e];rfl
 have hO:SWO (ltOf fun i j:Fin zs.length=>zs[i]-zs[j]):={
  irrefl:=fun x=>by unfold ltOf;simp
  trans:=fun x y z=>by unfold ltOf;simp only[decide_eq_true_eq];omega
  ntrans:=fun x y z=>by unfold ltOf;simp only[decide_eq_false_iff_not];omega}
 have eg:∀ args w,(callFunc 148 args).run Tryz.prog w= .ok (.enter 148 args) w:=enters_of Tryz.func148 (by kernel_rfl) rfl
 have hr:CmpReads Tryz.prog 148 #[] enc (fun i j:Fin zs.length=>zs[i]-zs[j]) blk off (Array.finRange zs.length).size w:=fun m os dk hd i j=>by
  obtain⟨ba,oa,na,ca,e1,n1,d1,l1,c1⟩:=hel i
  obtain⟨bb,ob,nb,cb,e2,n2,d2,l2,c2⟩:=hel j
  have keep:∀(b o:Nat),b≠blk->b<w.heap.size->(sortWorld enc w blk off m dk os).cell? ⟨b,o,none⟩=w.cell? ⟨b,o,none⟩:=fun b o hne hlt=>by
   have g1:(sortWorld enc w blk off m dk os).heap[b]? =w.heap[b]? :=by
    show(grow (putRow enc (Sort.ahead w m) blk off dk) os).heap[b]? =_
    rw[heap_grow_old _ _ (by rw[size_putRow];exact hlt)]
    show(w.heap.modify blk _)[b]? =_
    rw[Array.getElem?_modify,if_neg (fun e=>hne e.symm)]
   unfold World.cell?
   rw[g1]
  have z1:=h.rng _ (List.getElem_mem i.2)
  have z2:=h.rng _ (List.getElem_mem j.2)
  rw[e1,e2]
  exact Tryz.closure148 n1 n2 ((keep ba oa d1 l1).trans c1) ((keep bb ob d2 l2).trans c2) z1.1 z1.2 z2.1 z2.2
 have:=Any.slices_SortFunc_eq Tryz.sortL enc h1 _ hO 148 #[] blk off cap (Array.finRange zs.length) w eg hr.lays hH hb (by rw[hs];exact h.len)
 rw[hs]at this
 refine this.mono ?_
 rintro e w' ⟨rfl,n,os,rfl⟩
 refine⟨rfl,n,os,?_⟩
 unfold Go.Ev.bY
 rw[hs]
 rfl
theorem Tryz.sortFNone:Go.Ev.oF Tryz.prog 147:=fun p cap fv w=>AnyF.slices_SortFunc_none {Tryz.sortL with} p cap fv w
theorem Tryz.sortCalls:Go.Ev.nQ Tryz.prog 122:=fun blk off cap zs w hH hb hl =>
 calls_of_every_depth fun D=>AnyS.slices_Sort_int_in Tryz.lays189 D blk off cap zs w hH hb hl
open Go.RowKit Go.Lib Go.Sort
set_option maxHeartbeats 1000000 in
theorem Tryz.sign145(a b:Int)(s:Bool)(W:World):Calls Tryz.prog 145 #[.agg #[.int .i64 a,.int .i64 b,.bool s]] W fun e w'=>e= .returned (.int .i64 (Go.Ev.vM s))/\∃ q os',w'=grow (W.drewN q) os':=by
 cases s
 ·go_enter Tryz.func145,Tryz.ntmps145
  go_wp2
  go_ret
  exact⟨rfl,0,_,by rw[alloc_eq_grow];rfl⟩
 ·go_enter Tryz.func145,Tryz.ntmps145
  go_wp2
  go_ret
  exact⟨rfl,0,_,by rw[alloc_eq_grow];rfl⟩
set_option maxHeartbeats 1000000 in
theorem Tryz.or93(x y z:Int)(blk off cap:Nat)(W:World)(h0:W.cell? ⟨blk,off,none⟩=some (.int .i64 x))(h1:W.cell? ⟨blk,off+1,none⟩=some (.int .i64 y))(h2:W.cell? ⟨blk,off+2,none⟩=some (.int .i64 z)):Calls Tryz.prog 93 #[.slice (some ⟨blk,off,none⟩) 3 cap] W fun e w'=>e= .returned (.int .i64 (Go.Ev.or3 x y z))/\∃ q os',w'=grow (W.drewN q) os':=by
 have done:∀ r,r=Go.Ev.or3 x y z->(Ending.returned (Value.int .i64 r)=Ending.returned (Value.int .i64 (Go.Ev.or3 x y z))/\∃ q os',W=grow (W.drewN q) os'):=fun r h=>⟨by rw[h],0,#[],by rw[Go.Sort.grow_empty];rfl⟩
 by_cases hx:x=0
 ·subst hx
  by_cases hy:y=0
  ·subst hy
   by_cases hz:z=0
   ·subst hz
    go_enter Tryz.func93,Tryz.ntmps93
    go_wp2
    refine wp_loop_rounds 4 ?_
    rw[rounds_succ]
    go_wp2
    rw[rounds_succ]
    go_wp2
    rw[rounds_succ]
    go_wp2
    rw[rounds_succ]
    go_wp2
    go_ret
    exact done _ rfl
   ·go_enter Tryz.func93,Tryz.ntmps93
    go_wp2
    refine wp_loop_rounds 3 ?_
    rw[rounds_succ]
    go_wp2
    rw[rounds_succ]
    go_wp2
    rw[rounds_succ]
    go_wp2
    go_ret
    exact done _ (by simp[Go.Ev.or3])
  ·go_enter Tryz.func93,Tryz.ntmps93
   go_wp2
   refine wp_loop_rounds 2 ?_
   rw[rounds_succ]
   go_wp2
   rw[rounds_succ]
   go_wp2
   go_ret
   exact done _ (by simp[Go.Ev.or3,hy])
 ·go_enter Tryz.func93,Tryz.ntmps93
  go_wp2
  refine wp_loop_rounds 1 ?_
  rw[rounds_succ]
  go_wp2
  go_ret
  exact done _ (by simp[Go.Ev.or3,hx])
def GW(W w':World):Prop:=∃ q os',w'=grow (W.drewN q) os'
theorem GW.cell{W w':World}(h:GW W w'){a:Addr}{v:Value}(hc:W.cell? a=some v):w'.cell? a=some v:=by
 obtain⟨q,os,rfl⟩:=h
 have hb:a.block<W.heap.size:=by
  unfold World.cell? at hc
  rcases hx:W.heap[a.block]? with _|o
  ·rw[hx]at hc;cases hc
  ·exact(Array.getElem?_eq_some_iff.1 hx).1
 unfold World.cell? at hc ⊢
 have:(grow (W.drewN q) os).heap[a.block]? =W.heap[a.block]? :=heap_grow_old _ _ hb
 rw[this];exact hc
theorem GW.refl(W:World):GW W W:=⟨0,#[],by rw[Go.Sort.grow_empty];rfl⟩
theorem GW.trans{A B C:World}(h:GW A B)(h2:GW B C):GW A C:=by
 obtain⟨q,os,rfl⟩:=h
 obtain⟨q2,os2,rfl⟩:=h2
 exact⟨q+q2,os++os2,by simp[grow,World.drewN,Nat.add_assoc]⟩
theorem GW.alloc{A B:World}(h:GW A B)(o:Obj):GW A (B.alloc o):=h.trans ⟨0,#[o],by rw[alloc_eq_grow];rfl⟩
theorem GW.drew{A B:World}(h:GW A B):GW A B.drew:=h.trans ⟨1,#[],by rw[Go.Sort.grow_empty];rfl⟩
theorem S41.grow{x y:Go.Ev.Eg}{W w w':World}(h:w.cell? ⟨W.heap.size,0,none⟩=some (.int .i64 x.f)/\w.cell? ⟨W.heap.size,1,none⟩=some (.int .i64 x.t)/\w.cell? ⟨W.heap.size,2,none⟩=some (.bool x.s)/\w.cell? ⟨W.heap.size+1,0,none⟩=some (.int .i64 y.f)/\w.cell? ⟨W.heap.size+1,1,none⟩=some (.int .i64 y.t)/\w.cell? ⟨W.heap.size+1,2,none⟩=some (.bool y.s)/\GW W w)(g:GW w w'):w'.cell? ⟨W.heap.size,0,none⟩=some (.int .i64 x.f)/\w'.cell? ⟨W.heap.size,1,none⟩=some (.int .i64 x.t)/\w'.cell? ⟨W.heap.size,2,none⟩=some (.bool x.s)/\w'.cell? ⟨W.heap.size+1,0,none⟩=some (.int .i64 y.f)/\w'.cell? ⟨W.heap.size+1,1,none⟩=some (.int .i64 y.t)/\w'.cell? ⟨W.heap.size+1,2,none⟩=some (.bool y.s)/\GW W w':=⟨g.cell h.1,g.cell h.2.1,g.cell h.2.2.1,g.cell h.2.2.2.1,g.cell h.2.2.2.2.1,g.cell h.2.2.2.2.2.1,h.2.2.2.2.2.2.trans g⟩
theorem S41.start{x y:Go.Ev.Eg}{W:World}:((W.alloc (.cells #[.int .i64 x.f,.int .i64 x.t,.bool x.s] 169)).alloc (.cells #[.int .i64 y.f,.int .i64 y.t,.bool y.s] 169)).drew.cell? ⟨W.heap.size,0,none⟩=some (.int .i64 x.f)/\((W.alloc (.cells #[.int .i64 x.f,.int .i64 x.t,.bool x.s] 169)).alloc (.cells #[.int .i64 y.f,.int .i64 y.t,.bool y.s] 169)).drew.cell? ⟨W.heap.size,1,none⟩=some (.int .i64 x.t)/\((W.alloc (.cells #[.int .i64 x.f,.int .i64 x.t,.bool x.s] 169)).alloc (.cells #[.int .i64 y.f,.int .i64 y.t,.bool y.s] 169)).drew.cell? ⟨W.heap.size,2,none⟩=some (.bool x.s)/\((W.alloc (.cells #[.int .i64 x.f,.int .i64 x.t,.bool x.s] 169)).alloc (.cells #[.int .i64 y.f,.int .i64 y.t,.bool y.s] 169)).drew.cell? ⟨W.heap.size+1,0,none⟩=some (.int .i64 y.f)/\((W.alloc (.cells #[.int .i64 x.f,.int .i64 x.t,.bool x.s] 169)).alloc (.cells #[.int .i64 y.f,.int .i64 y.t,.bool y.s] 169)).drew.cell? ⟨W.heap.size+1,1,none⟩=some (.int .i64 y.t)/\((W.alloc (.cells #[.int .i64 x.f,.int .i64 x.t,.bool x.s] 169)).alloc (.cells #[.int .i64 y.f,.int .i64 y.t,.bool y.s] 169)).drew.cell? ⟨W.heap.size+1,2,none⟩=some (.bool y.s)/\GW W ((W.alloc (.cells #[.int .i64 x.f,.int .i64 x.t,.bool x.s] 169)).alloc (.cells #[.int .i64 y.f,.int .i64 y.t,.bool y.s] 169)).drew:=by
 refine⟨?_,?_,?_,?_,?_,?_,(((GW.refl W).alloc _).alloc _).drew⟩<;>go_simp
theorem S41.sign(x y:Go.Ev.Eg)(a b:Int)(s:Bool)(W w:World)(h:w.cell? ⟨W.heap.size,0,none⟩=some (.int .i64 x.f)/\w.cell? ⟨W.heap.size,1,none⟩=some (.int .i64 x.t)/\w.cell? ⟨W.heap.size,2,none⟩=some (.bool x.s)/\w.cell? ⟨W.heap.size+1,0,none⟩=some (.int .i64 y.f)/\w.cell? ⟨W.heap.size+1,1,none⟩=some (.int .i64 y.t)/\w.cell? ⟨W.heap.size+1,2,none⟩=some (.bool y.s)/\GW W w):Calls Tryz.prog 145 #[.agg #[.int .i64 a,.int .i64 b,.bool s]] w fun e w'=>e= .returned (.int .i64 (Go.Ev.vM s))/\w'.cell? ⟨W.heap.size,0,none⟩=some (.int .i64 x.f)/\w'.cell? ⟨W.heap.size,1,none⟩=some (.int .i64 x.t)/\w'.cell? ⟨W.heap.size,2,none⟩=some (.bool x.s)/\w'.cell? ⟨W.heap.size+1,0,none⟩=some (.int .i64 y.f)/\w'.cell? ⟨W.heap.size+1,1,none⟩=some (.int .i64 y.t)/\w'.cell? ⟨W.heap.size+1,2,none⟩=some (.bool y.s)/\GW W w':=(Tryz.sign145 a b s w).mono fun e w' h'=>⟨h'.1,S41.grow h h'.2⟩
theorem Tryz.or93a(x y z:Int)(t:TypeId)(w:World):Calls Tryz.prog 93 #[.slice (some ⟨w.heap.size,0,none⟩) 3 3] (w.alloc (.cells #[.int .i64 x,.int .i64 y,.int .i64 z] t)) fun e w'=>e= .returned (.int .i64 (Go.Ev.or3 x y z))/\GW w w':=by
 refine(Tryz.or93 x y z w.heap.size 0 3 _ ?_ ?_ ?_).mono ?_
 ·go_simp
 ·go_simp
 ·go_simp
 ·intro e w' h
  exact⟨h.1,((GW.refl w).alloc _).trans h.2⟩
theorem S41.or(x y:Go.Ev.Eg)(a b c:Int)(t:TypeId)(W w:World)(h:w.cell? ⟨W.heap.size,0,none⟩=some (.int .i64 x.f)/\w.cell? ⟨W.heap.size,1,none⟩=some (.int .i64 x.t)/\w.cell? ⟨W.heap.size,2,none⟩=some (.bool x.s)/\w.cell? ⟨W.heap.size+1,0,none⟩=some (.int .i64 y.f)/\w.cell? ⟨W.heap.size+1,1,none⟩=some (.int .i64 y.t)/\w.cell? ⟨W.heap.size+1,2,none⟩=some (.bool y.s)/\GW W w):Calls Tryz.prog 93 #[.slice (some ⟨w.heap.size,0,none⟩) 3 3] (w.alloc (.cells #[.int .i64 a,.int .i64 b,.int .i64 c] t)) fun e w'=>e= .returned (.int .i64 (Go.Ev.or3 a b c))/\w'.cell? ⟨W.heap.size,0,none⟩=some (.int .i64 x.f)/\w'.cell? ⟨W.heap.size,1,none⟩=some (.int .i64 x.t)/\w'.cell? ⟨W.heap.size,2,none⟩=some (.bool x.s)/\w'.cell? ⟨W.heap.size+1,0,none⟩=some (.int .i64 y.f)/\w'.cell? ⟨W.heap.size+1,1,none⟩=some (.int .i64 y.t)/\w'.cell? ⟨W.heap.size+1,2,none⟩=some (.bool y.s)/\GW W w':=(Tryz.or93a a b c t w).mono fun e w' h'=>⟨h'.1,S41.grow h h'.2⟩
set_option maxHeartbeats 2000000 in
theorem Tryz.compare113(x y:Go.Ev.Eg)(W:World):Calls Tryz.prog 113 #[.agg #[.int .i64 x.f,.int .i64 x.t,.bool x.s],.agg #[.int .i64 y.f,.int .i64 y.t,.bool y.s]] W fun e w'=>e= .returned (.int .i64 (Go.Ev.jD x y))/\∃ q os',w'=grow (W.drewN q) os':=by
 have hcon:=fun a b W'=>AnyG.cmp_Compare_int Tryz.cmpInt a b W'
 change ∀a b W',Calls Tryz.prog 144 _ _ _ at hcon
 have hs0:=@S41.start x y W
 go_enter Tryz.func113,Tryz.ntmps113
 go_wp2
 go_region_held3 (fun w'=>w'.cell? ⟨W.heap.size,0,none⟩=some (.int .i64 x.f)/\w'.cell? ⟨W.heap.size,1,none⟩=some (.int .i64 x.t)/\w'.cell? ⟨W.heap.size,2,none⟩=some (.bool x.s)/\w'.cell? ⟨W.heap.size+1,0,none⟩=some (.int .i64 y.f)/\w'.cell? ⟨W.heap.size+1,1,none⟩=some (.int .i64 y.t)/\w'.cell? ⟨W.heap.size+1,2,none⟩=some (.bool y.s)/\GW W w') (first|exact hs0|assumption|(exact S41.grow ‹_› (GW.alloc (GW.refl _) _))) (first|(go_at_call 144;refine(hcon _ _ _).mono ?_;rintro e w' ⟨rfl,rfl⟩)|(go_at_call 145;refine(S41.sign x y _ _ _ W _ ?_).mono ?_;assumption;rintro e w' ⟨rfl,hs⟩;have hs0:=hs)|(go_at_call 93;refine(S41.or x y _ _ _ _ W _ hs0).mono ?_;rintro e w' ⟨rfl,hs⟩;have hs0:=hs))
 go_wp2
 go_ret
 exact⟨rfl,hs0.2.2.2.2.2.2⟩
open Go.Ev (Eg jD cI or3 vM)
theorem ztw{a b:Bool}(h:vM a=vM b):a=b:=by cases a<;>cases b<;>first|rfl|(exact absurd h (by decide))
theorem znl{x y:Eg}:jD x y<0↔x.f<y.f\/(x.f=y.f/\(x.t<y.t\/(x.t=y.t/\vM x.s<vM y.s))):=by
 unfold jD or3 cI
 constructor
 ·intro h
  repeat' split at h
  all_goals omega
 ·intro h
  repeat' split
  all_goals omega
theorem aCj{x y:Eg}:ltOf jD x y=true↔x.f<y.f\/(x.f=y.f/\(x.t<y.t\/(x.t=y.t/\vM x.s<vM y.s))):=by
 unfold ltOf
 rw[decide_eq_true_iff]
 exact znl
theorem q6e{x y:Eg}:ltOf jD x y=false↔¬(x.f<y.f\/(x.f=y.f/\(x.t<y.t\/(x.t=y.t/\vM x.s<vM y.s)))):=by
 rw[<-aCj];simp
theorem aIq:SWO (ltOf jD) where
 irrefl x:=q6e.2 (by omega)
 trans x y z h1 h2:=aCj.2 (by have h1:=aCj.1 h1;have h2:=aCj.1 h2;omega)
 ntrans x y z h1 h2:=q6e.2 (by have h1:=q6e.1 h1;have h2:=q6e.1 h2;omega)
theorem aJj(x y:Eg)(h1:ltOf jD x y=false)(h2:ltOf jD y x=false):x=y:=by
 have h1:=q6e.1 h1
 have h2:=q6e.1 h2
 have a:x.f=y.f:=by omega
 have b:x.t=y.t:=by omega
 have c:vM x.s=vM y.s:=by omega
 cases x;cases y
 simp only at a b c
 rw[a,b,ztw c]
theorem Tryz.sortECalls:Go.Ev.mK Tryz.prog 114 113:=fun d blk off cap w hH hb hsz=>by
 have eg:∀ args w,(callFunc 113 args).run Tryz.prog w= .ok (.enter 113 args) w:=enters_of Tryz.func113 (by kernel_rfl) rfl
 have hcmp:CmpLays Tryz.prog 113 #[] Go.Ev.yM 3 jD blk off d.size w:=fun m os dk _ x y=>Tryz.compare113 x y _
 refine(AnyQ.slices_SortFunc_total Tryz.sortE 3 ?_ ?_ Go.Ev.yM (fun _=>rfl) ?_ jD aIq 113 #[] blk off cap d w eg hcmp hH hb hsz aJj).mono ?_
 ·intro w;kernel_rfl
 ·intro w;kernel_rfl
 ·intro x v hv
  simp only[Go.Ev.yM,List.mem_cons,List.not_mem_nil,or_false]at hv
  rcases hv with rfl|rfl|rfl<;>rfl
 ·rintro e w' ⟨rfl,n,os,rfl⟩
  exact⟨rfl,n,os,rfl⟩
theorem Tryz.sortENone:Go.Ev.rG Tryz.prog 114:=fun p cap fv w=>AnyF.slices_SortFunc_none {Tryz.sortE with} p cap fv w
end Go.Proofs
end
