/-
 For countersign/countersignlaw20.FitsAll: the library sorts. No conditions beyond those that each theorem states.
-/
import Derived.Test.YtbfjjkjiokfdgaaGreatProg
import Derived.Shelf.SlSortCmp.NoneTotal
import Derived.Shelf.SlicesG.Cmp
import Derived.Shelf.Sort.AssemblyIn
import Derived.Shelf.SlGeneric
import Derived.Ground.SlsfProg
import Derived.Ground.SlgcProg
import Derived.WalkKit
import Derived.Deep.QuietTactic
import Derived.Deep.RegionHeld3
import Derived.BigQuiet
import Derived.Test.YtbfjjkjiokfdgaaGreatEv4
set_option linter.unusedSimpArgs false
set_option linter.unusedVariables false
section
namespace Go.Proofs
open Go.Shelf
theorem lv{P:Program}{i:Nat}{F G:Func}(h:P.funcs[i]? =some F)(e:F=G:=by kernel_rfl):P.funcs[i]? =some G:=h.trans (congrArg some e)
theorem lw{P:Program}{i:Nat}{F B:Func}(h:P.funcs[i]? =some F)(q:(F.name == "runtime.NumGoroutine")=false:=by decide) (e:F={B with name:=F.name}:=by kernel_rfl):Bears P i B:=⟨_,q,lv h e⟩
def Tryz.sortE_ren:Go.Shelf.Ren:=⟨fun|6=>114|15=>127|14=>146|28=>161|29=>162|20=>172|21=>173|22=>174|23=>175|24=>176|25=>177|26=>178|27=>179|46=>200|47=>193|48=>194|49=>201|50=>202|57=>222|n=>n,fun|22=>120|24=>169|25=>206|3=>3|39=>219|0=>0|53=>256|55=>258|4=>4|46=>250|45=>249|50=>144|5=>5|9=>9|66=>289|70=>293|76=>313|77=>188|n=>n,fun|n=>n⟩
theorem Tryz.sortE:Go.Proofs.SlLaysF0.n6 Tryz.prog Tryz.sortE_ren:=⟨by kernel_rfl,lw Tryz.func114,lw Tryz.func146,lv Tryz.func127,lw Tryz.func172,lw Tryz.func173,lw Tryz.func174,lw Tryz.func175,lw Tryz.func176,lw Tryz.func177,lw Tryz.func178,lw Tryz.func179,lv Tryz.func161,lv Tryz.func162,lw Tryz.func200,lv Tryz.func193,lv Tryz.func194,lw Tryz.func201,
 lw Tryz.func202,lw Tryz.func222,Tryz.underlying0,Tryz.isAgg0,Tryz.sizeOf0,Tryz.zeroValue0,Tryz.underlying3,Tryz.isAgg3,Tryz.sizeOf3,Tryz.zeroValue3,Tryz.underlying4,Tryz.isAgg4,Tryz.sizeOf4,Tryz.zeroValue4,Tryz.underlying5,Tryz.isAgg5,Tryz.sizeOf5,Tryz.zeroValue5,Tryz.underlying9,Tryz.isAgg9,
 Tryz.sizeOf9,Tryz.zeroValue9,Tryz.underlying120,Tryz.isAgg120,Tryz.sizeOf120,Tryz.zeroValue120,Tryz.underlying206,Tryz.isAgg206,Tryz.sizeOf206,Tryz.zeroValue206,Tryz.underlying219,Tryz.isAgg219,Tryz.sizeOf219,Tryz.zeroValue219,Tryz.underlying249,Tryz.isAgg249,Tryz.sizeOf249,Tryz.zeroValue249,
 Tryz.underlying250,Tryz.isAgg250,Tryz.sizeOf250,Tryz.zeroValue250,Tryz.underlying144,Tryz.isAgg144,Tryz.sizeOf144,Tryz.zeroValue144,Tryz.underlying256,Tryz.isAgg256,Tryz.sizeOf256,Tryz.zeroValue256,Tryz.underlying258,Tryz.isAgg258,Tryz.sizeOf258,Tryz.zeroValue258,Tryz.underlying289,Tryz.isAgg289,
 Tryz.sizeOf289,Tryz.zeroValue289,Tryz.underlying293,Tryz.isAgg293,Tryz.sizeOf293,Tryz.zeroValue293,Tryz.underlying313,Tryz.isAgg313,Tryz.sizeOf313,Tryz.zeroValue313,Tryz.underlying188,Tryz.isAgg188,Tryz.sizeOf188,Tryz.zeroValue188⟩
def Tryz.cmpInt_ren:Go.Shelf.Ren:=⟨fun|5=>144|7=>171|n=>n,fun|22=>3|3=>3|4=>4|n=>n,fun|n=>n⟩
theorem Tryz.cmpInt:Go.Proofs.SlLaysC2.n5 Tryz.prog Tryz.cmpInt_ren:=⟨by kernel_rfl,lw Tryz.func144,lw Tryz.func171,Tryz.underlying3,Tryz.isAgg3,Tryz.sizeOf3,Tryz.zeroValue3,Tryz.underlying4,Tryz.isAgg4,Tryz.sizeOf4,Tryz.zeroValue4,Tryz.underlying3,Tryz.isAgg3,Tryz.sizeOf3,Tryz.zeroValue3⟩
def Tryz.sortL_ren:Go.Shelf.Ren:=⟨fun|6=>147|15=>127|14=>180|28=>161|29=>162|20=>203|21=>204|22=>205|23=>206|24=>207|25=>208|26=>209|27=>210|46=>223|47=>193|48=>194|49=>224|50=>225|57=>230|n=>n,fun|22=>174|24=>125|25=>239|3=>3|39=>219|0=>0|53=>256|55=>258|4=>4|46=>250|45=>249|50=>144|5=>5|9=>9|66=>289|70=>293|76=>313|77=>188|n=>n,fun|n=>n⟩
theorem Tryz.sortL:Go.Proofs.SlLaysF.n6 Tryz.prog Tryz.sortL_ren:=⟨by kernel_rfl,lw Tryz.func147,lw Tryz.func180,lv Tryz.func127,lw Tryz.func203,lw Tryz.func204,lw Tryz.func205,lw Tryz.func206,lw Tryz.func207,lw Tryz.func208,lw Tryz.func209,lw Tryz.func210,lv Tryz.func161,lv Tryz.func162,lw Tryz.func223,lv Tryz.func193,lv Tryz.func194,lw Tryz.func224,
 lw Tryz.func225,lw Tryz.func230,Tryz.underlying0,Tryz.isAgg0,Tryz.sizeOf0,Tryz.zeroValue0,Tryz.underlying3,Tryz.isAgg3,Tryz.sizeOf3,Tryz.zeroValue3,Tryz.underlying4,Tryz.isAgg4,Tryz.sizeOf4,Tryz.zeroValue4,Tryz.underlying5,Tryz.isAgg5,Tryz.sizeOf5,Tryz.zeroValue5,Tryz.underlying9,Tryz.isAgg9,
 Tryz.sizeOf9,Tryz.zeroValue9,Tryz.underlying174,Tryz.isAgg174,Tryz.sizeOf174,Tryz.zeroValue174,Tryz.isAgg125,Tryz.sizeOf125,Tryz.underlying239,Tryz.isAgg239,Tryz.sizeOf239,Tryz.zeroValue239,Tryz.underlying219,Tryz.isAgg219,Tryz.sizeOf219,Tryz.zeroValue219,Tryz.underlying249,Tryz.isAgg249,
 Tryz.sizeOf249,Tryz.zeroValue249,Tryz.underlying250,Tryz.isAgg250,Tryz.sizeOf250,Tryz.zeroValue250,Tryz.underlying144,Tryz.isAgg144,Tryz.sizeOf144,Tryz.zeroValue144,Tryz.underlying256,Tryz.isAgg256,Tryz.sizeOf256,Tryz.zeroValue256,Tryz.underlying258,Tryz.isAgg258,Tryz.sizeOf258,Tryz.zeroValue258,
 Tryz.underlying289,Tryz.isAgg289,Tryz.sizeOf289,Tryz.zeroValue289,Tryz.underlying293,Tryz.isAgg293,Tryz.sizeOf293,Tryz.zeroValue293,Tryz.underlying313,Tryz.isAgg313,Tryz.sizeOf313,Tryz.zeroValue313,Tryz.underlying188,Tryz.isAgg188,Tryz.sizeOf188,Tryz.zeroValue188⟩
def Tryz.lays189_ren:Go.Shelf.Ren:=⟨fun|189=>122|125=>127|257=>151|128=>161|129=>162|294=>183|295=>184|296=>185|297=>186|298=>187|299=>188|216=>189|300=>190|301=>191|328=>214|329=>193|330=>194|331=>215|332=>216|215=>171|343=>228|n=>n,fun|28=>125|3=>3|46=>219|0=>0|51=>256|53=>258|4=>4|183=>250|182=>249|131=>144|5=>5|9=>9|218=>289|222=>293|228=>313|229=>188|n=>n,fun|n=>n⟩
theorem Tryz.lays189:Go.Proofs.Lays.n189 Tryz.prog Tryz.lays189_ren:=⟨by kernel_rfl,lv Tryz.func127,lv Tryz.func161,lv Tryz.func162,lv Tryz.func122,lv Tryz.func171,lv Tryz.func189,lv Tryz.func151,lv Tryz.func183,lv Tryz.func184,lv Tryz.func185,lv Tryz.func186,lv Tryz.func187,lv Tryz.func188,lv Tryz.func190,lv Tryz.func191,lv Tryz.func214,lv Tryz.func193,
 lv Tryz.func194,lv Tryz.func215,lv Tryz.func216,lv Tryz.func228,Tryz.underlying0,Tryz.isAgg0,Tryz.sizeOf0,Tryz.zeroValue0,Tryz.underlying3,Tryz.isAgg3,Tryz.sizeOf3,Tryz.zeroValue3,Tryz.underlying4,Tryz.isAgg4,Tryz.sizeOf4,Tryz.zeroValue4,Tryz.underlying5,Tryz.isAgg5,Tryz.sizeOf5,Tryz.zeroValue5,
 Tryz.underlying9,Tryz.isAgg9,Tryz.sizeOf9,Tryz.zeroValue9,Tryz.underlying125,Tryz.isAgg125,Tryz.sizeOf125,Tryz.zeroValue125,Tryz.underlying219,Tryz.isAgg219,Tryz.sizeOf219,Tryz.zeroValue219,Tryz.underlying256,Tryz.isAgg256,Tryz.sizeOf256,Tryz.zeroValue256,Tryz.underlying258,Tryz.isAgg258,
 Tryz.sizeOf258,Tryz.zeroValue258,Tryz.underlying144,Tryz.isAgg144,Tryz.sizeOf144,Tryz.zeroValue144,Tryz.underlying249,Tryz.isAgg249,Tryz.sizeOf249,Tryz.zeroValue249,Tryz.underlying250,Tryz.isAgg250,Tryz.sizeOf250,Tryz.zeroValue250,Tryz.underlying289,Tryz.isAgg289,Tryz.sizeOf289,Tryz.zeroValue289,
 Tryz.underlying293,Tryz.isAgg293,Tryz.sizeOf293,Tryz.zeroValue293,Tryz.underlying313,Tryz.isAgg313,Tryz.sizeOf313,Tryz.zeroValue313,Tryz.underlying188,Tryz.isAgg188,Tryz.sizeOf188,Tryz.zeroValue188⟩
def Tryz.sortO_ren:Go.Shelf.Ren:=⟨fun|6=>96|15=>127|14=>126|28=>161|29=>162|20=>153|21=>154|22=>155|23=>156|24=>157|25=>158|26=>159|27=>160|46=>192|47=>193|48=>194|49=>195|50=>196|57=>217|n=>n,fun|22=>40|24=>51|25=>129|3=>3|39=>219|0=>0|53=>256|55=>258|4=>4|46=>250|45=>249|50=>144|5=>5|9=>9|66=>289|70=>293|76=>313|77=>188|n=>n,fun|n=>n⟩
theorem Tryz.sortO:Go.Proofs.SlLaysF0.n6 Tryz.prog Tryz.sortO_ren:=⟨by kernel_rfl,lw Tryz.func96,lw Tryz.func126,lv Tryz.func127,lw Tryz.func153,lw Tryz.func154,lw Tryz.func155,lw Tryz.func156,lw Tryz.func157,lw Tryz.func158,lw Tryz.func159,lw Tryz.func160,lv Tryz.func161,lv Tryz.func162,lw Tryz.func192,lv Tryz.func193,lv Tryz.func194,lw Tryz.func195,
 lw Tryz.func196,lw Tryz.func217,Tryz.underlying0,Tryz.isAgg0,Tryz.sizeOf0,Tryz.zeroValue0,Tryz.underlying3,Tryz.isAgg3,Tryz.sizeOf3,Tryz.zeroValue3,Tryz.underlying4,Tryz.isAgg4,Tryz.sizeOf4,Tryz.zeroValue4,Tryz.underlying5,Tryz.isAgg5,Tryz.sizeOf5,Tryz.zeroValue5,Tryz.underlying9,Tryz.isAgg9,
 Tryz.sizeOf9,Tryz.zeroValue9,Tryz.underlying40,Tryz.isAgg40,Tryz.sizeOf40,Tryz.zeroValue40,Tryz.underlying129,Tryz.isAgg129,Tryz.sizeOf129,Tryz.zeroValue129,Tryz.underlying219,Tryz.isAgg219,Tryz.sizeOf219,Tryz.zeroValue219,Tryz.underlying249,Tryz.isAgg249,Tryz.sizeOf249,Tryz.zeroValue249,
 Tryz.underlying250,Tryz.isAgg250,Tryz.sizeOf250,Tryz.zeroValue250,Tryz.underlying144,Tryz.isAgg144,Tryz.sizeOf144,Tryz.zeroValue144,Tryz.underlying256,Tryz.isAgg256,Tryz.sizeOf256,Tryz.zeroValue256,Tryz.underlying258,Tryz.isAgg258,Tryz.sizeOf258,Tryz.zeroValue258,Tryz.underlying289,Tryz.isAgg289,
 Tryz.sizeOf289,Tryz.zeroValue289,Tryz.underlying293,Tryz.isAgg293,Tryz.sizeOf293,Tryz.zeroValue293,Tryz.underlying313,Tryz.isAgg313,Tryz.sizeOf313,Tryz.zeroValue313,Tryz.underlying188,Tryz.isAgg188,Tryz.sizeOf188,Tryz.zeroValue188⟩
def Tryz.strCmp_ren:Go.Shelf.Ren:=⟨fun|106=>94|213=>124|265=>152|n=>n,fun|9=>9|3=>3|n=>n,fun|n=>n⟩
theorem Tryz.strCmp:Go.Proofs.Lays.n106 Tryz.prog Tryz.strCmp_ren:=⟨by kernel_rfl,lv Tryz.func94,lv Tryz.func124,lv Tryz.func152,Tryz.underlying3,Tryz.isAgg3,Tryz.sizeOf3,Tryz.zeroValue3,Tryz.underlying9,Tryz.isAgg9,Tryz.sizeOf9,Tryz.zeroValue9⟩
theorem Tryz.closure148{ba oa na ca bb ob nb cb:Nat}{x y:Int}{W:World}(ha:0<na)(hb:0<nb)(hx:W.cell? ⟨ba,oa,none⟩=some (.int .i64 x))(hy:W.cell? ⟨bb,ob,none⟩=some (.int .i64 y))(h1:0<=x)(h2:x<4611686018427387904)(h3:0<=y)(h4:y<4611686018427387904):Calls Tryz.prog 148 #[.slice (some ⟨ba,oa,none⟩) na ca,.slice (some ⟨bb,ob,none⟩) nb cb] W fun e w'=>e= .returned (.int .i64 (x-y))/\∃ q,w'=W.drewN q:=by
 go_enter Tryz.func148,Tryz.ntmps148
 go_wp2
 have mixed:Tryz.prog.follows .mixedOrders=true:=by kernel_rfl
 have e1:W.cell? {block:=ba,off:=oa+0}=some (.int .i64 x):=hx
 go_quiet (fail)
 go_wp2
 go_ret
 exact⟨rfl,nq,rfl⟩
open Go.RowKit Go.Sort in
theorem Tryz.sortFCalls:Go.Ev.nT Tryz.prog 147 148:=fun zs h enc blk off cap w hel hH hb=>by
 letI:Inhabited (Fin zs.length):=⟨⟨0,h.pos⟩⟩
 have hs:(Array.finRange zs.length).size=zs.length:=by simp
 have h1:Go.Proofs.OneCell enc:=fun i=>by obtain⟨_,_,_,_,e,_⟩:=hel i;rw[e];rfl
 have hO:SWO (ltOf fun i j:Fin zs.length=>zs[i]-zs[j]):={
  irrefl:=fun x=>by unfold ltOf;simp
  trans:=fun x y z=>by unfold ltOf;simp only[xq];omega
  ntrans:=fun x y z=>by unfold ltOf;simp only[xm];omega}
 have eg:∀ args w,(callFunc 148 args).run Tryz.prog w= .ok (.enter 148 args) w:=enters_of Tryz.func148 (by kernel_rfl) rfl
 have hr:CmpReads Tryz.prog 148 #[] enc (fun i j:Fin zs.length=>zs[i]-zs[j]) blk off (Array.finRange zs.length).size w:=fun m os dk hd i j=>by
  obtain⟨ba,oa,na,ca,e1,n1,d1,l1,c1⟩:=hel i
  obtain⟨bb,ob,nb,cb,e2,n2,d2,l2,c2⟩:=hel j
  have keep:∀(b o:Nat),b≠blk->b<w.heap.size->(sortWorld enc w blk off m dk os).cell? ⟨b,o,none⟩=w.cell? ⟨b,o,none⟩:=fun b o hne hlt=>by
   have g1:(sortWorld enc w blk off m dk os).heap[b]? =w.heap[b]? :=by
    show(grow (putRow enc (Sort.ahead w m) blk off dk) os).heap[b]? =_
    rw[heap_grow_old _ _ (by rw[size_putRow];exact hlt)]
    show(w.heap.modify blk _)[b]? =_
    rw[lAV,kz (fun e=>hne e.symm)]
   unfold World.cell?
   rw[g1]
  have z1:=h.rng _ (lu i.2)
  have z2:=h.rng _ (lu j.2)
  rw[e1,e2]
  exact Tryz.closure148 n1 n2 ((keep ba oa d1 l1).trans c1) ((keep bb ob d2 l2).trans c2) z1.1 z1.2 z2.1 z2.2
 have:=Any.slices_SortFunc_eq Tryz.sortL enc h1 _ hO 148 #[] blk off cap (Array.finRange zs.length) w eg hr.lays hH hb (by rw[hs];exact h.len)
 rw[hs]at this
 refine this.mono ?_
 rintro e w' ⟨rfl,n,os,rfl⟩
 refine⟨rfl,n,os,?_⟩
 unfold Go.Ev.cB
 rw[hs]
 rfl
theorem Tryz.sortFNone:Go.Ev.o7 Tryz.prog 147:=fun p cap fv w=>AnyF.slices_SortFunc_none {Tryz.sortL with} p cap fv w
theorem Tryz.sortCalls:Go.Ev.pI Tryz.prog 122:=fun blk off cap zs w hH hb hl =>
 calls_of_every_depth fun D=>AnyS.slices_Sort_int_in Tryz.lays189 D blk off cap zs w hH hb hl
open Go.RowKit Go.Lib Go.Sort
set_option maxHeartbeats 1000000 in
theorem Tryz.sign145(a b:Int)(s:Bool)(W:World):Calls Tryz.prog 145 #[.agg #[.int .i64 a,.int .i64 b,.bool s]] W fun e w'=>e= .returned (.int .i64 (Go.Ev.xU s))/\∃ q os',w'=grow (W.drewN q) os':=by
 cases s
 ·go_enter Tryz.func145,Tryz.ntmps145
  go_wp2
  go_ret
  exact⟨rfl,0,_,by rw[alloc_eq_grow];rfl⟩
 ·go_enter Tryz.func145,Tryz.ntmps145
  go_wp2
  go_ret
  exact⟨rfl,0,_,by rw[alloc_eq_grow];rfl⟩
set_option maxHeartbeats 1000000 in
theorem Tryz.or93(x y z:Int)(blk off cap:Nat)(W:World)(h0:W.cell? ⟨blk,off,none⟩=some (.int .i64 x))(h1:W.cell? ⟨blk,off+1,none⟩=some (.int .i64 y))(h2:W.cell? ⟨blk,off+2,none⟩=some (.int .i64 z)):Calls Tryz.prog 93 #[.slice (some ⟨blk,off,none⟩) 3 cap] W fun e w'=>e= .returned (.int .i64 (Go.Ev.or3 x y z))/\∃ q os',w'=grow (W.drewN q) os':=by
 have done:∀ r,r=Go.Ev.or3 x y z->(Ending.returned (Value.int .i64 r)=Ending.returned (Value.int .i64 (Go.Ev.or3 x y z))/\∃ q os',W=grow (W.drewN q) os'):=fun r h=>⟨by rw[h],0,#[],by rw[Go.Sort.grow_empty];rfl⟩
 by_cases hx:x=0
 ·subst hx
  by_cases hy:y=0
  ·subst hy
   by_cases hz:z=0
   ·subst hz
    go_enter Tryz.func93,Tryz.ntmps93
    go_wp2
    refine wp_loop_rounds 4 ?_
    rw[rounds_succ]
    go_wp2
    rw[rounds_succ]
    go_wp2
    rw[rounds_succ]
    go_wp2
    rw[rounds_succ]
    go_wp2
    go_ret
    exact done _ rfl
   ·go_enter Tryz.func93,Tryz.ntmps93
    go_wp2
    refine wp_loop_rounds 3 ?_
    rw[rounds_succ]
    go_wp2
    rw[rounds_succ]
    go_wp2
    rw[rounds_succ]
    go_wp2
    go_ret
    exact done _ (by simp[Go.Ev.or3])
  ·go_enter Tryz.func93,Tryz.ntmps93
   go_wp2
   refine wp_loop_rounds 2 ?_
   rw[rounds_succ]
   go_wp2
   rw[rounds_succ]
   go_wp2
   go_ret
   exact done _ (by simp[Go.Ev.or3,hy])
 ·go_enter Tryz.func93,Tryz.ntmps93
  go_wp2
  refine wp_loop_rounds 1 ?_
  rw[rounds_succ]
  go_wp2
  go_ret
  exact done _ (by simp[Go.Ev.or3,hx])
def GW(W w':World):Prop:=∃ q os',w'=grow (W.drewN q) os'
theorem GW.cell{W w':World}(h:GW W w'){a:Addr}{v:Value}(hc:W.cell? a=some v):w'.cell? a=some v:=by
 obtain⟨q,os,rfl⟩:=h
 have hb:a.block<W.heap.size:=by
  unfold World.cell? at hc
  rcases hx:W.heap[a.block]? with _|o
  ·rw[hx]at hc;cases hc
  ·exact(zn.1 hx).1
 unfold World.cell? at hc ⊢
 have:(grow (W.drewN q) os).heap[a.block]? =W.heap[a.block]? :=heap_grow_old _ _ hb
 rw[this];exact hc
theorem GW.refl(W:World):GW W W:=⟨0,#[],by rw[Go.Sort.grow_empty];rfl⟩
theorem GW.trans{A B C:World}(h:GW A B)(h2:GW B C):GW A C:=by
 obtain⟨q,os,rfl⟩:=h
 obtain⟨q2,os2,rfl⟩:=h2
 exact⟨q+q2,os++os2,by simp[grow,World.drewN,uk]⟩
theorem GW.alloc{A B:World}(h:GW A B)(o:Obj):GW A (B.alloc o):=h.trans ⟨0,#[o],by rw[alloc_eq_grow];rfl⟩
theorem GW.drew{A B:World}(h:GW A B):GW A B.drew:=h.trans ⟨1,#[],by rw[Go.Sort.grow_empty];rfl⟩
theorem S41.grow{x y:Go.Ev.Eg}{W w w':World}(h:w.cell? ⟨W.heap.size,0,none⟩=some (.int .i64 x.f)/\w.cell? ⟨W.heap.size,1,none⟩=some (.int .i64 x.t)/\w.cell? ⟨W.heap.size,2,none⟩=some (.bool x.s)/\w.cell? ⟨W.heap.size+1,0,none⟩=some (.int .i64 y.f)/\w.cell? ⟨W.heap.size+1,1,none⟩=some (.int .i64 y.t)/\w.cell? ⟨W.heap.size+1,2,none⟩=some (.bool y.s)/\GW W w)(g:GW w w'):w'.cell? ⟨W.heap.size,0,none⟩=some (.int .i64 x.f)/\w'.cell? ⟨W.heap.size,1,none⟩=some (.int .i64 x.t)/\w'.cell? ⟨W.heap.size,2,none⟩=some (.bool x.s)/\w'.cell? ⟨W.heap.size+1,0,none⟩=some (.int .i64 y.f)/\w'.cell? ⟨W.heap.size+1,1,none⟩=some (.int .i64 y.t)/\w'.cell? ⟨W.heap.size+1,2,none⟩=some (.bool y.s)/\GW W w':=⟨g.cell h.1,g.cell h.2.1,g.cell h.2.2.1,g.cell h.2.2.2.1,g.cell h.2.2.2.2.1,g.cell h.2.2.2.2.2.1,h.2.2.2.2.2.2.trans g⟩
theorem S41.start{x y:Go.Ev.Eg}{W:World}:((W.alloc (.cells #[.int .i64 x.f,.int .i64 x.t,.bool x.s] 169)).alloc (.cells #[.int .i64 y.f,.int .i64 y.t,.bool y.s] 169)).drew.cell? ⟨W.heap.size,0,none⟩=some (.int .i64 x.f)/\((W.alloc (.cells #[.int .i64 x.f,.int .i64 x.t,.bool x.s] 169)).alloc (.cells #[.int .i64 y.f,.int .i64 y.t,.bool y.s] 169)).drew.cell? ⟨W.heap.size,1,none⟩=some (.int .i64 x.t)/\((W.alloc (.cells #[.int .i64 x.f,.int .i64 x.t,.bool x.s] 169)).alloc (.cells #[.int .i64 y.f,.int .i64 y.t,.bool y.s] 169)).drew.cell? ⟨W.heap.size,2,none⟩=some (.bool x.s)/\((W.alloc (.cells #[.int .i64 x.f,.int .i64 x.t,.bool x.s] 169)).alloc (.cells #[.int .i64 y.f,.int .i64 y.t,.bool y.s] 169)).drew.cell? ⟨W.heap.size+1,0,none⟩=some (.int .i64 y.f)/\((W.alloc (.cells #[.int .i64 x.f,.int .i64 x.t,.bool x.s] 169)).alloc (.cells #[.int .i64 y.f,.int .i64 y.t,.bool y.s] 169)).drew.cell? ⟨W.heap.size+1,1,none⟩=some (.int .i64 y.t)/\((W.alloc (.cells #[.int .i64 x.f,.int .i64 x.t,.bool x.s] 169)).alloc (.cells #[.int .i64 y.f,.int .i64 y.t,.bool y.s] 169)).drew.cell? ⟨W.heap.size+1,2,none⟩=some (.bool y.s)/\GW W ((W.alloc (.cells #[.int .i64 x.f,.int .i64 x.t,.bool x.s] 169)).alloc (.cells #[.int .i64 y.f,.int .i64 y.t,.bool y.s] 169)).drew:=by
 refine⟨?_,?_,?_,?_,?_,?_,(((GW.refl W).alloc _).alloc _).drew⟩<;>go_simp
theorem S41.sign(x y:Go.Ev.Eg)(a b:Int)(s:Bool)(W w:World)(h:w.cell? ⟨W.heap.size,0,none⟩=some (.int .i64 x.f)/\w.cell? ⟨W.heap.size,1,none⟩=some (.int .i64 x.t)/\w.cell? ⟨W.heap.size,2,none⟩=some (.bool x.s)/\w.cell? ⟨W.heap.size+1,0,none⟩=some (.int .i64 y.f)/\w.cell? ⟨W.heap.size+1,1,none⟩=some (.int .i64 y.t)/\w.cell? ⟨W.heap.size+1,2,none⟩=some (.bool y.s)/\GW W w):Calls Tryz.prog 145 #[.agg #[.int .i64 a,.int .i64 b,.bool s]] w fun e w'=>e= .returned (.int .i64 (Go.Ev.xU s))/\w'.cell? ⟨W.heap.size,0,none⟩=some (.int .i64 x.f)/\w'.cell? ⟨W.heap.size,1,none⟩=some (.int .i64 x.t)/\w'.cell? ⟨W.heap.size,2,none⟩=some (.bool x.s)/\w'.cell? ⟨W.heap.size+1,0,none⟩=some (.int .i64 y.f)/\w'.cell? ⟨W.heap.size+1,1,none⟩=some (.int .i64 y.t)/\w'.cell? ⟨W.heap.size+1,2,none⟩=some (.bool y.s)/\GW W w':=(Tryz.sign145 a b s w).mono fun e w' h'=>⟨h'.1,S41.grow h h'.2⟩
theorem Tryz.or93a(x y z:Int)(t:TypeId)(w:World):Calls Tryz.prog 93 #[.slice (some ⟨w.heap.size,0,none⟩) 3 3] (w.alloc (.cells #[.int .i64 x,.int .i64 y,.int .i64 z] t)) fun e w'=>e= .returned (.int .i64 (Go.Ev.or3 x y z))/\GW w w':=by
 refine(Tryz.or93 x y z w.heap.size 0 3 _ ?_ ?_ ?_).mono ?_
 ·go_simp
 ·go_simp
 ·go_simp
 ·intro e w' h
  exact⟨h.1,((GW.refl w).alloc _).trans h.2⟩
theorem S41.or(x y:Go.Ev.Eg)(a b c:Int)(t:TypeId)(W w:World)(h:w.cell? ⟨W.heap.size,0,none⟩=some (.int .i64 x.f)/\w.cell? ⟨W.heap.size,1,none⟩=some (.int .i64 x.t)/\w.cell? ⟨W.heap.size,2,none⟩=some (.bool x.s)/\w.cell? ⟨W.heap.size+1,0,none⟩=some (.int .i64 y.f)/\w.cell? ⟨W.heap.size+1,1,none⟩=some (.int .i64 y.t)/\w.cell? ⟨W.heap.size+1,2,none⟩=some (.bool y.s)/\GW W w):Calls Tryz.prog 93 #[.slice (some ⟨w.heap.size,0,none⟩) 3 3] (w.alloc (.cells #[.int .i64 a,.int .i64 b,.int .i64 c] t)) fun e w'=>e= .returned (.int .i64 (Go.Ev.or3 a b c))/\w'.cell? ⟨W.heap.size,0,none⟩=some (.int .i64 x.f)/\w'.cell? ⟨W.heap.size,1,none⟩=some (.int .i64 x.t)/\w'.cell? ⟨W.heap.size,2,none⟩=some (.bool x.s)/\w'.cell? ⟨W.heap.size+1,0,none⟩=some (.int .i64 y.f)/\w'.cell? ⟨W.heap.size+1,1,none⟩=some (.int .i64 y.t)/\w'.cell? ⟨W.heap.size+1,2,none⟩=some (.bool y.s)/\GW W w':=(Tryz.or93a a b c t w).mono fun e w' h'=>⟨h'.1,S41.grow h h'.2⟩
set_option maxHeartbeats 2000000 in
theorem Tryz.compare113(x y:Go.Ev.Eg)(W:World):Calls Tryz.prog 113 #[.agg #[.int .i64 x.f,.int .i64 x.t,.bool x.s],.agg #[.int .i64 y.f,.int .i64 y.t,.bool y.s]] W fun e w'=>e= .returned (.int .i64 (Go.Ev.jJ x y))/\∃ q os',w'=grow (W.drewN q) os':=by
 have hcon:=fun a b W'=>AnyG.cmp_Compare_int Tryz.cmpInt a b W'
 change ∀a b W',Calls Tryz.prog 144 _ _ _ at hcon
 have hs0:=@S41.start x y W
 go_enter Tryz.func113,Tryz.ntmps113
 go_wp2
 go_region_held3 (fun w'=>w'.cell? ⟨W.heap.size,0,none⟩=some (.int .i64 x.f)/\w'.cell? ⟨W.heap.size,1,none⟩=some (.int .i64 x.t)/\w'.cell? ⟨W.heap.size,2,none⟩=some (.bool x.s)/\w'.cell? ⟨W.heap.size+1,0,none⟩=some (.int .i64 y.f)/\w'.cell? ⟨W.heap.size+1,1,none⟩=some (.int .i64 y.t)/\w'.cell? ⟨W.heap.size+1,2,none⟩=some (.bool y.s)/\GW W w') (first|exact hs0|assumption|(exact S41.grow ‹_› (GW.alloc (GW.refl _) _))) (first|(go_at_call 144;refine(hcon _ _ _).mono ?_;rintro e w' ⟨rfl,rfl⟩)|(go_at_call 145;refine(S41.sign x y _ _ _ W _ ?_).mono ?_;assumption;rintro e w' ⟨rfl,hs⟩;have hs0:=hs)|(go_at_call 93;refine(S41.or x y _ _ _ _ W _ hs0).mono ?_;rintro e w' ⟨rfl,hs⟩;have hs0:=hs))
 go_wp2
 go_ret
 exact⟨rfl,hs0.2.2.2.2.2.2⟩
open Go.Ev (Eg jJ cI or3 xU)
theorem z0t{a b:Bool}(h:xU a=xU b):a=b:=by cases a<;>cases b<;>first|rfl|(exact absurd h (by decide))
theorem zt2{x y:Eg}:jJ x y<0↔x.f<y.f\/(x.f=y.f/\(x.t<y.t\/(x.t=y.t/\xU x.s<xU y.s))):=by
 unfold jJ or3 cI
 constructor
 ·intro h
  repeat' split at h
  all_goals omega
 ·intro h
  repeat' split
  all_goals omega
theorem aDC{x y:Eg}:ltOf jJ x y=true↔x.f<y.f\/(x.f=y.f/\(x.t<y.t\/(x.t=y.t/\xU x.s<xU y.s))):=by
 unfold ltOf
 rw[vz]
 exact zt2
theorem zbh{x y:Eg}:ltOf jJ x y=false↔¬(x.f<y.f\/(x.f=y.f/\(x.t<y.t\/(x.t=y.t/\xU x.s<xU y.s)))):=by
 rw[<-aDC];simp
theorem aNQ:SWO (ltOf jJ) where
 irrefl x:=zbh.2 (by omega)
 trans x y z h1 h2:=aDC.2 (by have h1:=aDC.1 h1;have h2:=aDC.1 h2;omega)
 ntrans x y z h1 h2:=zbh.2 (by have h1:=zbh.1 h1;have h2:=zbh.1 h2;omega)
theorem aKI(x y:Eg)(h1:ltOf jJ x y=false)(h2:ltOf jJ y x=false):x=y:=by
 have h1:=zbh.1 h1
 have h2:=zbh.1 h2
 have a:x.f=y.f:=by omega
 have b:x.t=y.t:=by omega
 have c:xU x.s=xU y.s:=by omega
 cases x;cases y
 simp only at a b c
 rw[a,b,z0t c]
theorem Tryz.sortECalls:Go.Ev.mX Tryz.prog 114 113:=fun d blk off cap w hH hb hsz=>by
 have eg:∀ args w,(callFunc 113 args).run Tryz.prog w= .ok (.enter 113 args) w:=enters_of Tryz.func113 (by kernel_rfl) rfl
 have hcmp:CmpLays Tryz.prog 113 #[] Go.Ev.egU 3 jJ blk off d.size w:=fun m os dk _ x y=>Tryz.compare113 x y _
 refine(AnyQ.slices_SortFunc_total Tryz.sortE 3 ?_ ?_ Go.Ev.egU (fun _=>rfl) ?_ jJ aNQ 113 #[] blk off cap d w eg hcmp hH hb hsz aKI).mono ?_
 ·intro w;kernel_rfl
 ·intro w;kernel_rfl
 ·intro x v hv
  simp only[Go.Ev.egU,qg,oh,or_false]at hv
  rcases hv with rfl|rfl|rfl<;>rfl
 ·rintro e w' ⟨rfl,n,os,rfl⟩
  exact⟨rfl,n,os,rfl⟩
theorem Tryz.sortENone:Go.Ev.tV Tryz.prog 114:=fun p cap fv w=>AnyF.slices_SortFunc_none {Tryz.sortE with} p cap fv w
end Go.Proofs
end
