/-
 For ReachesGoals: the library sorts. No conditions beyond those that each theorem states.
-/
import Derived.Test.YtnojgpkbpnimhaaGreatProg
import Derived.Shelf.SlSortCmp.NoneTotal
import Derived.Shelf.SlicesG.Cmp
import Derived.Shelf.Sort.AssemblyIn
import Derived.Shelf.SlGeneric
import Derived.Ground.SlsfProg
import Derived.Ground.SlgcProg
import Derived.WalkKit
import Derived.Deep.QuietTactic
import Derived.Deep.RegionHeld3
import Derived.BigQuiet
import Derived.Test.YtnojgpkbpnimhaaGreatEv3
import Derived.Test.YtnojgpkbpnimhaaGreatEv4
set_option linter.unusedSimpArgs false
set_option linter.unusedVariables false
section
namespace Go.Proofs
open Go.Shelf
set_option maxRecDepth 100000
theorem bO{P:Program}{f:FuncId}{B:Func}(a:P.funcs[f]? =some {B with name:=(P.funcs[f]?.map Func.name).getD "" }) (b:((P.funcs[f]?.map Func.name).getD "" == "runtime.NumGoroutine")=false):Bears P f B:=⟨_,b,a⟩
def Tryz.sortE_ren:Go.Shelf.Ren:=⟨fun|6=>218|15=>98|14=>246|28=>155|29=>156|20=>260|21=>261|22=>262|23=>263|24=>264|25=>265|26=>266|27=>267|46=>283|47=>199|48=>200|49=>284|50=>285|57=>304|n=>n,fun|22=>246|24=>300|25=>338|3=>3|39=>196|0=>0|53=>266|55=>268|4=>4|46=>260|45=>259|50=>167|5=>5|9=>9|66=>315|70=>319|76=>350|77=>244|n=>n,fun|n=>n⟩
theorem Tryz.sortE:Go.Proofs.SlLaysF0.n6 Tryz.prog Tryz.sortE_ren:=by constructor<;>first|kernel_rfl|exact bO (by kernel_rfl) (by kernel_rfl)|exact fun _=>by kernel_rfl
def Tryz.cmpInt_ren:Go.Shelf.Ren:=⟨fun|5=>244|7=>259|n=>n,fun|22=>3|3=>3|4=>4|n=>n,fun|n=>n⟩
theorem Tryz.cmpInt:Go.Proofs.SlLaysC2.n5 Tryz.prog Tryz.cmpInt_ren:=by constructor<;>first|kernel_rfl|exact bO (by kernel_rfl) (by kernel_rfl)|exact fun _=>by kernel_rfl
def Tryz.sortL_ren:Go.Shelf.Ren:=⟨fun|6=>247|15=>98|14=>268|28=>155|29=>156|20=>286|21=>287|22=>288|23=>289|24=>290|25=>291|26=>292|27=>293|46=>305|47=>199|48=>200|49=>306|50=>307|57=>312|n=>n,fun|22=>303|24=>40|25=>363|3=>3|39=>196|0=>0|53=>266|55=>268|4=>4|46=>260|45=>259|50=>167|5=>5|9=>9|66=>315|70=>319|76=>350|77=>244|n=>n,fun|n=>n⟩
theorem Tryz.sortL:Go.Proofs.SlLaysF.n6 Tryz.prog Tryz.sortL_ren:=by constructor<;>first|kernel_rfl|exact bO (by kernel_rfl) (by kernel_rfl)|exact fun _=>by kernel_rfl
def Tryz.lays189_ren:Go.Shelf.Ren:=⟨fun|189=>225|125=>98|257=>251|128=>155|129=>156|294=>271|295=>272|296=>273|297=>274|298=>275|299=>276|216=>277|300=>278|301=>279|328=>297|329=>199|330=>200|331=>298|332=>299|215=>259|343=>310|n=>n,fun|28=>40|3=>3|46=>196|0=>0|51=>266|53=>268|4=>4|183=>260|182=>259|131=>167|5=>5|9=>9|218=>315|222=>319|228=>350|229=>244|n=>n,fun|n=>n⟩
theorem Tryz.lays189:Go.Proofs.Lays.n189 Tryz.prog Tryz.lays189_ren:=by constructor<;>first|kernel_rfl|exact bO (by kernel_rfl) (by kernel_rfl)|exact fun _=>by kernel_rfl
def Tryz.sortT_ren:Go.Shelf.Ren:=⟨fun|6=>128|15=>98|14=>176|28=>155|29=>156|20=>209|21=>210|22=>211|23=>212|24=>213|25=>214|26=>215|27=>216|46=>241|47=>199|48=>200|49=>242|50=>243|57=>258|n=>n,fun|22=>36|24=>47|25=>146|3=>3|39=>196|0=>0|53=>266|55=>268|4=>4|46=>260|45=>259|50=>167|5=>5|9=>9|66=>315|70=>319|76=>350|77=>244|n=>n,fun|n=>n⟩
theorem Tryz.sortT:Go.Proofs.SlLaysF0.n6 Tryz.prog Tryz.sortT_ren:=by constructor<;>first|kernel_rfl|exact bO (by kernel_rfl) (by kernel_rfl)|exact fun _=>by kernel_rfl
def Tryz.strCmp_ren:Go.Shelf.Ren:=⟨fun|106=>100|213=>157|265=>203|n=>n,fun|9=>9|3=>3|n=>n,fun|n=>n⟩
theorem Tryz.strCmp:Go.Proofs.Lays.n106 Tryz.prog Tryz.strCmp_ren:=by constructor<;>first|kernel_rfl|exact bO (by kernel_rfl) (by kernel_rfl)|exact fun _=>by kernel_rfl
theorem Tryz.closure248{a b d ca f ob nb cb:Nat}{x y:Int}{W:World}(h:0<d)(i:0<nb)(g:W.cell? ⟨a,b,none⟩=some (.int .i64 x))(j:W.cell? ⟨f,ob,none⟩=some (.int .i64 y))(k:0<=x)(l:x<4611686018427387904)(m:0<=y)(n:y<4611686018427387904):Calls Tryz.prog 248 #[.slice (some ⟨a,b,none⟩) d ca,.slice (some ⟨f,ob,none⟩) nb cb] W fun e w'=>e= .returned (.int .i64 (x-y))/\∃ q,w'=W.drewN q:=by
 go_enter Tryz.func248,Tryz.ntmps248
 go_wp2
 have c:Tryz.prog.follows .mixedOrders=true:=by kernel_rfl
 have o:W.cell? {block:=a,off:=b+0}=some (.int .i64 x):=g
 go_quiet (fail)
 go_wp2
 go_ret
 exact⟨rfl,nq,rfl⟩
open Go.RowKit Go.Sort in
theorem Tryz.sortFCalls:Go.Ev.oH Tryz.prog 247 248:=fun zs h enc a c k w f u v=>by
 letI:Inhabited (Fin zs.length):=⟨⟨0,h.pos⟩⟩
 have r:(Array.finRange zs.length).size=zs.length:=by simp
 have A:Go.Proofs.OneCell enc:=fun i=>by obtain⟨_,_,_,_,e,_⟩:=f i;rw[e];rfl
 have B:SWO (ltOf fun i j:Fin zs.length=>zs[i]-zs[j]):={
  irrefl:=fun x=>by unfold ltOf;simp
  trans:=fun x y z=>by unfold ltOf;simp only[yc];omega
  ntrans:=fun x y z=>by unfold ltOf;simp only[zf];omega}
 have C:∀ args w,(callFunc 248 args).run Tryz.prog w= .ok (.enter 248 args) w:=enters_of Tryz.func248 (by kernel_rfl) rfl
 have D:CmpReads Tryz.prog 248 #[] enc (fun i j:Fin zs.length=>zs[i]-zs[j]) a c (Array.finRange zs.length).size w:=fun m g l Q i j=>by
  obtain⟨E,F,R,ca,G,H,I,l1,J⟩:=f i
  obtain⟨K,ob,nb,cb,L,M,N,O,P⟩:=f j
  have d:∀(b o:Nat),b≠a->b<w.heap.size->(sortWorld enc w a c m l g).cell? ⟨b,o,none⟩=w.cell? ⟨b,o,none⟩:=fun b o p q=>by
   have g1:(sortWorld enc w a c m l g).heap[b]? =w.heap[b]? :=by
    show(grow (putRow enc (Sort.ahead w m) a c l) g).heap[b]? =_
    rw[heap_grow_old _ _ (by rw[size_putRow];exact q)]
    show(w.heap.modify a _)[b]? =_
    rw[Array.getElem?_modify,pg (fun e=>p e.symm)]
   unfold World.cell?
   rw[g1]
  have s:=h.rng _ (lg i.2)
  have t:=h.rng _ (lg j.2)
  rw[G,L]
  exact Tryz.closure248 H M ((d E F I l1).trans J) ((d K ob N O).trans P) s.1 s.2 t.1 t.2
 have:=Any.slices_SortFunc_eq Tryz.sortL enc A _ B 248 #[] a c k (Array.finRange zs.length) w C D.lays u v (by rw[r];exact h.len)
 rw[r]at this
 refine this.mono ?_
 rintro e w' ⟨rfl,n,g,rfl⟩
 refine⟨rfl,n,g,?_⟩
 unfold Go.Ev.eB
 rw[r]
 rfl
theorem Tryz.sortFNone:Go.Ev.pW Tryz.prog 247:=fun p a fv w=>AnyF.slices_SortFunc_none {Tryz.sortL with} p a fv w
theorem Tryz.sortCalls:Go.Ev.qD Tryz.prog 225:=fun a b c zs w d e f =>
 calls_of_every_depth fun D=>AnyS.slices_Sort_int_in Tryz.lays189 D a b c zs w d e f
open Go.RowKit Go.Lib Go.Sort
set_option maxHeartbeats 1000000 in
theorem Tryz.sign245(a b:Int)(s:Bool)(W:World):Calls Tryz.prog 245 #[.agg #[.int .i64 a,.int .i64 b,.bool s]] W fun e w'=>e= .returned (.int .i64 (Go.Ev.sgB s))/\∃ q c,w'=grow (W.drewN q) c:=by
 cases s
 ·go_enter Tryz.func245,Tryz.ntmps245
  go_wp2
  go_ret
  exact⟨rfl,0,_,by rw[alloc_eq_grow];rfl⟩
 ·go_enter Tryz.func245,Tryz.ntmps245
  go_wp2
  go_ret
  exact⟨rfl,0,_,by rw[alloc_eq_grow];rfl⟩
set_option maxHeartbeats 1000000 in
theorem Tryz.or99(x y z:Int)(a b d:Nat)(W:World)(j:W.cell? ⟨a,b,none⟩=some (.int .i64 x))(k:W.cell? ⟨a,b+1,none⟩=some (.int .i64 y))(l:W.cell? ⟨a,b+2,none⟩=some (.int .i64 z)):Calls Tryz.prog 99 #[.slice (some ⟨a,b,none⟩) 3 d] W fun e w'=>e= .returned (.int .i64 (Go.Ev.or3 x y z))/\∃ q c,w'=grow (W.drewN q) c:=by
 have done:∀ r,r=Go.Ev.or3 x y z->(Ending.returned (Value.int .i64 r)=Ending.returned (Value.int .i64 (Go.Ev.or3 x y z))/\∃ q c,W=grow (W.drewN q) c):=fun r h=>⟨by rw[h],0,#[],by rw[Go.Sort.grow_empty];rfl⟩
 by_cases f:x=0
 ·subst f
  by_cases g:y=0
  ·subst g
   by_cases i:z=0
   ·subst i
    go_enter Tryz.func99,Tryz.ntmps99
    go_wp2
    refine wp_loop_rounds 4 ?_
    iterate 4 (rw[rounds_succ];go_wp2)
    go_ret
    exact done _ rfl
   ·go_enter Tryz.func99,Tryz.ntmps99
    go_wp2
    refine wp_loop_rounds 3 ?_
    iterate 3 (rw[rounds_succ];go_wp2)
    go_ret
    exact done _ (by simp[Go.Ev.or3])
  ·go_enter Tryz.func99,Tryz.ntmps99
   go_wp2
   refine wp_loop_rounds 2 ?_
   iterate 2 (rw[rounds_succ];go_wp2)
   go_ret
   exact done _ (by simp[Go.Ev.or3,g])
 ·go_enter Tryz.func99,Tryz.ntmps99
  go_wp2
  refine wp_loop_rounds 1 ?_
  rw[rounds_succ]
  go_wp2
  go_ret
  exact done _ (by simp[Go.Ev.or3,f])
def GW(W w':World):Prop:=∃ q os',w'=grow (W.drewN q) os'
theorem GW.cell{W w':World}(h:GW W w'){a:Addr}{v:Value}(b:W.cell? a=some v):w'.cell? a=some v:=by
 obtain⟨q,d,rfl⟩:=h
 have c:a.block<W.heap.size:=by
  unfold World.cell? at b
  rcases hx:W.heap[a.block]? with _|o
  ·rw[hx]at b;cases b
  ·exact(au.1 hx).1
 unfold World.cell? at b ⊢
 have:(grow (W.drewN q) d).heap[a.block]? =W.heap[a.block]? :=heap_grow_old _ _ c
 rw[this];exact b
theorem GW.refl(W:World):GW W W:=⟨0,#[],by rw[Go.Sort.grow_empty];rfl⟩
theorem GW.trans{A B C:World}(h:GW A B)(b:GW B C):GW A C:=by
 obtain⟨q,c,rfl⟩:=h
 obtain⟨q2,a,rfl⟩:=b
 exact⟨q+q2,c++a,by simp[grow,World.drewN,uu]⟩
theorem GW.alloc{A B:World}(h:GW A B)(o:Obj):GW A (B.alloc o):=h.trans ⟨0,#[o],by rw[alloc_eq_grow];rfl⟩
theorem GW.drew{A B:World}(h:GW A B):GW A B.drew:=h.trans ⟨1,#[],by rw[Go.Sort.grow_empty];rfl⟩
abbrev PE(x y:Go.Ev.Eg)(W w:World):Prop:=w.cell? ⟨W.heap.size,0,none⟩=some (.int .i64 x.f)/\w.cell? ⟨W.heap.size,1,none⟩=some (.int .i64 x.t)/\w.cell? ⟨W.heap.size,2,none⟩=some (.bool x.s)/\w.cell? ⟨W.heap.size+1,0,none⟩=some (.int .i64 y.f)/\w.cell? ⟨W.heap.size+1,1,none⟩=some (.int .i64 y.t)/\w.cell? ⟨W.heap.size+1,2,none⟩=some (.bool y.s)/\GW W w
theorem S41.grow{x y:Go.Ev.Eg}{W w w':World}(h:PE x y W w)(g:GW w w'):PE x y W w':=⟨g.cell h.1,g.cell h.2.1,g.cell h.2.2.1,g.cell h.2.2.2.1,g.cell h.2.2.2.2.1,g.cell h.2.2.2.2.2.1,h.2.2.2.2.2.2.trans g⟩
theorem S41.start{x y:Go.Ev.Eg}{W:World}:PE x y W ((W.alloc (.cells #[.int .i64 x.f,.int .i64 x.t,.bool x.s] 300)).alloc (.cells #[.int .i64 y.f,.int .i64 y.t,.bool y.s] 300)).drew:=by
 refine⟨?_,?_,?_,?_,?_,?_,(((GW.refl W).alloc _).alloc _).drew⟩<;>go_simp
theorem S41.sign(x y:Go.Ev.Eg)(a b:Int)(s:Bool)(W w:World)(h:PE x y W w):Calls Tryz.prog 245 #[.agg #[.int .i64 a,.int .i64 b,.bool s]] w fun e w'=>e= .returned (.int .i64 (Go.Ev.sgB s))/\PE x y W w':=(Tryz.sign245 a b s w).mono fun e w' c=>⟨c.1,S41.grow h c.2⟩
theorem Tryz.or99a(x y z:Int)(t:TypeId)(w:World):Calls Tryz.prog 99 #[.slice (some ⟨w.heap.size,0,none⟩) 3 3] (w.alloc (.cells #[.int .i64 x,.int .i64 y,.int .i64 z] t)) fun e w'=>e= .returned (.int .i64 (Go.Ev.or3 x y z))/\GW w w':=by
 refine(Tryz.or99 x y z w.heap.size 0 3 _ ?_ ?_ ?_).mono ?_
 ·go_simp
 ·go_simp
 ·go_simp
 ·intro e w' h
  exact⟨h.1,((GW.refl w).alloc _).trans h.2⟩
theorem S41.or(x y:Go.Ev.Eg)(a b c:Int)(t:TypeId)(W w:World)(h:PE x y W w):Calls Tryz.prog 99 #[.slice (some ⟨w.heap.size,0,none⟩) 3 3] (w.alloc (.cells #[.int .i64 a,.int .i64 b,.int .i64 c] t)) fun e w'=>e= .returned (.int .i64 (Go.Ev.or3 a b c))/\PE x y W w':=(Tryz.or99a a b c t w).mono fun e w' d=>⟨d.1,S41.grow h d.2⟩
set_option maxHeartbeats 2000000 in
theorem Tryz.compare217(x y:Go.Ev.Eg)(W:World):Calls Tryz.prog 217 #[.agg #[.int .i64 x.f,.int .i64 x.t,.bool x.s],.agg #[.int .i64 y.f,.int .i64 y.t,.bool y.s]] W fun e w'=>e= .returned (.int .i64 (Go.Ev.jX x y))/\∃ q os',w'=grow (W.drewN q) os':=by
 have hcon:=fun a b W'=>AnyG.cmp_Compare_int Tryz.cmpInt a b W'
 change ∀a b W',Calls Tryz.prog 244 _ _ _ at hcon
 have hs0:=@S41.start x y W
 go_enter Tryz.func217,Tryz.ntmps217
 go_wp2
 go_region_held3 (PE x y W) (first|exact hs0|assumption|(exact S41.grow ‹_› (GW.alloc (GW.refl _) _))) (first|(go_at_call 244;refine(hcon _ _ _).mono ?_;rintro e w' ⟨rfl,rfl⟩)|(go_at_call 245;refine(S41.sign x y _ _ _ W _ ?_).mono ?_;assumption;rintro e w' ⟨rfl,hs⟩;have hs0:=hs)|(go_at_call 99;refine(S41.or x y _ _ _ _ W _ hs0).mono ?_;rintro e w' ⟨rfl,hs⟩;have hs0:=hs))
 go_wp2
 go_ret
 exact⟨rfl,hs0.2.2.2.2.2.2⟩
open Go.Ev (Eg jX cI or3 sgB)
theorem z2h{a b:Bool}(h:sgB a=sgB b):a=b:=by cases a<;>cases b<;>first|rfl|(exact absurd h (by decide))
theorem zt2{x y:Eg}:jX x y<0↔x.f<y.f\/(x.f=y.f/\(x.t<y.t\/(x.t=y.t/\sgB x.s<sgB y.s))):=by
 unfold jX or3 cI
 constructor
 ·intro h
  repeat' split at h
  all_goals omega
 ·intro h
  repeat' split
  all_goals omega
theorem aFm{x y:Eg}:ltOf jX x y=true↔x.f<y.f\/(x.f=y.f/\(x.t<y.t\/(x.t=y.t/\sgB x.s<sgB y.s))):=by
 unfold ltOf
 rw[yl]
 exact zt2
theorem zaw{x y:Eg}:ltOf jX x y=false↔¬(x.f<y.f\/(x.f=y.f/\(x.t<y.t\/(x.t=y.t/\sgB x.s<sgB y.s)))):=by
 rw[<-aFm];simp
theorem aOG:SWO (ltOf jX) where
 irrefl x:=zaw.2 (by omega)
 trans x y z a b:=aFm.2 (by have a:=aFm.1 a;have b:=aFm.1 b;omega)
 ntrans x y z a b:=zaw.2 (by have a:=zaw.1 a;have b:=zaw.1 b;omega)
theorem aMo(x y:Eg)(d:ltOf jX x y=false)(e:ltOf jX y x=false):x=y:=by
 have d:=zaw.1 d
 have e:=zaw.1 e
 have a:x.f=y.f:=by omega
 have b:x.t=y.t:=by omega
 have c:sgB x.s=sgB y.s:=by omega
 cases x;cases y
 simp only at a b c
 rw[a,b,z2h c]
theorem Tryz.sortECalls:Go.Ev.nY Tryz.prog 218 217:=fun d a b f w j k g=>by
 have l:∀ args w,(callFunc 217 args).run Tryz.prog w= .ok (.enter 217 args) w:=enters_of Tryz.func217 (by kernel_rfl) rfl
 have c:CmpLays Tryz.prog 217 #[] Go.Ev.egU 3 jX a b d.size w:=fun m h o _ x y=>Tryz.compare217 x y _
 refine(AnyQ.slices_SortFunc_total Tryz.sortE 3 ?_ ?_ Go.Ev.egU (fun _=>rfl) ?_ jX aOG 217 #[] a b f d w l c j k g aMo).mono ?_
 ·intro w;kernel_rfl
 ·intro w;kernel_rfl
 ·intro x v i
  simp only[Go.Ev.egU,su,lEE,or_false]at i
  rcases i with rfl|rfl|rfl<;>rfl
 ·rintro e w' ⟨rfl,n,h,rfl⟩
  exact⟨rfl,n,h,rfl⟩
theorem Tryz.sortENone:Go.Ev.wR Tryz.prog 218:=fun p a fv w=>AnyF.slices_SortFunc_none {Tryz.sortE with} p a fv w
end Go.Proofs
end
