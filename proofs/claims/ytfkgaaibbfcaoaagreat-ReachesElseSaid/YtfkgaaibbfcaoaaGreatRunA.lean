/-
 For ReachesElse: the library sorts. No conditions beyond those that each theorem states.
-/
import Derived.Test.YtfkgaaibbfcaoaaGreatProg
import Derived.Shelf.SlSortCmp.NoneTotal
import Derived.Shelf.SlicesG.Cmp
import Derived.Shelf.Sort.AssemblyIn
import Derived.Shelf.SlGeneric
import Derived.Ground.SlsfProg
import Derived.Ground.SlgcProg
import Derived.WalkKit
import Derived.Deep.QuietTactic
import Derived.Deep.RegionHeld3
import Derived.BigQuiet
import Derived.Test.YtfkgaaibbfcaoaaGreatEv2
import Derived.Shelf.Small.Strs
set_option linter.all false
section
namespace Go.Proofs
open Go.Shelf
set_option maxRecDepth 100000
theorem bO{P:Program}{f:FuncId}{B:Func}(a:P.funcs[f]? =some {B with name:=(P.funcs[f]?.map Func.name).getD "" }) (b:((P.funcs[f]?.map Func.name).getD "" == "runtime.NumGoroutine")=false):Bears P f B:=⟨_,b,a⟩
def Tryz.sortE_ren:Go.Shelf.Ren:=⟨λ|6=>274|15=>150|14=>303|28=>212|29=>213|20=>317|21=>318|22=>319|23=>320|24=>321|25=>322|26=>323|27=>324|46=>340|47=>253|48=>254|49=>341|50=>342|57=>361|n=>n,λ|22=>299|24=>360|25=>400|3=>3|39=>253|0=>0|53=>325|55=>327|4=>4|46=>319|45=>318|50=>228|5=>5|9=>9|66=>376|70=>380|76=>412|77=>335|n=>n,λ|n=>n⟩
theorem Tryz.sortE:Go.Proofs.SlLaysF0.n6 Tryz.prog Tryz.sortE_ren:=by constructor<;>first|kernel_rfl|exact bO (by kernel_rfl) (by kernel_rfl)|exact λ_=>by kernel_rfl
def Tryz.cmpInt_ren:Go.Shelf.Ren:=⟨λ|5=>301|7=>316|n=>n,λ|22=>3|3=>3|4=>4|n=>n,λ|n=>n⟩
theorem Tryz.cmpInt:Go.Proofs.SlLaysC2.n5 Tryz.prog Tryz.cmpInt_ren:=by constructor<;>first|kernel_rfl|exact bO (by kernel_rfl) (by kernel_rfl)|exact λ_=>by kernel_rfl
def Tryz.sortL_ren:Go.Shelf.Ren:=⟨λ|6=>304|15=>150|14=>325|28=>212|29=>213|20=>343|21=>344|22=>345|23=>346|24=>347|25=>348|26=>349|27=>350|46=>362|47=>253|48=>254|49=>363|50=>364|57=>369|n=>n,λ|22=>363|24=>40|25=>426|3=>3|39=>253|0=>0|53=>325|55=>327|4=>4|46=>319|45=>318|50=>228|5=>5|9=>9|66=>376|70=>380|76=>412|77=>335|n=>n,λ|n=>n⟩
theorem Tryz.sortL:Go.Proofs.SlLaysF.n6 Tryz.prog Tryz.sortL_ren:=by constructor<;>first|kernel_rfl|exact bO (by kernel_rfl) (by kernel_rfl)|exact λ_=>by kernel_rfl
def Tryz.lays189_ren:Go.Shelf.Ren:=⟨λ|189=>281|125=>150|257=>308|128=>212|129=>213|294=>328|295=>329|296=>330|297=>331|298=>332|299=>333|216=>334|300=>335|301=>336|328=>354|329=>253|330=>254|331=>355|332=>356|215=>316|343=>367|n=>n,λ|28=>40|3=>3|46=>253|0=>0|51=>325|53=>327|4=>4|183=>319|182=>318|131=>228|5=>5|9=>9|218=>376|222=>380|228=>412|229=>335|n=>n,λ|n=>n⟩
theorem Tryz.lays189:Go.Proofs.Lays.n189 Tryz.prog Tryz.lays189_ren:=by constructor<;>first|kernel_rfl|exact bO (by kernel_rfl) (by kernel_rfl)|exact λ_=>by kernel_rfl
def Tryz.sortT_ren:Go.Shelf.Ren:=⟨λ|6=>185|15=>150|14=>239|28=>212|29=>213|20=>265|21=>266|22=>267|23=>268|24=>269|25=>270|26=>271|27=>272|46=>298|47=>253|48=>254|49=>299|50=>300|57=>315|n=>n,λ|22=>36|24=>77|25=>217|3=>3|39=>253|0=>0|53=>325|55=>327|4=>4|46=>319|45=>318|50=>228|5=>5|9=>9|66=>376|70=>380|76=>412|77=>335|n=>n,λ|n=>n⟩
theorem Tryz.sortT:Go.Proofs.SlLaysF0.n6 Tryz.prog Tryz.sortT_ren:=by constructor<;>first|kernel_rfl|exact bO (by kernel_rfl) (by kernel_rfl)|exact λ_=>by kernel_rfl
def Tryz.strCmp_ren:Go.Shelf.Ren:=⟨λ|106=>152|213=>214|265=>257|n=>n,λ|9=>9|3=>3|n=>n,λ|n=>n⟩
theorem Tryz.strCmp:Go.Proofs.Lays.n106 Tryz.prog Tryz.strCmp_ren:=by constructor<;>first|kernel_rfl|exact bO (by kernel_rfl) (by kernel_rfl)|exact λ_=>by kernel_rfl
variable{W:World}
theorem Tryz.closure248{a b d ca f ob nb cb:Nat}{x y:Int}(h:0<d)(i:0<nb)(g:W.cell? ⟨a,b,none⟩=some (.int .i64 x))(j:W.cell? ⟨f,ob,none⟩=some (.int .i64 y))(k:0<=x)(l:x<4611686018427387904)(m:0<=y)(n:y<4611686018427387904):Calls Tryz.prog 305 #[.slice (some ⟨a,b,none⟩) d ca,.slice (some ⟨f,ob,none⟩) nb cb] W λe w'=>e= .returned (.int .i64 (x-y))/\∃q,w'=W.drewN q:=by
 go_enter Tryz.func305,Tryz.ntmps305
 go_wp2
 have c:Tryz.prog.follows .mixedOrders=true:=by kernel_rfl
 have o:W.cell? {block:=a,off:=b+0}=some (.int .i64 x):=g
 go_quiet (fail)
 go_wp2
 go_ret
 exact⟨rfl,nq,rfl⟩
open Go.RowKit Go.Sort in
theorem Tryz.sortFCalls:Go.Ev.o7 Tryz.prog 304 305:=λzs h enc a c k w f u v=>by
 letI:Inhabited (Fin zs.length):=⟨⟨0,h.pos⟩⟩
 have r:(Array.finRange zs.length).size=zs.length:=by simp
 have A:Go.Proofs.OneCell enc:=λi=>by obtain⟨_,_,_,_,e,_⟩:=f i;rw[e];rfl
 have B:SWO (ltOf λi j:Fin zs.length=>zs[i]-zs[j]):={
  irrefl:=λx=>by unfold ltOf;simp
  trans:=λx y z=>by unfold ltOf;simp only[mE];omega
  ntrans:=λx y z=>by unfold ltOf;simp only[oq];omega}
 have C:∀args w,(callFunc 305 args).run Tryz.prog w= .ok (.enter 305 args) w:=enters_of Tryz.func305 (by kernel_rfl) rfl
 have D:CmpReads Tryz.prog 305 #[] enc (λi j:Fin zs.length=>zs[i]-zs[j]) a c (Array.finRange zs.length).size w:=λm g l Q i j=>by
  obtain⟨E,F,R,ca,G,H,I,l1,J⟩:=f i
  obtain⟨K,ob,nb,cb,L,M,N,O,P⟩:=f j
  have d:∀(b o:Nat),b≠a->b<w.heap.size->(sortWorld enc w a c m l g).cell? ⟨b,o,none⟩=w.cell? ⟨b,o,none⟩:=λb o p q=>by
   have g1:(sortWorld enc w a c m l g).heap[b]? =w.heap[b]? :=by
    show(grow (putRow enc (Sort.ahead w m) a c l) g).heap[b]? =_
    rw[heap_grow_old _ _ (by rw[size_putRow];exact q)]
    show(w.heap.modify a _)[b]? =_
    rw[Array.getElem?_modify,sy (λe=>p e.symm)]
   unfold World.cell?
   rw[g1]
  have s:=h.rng _ (sx i.2)
  have t:=h.rng _ (sx j.2)
  rw[G,L]
  exact Tryz.closure248 H M ((d E F I l1).trans J) ((d K ob N O).trans P) s.1 s.2 t.1 t.2
 have:=Any.slices_SortFunc_eq Tryz.sortL enc A _ B 305 #[] a c k (Array.finRange zs.length) w C D.lays u v (by rw[r];exact h.len)
 rw[r]at this
 refine this.mono ?_
 rintro e w' ⟨rfl,n,g,rfl⟩
 refine⟨rfl,n,g,?_⟩
 unfold Go.Ev.eD
 rw[r]
 rfl
theorem Tryz.sortFNone:Go.Ev.qL Tryz.prog 304:=λp a fv w=>AnyF.slices_SortFunc_none {Tryz.sortL with} p a fv w
theorem Tryz.sortCalls:Go.Ev.qT Tryz.prog 281:=λa b c zs w d e f =>
 calls_of_every_depth λD=>AnyS.slices_Sort_int_in Tryz.lays189 D a b c zs w d e f
open Go.RowKit Go.Lib Go.Sort
set_option maxHeartbeats 1000000 in
theorem Tryz.sign245(a b:Int)(s:Bool)(W:World):Calls Tryz.prog 302 #[.agg #[.int .i64 a,.int .i64 b,.bool s]] W λe w'=>e= .returned (.int .i64 (Go.Ev.sgB s))/\∃q c,w'=grow (W.drewN q) c:=by
 cases s
 ·go_enter Tryz.func302,Tryz.ntmps302
  go_wp2
  go_ret
  exact⟨rfl,0,_,by rw[alloc_eq_grow];rfl⟩
 ·go_enter Tryz.func302,Tryz.ntmps302
  go_wp2
  go_ret
  exact⟨rfl,0,_,by rw[alloc_eq_grow];rfl⟩
set_option maxHeartbeats 1000000 in
theorem Tryz.or99(x y z:Int)(a b d:Nat)(W:World)(j:W.cell? ⟨a,b,none⟩=some (.int .i64 x))(k:W.cell? ⟨a,b+1,none⟩=some (.int .i64 y))(l:W.cell? ⟨a,b+2,none⟩=some (.int .i64 z)):Calls Tryz.prog 151 #[.slice (some ⟨a,b,none⟩) 3 d] W λe w'=>e= .returned (.int .i64 (Go.Ev.or3 x y z))/\∃q c,w'=grow (W.drewN q) c:=by
 have done:∀r,r=Go.Ev.or3 x y z->(Ending.returned (Value.int .i64 r)=Ending.returned (Value.int .i64 (Go.Ev.or3 x y z))/\∃q c,W=grow (W.drewN q) c):=λr h=>⟨by rw[h],0,#[],by rw[Go.Sort.grow_empty];rfl⟩
 by_cases f:x=0
 ·subst f
  by_cases g:y=0
  ·subst g
   by_cases i:z=0
   ·subst i
    go_enter Tryz.func151,Tryz.ntmps151
    go_wp2
    refine wp_loop_rounds 4 ?_
    iterate 4 (rw[rounds_succ];go_wp2)
    go_ret
    exact done _ rfl
   ·go_enter Tryz.func151,Tryz.ntmps151
    go_wp2
    refine wp_loop_rounds 3 ?_
    iterate 3 (rw[rounds_succ];go_wp2)
    go_ret
    exact done _ (by simp[Go.Ev.or3])
  ·go_enter Tryz.func151,Tryz.ntmps151
   go_wp2
   refine wp_loop_rounds 2 ?_
   iterate 2 (rw[rounds_succ];go_wp2)
   go_ret
   exact done _ (by simp[Go.Ev.or3,g])
 ·go_enter Tryz.func151,Tryz.ntmps151
  go_wp2
  refine wp_loop_rounds 1 ?_
  rw[rounds_succ]
  go_wp2
  go_ret
  exact done _ (by simp[Go.Ev.or3,f])
def GW(W w':World):Prop:=∃q os',w'=grow (W.drewN q) os'
variable{w':World}
theorem GW.cell(h:GW W w'){a:Addr}{v:Value}(b:W.cell? a=some v):w'.cell? a=some v:=by
 obtain⟨q,d,rfl⟩:=h
 have c:a.block<W.heap.size:=by
  unfold World.cell? at b
  rcases hx:W.heap[a.block]? with _|o
  ·rw[hx]at b;cases b
  ·exact(lIU.1 hx).1
 unfold World.cell? at b ⊢
 have:(grow (W.drewN q) d).heap[a.block]? =W.heap[a.block]? :=heap_grow_old _ _ c
 rw[this];exact b
theorem GW.refl(W:World):GW W W:=⟨0,#[],by rw[Go.Sort.grow_empty];rfl⟩
variable{h:World}
theorem GW.trans(C:GW W w')(b:GW w' h):GW W h:=by
 obtain⟨q,c,rfl⟩:=C
 obtain⟨q2,a,rfl⟩:=b
 exact⟨q+q2,c++a,by simp[grow,World.drewN,af]⟩
theorem GW.alloc(h:GW W w')(o:Obj):GW W (w'.alloc o):=h.trans ⟨0,#[o],by rw[alloc_eq_grow];rfl⟩
theorem GW.drew(h:GW W w'):GW W w'.drew:=h.trans ⟨1,#[],by rw[Go.Sort.grow_empty];rfl⟩
abbrev PE(x y:Go.Ev.Eg)(W w:World):Prop:=w.cell? ⟨W.heap.size,0,none⟩=some (.int .i64 x.f)/\w.cell? ⟨W.heap.size,1,none⟩=some (.int .i64 x.t)/\w.cell? ⟨W.heap.size,2,none⟩=some (.bool x.s)/\w.cell? ⟨W.heap.size+1,0,none⟩=some (.int .i64 y.f)/\w.cell? ⟨W.heap.size+1,1,none⟩=some (.int .i64 y.t)/\w.cell? ⟨W.heap.size+1,2,none⟩=some (.bool y.s)/\GW W w
theorem S41.grow{x y:Go.Ev.Eg}(w:PE x y W h)(g:GW h w'):PE x y W w':=⟨g.cell w.1,g.cell w.2.1,g.cell w.2.2.1,g.cell w.2.2.2.1,g.cell w.2.2.2.2.1,g.cell w.2.2.2.2.2.1,w.2.2.2.2.2.2.trans g⟩
theorem S41.start{x y:Go.Ev.Eg}{W:World}:PE x y W ((W.alloc (.cells #[.int .i64 x.f,.int .i64 x.t,.bool x.s] 360)).alloc (.cells #[.int .i64 y.f,.int .i64 y.t,.bool y.s] 360)).drew:=by
 refine⟨?_,?_,?_,?_,?_,?_,(((GW.refl W).alloc _).alloc _).drew⟩<;>go_simp
theorem S41.sign(x y:Go.Ev.Eg)(a b:Int)(s:Bool)(W w:World)(h:PE x y W w):Calls Tryz.prog 302 #[.agg #[.int .i64 a,.int .i64 b,.bool s]] w λe w'=>e= .returned (.int .i64 (Go.Ev.sgB s))/\PE x y W w':=(Tryz.sign245 a b s w).mono λe w' c=>⟨c.1,S41.grow h c.2⟩
theorem Tryz.or99a(x y z:Int)(t:TypeId)(w:World):Calls Tryz.prog 151 #[.slice (some ⟨w.heap.size,0,none⟩) 3 3] (w.alloc (.cells #[.int .i64 x,.int .i64 y,.int .i64 z] t)) λe w'=>e= .returned (.int .i64 (Go.Ev.or3 x y z))/\GW w w':=by
 refine(Tryz.or99 x y z w.heap.size 0 3 _ ?_ ?_ ?_).mono ?_
 ·go_simp
 ·go_simp
 ·go_simp
 ·intro e w' h
  exact⟨h.1,((GW.refl w).alloc _).trans h.2⟩
theorem S41.or(x y:Go.Ev.Eg)(a b c:Int)(t:TypeId)(W w:World)(h:PE x y W w):Calls Tryz.prog 151 #[.slice (some ⟨w.heap.size,0,none⟩) 3 3] (w.alloc (.cells #[.int .i64 a,.int .i64 b,.int .i64 c] t)) λe w'=>e= .returned (.int .i64 (Go.Ev.or3 a b c))/\PE x y W w':=(Tryz.or99a a b c t w).mono λe w' d=>⟨d.1,S41.grow h d.2⟩
set_option maxHeartbeats 2000000 in
theorem Tryz.compare217(x y:Go.Ev.Eg)(W:World):Calls Tryz.prog 273 #[.agg #[.int .i64 x.f,.int .i64 x.t,.bool x.s],.agg #[.int .i64 y.f,.int .i64 y.t,.bool y.s]] W λe w'=>e= .returned (.int .i64 (Go.Ev.kK x y))/\∃q os',w'=grow (W.drewN q) os':=by
 have hcon:=λa b W'=>AnyG.cmp_Compare_int Tryz.cmpInt a b W'
 change ∀a b W',Calls Tryz.prog 301 _ _ _ at hcon
 have hs0:=@S41.start x y W
 go_enter Tryz.func273,Tryz.ntmps273
 go_wp2
 go_region_held3 (PE x y W) (first|exact hs0|assumption|(exact S41.grow ‹_› (GW.alloc (GW.refl _) _))) (first|(go_at_call 301;refine(hcon _ _ _).mono ?_;rintro e w' ⟨rfl,rfl⟩)|(go_at_call 302;refine(S41.sign x y _ _ _ W _ ?_).mono ?_;assumption;rintro e w' ⟨rfl,hs⟩;have hs0:=hs)|(go_at_call 151;refine(S41.or x y _ _ _ _ W _ hs0).mono ?_;rintro e w' ⟨rfl,hs⟩;have hs0:=hs))
 go_wp2
 go_ret
 exact⟨rfl,hs0.2.2.2.2.2.2⟩
open Go.Ev (Eg kK cI or3 sgB)
theorem z0g{a b:Bool}(h:sgB a=sgB b):a=b:=by cases a<;>cases b<;>first|rfl|(exact absurd h (by decide))
variable{N O:Eg}
theorem zvz:kK N O<0↔N.f<O.f\/(N.f=O.f/\(N.t<O.t\/(N.t=O.t/\sgB N.s<sgB O.s))):=by
 unfold kK or3 cI
 constructor
 ·intro h
  repeat' split at h
  all_goals omega
 ·intro h
  repeat' split
  all_goals omega
theorem aF5:ltOf kK N O=true↔N.f<O.f\/(N.f=O.f/\(N.t<O.t\/(N.t=O.t/\sgB N.s<sgB O.s))):=by
 unfold ltOf
 rw[gp]
 exact zvz
theorem zca:ltOf kK N O=false↔¬(N.f<O.f\/(N.f=O.f/\(N.t<O.t\/(N.t=O.t/\sgB N.s<sgB O.s)))):=by
 rw[<-aF5];simp
theorem aPK:SWO (ltOf kK) where
 irrefl x:=zca.2 (by omega)
 trans x y z a b:=aF5.2 (by have a:=aF5.1 a;have b:=aF5.1 b;omega)
 ntrans x y z a b:=zca.2 (by have a:=zca.1 a;have b:=zca.1 b;omega)
theorem PY(x y:Eg)(d:ltOf kK x y=false)(e:ltOf kK y x=false):x=y:=by
 have d:=zca.1 d
 have e:=zca.1 e
 have a:x.f=y.f:=by omega
 have b:x.t=y.t:=by omega
 have c:sgB x.s=sgB y.s:=by omega
 cases x;cases y
 simp only at a b c
 rw[a,b,z0g c]
theorem Tryz.sortECalls:Go.Ev.oO Tryz.prog 274 273:=λd a b f w j k g=>by
 have l:∀args w,(callFunc 273 args).run Tryz.prog w= .ok (.enter 273 args) w:=enters_of Tryz.func273 (by kernel_rfl) rfl
 have c:CmpLays Tryz.prog 273 #[] Go.Ev.egU 3 kK a b d.size w:=λm h o _ x y=>Tryz.compare217 x y _
 refine(AnyQ.slices_SortFunc_total Tryz.sortE 3 ?_ ?_ Go.Ev.egU (λ_=>rfl) ?_ kK aPK 273 #[] a b f d w l c j k g PY).mono ?_
 ·intro w;kernel_rfl
 ·intro w;kernel_rfl
 ·intro x v i
  simp only[Go.Ev.egU,lE4,List.not_mem_nil,or_false]at i
  rcases i with rfl|rfl|rfl<;>rfl
 ·rintro e w' ⟨rfl,n,h,rfl⟩
  exact⟨rfl,n,h,rfl⟩
theorem Tryz.sortENone:Go.Ev.xA Tryz.prog 274:=λp a fv w=>AnyF.slices_SortFunc_none {Tryz.sortE with} p a fv w
open Go.RowKit Go.Lib Go.Sort
set_option maxHeartbeats 1000000 in
theorem Tryz.orO(x y:Int)(a b c:Nat)(W:World)(g:W.cell? ⟨a,b,none⟩=some (.int .i64 x))(h:W.cell? ⟨a,b+1,none⟩=some (.int .i64 y)):Calls Tryz.prog 151 #[.slice (some ⟨a,b,none⟩) 2 c] W λe w'=>e= .returned (.int .i64 (Go.Ev.uT x y))/\GW W w':=by
 by_cases d:x=0
 ·subst d
  by_cases f:y=0
  ·subst f
   go_enter Tryz.func151,Tryz.ntmps151
   go_wp2
   refine wp_loop_rounds 3 ?_
   iterate 3 (rw[rounds_succ];go_wp2)
   go_ret
   exact⟨rfl,GW.refl W⟩
  ·go_enter Tryz.func151,Tryz.ntmps151
   go_wp2
   refine wp_loop_rounds 2 ?_
   iterate 2 (rw[rounds_succ];go_wp2)
   go_ret
   exact⟨by simp[Go.Ev.uT],GW.refl W⟩
 ·go_enter Tryz.func151,Tryz.ntmps151
  go_wp2
  refine wp_loop_rounds 1 ?_
  rw[rounds_succ]
  go_wp2
  go_ret
  exact⟨by simp[Go.Ev.uT,d],GW.refl W⟩
theorem Tryz.orOa(x y:Int)(t:TypeId)(w:World):Calls Tryz.prog 151 #[.slice (some ⟨w.heap.size,0,none⟩) 2 2] (w.alloc (.cells #[.int .i64 x,.int .i64 y] t)) λe w'=>e= .returned (.int .i64 (Go.Ev.uT x y))/\GW w w':=by
 refine(Tryz.orO x y w.heap.size 0 2 _ ?_ ?_).mono ?_
 ·go_simp
 ·go_simp
 ·intro e w' h
  exact⟨h.1,((GW.refl w).alloc _).trans h.2⟩
abbrev P2(a b c d:ByteArray)(W w:World):Prop:=w.cell? ⟨W.heap.size,0,none⟩=some (.string a)/\w.cell? ⟨W.heap.size,1,none⟩=some (.string b)/\w.cell? ⟨W.heap.size+1,0,none⟩=some (.string c)/\w.cell? ⟨W.heap.size+1,1,none⟩=some (.string d)/\GW W w
variable{D E F I:ByteArray}
theorem aAg.grow(w:P2 D E F I W h)(g:GW h w'):P2 D E F I W w':=⟨g.cell w.1,g.cell w.2.1,g.cell w.2.2.1,g.cell w.2.2.2.1,w.2.2.2.2.trans g⟩
theorem aAg.start{a b c d:ByteArray}{W:World}:P2 a b c d W ((W.alloc (.cells #[.string a,.string b] 29)).alloc (.cells #[.string c,.string d] 29)).drew:=by
 refine⟨?_,?_,?_,?_,(((GW.refl W).alloc _).alloc _).drew⟩<;>go_simp
theorem aAg.aDM(o:Obj):P2 D E F I W (((W.alloc (.cells #[.string D,.string E] 29)).alloc (.cells #[.string F,.string I] 29)).alloc o).drew:=by
 refine⟨?_,?_,?_,?_,((((GW.refl W).alloc _).alloc _).alloc _).drew⟩<;>go_simp
theorem aAg.uT(a b c d:ByteArray)(x y:Int)(t:TypeId)(W:World):Calls Tryz.prog 151 #[.slice (some ⟨W.heap.size+1+1,0,none⟩) 2 2] (((W.alloc (.cells #[.string a,.string b] 29)).alloc (.cells #[.string c,.string d] 29)).alloc (.cells #[.int .i64 x,.int .i64 y] t)).drew λe w'=>e= .returned (.int .i64 (Go.Ev.uT x y))/\P2 a b c d W w':=by
 refine(Tryz.orO x y _ _ _ _ ?_ ?_).mono ?_
 ·go_simp
 ·go_simp
 ·intro e w' h
  exact⟨h.1,aAg.grow (aAg.aDM _) h.2⟩
set_option maxRecDepth 100000 in
set_option maxHeartbeats 4000000 in
theorem Tryz.compare47(a b c d:ByteArray)(W:World):Calls Tryz.prog 102 #[.agg #[.string a,.string b],.agg #[.string c,.string d]] W λe w'=>e= .returned (.int .i64 (Go.Ev.uT (Lib.compareBytes a.data.toList c.data.toList) (Lib.compareBytes b.data.toList d.data.toList)))/\∃q os',w'=grow (W.drewN q) os':=by
 have hcon:=λa b W'=>Any.strings_Compare Tryz.strCmp a b W'
 change ∀a b W',Calls Tryz.prog 152 _ _ _ at hcon
 have hs0:=@aAg.start a b c d W
 go_enter Tryz.func102,Tryz.ntmps102
 go_wp2
 go_region_held3 (P2 a b c d W) (first|exact hs0|assumption|exact aAg.aDM _) (first|(go_at_call 152;refine(hcon _ _ _).mono ?_;rintro e w' ⟨rfl,rfl⟩)|(go_at_call 151;refine(aAg.uT a b c d _ _ _ W).mono ?_;rintro e w' ⟨rfl,hs⟩;have hs0:=hs))
 go_wp2
 go_ret
 exact⟨rfl,hs0.2.2.2.2⟩
abbrev P3(a b c x y z:ByteArray)(W w:World):Prop:=w.cell? ⟨W.heap.size,0,none⟩=some (.string a)/\w.cell? ⟨W.heap.size,1,none⟩=some (.string b)/\w.cell? ⟨W.heap.size,2,none⟩=some (.string c)/\w.cell? ⟨W.heap.size+1,0,none⟩=some (.string x)/\w.cell? ⟨W.heap.size+1,1,none⟩=some (.string y)/\w.cell? ⟨W.heap.size+1,2,none⟩=some (.string z)/\GW W w
variable{J M:ByteArray}
theorem zU.grow(w:P3 D E F I J M W h)(g:GW h w'):P3 D E F I J M W w':=⟨g.cell w.1,g.cell w.2.1,g.cell w.2.2.1,g.cell w.2.2.2.1,g.cell w.2.2.2.2.1,g.cell w.2.2.2.2.2.1,w.2.2.2.2.2.2.trans g⟩
theorem zU.start{a b c x y z:ByteArray}{W:World}:P3 a b c x y z W ((W.alloc (.cells #[.string a,.string b,.string c] 31)).alloc (.cells #[.string x,.string y,.string z] 31)).drew:=by
 refine⟨?_,?_,?_,?_,?_,?_,(((GW.refl W).alloc _).alloc _).drew⟩<;>go_simp
set_option maxRecDepth 100000 in
set_option maxHeartbeats 4000000 in
theorem Tryz.compare177(a b c x y z:ByteArray)(W:World):Calls Tryz.prog 240 #[.agg #[.string a,.string b,.string c],.agg #[.string x,.string y,.string z]] W λe w'=>e= .returned (.int .i64 (Go.Ev.uT (Go.Ev.uT (Lib.compareBytes a.data.toList x.data.toList) (Lib.compareBytes b.data.toList y.data.toList)) (Lib.compareBytes c.data.toList z.data.toList)))/\GW W w':=by
 have hcon:=λa b W'=>Any.strings_Compare Tryz.strCmp a b W'
 change ∀a b W',Calls Tryz.prog 152 _ _ _ at hcon
 have hs0:=@zU.start a b c x y z W
 go_enter Tryz.func240,Tryz.ntmps240
 go_wp2
 go_region_held3 (P3 a b c x y z W) (first|exact hs0|assumption|exact zU.grow (by assumption) ((GW.refl _).alloc _)) (first|(go_at_call 102;refine(Tryz.compare47 _ _ _ _ _).mono ?_;rintro e w' ⟨rfl,hg⟩;have hs0:=zU.grow (by assumption) hg)|(go_at_call 152;refine(hcon _ _ _).mono ?_;rintro e w' ⟨rfl,rfl⟩)|(go_at_call 151;refine(Tryz.orOa _ _ _ _).mono ?_;rintro e w' ⟨rfl,hg⟩;have hs0:=zU.grow (by assumption) hg))
 go_wp2
 go_ret
 exact⟨rfl,hs0.2.2.2.2.2.2⟩
set_option maxRecDepth 100000 in
theorem Tryz.compare178(a b c x y z:ByteArray)(W:World):Calls Tryz.prog 241 #[.agg #[.string a,.string b,.string c],.agg #[.string x,.string y,.string z]] W λe w'=>e= .returned (.int .i64 (Go.Ev.uT (Go.Ev.uT (Lib.compareBytes a.data.toList x.data.toList) (Lib.compareBytes b.data.toList y.data.toList)) (Lib.compareBytes c.data.toList z.data.toList)))/\GW W w':=by
 go_enter Tryz.func241,Tryz.ntmps241
 go_wp2_with (go_at_call 240;refine(Tryz.compare177 a b c x y z _).mono ?_;rintro e w' ⟨rfl,hg⟩)
 go_wp2
 go_ret
 exact⟨rfl,(((GW.refl W).alloc _).alloc _).trans hg⟩
abbrev P6(a b c d p q x y z u v r:ByteArray)(W w:World):Prop:=w.cell? ⟨W.heap.size,0,none⟩=some (.string a)/\w.cell? ⟨W.heap.size,1,none⟩=some (.string b)/\w.cell? ⟨W.heap.size,2,none⟩=some (.string c)/\w.cell? ⟨W.heap.size,3,none⟩=some (.string d)/\w.cell? ⟨W.heap.size,4,none⟩=some (.string p)/\w.cell? ⟨W.heap.size,5,none⟩=some (.string q)/\w.cell? ⟨W.heap.size+1,0,none⟩=some (.string x)/\w.cell? ⟨W.heap.size+1,1,none⟩=some (.string y)/\w.cell? ⟨W.heap.size+1,2,none⟩=some (.string z)/\w.cell? ⟨W.heap.size+1,3,none⟩=some (.string u)/\w.cell? ⟨W.heap.size+1,4,none⟩=some (.string v)/\w.cell? ⟨W.heap.size+1,5,none⟩=some (.string r)/\GW W w
theorem wD.grow{x y z u v r:ByteArray}(w:P6 D E F I J M x y z u v r W h)(g:GW h w'):P6 D E F I J M x y z u v r W w':=⟨g.cell w.1,g.cell w.2.1,g.cell w.2.2.1,g.cell w.2.2.2.1,g.cell w.2.2.2.2.1,g.cell w.2.2.2.2.2.1,g.cell w.2.2.2.2.2.2.1,g.cell w.2.2.2.2.2.2.2.1,g.cell w.2.2.2.2.2.2.2.2.1,g.cell w.2.2.2.2.2.2.2.2.2.1,g.cell w.2.2.2.2.2.2.2.2.2.2.1,g.cell w.2.2.2.2.2.2.2.2.2.2.2.1,w.2.2.2.2.2.2.2.2.2.2.2.2.trans g⟩
theorem wD.start{a b c d p q x y z u v r:ByteArray}{W:World}:P6 a b c d p q x y z u v r W ((W.alloc (.cells #[.string a,.string b,.string c,.string d,.string p,.string q] 77)).alloc (.cells #[.string x,.string y,.string z,.string u,.string v,.string r] 77)).drew:=by
 refine⟨?_,?_,?_,?_,?_,?_,?_,?_,?_,?_,?_,?_,(((GW.refl W).alloc _).alloc _).drew⟩<;>go_simp
set_option maxRecDepth 100000 in
set_option maxHeartbeats 4000000 in
theorem Tryz.compare129(a b c d p q x y z u v r:ByteArray)(W:World):Calls Tryz.prog 186 #[.agg #[.string a,.string b,.string c,.string d,.string p,.string q],.agg #[.string x,.string y,.string z,.string u,.string v,.string r]] W λe w'=>e= .returned (.int .i64 (Go.Ev.uT (Go.Ev.uT (Go.Ev.uT (Lib.compareBytes a.data.toList x.data.toList) (Lib.compareBytes b.data.toList y.data.toList)) (Lib.compareBytes c.data.toList z.data.toList)) (Go.Ev.uT (Go.Ev.uT (Lib.compareBytes d.data.toList u.data.toList) (Lib.compareBytes p.data.toList v.data.toList)) (Lib.compareBytes q.data.toList r.data.toList))))/\GW W w':=by
 have hcon:=λa b W'=>Any.strings_Compare Tryz.strCmp a b W'
 change ∀a b W',Calls Tryz.prog 152 _ _ _ at hcon
 have hs0:=@wD.start a b c d p q x y z u v r W
 go_enter Tryz.func186,Tryz.ntmps186
 go_wp2
 go_region_held3 (P6 a b c d p q x y z u v r W) (first|exact hs0|assumption|exact wD.grow (by assumption) ((GW.refl _).alloc _)) (first|(go_at_call 240;refine(Tryz.compare177 _ _ _ _ _ _ _).mono ?_;rintro e w' ⟨rfl,hg⟩;have hs0:=wD.grow (by assumption) hg)|(go_at_call 241;refine(Tryz.compare178 _ _ _ _ _ _ _).mono ?_;rintro e w' ⟨rfl,hg⟩;have hs0:=wD.grow (by assumption) hg)|(go_at_call 151;refine(Tryz.orOa _ _ _ _).mono ?_;rintro e w' ⟨rfl,hg⟩;have hs0:=wD.grow (by assumption) hg))
 go_wp2
 go_ret
 exact⟨rfl,hs0.2.2.2.2.2.2.2.2.2.2.2.2⟩
open Go.Ev (Tb zB qcj eW)
theorem aD0{x y:Tb}:ltOf zB x y=true↔zB x y<0:=by unfold ltOf;rw[gp]
theorem zl0{x y:Tb}:ltOf zB x y=false↔¬zB x y<0:=by rw[<-aD0];simp
theorem XU(x y:Tb)(a:ltOf zB x y=false)(b:ltOf zB y x=false):x=y:=by
 rw[zl0]at a b
 have:=qcj.n (x:=y) (y:=x)
 exact qcj.z.1 (by omega)
theorem aNT:SWO (ltOf zB) where
 irrefl x:=zl0.2 (by rw[qcj.z.2 rfl];omega)
 trans x y z h1 h2:=aD0.2 (qcj.t (aD0.1 h1) (aD0.1 h2))
 ntrans x y z h1 h2:=zl0.2 λh=>by
  cases a:ltOf zB y x with
  |true=>exact zl0.1 h2 (qcj.t (aD0.1 a) h)
  |false =>
   have:=XU x y h1 a
   subst this
   exact zl0.1 h2 h
theorem Tryz.sortTCalls:Go.Ev.oU Tryz.prog 185 186:=λd a b f w j k g=>by
 have l:∀args w,(callFunc 186 args).run Tryz.prog w= .ok (.enter 186 args) w:=enters_of Tryz.func186 (by kernel_rfl) rfl
 have c:CmpLays Tryz.prog 186 #[] eW 6 zB a b d.size w:=λm h o _ x y=>Tryz.compare129 _ _ _ _ _ _ _ _ _ _ _ _ _
 refine(AnyQ.slices_SortFunc_total Tryz.sortT 6 ?_ ?_ eW (λ_=>rfl) ?_ zB aNT 186 #[] a b f d w l c j k g XU).mono ?_
 ·intro w;kernel_rfl
 ·intro w;kernel_rfl
 ·intro x v i
  simp only[eW,Go.Ev.b3U,qg,au,lE4,List.not_mem_nil,or_false]at i
  rcases i with rfl|rfl|rfl|rfl|rfl|rfl<;>rfl
 ·rintro e w' ⟨rfl,n,h,rfl⟩
  exact⟨rfl,n,h,rfl⟩
theorem Tryz.sortTNone:Go.Ev.wZ Tryz.prog 185:=λp a fv w=>AnyF.slices_SortFunc_none {Tryz.sortT with} p a fv w
end Go.Proofs
end
