/-
 For ReachesGoals: the sort of tuples. No conditions beyond those that each theorem states.
-/
import Derived.Test.YtnojgpkbpnimhaaGreatRunA
import Derived.Test.YtnojgpkbpnimhaaGreatEv4
import Derived.Shelf.Small.Strs
import Derived.WalkKit
import Derived.Deep.QuietTactic
import Derived.Deep.RegionHeld3
import Derived.BigQuiet
set_option linter.unusedSimpArgs false
set_option linter.unusedVariables false
section
namespace Go.Proofs
open Go.Shelf Go.RowKit Go.Lib Go.Sort
set_option maxHeartbeats 1000000 in
theorem Tryz.orO(x y:Int)(a b c:Nat)(W:World)(g:W.cell? ⟨a,b,none⟩=some (.int .i64 x))(h:W.cell? ⟨a,b+1,none⟩=some (.int .i64 y)):Calls Tryz.prog 99 #[.slice (some ⟨a,b,none⟩) 2 c] W fun e w'=>e= .returned (.int .i64 (Go.Ev.uI x y))/\GW W w':=by
 by_cases d:x=0
 ·subst d
  by_cases f:y=0
  ·subst f
   go_enter Tryz.func99,Tryz.ntmps99
   go_wp2
   refine wp_loop_rounds 3 ?_
   iterate 3 (rw[rounds_succ];go_wp2)
   go_ret
   exact⟨rfl,GW.refl W⟩
  ·go_enter Tryz.func99,Tryz.ntmps99
   go_wp2
   refine wp_loop_rounds 2 ?_
   iterate 2 (rw[rounds_succ];go_wp2)
   go_ret
   exact⟨by simp[Go.Ev.uI],GW.refl W⟩
 ·go_enter Tryz.func99,Tryz.ntmps99
  go_wp2
  refine wp_loop_rounds 1 ?_
  rw[rounds_succ]
  go_wp2
  go_ret
  exact⟨by simp[Go.Ev.uI,d],GW.refl W⟩
theorem Tryz.orOa(x y:Int)(t:TypeId)(w:World):Calls Tryz.prog 99 #[.slice (some ⟨w.heap.size,0,none⟩) 2 2] (w.alloc (.cells #[.int .i64 x,.int .i64 y] t)) fun e w'=>e= .returned (.int .i64 (Go.Ev.uI x y))/\GW w w':=by
 refine(Tryz.orO x y w.heap.size 0 2 _ ?_ ?_).mono ?_
 ·go_simp
 ·go_simp
 ·intro e w' h
  exact⟨h.1,((GW.refl w).alloc _).trans h.2⟩
abbrev P2(a b c d:ByteArray)(W w:World):Prop:=w.cell? ⟨W.heap.size,0,none⟩=some (.string a)/\w.cell? ⟨W.heap.size,1,none⟩=some (.string b)/\w.cell? ⟨W.heap.size+1,0,none⟩=some (.string c)/\w.cell? ⟨W.heap.size+1,1,none⟩=some (.string d)/\GW W w
theorem zY.grow{a b c d:ByteArray}{W w w':World}(h:P2 a b c d W w)(g:GW w w'):P2 a b c d W w':=⟨g.cell h.1,g.cell h.2.1,g.cell h.2.2.1,g.cell h.2.2.2.1,h.2.2.2.2.trans g⟩
theorem zY.start{a b c d:ByteArray}{W:World}:P2 a b c d W ((W.alloc (.cells #[.string a,.string b] 29)).alloc (.cells #[.string c,.string d] 29)).drew:=by
 refine⟨?_,?_,?_,?_,(((GW.refl W).alloc _).alloc _).drew⟩<;>go_simp
theorem zY.aDF{a b c d:ByteArray}{W:World}(o:Obj):P2 a b c d W (((W.alloc (.cells #[.string a,.string b] 29)).alloc (.cells #[.string c,.string d] 29)).alloc o).drew:=by
 refine⟨?_,?_,?_,?_,((((GW.refl W).alloc _).alloc _).alloc _).drew⟩<;>go_simp
theorem zY.uI(a b c d:ByteArray)(x y:Int)(t:TypeId)(W:World):Calls Tryz.prog 99 #[.slice (some ⟨W.heap.size+1+1,0,none⟩) 2 2] (((W.alloc (.cells #[.string a,.string b] 29)).alloc (.cells #[.string c,.string d] 29)).alloc (.cells #[.int .i64 x,.int .i64 y] t)).drew fun e w'=>e= .returned (.int .i64 (Go.Ev.uI x y))/\P2 a b c d W w':=by
 refine(Tryz.orO x y _ _ _ _ ?_ ?_).mono ?_
 ·go_simp
 ·go_simp
 ·intro e w' h
  exact⟨h.1,zY.grow (zY.aDF _) h.2⟩
set_option maxRecDepth 100000 in
set_option maxHeartbeats 4000000 in
theorem Tryz.compare47(a b c d:ByteArray)(W:World):Calls Tryz.prog 47 #[.agg #[.string a,.string b],.agg #[.string c,.string d]] W fun e w'=>e= .returned (.int .i64 (Go.Ev.uI (Lib.compareBytes a.data.toList c.data.toList) (Lib.compareBytes b.data.toList d.data.toList)))/\∃ q os',w'=grow (W.drewN q) os':=by
 have hcon:=fun a b W'=>Any.strings_Compare Tryz.strCmp a b W'
 change ∀a b W',Calls Tryz.prog 100 _ _ _ at hcon
 have hs0:=@zY.start a b c d W
 go_enter Tryz.func47,Tryz.ntmps47
 go_wp2
 go_region_held3 (P2 a b c d W) (first|exact hs0|assumption|exact zY.aDF _) (first|(go_at_call 100;refine(hcon _ _ _).mono ?_;rintro e w' ⟨rfl,rfl⟩)|(go_at_call 99;refine(zY.uI a b c d _ _ _ W).mono ?_;rintro e w' ⟨rfl,hs⟩;have hs0:=hs))
 go_wp2
 go_ret
 exact⟨rfl,hs0.2.2.2.2⟩
abbrev P3(a b c x y z:ByteArray)(W w:World):Prop:=w.cell? ⟨W.heap.size,0,none⟩=some (.string a)/\w.cell? ⟨W.heap.size,1,none⟩=some (.string b)/\w.cell? ⟨W.heap.size,2,none⟩=some (.string c)/\w.cell? ⟨W.heap.size+1,0,none⟩=some (.string x)/\w.cell? ⟨W.heap.size+1,1,none⟩=some (.string y)/\w.cell? ⟨W.heap.size+1,2,none⟩=some (.string z)/\GW W w
theorem y8.grow{a b c x y z:ByteArray}{W w w':World}(h:P3 a b c x y z W w)(g:GW w w'):P3 a b c x y z W w':=⟨g.cell h.1,g.cell h.2.1,g.cell h.2.2.1,g.cell h.2.2.2.1,g.cell h.2.2.2.2.1,g.cell h.2.2.2.2.2.1,h.2.2.2.2.2.2.trans g⟩
theorem y8.start{a b c x y z:ByteArray}{W:World}:P3 a b c x y z W ((W.alloc (.cells #[.string a,.string b,.string c] 31)).alloc (.cells #[.string x,.string y,.string z] 31)).drew:=by
 refine⟨?_,?_,?_,?_,?_,?_,(((GW.refl W).alloc _).alloc _).drew⟩<;>go_simp
set_option maxRecDepth 100000 in
set_option maxHeartbeats 4000000 in
theorem Tryz.compare177(a b c x y z:ByteArray)(W:World):Calls Tryz.prog 177 #[.agg #[.string a,.string b,.string c],.agg #[.string x,.string y,.string z]] W fun e w'=>e= .returned (.int .i64 (Go.Ev.uI (Go.Ev.uI (Lib.compareBytes a.data.toList x.data.toList) (Lib.compareBytes b.data.toList y.data.toList)) (Lib.compareBytes c.data.toList z.data.toList)))/\GW W w':=by
 have hcon:=fun a b W'=>Any.strings_Compare Tryz.strCmp a b W'
 change ∀a b W',Calls Tryz.prog 100 _ _ _ at hcon
 have hs0:=@y8.start a b c x y z W
 go_enter Tryz.func177,Tryz.ntmps177
 go_wp2
 go_region_held3 (P3 a b c x y z W) (first|exact hs0|assumption|exact y8.grow (by assumption) ((GW.refl _).alloc _)) (first|(go_at_call 47;refine(Tryz.compare47 _ _ _ _ _).mono ?_;rintro e w' ⟨rfl,hg⟩;have hs0:=y8.grow (by assumption) hg)|(go_at_call 100;refine(hcon _ _ _).mono ?_;rintro e w' ⟨rfl,rfl⟩)|(go_at_call 99;refine(Tryz.orOa _ _ _ _).mono ?_;rintro e w' ⟨rfl,hg⟩;have hs0:=y8.grow (by assumption) hg))
 go_wp2
 go_ret
 exact⟨rfl,hs0.2.2.2.2.2.2⟩
set_option maxRecDepth 100000 in
theorem Tryz.compare178(a b c x y z:ByteArray)(W:World):Calls Tryz.prog 178 #[.agg #[.string a,.string b,.string c],.agg #[.string x,.string y,.string z]] W fun e w'=>e= .returned (.int .i64 (Go.Ev.uI (Go.Ev.uI (Lib.compareBytes a.data.toList x.data.toList) (Lib.compareBytes b.data.toList y.data.toList)) (Lib.compareBytes c.data.toList z.data.toList)))/\GW W w':=by
 go_enter Tryz.func178,Tryz.ntmps178
 go_wp2_with (go_at_call 177;refine(Tryz.compare177 a b c x y z _).mono ?_;rintro e w' ⟨rfl,hg⟩)
 go_wp2
 go_ret
 exact⟨rfl,(((GW.refl W).alloc _).alloc _).trans hg⟩
abbrev P6(a b c d p q x y z u v r:ByteArray)(W w:World):Prop:=w.cell? ⟨W.heap.size,0,none⟩=some (.string a)/\w.cell? ⟨W.heap.size,1,none⟩=some (.string b)/\w.cell? ⟨W.heap.size,2,none⟩=some (.string c)/\w.cell? ⟨W.heap.size,3,none⟩=some (.string d)/\w.cell? ⟨W.heap.size,4,none⟩=some (.string p)/\w.cell? ⟨W.heap.size,5,none⟩=some (.string q)/\w.cell? ⟨W.heap.size+1,0,none⟩=some (.string x)/\w.cell? ⟨W.heap.size+1,1,none⟩=some (.string y)/\w.cell? ⟨W.heap.size+1,2,none⟩=some (.string z)/\w.cell? ⟨W.heap.size+1,3,none⟩=some (.string u)/\w.cell? ⟨W.heap.size+1,4,none⟩=some (.string v)/\w.cell? ⟨W.heap.size+1,5,none⟩=some (.string r)/\GW W w
theorem vU.grow{a b c d p q x y z u v r:ByteArray}{W w w':World}(h:P6 a b c d p q x y z u v r W w)(g:GW w w'):P6 a b c d p q x y z u v r W w':=⟨g.cell h.1,g.cell h.2.1,g.cell h.2.2.1,g.cell h.2.2.2.1,g.cell h.2.2.2.2.1,g.cell h.2.2.2.2.2.1,g.cell h.2.2.2.2.2.2.1,g.cell h.2.2.2.2.2.2.2.1,g.cell h.2.2.2.2.2.2.2.2.1,g.cell h.2.2.2.2.2.2.2.2.2.1,g.cell h.2.2.2.2.2.2.2.2.2.2.1,g.cell h.2.2.2.2.2.2.2.2.2.2.2.1,h.2.2.2.2.2.2.2.2.2.2.2.2.trans g⟩
theorem vU.start{a b c d p q x y z u v r:ByteArray}{W:World}:P6 a b c d p q x y z u v r W ((W.alloc (.cells #[.string a,.string b,.string c,.string d,.string p,.string q] 47)).alloc (.cells #[.string x,.string y,.string z,.string u,.string v,.string r] 47)).drew:=by
 refine⟨?_,?_,?_,?_,?_,?_,?_,?_,?_,?_,?_,?_,(((GW.refl W).alloc _).alloc _).drew⟩<;>go_simp
set_option maxRecDepth 100000 in
set_option maxHeartbeats 4000000 in
theorem Tryz.compare129(a b c d p q x y z u v r:ByteArray)(W:World):Calls Tryz.prog 129 #[.agg #[.string a,.string b,.string c,.string d,.string p,.string q],.agg #[.string x,.string y,.string z,.string u,.string v,.string r]] W fun e w'=>e= .returned (.int .i64 (Go.Ev.uI (Go.Ev.uI (Go.Ev.uI (Lib.compareBytes a.data.toList x.data.toList) (Lib.compareBytes b.data.toList y.data.toList)) (Lib.compareBytes c.data.toList z.data.toList)) (Go.Ev.uI (Go.Ev.uI (Lib.compareBytes d.data.toList u.data.toList) (Lib.compareBytes p.data.toList v.data.toList)) (Lib.compareBytes q.data.toList r.data.toList))))/\GW W w':=by
 have hcon:=fun a b W'=>Any.strings_Compare Tryz.strCmp a b W'
 change ∀a b W',Calls Tryz.prog 100 _ _ _ at hcon
 have hs0:=@vU.start a b c d p q x y z u v r W
 go_enter Tryz.func129,Tryz.ntmps129
 go_wp2
 go_region_held3 (P6 a b c d p q x y z u v r W) (first|exact hs0|assumption|exact vU.grow (by assumption) ((GW.refl _).alloc _)) (first|(go_at_call 177;refine(Tryz.compare177 _ _ _ _ _ _ _).mono ?_;rintro e w' ⟨rfl,hg⟩;have hs0:=vU.grow (by assumption) hg)|(go_at_call 178;refine(Tryz.compare178 _ _ _ _ _ _ _).mono ?_;rintro e w' ⟨rfl,hg⟩;have hs0:=vU.grow (by assumption) hg)|(go_at_call 99;refine(Tryz.orOa _ _ _ _).mono ?_;rintro e w' ⟨rfl,hg⟩;have hs0:=vU.grow (by assumption) hg))
 go_wp2
 go_ret
 exact⟨rfl,hs0.2.2.2.2.2.2.2.2.2.2.2.2⟩
open Go.Ev (Tb yN qcg tbU)
theorem aDN{x y:Tb}:ltOf yN x y=true↔yN x y<0:=by unfold ltOf;rw[yl]
theorem zks{x y:Tb}:ltOf yN x y=false↔¬ yN x y<0:=by rw[<-aDN];simp
theorem z6c(x y:Tb)(a:ltOf yN x y=false)(b:ltOf yN y x=false):x=y:=by
 rw[zks]at a b
 have:=qcg.n (x:=y) (y:=x)
 exact qcg.z.1 (by omega)
theorem aMX:SWO (ltOf yN) where
 irrefl x:=zks.2 (by rw[qcg.z.2 rfl];omega)
 trans x y z h1 h2:=aDN.2 (qcg.t (aDN.1 h1) (aDN.1 h2))
 ntrans x y z h1 h2:=zks.2 fun h=>by
  cases a:ltOf yN y x with
  |true=>exact zks.1 h2 (qcg.t (aDN.1 a) h)
  |false =>
   have:=z6c x y h1 a
   subst this
   exact zks.1 h2 h
theorem Tryz.sortTCalls:Go.Ev.oC Tryz.prog 128 129:=fun d a b f w j k g=>by
 have l:∀ args w,(callFunc 129 args).run Tryz.prog w= .ok (.enter 129 args) w:=enters_of Tryz.func129 (by kernel_rfl) rfl
 have c:CmpLays Tryz.prog 129 #[] tbU 6 yN a b d.size w:=fun m h o _ x y=>Tryz.compare129 _ _ _ _ _ _ _ _ _ _ _ _ _
 refine(AnyQ.slices_SortFunc_total Tryz.sortT 6 ?_ ?_ tbU (fun _=>rfl) ?_ yN aMX 129 #[] a b f d w l c j k g z6c).mono ?_
 ·intro w;kernel_rfl
 ·intro w;kernel_rfl
 ·intro x v i
  simp only[tbU,Go.Ev.b3U,lA7,yj,su,lEE,or_false]at i
  rcases i with rfl|rfl|rfl|rfl|rfl|rfl<;>rfl
 ·rintro e w' ⟨rfl,n,h,rfl⟩
  exact⟨rfl,n,h,rfl⟩
theorem Tryz.sortTNone:Go.Ev.wO Tryz.prog 128:=fun p a fv w=>AnyF.slices_SortFunc_none {Tryz.sortT with} p a fv w
end Go.Proofs
end
