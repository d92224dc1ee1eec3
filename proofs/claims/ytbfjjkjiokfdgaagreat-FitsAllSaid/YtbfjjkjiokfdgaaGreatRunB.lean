/-
 For countersign/countersignlaw20.FitsAll: the sort of objects. No conditions beyond those that each theorem states.
-/
import Derived.Test.YtbfjjkjiokfdgaaGreatRunA
import Derived.Test.YtbfjjkjiokfdgaaGreatEv4
import Derived.Shelf.Small.Strs
set_option linter.unusedSimpArgs false
set_option linter.unusedVariables false
section
namespace Go.Proofs
open Go.Shelf Go.RowKit Go.Lib Go.Sort
set_option maxHeartbeats 1000000 in
theorem Tryz.orO(x y:Int)(blk off cap:Nat)(W:World)(h0:W.cell? ⟨blk,off,none⟩=some (.int .i64 x))(h1:W.cell? ⟨blk,off+1,none⟩=some (.int .i64 y)):Calls Tryz.prog 93 #[.slice (some ⟨blk,off,none⟩) 2 cap] W fun e w'=>e= .returned (.int .i64 (Go.Ev.or2 x y))/\GW W w':=by
 by_cases hx:x=0
 ·subst hx
  by_cases hy:y=0
  ·subst hy
   go_enter Tryz.func93,Tryz.ntmps93
   go_wp2
   refine wp_loop_rounds 3 ?_
   rw[rounds_succ]
   go_wp2
   rw[rounds_succ]
   go_wp2
   rw[rounds_succ]
   go_wp2
   go_ret
   exact⟨rfl,GW.refl W⟩
  ·go_enter Tryz.func93,Tryz.ntmps93
   go_wp2
   refine wp_loop_rounds 2 ?_
   rw[rounds_succ]
   go_wp2
   rw[rounds_succ]
   go_wp2
   go_ret
   exact⟨by simp[Go.Ev.or2],GW.refl W⟩
 ·go_enter Tryz.func93,Tryz.ntmps93
  go_wp2
  refine wp_loop_rounds 1 ?_
  rw[rounds_succ]
  go_wp2
  go_ret
  exact⟨by simp[Go.Ev.or2,hx],GW.refl W⟩
theorem wV.grow{a b c d:ByteArray}{W w w':World}(h:w.cell? ⟨W.heap.size,0,none⟩=some (.string a)/\w.cell? ⟨W.heap.size,1,none⟩=some (.string b)/\w.cell? ⟨W.heap.size+1,0,none⟩=some (.string c)/\w.cell? ⟨W.heap.size+1,1,none⟩=some (.string d)/\GW W w)(g:GW w w'):w'.cell? ⟨W.heap.size,0,none⟩=some (.string a)/\w'.cell? ⟨W.heap.size,1,none⟩=some (.string b)/\w'.cell? ⟨W.heap.size+1,0,none⟩=some (.string c)/\w'.cell? ⟨W.heap.size+1,1,none⟩=some (.string d)/\GW W w':=⟨g.cell h.1,g.cell h.2.1,g.cell h.2.2.1,g.cell h.2.2.2.1,h.2.2.2.2.trans g⟩
theorem wV.start{a b c d:ByteArray}{W:World}:((W.alloc (.cells #[.string a,.string b] 51)).alloc (.cells #[.string c,.string d] 51)).drew.cell? ⟨W.heap.size,0,none⟩=some (.string a)/\((W.alloc (.cells #[.string a,.string b] 51)).alloc (.cells #[.string c,.string d] 51)).drew.cell? ⟨W.heap.size,1,none⟩=some (.string b)/\((W.alloc (.cells #[.string a,.string b] 51)).alloc (.cells #[.string c,.string d] 51)).drew.cell? ⟨W.heap.size+1,0,none⟩=some (.string c)/\((W.alloc (.cells #[.string a,.string b] 51)).alloc (.cells #[.string c,.string d] 51)).drew.cell? ⟨W.heap.size+1,1,none⟩=some (.string d)/\GW W ((W.alloc (.cells #[.string a,.string b] 51)).alloc (.cells #[.string c,.string d] 51)).drew:=by
 refine⟨?_,?_,?_,?_,(((GW.refl W).alloc _).alloc _).drew⟩<;>go_simp
theorem wV.aBV{a b c d:ByteArray}{W:World}(o:Obj):(((W.alloc (.cells #[.string a,.string b] 51)).alloc (.cells #[.string c,.string d] 51)).alloc o).drew.cell? ⟨W.heap.size,0,none⟩=some (.string a)/\(((W.alloc (.cells #[.string a,.string b] 51)).alloc (.cells #[.string c,.string d] 51)).alloc o).drew.cell? ⟨W.heap.size,1,none⟩=some (.string b)/\(((W.alloc (.cells #[.string a,.string b] 51)).alloc (.cells #[.string c,.string d] 51)).alloc o).drew.cell? ⟨W.heap.size+1,0,none⟩=some (.string c)/\(((W.alloc (.cells #[.string a,.string b] 51)).alloc (.cells #[.string c,.string d] 51)).alloc o).drew.cell? ⟨W.heap.size+1,1,none⟩=some (.string d)/\GW W (((W.alloc (.cells #[.string a,.string b] 51)).alloc (.cells #[.string c,.string d] 51)).alloc o).drew:=by
 refine⟨?_,?_,?_,?_,((((GW.refl W).alloc _).alloc _).alloc _).drew⟩<;>go_simp
theorem wV.or2(a b c d:ByteArray)(x y:Int)(t:TypeId)(W:World):Calls Tryz.prog 93 #[.slice (some ⟨W.heap.size+1+1,0,none⟩) 2 2] (((W.alloc (.cells #[.string a,.string b] 51)).alloc (.cells #[.string c,.string d] 51)).alloc (.cells #[.int .i64 x,.int .i64 y] t)).drew fun e w'=>e= .returned (.int .i64 (Go.Ev.or2 x y))/\w'.cell? ⟨W.heap.size,0,none⟩=some (.string a)/\w'.cell? ⟨W.heap.size,1,none⟩=some (.string b)/\w'.cell? ⟨W.heap.size+1,0,none⟩=some (.string c)/\w'.cell? ⟨W.heap.size+1,1,none⟩=some (.string d)/\GW W w':=by
 refine(Tryz.orO x y _ _ _ _ ?_ ?_).mono ?_
 ·go_simp
 ·go_simp
 ·intro e w' h
  exact⟨h.1,wV.grow (wV.aBV _) h.2⟩
set_option maxRecDepth 100000 in
set_option maxHeartbeats 4000000 in
theorem Tryz.compare58(a b c d:ByteArray)(W:World):Calls Tryz.prog 58 #[.agg #[.string a,.string b],.agg #[.string c,.string d]] W fun e w'=>e= .returned (.int .i64 (Go.Ev.or2 (Lib.compareBytes a.data.toList c.data.toList) (Lib.compareBytes b.data.toList d.data.toList)))/\∃ q os',w'=grow (W.drewN q) os':=by
 have hcon:=fun a b W'=>Any.strings_Compare Tryz.strCmp a b W'
 change ∀a b W',Calls Tryz.prog 94 _ _ _ at hcon
 have hs0:=@wV.start a b c d W
 go_enter Tryz.func58,Tryz.ntmps58
 go_wp2
 go_region_held3 (fun w=>w.cell? ⟨W.heap.size,0,none⟩=some (.string a)/\w.cell? ⟨W.heap.size,1,none⟩=some (.string b)/\w.cell? ⟨W.heap.size+1,0,none⟩=some (.string c)/\w.cell? ⟨W.heap.size+1,1,none⟩=some (.string d)/\GW W w) (first|exact hs0|assumption|exact wV.aBV _) (first|(go_at_call 94;refine(hcon _ _ _).mono ?_;rintro e w' ⟨rfl,rfl⟩)|(go_at_call 93;refine(wV.or2 a b c d _ _ _ W).mono ?_;rintro e w' ⟨rfl,hs⟩;have hs0:=hs))
 go_wp2
 go_ret
 exact⟨rfl,hs0.2.2.2.2⟩
open Go.Ev (Ob qlt tT qw9 obU)
theorem aDV{x y:Ob}:ltOf qlt x y=true↔tT x y:=by
 unfold ltOf
 rw[vz]
 exact qw9
theorem zbg{x y:Ob}:ltOf qlt x y=false↔¬ tT x y:=by rw[<-aDV];simp
theorem aMu:SWO (ltOf qlt) where
 irrefl x:=zbg.2 (Go.Ev.rR.irr _ _)
 trans x y z h1 h2:=aDV.2 (Go.Ev.rR.trans (aDV.1 h1) (aDV.1 h2))
 ntrans x y z h1 h2:=zbg.2 (tT.ntrans (zbg.1 h1) (zbg.1 h2))
theorem aK4(x y:Ob)(h1:ltOf qlt x y=false)(h2:ltOf qlt y x=false):x=y:=tT.tri (zbg.1 h1) (zbg.1 h2)
theorem Tryz.sortOCalls:Go.Ev.nE Tryz.prog 96 58:=fun d blk off cap w hH hb hsz=>by
 have eg:∀ args w,(callFunc 58 args).run Tryz.prog w= .ok (.enter 58 args) w:=enters_of Tryz.func58 (by kernel_rfl) rfl
 have hcmp:CmpLays Tryz.prog 58 #[] obU 2 qlt blk off d.size w:=fun m os dk _ x y=>Tryz.compare58 x.1 x.2 y.1 y.2 _
 refine(AnyQ.slices_SortFunc_total Tryz.sortO 2 ?_ ?_ obU (fun _=>rfl) ?_ qlt aMu 58 #[] blk off cap d w eg hcmp hH hb hsz aK4).mono ?_
 ·intro w;kernel_rfl
 ·intro w;kernel_rfl
 ·intro x v hv
  simp only[obU,qg,oh,or_false]at hv
  rcases hv with rfl|rfl<;>rfl
 ·rintro e w' ⟨rfl,n,os,rfl⟩
  exact⟨rfl,n,os,rfl⟩
theorem Tryz.sortONone:Go.Ev.tJ Tryz.prog 96:=fun p cap fv w=>AnyF.slices_SortFunc_none {Tryz.sortO with} p cap fv w
end Go.Proofs
end
