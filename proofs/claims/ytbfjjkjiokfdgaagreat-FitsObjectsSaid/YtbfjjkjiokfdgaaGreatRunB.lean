/-
 For FitsObjects: the sort of objects. No conditions beyond those that each theorem states.
-/
import Derived.Test.YtbfjjkjiokfdgaaGreatRunA
import Derived.Test.YtbfjjkjiokfdgaaGreatEv4
import Derived.Shelf.Small.Strs
set_option linter.unusedSimpArgs false
set_option linter.unusedVariables false
section
namespace Go.Proofs
open Go.Shelf Go.RowKit Go.Lib Go.Sort
set_option maxHeartbeats 1000000 in
theorem Tryz.orO(x y:Int)(blk off cap:Nat)(W:World)(h0:W.cell? ⟨blk,off,none⟩=some (.int .i64 x))(h1:W.cell? ⟨blk,off+1,none⟩=some (.int .i64 y)):Calls Tryz.prog 93 #[.slice (some ⟨blk,off,none⟩) 2 cap] W fun e w'=>e= .returned (.int .i64 (Go.Ev.or2 x y))/\GW W w':=by
 by_cases hx:x=0
 ·subst hx
  by_cases hy:y=0
  ·subst hy
   go_enter Tryz.func93,Tryz.ntmps93
   go_wp2
   refine wp_loop_rounds 3 ?_
   rw[rounds_succ]
   go_wp2
   rw[rounds_succ]
   go_wp2
   rw[rounds_succ]
   go_wp2
   go_ret
   exact⟨rfl,GW.refl W⟩
  ·go_enter Tryz.func93,Tryz.ntmps93
   go_wp2
   refine wp_loop_rounds 2 ?_
   rw[rounds_succ]
   go_wp2
   rw[rounds_succ]
   go_wp2
   go_ret
   exact⟨by simp[Go.Ev.or2],GW.refl W⟩
 ·go_enter Tryz.func93,Tryz.ntmps93
  go_wp2
  refine wp_loop_rounds 1 ?_
  rw[rounds_succ]
  go_wp2
  go_ret
  exact⟨by simp[Go.Ev.or2,hx],GW.refl W⟩
theorem vM.grow{a b c d:ByteArray}{W w w':World}(h:w.cell? ⟨W.heap.size,0,none⟩=some (.string a)/\w.cell? ⟨W.heap.size,1,none⟩=some (.string b)/\w.cell? ⟨W.heap.size+1,0,none⟩=some (.string c)/\w.cell? ⟨W.heap.size+1,1,none⟩=some (.string d)/\GW W w)(g:GW w w'):w'.cell? ⟨W.heap.size,0,none⟩=some (.string a)/\w'.cell? ⟨W.heap.size,1,none⟩=some (.string b)/\w'.cell? ⟨W.heap.size+1,0,none⟩=some (.string c)/\w'.cell? ⟨W.heap.size+1,1,none⟩=some (.string d)/\GW W w':=⟨g.cell h.1,g.cell h.2.1,g.cell h.2.2.1,g.cell h.2.2.2.1,h.2.2.2.2.trans g⟩
theorem vM.start{a b c d:ByteArray}{W:World}:((W.alloc (.cells #[.string a,.string b] 51)).alloc (.cells #[.string c,.string d] 51)).drew.cell? ⟨W.heap.size,0,none⟩=some (.string a)/\((W.alloc (.cells #[.string a,.string b] 51)).alloc (.cells #[.string c,.string d] 51)).drew.cell? ⟨W.heap.size,1,none⟩=some (.string b)/\((W.alloc (.cells #[.string a,.string b] 51)).alloc (.cells #[.string c,.string d] 51)).drew.cell? ⟨W.heap.size+1,0,none⟩=some (.string c)/\((W.alloc (.cells #[.string a,.string b] 51)).alloc (.cells #[.string c,.string d] 51)).drew.cell? ⟨W.heap.size+1,1,none⟩=some (.string d)/\GW W ((W.alloc (.cells #[.string a,.string b] 51)).alloc (.cells #[.string c,.string d] 51)).drew:=by
 refine⟨?_,?_,?_,?_,(((GW.refl W).alloc _).alloc _).drew⟩<;>go_simp
theorem vM.aBa{a b c d:ByteArray}{W:World}(o:Obj):(((W.alloc (.cells #[.string a,.string b] 51)).alloc (.cells #[.string c,.string d] 51)).alloc o).drew.cell? ⟨W.heap.size,0,none⟩=some (.string a)/\(((W.alloc (.cells #[.string a,.string b] 51)).alloc (.cells #[.string c,.string d] 51)).alloc o).drew.cell? ⟨W.heap.size,1,none⟩=some (.string b)/\(((W.alloc (.cells #[.string a,.string b] 51)).alloc (.cells #[.string c,.string d] 51)).alloc o).drew.cell? ⟨W.heap.size+1,0,none⟩=some (.string c)/\(((W.alloc (.cells #[.string a,.string b] 51)).alloc (.cells #[.string c,.string d] 51)).alloc o).drew.cell? ⟨W.heap.size+1,1,none⟩=some (.string d)/\GW W (((W.alloc (.cells #[.string a,.string b] 51)).alloc (.cells #[.string c,.string d] 51)).alloc o).drew:=by
 refine⟨?_,?_,?_,?_,((((GW.refl W).alloc _).alloc _).alloc _).drew⟩<;>go_simp
theorem vM.or2(a b c d:ByteArray)(x y:Int)(t:TypeId)(W:World):Calls Tryz.prog 93 #[.slice (some ⟨W.heap.size+1+1,0,none⟩) 2 2] (((W.alloc (.cells #[.string a,.string b] 51)).alloc (.cells #[.string c,.string d] 51)).alloc (.cells #[.int .i64 x,.int .i64 y] t)).drew fun e w'=>e= .returned (.int .i64 (Go.Ev.or2 x y))/\w'.cell? ⟨W.heap.size,0,none⟩=some (.string a)/\w'.cell? ⟨W.heap.size,1,none⟩=some (.string b)/\w'.cell? ⟨W.heap.size+1,0,none⟩=some (.string c)/\w'.cell? ⟨W.heap.size+1,1,none⟩=some (.string d)/\GW W w':=by
 refine(Tryz.orO x y _ _ _ _ ?_ ?_).mono ?_
 ·go_simp
 ·go_simp
 ·intro e w' h
  exact⟨h.1,vM.grow (vM.aBa _) h.2⟩
set_option maxRecDepth 100000 in
set_option maxHeartbeats 4000000 in
theorem Tryz.compare58(a b c d:ByteArray)(W:World):Calls Tryz.prog 58 #[.agg #[.string a,.string b],.agg #[.string c,.string d]] W fun e w'=>e= .returned (.int .i64 (Go.Ev.or2 (Lib.compareBytes a.data.toList c.data.toList) (Lib.compareBytes b.data.toList d.data.toList)))/\∃ q os',w'=grow (W.drewN q) os':=by
 have hcon:=fun a b W'=>Any.strings_Compare Tryz.strCmp a b W'
 change ∀a b W',Calls Tryz.prog 94 _ _ _ at hcon
 have hs0:=@vM.start a b c d W
 go_enter Tryz.func58,Tryz.ntmps58
 go_wp2
 go_region_held3 (fun w=>w.cell? ⟨W.heap.size,0,none⟩=some (.string a)/\w.cell? ⟨W.heap.size,1,none⟩=some (.string b)/\w.cell? ⟨W.heap.size+1,0,none⟩=some (.string c)/\w.cell? ⟨W.heap.size+1,1,none⟩=some (.string d)/\GW W w) (first|exact hs0|assumption|exact vM.aBa _) (first|(go_at_call 94;refine(hcon _ _ _).mono ?_;rintro e w' ⟨rfl,rfl⟩)|(go_at_call 93;refine(vM.or2 a b c d _ _ _ W).mono ?_;rintro e w' ⟨rfl,hs⟩;have hs0:=hs))
 go_wp2
 go_ret
 exact⟨rfl,hs0.2.2.2.2⟩
open Go.Ev (Ob qkf rW qt8 yQ)
theorem aC5{x y:Ob}:ltOf qkf x y=true↔rW x y:=by
 unfold ltOf
 rw[decide_eq_true_iff]
 exact qt8
theorem q7a{x y:Ob}:ltOf qkf x y=false↔¬ rW x y:=by rw[<-aC5];simp
theorem aLq:SWO (ltOf qkf) where
 irrefl x:=q7a.2 (Go.Ev.qM.irr _ _)
 trans x y z h1 h2:=aC5.2 (Go.Ev.qM.trans (aC5.1 h1) (aC5.1 h2))
 ntrans x y z h1 h2:=q7a.2 (rW.ntrans (q7a.1 h1) (q7a.1 h2))
theorem aLt(x y:Ob)(h1:ltOf qkf x y=false)(h2:ltOf qkf y x=false):x=y:=rW.tri (q7a.1 h1) (q7a.1 h2)
theorem Tryz.sortOCalls:Go.Ev.l9 Tryz.prog 96 58:=fun d blk off cap w hH hb hsz=>by
 have eg:∀ args w,(callFunc 58 args).run Tryz.prog w= .ok (.enter 58 args) w:=enters_of Tryz.func58 (by kernel_rfl) rfl
 have hcmp:CmpLays Tryz.prog 58 #[] yQ 2 qkf blk off d.size w:=fun m os dk _ x y=>Tryz.compare58 x.1 x.2 y.1 y.2 _
 refine(AnyQ.slices_SortFunc_total Tryz.sortO 2 ?_ ?_ yQ (fun _=>rfl) ?_ qkf aLq 58 #[] blk off cap d w eg hcmp hH hb hsz aLt).mono ?_
 ·intro w;kernel_rfl
 ·intro w;kernel_rfl
 ·intro x v hv
  simp only[yQ,List.mem_cons,List.not_mem_nil,or_false]at hv
  rcases hv with rfl|rfl<;>rfl
 ·rintro e w' ⟨rfl,n,os,rfl⟩
  exact⟨rfl,n,os,rfl⟩
theorem Tryz.sortONone:Go.Ev.rT Tryz.prog 96:=fun p cap fv w=>AnyF.slices_SortFunc_none {Tryz.sortO with} p cap fv w
end Go.Proofs
end
