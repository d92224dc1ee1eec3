/-
 For GraphsOf: the library sort of edges. No conditions beyond those that each theorem states.
-/
import Derived.Test.YtigaopnmpflgmaaGreatProg
import Derived.Shelf.SlSortCmp.NoneTotal
import Derived.Shelf.SlicesG.Cmp
import Derived.Shelf.SlGeneric
import Derived.Ground.SlsfProg
import Derived.Ground.SlgcProg
import Derived.WalkKit
import Derived.Deep.QuietTactic
import Derived.Deep.RegionHeld3
import Derived.BigQuiet
import Derived.Test.YtigaopnmpflgmaaGreatEv4
set_option linter.unusedSimpArgs false
set_option linter.unusedVariables false
section
namespace Go.Proofs
open Go.Shelf
def Tryz.sortE_ren : Go.Shelf.Ren := ⟨fun | 6 => 62 | 15 => 84 | 14 => 83 | 28 => 107 | 29 => 108 | 20 => 99 | 21 => 100 | 22 => 101 | 23 => 102 | 24 => 103 | 25 => 104 | 26 => 105 | 27 => 106 | 46 => 119 | 47 => 120 | 48 => 121 | 49 => 122 | 50 => 123 | 57 => 129 | n => n, fun | 22 => 33 | 24 => 63 | 25 => 108 | 3 => 3 | 39 => 163 | 0 => 0 | 53 => 195 | 55 => 197 | 4 => 4 | 46 => 189 | 45 => 188 | 50 => 148 | 5 => 5 | 9 => 9 | 66 => 210 | 70 => 214 | 76 => 220 | 77 => 217 | n => n, fun | n => n⟩
theorem Tryz.sortE : Go.Proofs.SlLaysF0.n6 Tryz.prog Tryz.sortE_ren := {
 mixed := by kernel_rfl
 f6 := ⟨Tryz.f62.name, by decide, Tryz.func62.trans (congrArg some (by kernel_rfl))⟩
 f14 := ⟨Tryz.f83.name, by decide, Tryz.func83.trans (congrArg some (by kernel_rfl))⟩
 f15 := Tryz.func84.trans (congrArg some (by kernel_rfl))
 f20 := ⟨Tryz.f99.name, by decide, Tryz.func99.trans (congrArg some (by kernel_rfl))⟩
 f21 := ⟨Tryz.f100.name, by decide, Tryz.func100.trans (congrArg some (by kernel_rfl))⟩
 f22 := ⟨Tryz.f101.name, by decide, Tryz.func101.trans (congrArg some (by kernel_rfl))⟩
 f23 := ⟨Tryz.f102.name, by decide, Tryz.func102.trans (congrArg some (by kernel_rfl))⟩
 f24 := ⟨Tryz.f103.name, by decide, Tryz.func103.trans (congrArg some (by kernel_rfl))⟩
 f25 := ⟨Tryz.f104.name, by decide, Tryz.func104.trans (congrArg some (by kernel_rfl))⟩
 f26 := ⟨Tryz.f105.name, by decide, Tryz.func105.trans (congrArg some (by kernel_rfl))⟩
 f27 := ⟨Tryz.f106.name, by decide, Tryz.func106.trans (congrArg some (by kernel_rfl))⟩
 f28 := Tryz.func107.trans (congrArg some (by kernel_rfl))
 f29 := Tryz.func108.trans (congrArg some (by kernel_rfl))
 f46 := ⟨Tryz.f119.name, by decide, Tryz.func119.trans (congrArg some (by kernel_rfl))⟩
 f47 := Tryz.func120.trans (congrArg some (by kernel_rfl))
 f48 := Tryz.func121.trans (congrArg some (by kernel_rfl))
 f49 := ⟨Tryz.f122.name, by decide, Tryz.func122.trans (congrArg some (by kernel_rfl))⟩
 f50 := ⟨Tryz.f123.name, by decide, Tryz.func123.trans (congrArg some (by kernel_rfl))⟩
 f57 := ⟨Tryz.f129.name, by decide, Tryz.func129.trans (congrArg some (by kernel_rfl))⟩
 t0 := Tryz.underlying0
 a0 := Tryz.isAgg0
 z0 := Tryz.sizeOf0
 v0 := Tryz.zeroValue0
 t3 := Tryz.underlying3
 a3 := Tryz.isAgg3
 z3 := Tryz.sizeOf3
 v3 := Tryz.zeroValue3
 t4 := Tryz.underlying4
 a4 := Tryz.isAgg4
 z4 := Tryz.sizeOf4
 v4 := Tryz.zeroValue4
 t5 := Tryz.underlying5
 a5 := Tryz.isAgg5
 z5 := Tryz.sizeOf5
 v5 := Tryz.zeroValue5
 t9 := Tryz.underlying9
 a9 := Tryz.isAgg9
 z9 := Tryz.sizeOf9
 v9 := Tryz.zeroValue9
 t22 := Tryz.underlying33
 a22 := Tryz.isAgg33
 z22 := Tryz.sizeOf33
 v22 := Tryz.zeroValue33
 t25 := Tryz.underlying108
 a25 := Tryz.isAgg108
 z25 := Tryz.sizeOf108
 v25 := Tryz.zeroValue108
 t39 := Tryz.underlying163
 a39 := Tryz.isAgg163
 z39 := Tryz.sizeOf163
 v39 := Tryz.zeroValue163
 t45 := Tryz.underlying188
 a45 := Tryz.isAgg188
 z45 := Tryz.sizeOf188
 v45 := Tryz.zeroValue188
 t46 := Tryz.underlying189
 a46 := Tryz.isAgg189
 z46 := Tryz.sizeOf189
 v46 := Tryz.zeroValue189
 t50 := Tryz.underlying148
 a50 := Tryz.isAgg148
 z50 := Tryz.sizeOf148
 v50 := Tryz.zeroValue148
 t53 := Tryz.underlying195
 a53 := Tryz.isAgg195
 z53 := Tryz.sizeOf195
 v53 := Tryz.zeroValue195
 t55 := Tryz.underlying197
 a55 := Tryz.isAgg197
 z55 := Tryz.sizeOf197
 v55 := Tryz.zeroValue197
 t66 := Tryz.underlying210
 a66 := Tryz.isAgg210
 z66 := Tryz.sizeOf210
 v66 := Tryz.zeroValue210
 t70 := Tryz.underlying214
 a70 := Tryz.isAgg214
 z70 := Tryz.sizeOf214
 v70 := Tryz.zeroValue214
 t76 := Tryz.underlying220
 a76 := Tryz.isAgg220
 z76 := Tryz.sizeOf220
 v76 := Tryz.zeroValue220
 t77 := Tryz.underlying217
 a77 := Tryz.isAgg217
 z77 := Tryz.sizeOf217
 v77 := Tryz.zeroValue217 }
def Tryz.cmpInt_ren : Go.Shelf.Ren := ⟨fun | 5 => 65 | 7 => 85 | n => n, fun | 22 => 3 | 3 => 3 | 4 => 4 | n => n, fun | n => n⟩
theorem Tryz.cmpInt : Go.Proofs.SlLaysC2.n5 Tryz.prog Tryz.cmpInt_ren := {
 mixed := by kernel_rfl
 f5 := ⟨Tryz.f65.name, by decide, Tryz.func65.trans (congrArg some (by kernel_rfl))⟩
 f7 := ⟨Tryz.f85.name, by decide, Tryz.func85.trans (congrArg some (by kernel_rfl))⟩
 t3 := Tryz.underlying3
 a3 := Tryz.isAgg3
 z3 := Tryz.sizeOf3
 v3 := Tryz.zeroValue3
 t4 := Tryz.underlying4
 a4 := Tryz.isAgg4
 z4 := Tryz.sizeOf4
 v4 := Tryz.zeroValue4
 t22 := Tryz.underlying3
 a22 := Tryz.isAgg3
 z22 := Tryz.sizeOf3
 v22 := Tryz.zeroValue3 }
open Go.RowKit Go.Lib Go.Sort
set_option maxHeartbeats 1000000 in
theorem Tryz.sign66 (a b : Int) (s : Bool) (W : World) : Calls Tryz.prog 66 #[.agg #[.int .i64 a, .int .i64 b, .bool s]] W fun e w' => e = .returned (.int .i64 (Go.Ev.sgB s)) ∧ ∃ q os', w' = grow (W.drewN q) os' := by
 cases s
 ·go_enter Tryz.func66, Tryz.ntmps66
  go_wp2
  go_ret
  exact ⟨rfl, 0, _, by rw [alloc_eq_grow]; rfl⟩
 ·go_enter Tryz.func66, Tryz.ntmps66
  go_wp2
  go_ret
  exact ⟨rfl, 0, _, by rw [alloc_eq_grow]; rfl⟩
set_option maxHeartbeats 1000000 in
theorem Tryz.or64 (x y z : Int) (blk off cap : Nat) (W : World) (h0 : W.cell? ⟨blk, off, none⟩ = some (.int .i64 x)) (h1 : W.cell? ⟨blk, off + 1, none⟩ = some (.int .i64 y)) (h2 : W.cell? ⟨blk, off + 2, none⟩ = some (.int .i64 z)) : Calls Tryz.prog 64 #[.slice (some ⟨blk, off, none⟩) 3 cap] W fun e w' => e = .returned (.int .i64 (Go.Ev.or3 x y z)) ∧ ∃ q os', w' = grow (W.drewN q) os' := by
 have done : ∀ r, r = Go.Ev.or3 x y z → (Ending.returned (Value.int .i64 r) = Ending.returned (Value.int .i64 (Go.Ev.or3 x y z)) ∧ ∃ q os', W = grow (W.drewN q) os') := fun r h => ⟨by rw [h], 0, #[], by rw [Go.Sort.grow_empty]; rfl⟩
 by_cases hx : x = 0
 ·subst hx
  by_cases hy : y = 0
  ·subst hy
   by_cases hz : z = 0
   ·subst hz
    go_enter Tryz.func64, Tryz.ntmps64
    go_wp2
    refine wp_loop_rounds 4 ?_
    rw [rounds_succ]
    go_wp2
    rw [rounds_succ]
    go_wp2
    rw [rounds_succ]
    go_wp2
    rw [rounds_succ]
    go_wp2
    go_ret
    exact done _ rfl
   ·go_enter Tryz.func64, Tryz.ntmps64
    go_wp2
    refine wp_loop_rounds 3 ?_
    rw [rounds_succ]
    go_wp2
    rw [rounds_succ]
    go_wp2
    rw [rounds_succ]
    go_wp2
    go_ret
    exact done _ (by simp [Go.Ev.or3])
  ·go_enter Tryz.func64, Tryz.ntmps64
   go_wp2
   refine wp_loop_rounds 2 ?_
   rw [rounds_succ]
   go_wp2
   rw [rounds_succ]
   go_wp2
   go_ret
   exact done _ (by simp [Go.Ev.or3, hy])
 ·go_enter Tryz.func64, Tryz.ntmps64
  go_wp2
  refine wp_loop_rounds 1 ?_
  rw [rounds_succ]
  go_wp2
  go_ret
  exact done _ (by simp [Go.Ev.or3, hx])
def GW (W w' : World) : Prop := ∃ q os', w' = grow (W.drewN q) os'
theorem GW.cell {W w' : World} (h : GW W w') {a : Addr} {v : Value} (hc : W.cell? a = some v) : w'.cell? a = some v := by
 obtain ⟨q, os, rfl⟩ := h
 have hb : a.block < W.heap.size := by
  unfold World.cell? at hc
  rcases hx : W.heap[a.block]? with _ | o
  ·rw [hx] at hc; cases hc
  ·exact (Array.getElem?_eq_some_iff.1 hx).1
 unfold World.cell? at hc ⊢
 have : (grow (W.drewN q) os).heap[a.block]? = W.heap[a.block]? := heap_grow_old _ _ hb
 rw [this]; exact hc
theorem GW.refl (W : World) : GW W W := ⟨0, #[], by rw [Go.Sort.grow_empty]; rfl⟩
theorem GW.trans {A B C : World} (h : GW A B) (h2 : GW B C) : GW A C := by
 obtain ⟨q, os, rfl⟩ := h
 obtain ⟨q2, os2, rfl⟩ := h2
 exact ⟨q + q2, os ++ os2, by simp [grow, World.drewN, Nat.add_assoc]⟩
theorem GW.alloc {A B : World} (h : GW A B) (o : Obj) : GW A (B.alloc o) := h.trans ⟨0, #[o], by rw [alloc_eq_grow]; rfl⟩
theorem GW.drew {A B : World} (h : GW A B) : GW A B.drew := h.trans ⟨1, #[], by rw [Go.Sort.grow_empty]; rfl⟩
theorem S41.grow {x y : Go.Ev.Eg} {W w w' : World} (h : w.cell? ⟨W.heap.size, 0, none⟩ = some (.int .i64 x.f) ∧ w.cell? ⟨W.heap.size, 1, none⟩ = some (.int .i64 x.t) ∧ w.cell? ⟨W.heap.size, 2, none⟩ = some (.bool x.s) ∧ w.cell? ⟨W.heap.size + 1, 0, none⟩ = some (.int .i64 y.f) ∧ w.cell? ⟨W.heap.size + 1, 1, none⟩ = some (.int .i64 y.t) ∧ w.cell? ⟨W.heap.size + 1, 2, none⟩ = some (.bool y.s) ∧ GW W w) (g : GW w w') : w'.cell? ⟨W.heap.size, 0, none⟩ = some (.int .i64 x.f) ∧ w'.cell? ⟨W.heap.size, 1, none⟩ = some (.int .i64 x.t) ∧ w'.cell? ⟨W.heap.size, 2, none⟩ = some (.bool x.s) ∧ w'.cell? ⟨W.heap.size + 1, 0, none⟩ = some (.int .i64 y.f) ∧ w'.cell? ⟨W.heap.size + 1, 1, none⟩ = some (.int .i64 y.t) ∧ w'.cell? ⟨W.heap.size + 1, 2, none⟩ = some (.bool y.s) ∧ GW W w' := ⟨g.cell h.1, g.cell h.2.1, g.cell h.2.2.1, g.cell h.2.2.2.1, g.cell h.2.2.2.2.1, g.cell h.2.2.2.2.2.1, h.2.2.2.2.2.2.trans g⟩
theorem S41.start {x y : Go.Ev.Eg} {W : World} : ((W.alloc (.cells #[.int .i64 x.f, .int .i64 x.t, .bool x.s] 63)).alloc (.cells #[.int .i64 y.f, .int .i64 y.t, .bool y.s] 63)).drew.cell? ⟨W.heap.size, 0, none⟩ = some (.int .i64 x.f) ∧ ((W.alloc (.cells #[.int .i64 x.f, .int .i64 x.t, .bool x.s] 63)).alloc (.cells #[.int .i64 y.f, .int .i64 y.t, .bool y.s] 63)).drew.cell? ⟨W.heap.size, 1, none⟩ = some (.int .i64 x.t) ∧ ((W.alloc (.cells #[.int .i64 x.f, .int .i64 x.t, .bool x.s] 63)).alloc (.cells #[.int .i64 y.f, .int .i64 y.t, .bool y.s] 63)).drew.cell? ⟨W.heap.size, 2, none⟩ = some (.bool x.s) ∧ ((W.alloc (.cells #[.int .i64 x.f, .int .i64 x.t, .bool x.s] 63)).alloc (.cells #[.int .i64 y.f, .int .i64 y.t, .bool y.s] 63)).drew.cell? ⟨W.heap.size + 1, 0, none⟩ = some (.int .i64 y.f) ∧ ((W.alloc (.cells #[.int .i64 x.f, .int .i64 x.t, .bool x.s] 63)).alloc (.cells #[.int .i64 y.f, .int .i64 y.t, .bool y.s] 63)).drew.cell? ⟨W.heap.size + 1, 1, none⟩ = some (.int .i64 y.t) ∧ ((W.alloc (.cells #[.int .i64 x.f, .int .i64 x.t, .bool x.s] 63)).alloc (.cells #[.int .i64 y.f, .int .i64 y.t, .bool y.s] 63)).drew.cell? ⟨W.heap.size + 1, 2, none⟩ = some (.bool y.s) ∧ GW W ((W.alloc (.cells #[.int .i64 x.f, .int .i64 x.t, .bool x.s] 63)).alloc (.cells #[.int .i64 y.f, .int .i64 y.t, .bool y.s] 63)).drew := by
 refine ⟨?_, ?_, ?_, ?_, ?_, ?_, (((GW.refl W).alloc _).alloc _).drew⟩ <;> go_simp
theorem S41.sign (x y : Go.Ev.Eg) (a b : Int) (s : Bool) (W w : World) (h : w.cell? ⟨W.heap.size, 0, none⟩ = some (.int .i64 x.f) ∧ w.cell? ⟨W.heap.size, 1, none⟩ = some (.int .i64 x.t) ∧ w.cell? ⟨W.heap.size, 2, none⟩ = some (.bool x.s) ∧ w.cell? ⟨W.heap.size + 1, 0, none⟩ = some (.int .i64 y.f) ∧ w.cell? ⟨W.heap.size + 1, 1, none⟩ = some (.int .i64 y.t) ∧ w.cell? ⟨W.heap.size + 1, 2, none⟩ = some (.bool y.s) ∧ GW W w) : Calls Tryz.prog 66 #[.agg #[.int .i64 a, .int .i64 b, .bool s]] w fun e w' => e = .returned (.int .i64 (Go.Ev.sgB s)) ∧ w'.cell? ⟨W.heap.size, 0, none⟩ = some (.int .i64 x.f) ∧ w'.cell? ⟨W.heap.size, 1, none⟩ = some (.int .i64 x.t) ∧ w'.cell? ⟨W.heap.size, 2, none⟩ = some (.bool x.s) ∧ w'.cell? ⟨W.heap.size + 1, 0, none⟩ = some (.int .i64 y.f) ∧ w'.cell? ⟨W.heap.size + 1, 1, none⟩ = some (.int .i64 y.t) ∧ w'.cell? ⟨W.heap.size + 1, 2, none⟩ = some (.bool y.s) ∧ GW W w' := (Tryz.sign66 a b s w).mono fun e w' h' => ⟨h'.1, S41.grow h h'.2⟩
theorem Tryz.or64a (x y z : Int) (t : TypeId) (w : World) : Calls Tryz.prog 64 #[.slice (some ⟨w.heap.size, 0, none⟩) 3 3] (w.alloc (.cells #[.int .i64 x, .int .i64 y, .int .i64 z] t)) fun e w' => e = .returned (.int .i64 (Go.Ev.or3 x y z)) ∧ GW w w' := by
 refine (Tryz.or64 x y z w.heap.size 0 3 _ ?_ ?_ ?_).mono ?_
 ·go_simp
 ·go_simp
 ·go_simp
 ·intro e w' h
  exact ⟨h.1, ((GW.refl w).alloc _).trans h.2⟩
theorem S41.or (x y : Go.Ev.Eg) (a b c : Int) (t : TypeId) (W w : World) (h : w.cell? ⟨W.heap.size, 0, none⟩ = some (.int .i64 x.f) ∧ w.cell? ⟨W.heap.size, 1, none⟩ = some (.int .i64 x.t) ∧ w.cell? ⟨W.heap.size, 2, none⟩ = some (.bool x.s) ∧ w.cell? ⟨W.heap.size + 1, 0, none⟩ = some (.int .i64 y.f) ∧ w.cell? ⟨W.heap.size + 1, 1, none⟩ = some (.int .i64 y.t) ∧ w.cell? ⟨W.heap.size + 1, 2, none⟩ = some (.bool y.s) ∧ GW W w) : Calls Tryz.prog 64 #[.slice (some ⟨w.heap.size, 0, none⟩) 3 3] (w.alloc (.cells #[.int .i64 a, .int .i64 b, .int .i64 c] t)) fun e w' => e = .returned (.int .i64 (Go.Ev.or3 a b c)) ∧ w'.cell? ⟨W.heap.size, 0, none⟩ = some (.int .i64 x.f) ∧ w'.cell? ⟨W.heap.size, 1, none⟩ = some (.int .i64 x.t) ∧ w'.cell? ⟨W.heap.size, 2, none⟩ = some (.bool x.s) ∧ w'.cell? ⟨W.heap.size + 1, 0, none⟩ = some (.int .i64 y.f) ∧ w'.cell? ⟨W.heap.size + 1, 1, none⟩ = some (.int .i64 y.t) ∧ w'.cell? ⟨W.heap.size + 1, 2, none⟩ = some (.bool y.s) ∧ GW W w' := (Tryz.or64a a b c t w).mono fun e w' h' => ⟨h'.1, S41.grow h h'.2⟩
set_option maxHeartbeats 2000000 in
theorem Tryz.compare41 (x y : Go.Ev.Eg) (W : World) : Calls Tryz.prog 41 #[.agg #[.int .i64 x.f, .int .i64 x.t, .bool x.s], .agg #[.int .i64 y.f, .int .i64 y.t, .bool y.s]] W fun e w' => e = .returned (.int .i64 (Go.Ev.cmpEg x y)) ∧ ∃ q os', w' = grow (W.drewN q) os' := by
 have hcon := fun a b W' => AnyG.cmp_Compare_int Tryz.cmpInt a b W'
 change ∀ a b W', Calls Tryz.prog 65 _ _ _ at hcon
 have hs0 := @S41.start x y W
 go_enter Tryz.func41, Tryz.ntmps41
 go_wp2
 go_region_held3 (fun w' => w'.cell? ⟨W.heap.size, 0, none⟩ = some (.int .i64 x.f) ∧ w'.cell? ⟨W.heap.size, 1, none⟩ = some (.int .i64 x.t) ∧ w'.cell? ⟨W.heap.size, 2, none⟩ = some (.bool x.s) ∧ w'.cell? ⟨W.heap.size + 1, 0, none⟩ = some (.int .i64 y.f) ∧ w'.cell? ⟨W.heap.size + 1, 1, none⟩ = some (.int .i64 y.t) ∧ w'.cell? ⟨W.heap.size + 1, 2, none⟩ = some (.bool y.s) ∧ GW W w') (first | exact hs0 | assumption | (exact S41.grow ‹_› (GW.alloc (GW.refl _) _))) (first | (go_at_call 65; refine (hcon _ _ _).mono ?_; rintro e w' ⟨rfl, rfl⟩) | (go_at_call 66; refine (S41.sign x y _ _ _ W _ ?_).mono ?_; assumption; rintro e w' ⟨rfl, hs⟩; have hs0 := hs) | (go_at_call 64; refine (S41.or x y _ _ _ _ W _ hs0).mono ?_; rintro e w' ⟨rfl, hs⟩; have hs0 := hs))
 go_wp2
 go_ret
 exact ⟨rfl, hs0.2.2.2.2.2.2⟩
open Go.Ev (Eg cmpEg cI or3 sgB)
theorem zhr {a b : Bool} (h : sgB a = sgB b) : a = b := by cases a <;> cases b <;> first | rfl | (exact absurd h (by decide))
theorem zei {x y : Eg} : cmpEg x y < 0 ↔ x.f < y.f ∨ (x.f = y.f ∧ (x.t < y.t ∨ (x.t = y.t ∧ sgB x.s < sgB y.s))) := by
 unfold cmpEg or3 cI
 constructor
 ·intro h
  repeat' split at h
  all_goals omega
 ·intro h
  repeat' split
  all_goals omega
theorem ltEg {x y : Eg} : ltOf cmpEg x y = true ↔ x.f < y.f ∨ (x.f = y.f ∧ (x.t < y.t ∨ (x.t = y.t ∧ sgB x.s < sgB y.s))) := by
 unfold ltOf
 rw [decide_eq_true_iff]
 exact zei
theorem q3f {x y : Eg} : ltOf cmpEg x y = false ↔ ¬ (x.f < y.f ∨ (x.f = y.f ∧ (x.t < y.t ∨ (x.t = y.t ∧ sgB x.s < sgB y.s)))) := by
 rw [← ltEg]; simp
theorem swoEg : SWO (ltOf cmpEg) where
 irrefl x := q3f.2 (by omega)
 trans x y z h1 h2 := ltEg.2 (by have h1 := ltEg.1 h1; have h2 := ltEg.1 h2; omega)
 ntrans x y z h1 h2 := q3f.2 (by have h1 := q3f.1 h1; have h2 := q3f.1 h2; omega)
theorem totEg (x y : Eg) (h1 : ltOf cmpEg x y = false) (h2 : ltOf cmpEg y x = false) : x = y := by
 have h1 := q3f.1 h1
 have h2 := q3f.1 h2
 have a : x.f = y.f := by omega
 have b : x.t = y.t := by omega
 have c : sgB x.s = sgB y.s := by omega
 cases x; cases y
 simp only at a b c
 rw [a, b, zhr c]
theorem Tryz.sortECalls : Go.Ev.SortECalls Tryz.prog 62 41 := fun d blk off cap w hH hb hsz => by
 have eg : ∀ args w, (callFunc 41 args).run Tryz.prog w = .ok (.enter 41 args) w := enters_of Tryz.func41 (by kernel_rfl) rfl
 have hcmp : CmpLays Tryz.prog 41 #[] Go.Ev.egU 3 cmpEg blk off d.size w := fun m os dk _ x y => Tryz.compare41 x y _
 refine (AnyQ.slices_SortFunc_total Tryz.sortE 3 ?_ ?_ Go.Ev.egU (fun _ => rfl) ?_ cmpEg swoEg 41 #[] blk off cap d w eg hcmp hH hb hsz totEg).mono ?_
 ·intro w; kernel_rfl
 ·intro w; kernel_rfl
 ·intro x v hv
  simp only [Go.Ev.egU, List.mem_cons, List.not_mem_nil, or_false] at hv
  rcases hv with rfl | rfl | rfl <;> rfl
 ·rintro e w' ⟨rfl, n, os, rfl⟩
  exact ⟨rfl, n, os, rfl⟩
theorem Tryz.sortENone : Go.Ev.SortENone Tryz.prog 62 := fun p cap fv w => AnyF.slices_SortFunc_none { Tryz.sortE with } p cap fv w
end Go.Proofs
end
