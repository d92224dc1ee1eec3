/-
 For countersignlaw18.StrataKnown: the library sorts, by the shelf. No conditions beyond those that each theorem states.
-/
import Derived.Test.YtiickhlaamgljaaGreatProg
import Derived.Shelf.SlSortCmp.NoneTotal
import Derived.Shelf.Sort.AssemblyIn
import Derived.Shelf.SlGeneric
import Derived.Ground.SlsfProg
import Derived.WalkKit
import Derived.Deep.QuietTactic
import Derived.BigQuiet
import Derived.Test.YtiickhlaamgljaaGreatEv4
set_option linter.unusedSimpArgs false
set_option linter.unusedVariables false
section
/-
 The library's sorts, by the kit's contracts of them: slices.SortFunc of lists that are compared by their first numbers, and slices.Sort of numbers.
-/
namespace Go.Proofs
open Go.Shelf
def Tryz.sortL_ren : Go.Shelf.Ren := ⟨fun | 6 => 99 | 15 => 104 | 14 => 130 | 28 => 142 | 29 => 143 | 20 => 161 | 21 => 162 | 22 => 163 | 23 => 164 | 24 => 165 | 25 => 166 | 26 => 167 | 27 => 168 | 46 => 184 | 47 => 173 | 48 => 174 | 49 => 185 | 50 => 186 | 57 => 195 | n => n, fun | 22 => 95 | 24 => 25 | 25 => 188 | 3 => 3 | 39 => 197 | 0 => 0 | 53 => 239 | 55 => 241 | 4 => 4 | 46 => 232 | 45 => 231 | 50 => 200 | 5 => 5 | 9 => 9 | 66 => 269 | 70 => 273 | 76 => 284 | 77 => 215 | n => n, fun | n => n⟩
theorem Tryz.sortL : Go.Proofs.SlLaysF.n6 Tryz.prog Tryz.sortL_ren := {
 mixed := by kernel_rfl
 f6 := ⟨Tryz.f99.name, by decide, Tryz.func99.trans (congrArg some (by kernel_rfl))⟩
 f14 := ⟨Tryz.f130.name, by decide, Tryz.func130.trans (congrArg some (by kernel_rfl))⟩
 f15 := Tryz.func104.trans (congrArg some (by kernel_rfl))
 f20 := ⟨Tryz.f161.name, by decide, Tryz.func161.trans (congrArg some (by kernel_rfl))⟩
 f21 := ⟨Tryz.f162.name, by decide, Tryz.func162.trans (congrArg some (by kernel_rfl))⟩
 f22 := ⟨Tryz.f163.name, by decide, Tryz.func163.trans (congrArg some (by kernel_rfl))⟩
 f23 := ⟨Tryz.f164.name, by decide, Tryz.func164.trans (congrArg some (by kernel_rfl))⟩
 f24 := ⟨Tryz.f165.name, by decide, Tryz.func165.trans (congrArg some (by kernel_rfl))⟩
 f25 := ⟨Tryz.f166.name, by decide, Tryz.func166.trans (congrArg some (by kernel_rfl))⟩
 f26 := ⟨Tryz.f167.name, by decide, Tryz.func167.trans (congrArg some (by kernel_rfl))⟩
 f27 := ⟨Tryz.f168.name, by decide, Tryz.func168.trans (congrArg some (by kernel_rfl))⟩
 f28 := Tryz.func142.trans (congrArg some (by kernel_rfl))
 f29 := Tryz.func143.trans (congrArg some (by kernel_rfl))
 f46 := ⟨Tryz.f184.name, by decide, Tryz.func184.trans (congrArg some (by kernel_rfl))⟩
 f47 := Tryz.func173.trans (congrArg some (by kernel_rfl))
 f48 := Tryz.func174.trans (congrArg some (by kernel_rfl))
 f49 := ⟨Tryz.f185.name, by decide, Tryz.func185.trans (congrArg some (by kernel_rfl))⟩
 f50 := ⟨Tryz.f186.name, by decide, Tryz.func186.trans (congrArg some (by kernel_rfl))⟩
 f57 := ⟨Tryz.f195.name, by decide, Tryz.func195.trans (congrArg some (by kernel_rfl))⟩
 t0 := Tryz.underlying0
 a0 := Tryz.isAgg0
 z0 := Tryz.sizeOf0
 v0 := Tryz.zeroValue0
 t3 := Tryz.underlying3
 a3 := Tryz.isAgg3
 z3 := Tryz.sizeOf3
 v3 := Tryz.zeroValue3
 t4 := Tryz.underlying4
 a4 := Tryz.isAgg4
 z4 := Tryz.sizeOf4
 v4 := Tryz.zeroValue4
 t5 := Tryz.underlying5
 a5 := Tryz.isAgg5
 z5 := Tryz.sizeOf5
 v5 := Tryz.zeroValue5
 t9 := Tryz.underlying9
 a9 := Tryz.isAgg9
 z9 := Tryz.sizeOf9
 v9 := Tryz.zeroValue9
 t22 := Tryz.underlying95
 a22 := Tryz.isAgg95
 z22 := Tryz.sizeOf95
 v22 := Tryz.zeroValue95
 a24 := Tryz.isAgg25
 z24 := Tryz.sizeOf25
 t25 := Tryz.underlying188
 a25 := Tryz.isAgg188
 z25 := Tryz.sizeOf188
 v25 := Tryz.zeroValue188
 t39 := Tryz.underlying197
 a39 := Tryz.isAgg197
 z39 := Tryz.sizeOf197
 v39 := Tryz.zeroValue197
 t45 := Tryz.underlying231
 a45 := Tryz.isAgg231
 z45 := Tryz.sizeOf231
 v45 := Tryz.zeroValue231
 t46 := Tryz.underlying232
 a46 := Tryz.isAgg232
 z46 := Tryz.sizeOf232
 v46 := Tryz.zeroValue232
 t50 := Tryz.underlying200
 a50 := Tryz.isAgg200
 z50 := Tryz.sizeOf200
 v50 := Tryz.zeroValue200
 t53 := Tryz.underlying239
 a53 := Tryz.isAgg239
 z53 := Tryz.sizeOf239
 v53 := Tryz.zeroValue239
 t55 := Tryz.underlying241
 a55 := Tryz.isAgg241
 z55 := Tryz.sizeOf241
 v55 := Tryz.zeroValue241
 t66 := Tryz.underlying269
 a66 := Tryz.isAgg269
 z66 := Tryz.sizeOf269
 v66 := Tryz.zeroValue269
 t70 := Tryz.underlying273
 a70 := Tryz.isAgg273
 z70 := Tryz.sizeOf273
 v70 := Tryz.zeroValue273
 t76 := Tryz.underlying284
 a76 := Tryz.isAgg284
 z76 := Tryz.sizeOf284
 v76 := Tryz.zeroValue284
 t77 := Tryz.underlying215
 a77 := Tryz.isAgg215
 z77 := Tryz.sizeOf215
 v77 := Tryz.zeroValue215 }
def Tryz.lays189_ren : Go.Shelf.Ren := ⟨fun | 189 => 68 | 125 => 104 | 257 => 103 | 128 => 142 | 129 => 143 | 294 => 133 | 295 => 134 | 296 => 135 | 297 => 136 | 298 => 137 | 299 => 138 | 216 => 139 | 300 => 140 | 301 => 141 | 328 => 172 | 329 => 173 | 330 => 174 | 331 => 175 | 332 => 176 | 215 => 124 | 343 => 189 | n => n, fun | 28 => 25 | 3 => 3 | 46 => 197 | 0 => 0 | 51 => 239 | 53 => 241 | 4 => 4 | 183 => 232 | 182 => 231 | 131 => 200 | 5 => 5 | 9 => 9 | 218 => 269 | 222 => 273 | 228 => 284 | 229 => 215 | n => n, fun | n => n⟩
theorem Tryz.lays189 : Go.Proofs.Lays.n189 Tryz.prog Tryz.lays189_ren := {
 mixed := by kernel_rfl
 f125 := Tryz.func104.trans (congrArg some (by kernel_rfl))
 f128 := Tryz.func142.trans (congrArg some (by kernel_rfl))
 f129 := Tryz.func143.trans (congrArg some (by kernel_rfl))
 f189 := Tryz.func68.trans (congrArg some (by kernel_rfl))
 f215 := Tryz.func124.trans (congrArg some (by kernel_rfl))
 f216 := Tryz.func139.trans (congrArg some (by kernel_rfl))
 f257 := Tryz.func103.trans (congrArg some (by kernel_rfl))
 f294 := Tryz.func133.trans (congrArg some (by kernel_rfl))
 f295 := Tryz.func134.trans (congrArg some (by kernel_rfl))
 f296 := Tryz.func135.trans (congrArg some (by kernel_rfl))
 f297 := Tryz.func136.trans (congrArg some (by kernel_rfl))
 f298 := Tryz.func137.trans (congrArg some (by kernel_rfl))
 f299 := Tryz.func138.trans (congrArg some (by kernel_rfl))
 f300 := Tryz.func140.trans (congrArg some (by kernel_rfl))
 f301 := Tryz.func141.trans (congrArg some (by kernel_rfl))
 f328 := Tryz.func172.trans (congrArg some (by kernel_rfl))
 f329 := Tryz.func173.trans (congrArg some (by kernel_rfl))
 f330 := Tryz.func174.trans (congrArg some (by kernel_rfl))
 f331 := Tryz.func175.trans (congrArg some (by kernel_rfl))
 f332 := Tryz.func176.trans (congrArg some (by kernel_rfl))
 f343 := Tryz.func189.trans (congrArg some (by kernel_rfl))
 t0 := Tryz.underlying0
 a0 := Tryz.isAgg0
 z0 := Tryz.sizeOf0
 v0 := Tryz.zeroValue0
 t3 := Tryz.underlying3
 a3 := Tryz.isAgg3
 z3 := Tryz.sizeOf3
 v3 := Tryz.zeroValue3
 t4 := Tryz.underlying4
 a4 := Tryz.isAgg4
 z4 := Tryz.sizeOf4
 v4 := Tryz.zeroValue4
 t5 := Tryz.underlying5
 a5 := Tryz.isAgg5
 z5 := Tryz.sizeOf5
 v5 := Tryz.zeroValue5
 t9 := Tryz.underlying9
 a9 := Tryz.isAgg9
 z9 := Tryz.sizeOf9
 v9 := Tryz.zeroValue9
 t28 := Tryz.underlying25
 a28 := Tryz.isAgg25
 z28 := Tryz.sizeOf25
 v28 := Tryz.zeroValue25
 t46 := Tryz.underlying197
 a46 := Tryz.isAgg197
 z46 := Tryz.sizeOf197
 v46 := Tryz.zeroValue197
 t51 := Tryz.underlying239
 a51 := Tryz.isAgg239
 z51 := Tryz.sizeOf239
 v51 := Tryz.zeroValue239
 t53 := Tryz.underlying241
 a53 := Tryz.isAgg241
 z53 := Tryz.sizeOf241
 v53 := Tryz.zeroValue241
 t131 := Tryz.underlying200
 a131 := Tryz.isAgg200
 z131 := Tryz.sizeOf200
 v131 := Tryz.zeroValue200
 t182 := Tryz.underlying231
 a182 := Tryz.isAgg231
 z182 := Tryz.sizeOf231
 v182 := Tryz.zeroValue231
 t183 := Tryz.underlying232
 a183 := Tryz.isAgg232
 z183 := Tryz.sizeOf232
 v183 := Tryz.zeroValue232
 t218 := Tryz.underlying269
 a218 := Tryz.isAgg269
 z218 := Tryz.sizeOf269
 v218 := Tryz.zeroValue269
 t222 := Tryz.underlying273
 a222 := Tryz.isAgg273
 z222 := Tryz.sizeOf273
 v222 := Tryz.zeroValue273
 t228 := Tryz.underlying284
 a228 := Tryz.isAgg284
 z228 := Tryz.sizeOf284
 v228 := Tryz.zeroValue284
 t229 := Tryz.underlying215
 a229 := Tryz.isAgg215
 z229 := Tryz.sizeOf215
 v229 := Tryz.zeroValue215 }
theorem Tryz.closure100 {ba oa na ca bb ob nb cb : Nat} {x y : Int} {W : World} (ha : 0 < na) (hb : 0 < nb) (hx : W.cell? ⟨ba, oa, none⟩ = some (.int .i64 x)) (hy : W.cell? ⟨bb, ob, none⟩ = some (.int .i64 y)) (h1 : 0 ≤ x) (h2 : x < 4611686018427387904) (h3 : 0 ≤ y) (h4 : y < 4611686018427387904) : Calls Tryz.prog 100 #[.slice (some ⟨ba, oa, none⟩) na ca, .slice (some ⟨bb, ob, none⟩) nb cb] W fun e w' => e = .returned (.int .i64 (x - y)) ∧ ∃ q, w' = W.drewN q := by
 go_enter Tryz.func100, Tryz.ntmps100
 go_wp2
 have mixed : Tryz.prog.follows .mixedOrders = true := by kernel_rfl
 have e1 : W.cell? { block := ba, off := oa + 0 } = some (.int .i64 x) := hx
 go_quiet (fail)
 go_wp2
 go_ret
 exact ⟨rfl, nq, rfl⟩
open Go.RowKit Go.Sort in
theorem Tryz.sortFCalls : Go.Ev.SortFCalls Tryz.prog 99 100 := fun zs h enc blk off cap w hel hH hb => by
 letI : Inhabited (Fin zs.length) := ⟨⟨0, h.pos⟩⟩
 have hs : (Array.finRange zs.length).size = zs.length := by simp
 have h1 : Go.Proofs.OneCell enc := fun i => by obtain ⟨_, _, _, _, e, _⟩ := hel i; rw [e]; rfl
 have hO : SWO (ltOf fun i j : Fin zs.length => zs[i] - zs[j]) := {
  irrefl := fun x => by unfold ltOf; simp
  trans := fun x y z => by unfold ltOf; simp only [decide_eq_true_eq]; omega
  ntrans := fun x y z => by unfold ltOf; simp only [decide_eq_false_iff_not]; omega }
 have eg : ∀ args w, (callFunc 100 args).run Tryz.prog w = .ok (.enter 100 args) w := enters_of Tryz.func100 (by kernel_rfl) rfl
 have hr : CmpReads Tryz.prog 100 #[] enc (fun i j : Fin zs.length => zs[i] - zs[j]) blk off (Array.finRange zs.length).size w := fun m os dk hd i j => by
  obtain ⟨ba, oa, na, ca, e1, n1, d1, l1, c1⟩ := hel i
  obtain ⟨bb, ob, nb, cb, e2, n2, d2, l2, c2⟩ := hel j
  have keep : ∀ (b o : Nat), b ≠ blk → b < w.heap.size → (sortWorld enc w blk off m dk os).cell? ⟨b, o, none⟩ = w.cell? ⟨b, o, none⟩ := fun b o hne hlt => by
   have g1 : (sortWorld enc w blk off m dk os).heap[b]? = w.heap[b]? := by
    show (grow (putRow enc (Sort.ahead w m) blk off dk) os).heap[b]? = _
    rw [heap_grow_old _ _ (by rw [size_putRow]; exact hlt)]
    show (w.heap.modify blk _)[b]? = _
    rw [Array.getElem?_modify, if_neg (fun e => hne e.symm)]
   unfold World.cell?
   rw [g1]
  have z1 := h.rng _ (List.getElem_mem i.2)
  have z2 := h.rng _ (List.getElem_mem j.2)
  rw [e1, e2]
  exact Tryz.closure100 n1 n2 ((keep ba oa d1 l1).trans c1) ((keep bb ob d2 l2).trans c2) z1.1 z1.2 z2.1 z2.2
 have := Any.slices_SortFunc_eq Tryz.sortL enc h1 _ hO 100 #[] blk off cap (Array.finRange zs.length) w eg hr.lays hH hb (by rw [hs]; exact h.len)
 rw [hs] at this
 refine this.mono ?_
 rintro e w' ⟨rfl, n, os, rfl⟩
 refine ⟨rfl, n, os, ?_⟩
 unfold Go.Ev.sortIx
 rw [hs]
 rfl
theorem Tryz.sortFNone : Go.Ev.SortFNone Tryz.prog 99 := fun p cap fv w => AnyF.slices_SortFunc_none { Tryz.sortL with } p cap fv w
theorem Tryz.sortCalls : Go.Ev.SortCalls Tryz.prog 68 := fun blk off cap zs w hH hb hl =>
 calls_of_every_depth fun D => AnyS.slices_Sort_int_in Tryz.lays189 D blk off cap zs w hH hb hl
end Go.Proofs
end
