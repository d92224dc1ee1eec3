/-
  The known calls, joined. No conditions.
-/
import Derived.Test.YthghaehlidfpjaaGreatRun1
import Derived.Test.YthghaehlidfpjaaGreatRun2
import Derived.Test.YthghaehlidfpjaaGreatRun3
import Derived.Test.YthghaehlidfpjaaGreatRun4
import Derived.Test.YthghaehlidfpjaaGreatRun5
import Derived.Test.YthghaehlidfpjaaGreatRun6
import Derived.Test.YthghaehlidfpjaaGreatRun7
import Derived.Test.YthghaehlidfpjaaGreatRun8
import Derived.Test.YthghaehlidfpjaaGreatLoop1
import Derived.Test.YthghaehlidfpjaaGreatLoop2
import Derived.Test.YthghaehlidfpjaaGreatLoop3
import Derived.Test.YthghaehlidfpjaaGreatLoop4
import Derived.Test.YthghaehlidfpjaaGreatLoop5
import Derived.Test.YthghaehlidfpjaaGreatLoop6
import Derived.Test.YthghaehlidfpjaaGreatLoop7
import Derived.Test.YthghaehlidfpjaaGreatLoop8
import Derived.Test.YthghaehlidfpjaaGreatLoop9
import Derived.Test.YthghaehlidfpjaaGreatLoop10
import Derived.Test.YthghaehlidfpjaaGreatLoop11
import Derived.Test.YthghaehlidfpjaaGreatLoop12
import Derived.Test.YthghaehlidfpjaaGreatLoop13
import Derived.Test.YthghaehlidfpjaaGreatLoop14
import Derived.Test.YthghaehlidfpjaaGreatLoop15
import Derived.Test.YthghaehlidfpjaaGreatLoop16
import Derived.Test.YthghaehlidfpjaaGreatLoop17
import Derived.Test.YthghaehlidfpjaaGreatLoop18
import Derived.Test.YthghaehlidfpjaaGreatRoot
import Derived.WalkKit
namespace Go.Proofs.YthghaehlidfpjaaGreat
open Go.Ev
theorem fol : Tryz.prog.follows .mixedOrders = true := by kernel_rfl
theorem ok0 : ExtOk Tryz.prog x0 := noExt_ok
theorem d0 : ∀ e ∈ g0, GoodR Tryz.prog e := good_of fol ok0 (List.all_eq_true.1 run0 g0 (by simp))
theorem d1 : ∀ e ∈ g1, GoodR Tryz.prog e := good_of fol ok0 (List.all_eq_true.1 run0 g1 (by simp))
theorem d2 : ∀ e ∈ g2, GoodR Tryz.prog e := good_of fol ok0 (List.all_eq_true.1 run0 g2 (by simp))
theorem d3 : ∀ e ∈ g3, GoodR Tryz.prog e := good_of fol ok0 (List.all_eq_true.1 run0 g3 (by simp))
theorem d4 : ∀ e ∈ g4, GoodR Tryz.prog e := good_of fol ok0 (List.all_eq_true.1 run0 g4 (by simp))
theorem d5 : ∀ e ∈ g5, GoodR Tryz.prog e := good_of fol ok0 (List.all_eq_true.1 run0 g5 (by simp))
theorem d6 : ∀ e ∈ g6, GoodR Tryz.prog e := good_of fol ok0 (List.all_eq_true.1 run0 g6 (by simp))
theorem d7 : ∀ e ∈ g7, GoodR Tryz.prog e := good_of fol ok0 (List.all_eq_true.1 run0 g7 (by simp))
theorem d8 : ∀ e ∈ g8, GoodR Tryz.prog e := good_of fol ok0 (List.all_eq_true.1 run0 g8 (by simp))
theorem d9 : ∀ e ∈ g9, GoodR Tryz.prog e := good_of fol ok0 (List.all_eq_true.1 run0 g9 (by simp))
theorem d10 : ∀ e ∈ g10, GoodR Tryz.prog e := good_of fol ok0 (List.all_eq_true.1 run0 g10 (by simp))
theorem d11 : ∀ e ∈ g11, GoodR Tryz.prog e := good_of fol ok0 (List.all_eq_true.1 run0 g11 (by simp))
theorem d12 : ∀ e ∈ g12, GoodR Tryz.prog e := good_of fol ok0 (List.all_eq_true.1 run0 g12 (by simp))
theorem d13 : ∀ e ∈ g13, GoodR Tryz.prog e := good_of fol ok0 (List.all_eq_true.1 run0 g13 (by simp))
theorem d14 : ∀ e ∈ g14, GoodR Tryz.prog e := good_of fol ok0 (List.all_eq_true.1 run0 g14 (by simp))
theorem d15 : ∀ e ∈ g15, GoodR Tryz.prog e := good_of fol ok0 (List.all_eq_true.1 run0 g15 (by simp))
theorem ok1 : ExtOk Tryz.prog x1 := msk_ok (grp_ok d15 (grp_ok d14 (grp_ok d13 (grp_ok d12 (grp_ok d11 (grp_ok d10 (grp_ok d9 (grp_ok d8 (grp_ok d7 (grp_ok d6 (grp_ok d5 (grp_ok d4 (grp_ok d3 (grp_ok d2 (grp_ok d1 (grp_ok d0 ok0))))))))))))))))
theorem d16 : ∀ e ∈ g16, GoodR Tryz.prog e := good_of fol ok1 (List.all_eq_true.1 run1 g16 (by simp))
theorem d17 : ∀ e ∈ g17, GoodR Tryz.prog e := good_of fol ok1 (List.all_eq_true.1 run1 g17 (by simp))
theorem d18 : ∀ e ∈ g18, GoodR Tryz.prog e := good_of fol ok1 (List.all_eq_true.1 run1 g18 (by simp))
theorem d19 : ∀ e ∈ g19, GoodR Tryz.prog e := good_of fol ok1 (List.all_eq_true.1 run1 g19 (by simp))
theorem d20 : ∀ e ∈ g20, GoodR Tryz.prog e := good_of fol ok1 (List.all_eq_true.1 run1 g20 (by simp))
theorem d21 : ∀ e ∈ g21, GoodR Tryz.prog e := good_of fol ok1 (List.all_eq_true.1 run1 g21 (by simp))
theorem ok2 : ExtOk Tryz.prog x2 := msk_ok (grp_ok d21 (grp_ok d20 (grp_ok d19 (grp_ok d18 (grp_ok d17 (grp_ok d16 ok1))))))
theorem d22 : ∀ e ∈ g22, GoodR Tryz.prog e := good_of fol ok2 (List.all_eq_true.1 run2 g22 (by simp))
theorem d23 : ∀ e ∈ g23, GoodR Tryz.prog e := good_of fol ok2 (List.all_eq_true.1 run2 g23 (by simp))
theorem d24 : ∀ e ∈ g24, GoodR Tryz.prog e := good_of fol ok2 (List.all_eq_true.1 run2 g24 (by simp))
theorem ok3 : ExtOk Tryz.prog x3 := msk_ok (grp_ok d24 (grp_ok d23 (grp_ok d22 ok2)))
theorem d25 : ∀ e ∈ g25, GoodR Tryz.prog e := good_of fol ok3 (List.all_eq_true.1 run3 g25 (by simp))
theorem d26 : ∀ e ∈ g26, GoodR Tryz.prog e := good_of fol ok3 (List.all_eq_true.1 run3 g26 (by simp))
theorem d27 : ∀ e ∈ g27, GoodR Tryz.prog e := good_of fol ok3 (List.all_eq_true.1 run3 g27 (by simp))
theorem ok4 : ExtOk Tryz.prog x4 := msk_ok (grp_ok d27 (grp_ok d26 (grp_ok d25 ok3)))
theorem d28 : ∀ e ∈ g28, GoodR Tryz.prog e := good_of fol ok4 (List.all_eq_true.1 run5 g28 (by simp))
theorem d29 : ∀ e ∈ g29, GoodR Tryz.prog e := good_of fol ok4 (List.all_eq_true.1 run7 g29 (by simp))
theorem d30 : ∀ e ∈ g30, GoodR Tryz.prog e := good_of fol ok4 (List.all_eq_true.1 run4 g30 (by simp))
theorem d31 : ∀ e ∈ g31, GoodR Tryz.prog e := good_of fol ok4 (List.all_eq_true.1 run7 g31 (by simp))
theorem d32 : ∀ e ∈ g32, GoodR Tryz.prog e := good_of fol ok4 (List.all_eq_true.1 run6 g32 (by simp))
theorem ok5 : ExtOk Tryz.prog x5 := msk_ok (grp_ok d32 (grp_ok d31 (grp_ok d30 (grp_ok d29 (grp_ok d28 ok4)))))
theorem hC5 : CallOk Tryz.prog (callF Tryz.prog x5 100) := callF_ok fol ok5 100
theorem c0w0 : c0s0.wf c0e = true := List.all_eq_true.1 c0w c0s0 (by simp)
theorem c0w1 : c0s1.wf c0e = true := List.all_eq_true.1 c0w c0s1 (by simp)
theorem c0w2 : c0s2.wf c0e = true := List.all_eq_true.1 c0w c0s2 (by simp)
theorem c0w3 : c0s3.wf c0e = true := List.all_eq_true.1 c0w c0s3 (by simp)
theorem c0w4 : c0s4.wf c0e = true := List.all_eq_true.1 c0w c0s4 (by simp)
theorem c0w5 : c0s5.wf c0e = true := List.all_eq_true.1 c0w c0s5 (by simp)
theorem c0ok (m : Nat) : ∃ K, RndOk Tryz.prog 2 56 m (bodyAt (bodyOf Tryz.prog 14) [false, true, true, true, false, false, true, true, false, false, true, false, true, true, true, true, true]) K c0s0 c0e := ⟨_, rnd_step hC5 fol c0r0 c0w1 (rnd_step hC5 fol c0r1 c0w2 (rnd_step hC5 fol c0r2 c0w3 (rnd_step hC5 fol c0r3 c0w4 (rnd_step hC5 fol c0r4 c0w5 (rnd_end hC5 fol c0r5)))))⟩
theorem c0gg : runG Tryz.prog (tblK 56 [⟨[false, true, true, true, false, false, true, true, false, false, true, false, true, true, true, true, true], c0s0, c0e⟩]) x5 100 r798.kn = true ∧ r798.kn.wf = true := by have := c0g; rwa [Bool.and_eq_true] at this
theorem c0kn : GoodR Tryz.prog r798 := ⟨kn_of_runG fol ok5 (by kernel_rfl) (tab_of (by kernel_rfl) (by kernel_rfl) (fun x hx => by rw [List.mem_singleton] at hx; subst hx; exact ⟨c0w0, c0ok⟩)) c0gg.1, c0gg.2⟩
theorem c1w0 : c1s0.wf c1e = true := List.all_eq_true.1 c1w c1s0 (by simp)
theorem c1w1 : c1s1.wf c1e = true := List.all_eq_true.1 c1w c1s1 (by simp)
theorem c1w2 : c1s2.wf c1e = true := List.all_eq_true.1 c1w c1s2 (by simp)
theorem c1w3 : c1s3.wf c1e = true := List.all_eq_true.1 c1w c1s3 (by simp)
theorem c1w4 : c1s4.wf c1e = true := List.all_eq_true.1 c1w c1s4 (by simp)
theorem c1w5 : c1s5.wf c1e = true := List.all_eq_true.1 c1w c1s5 (by simp)
theorem c1ok (m : Nat) : ∃ K, RndOk Tryz.prog 2 56 m (bodyAt (bodyOf Tryz.prog 14) [false, true, true, true, false, false, true, true, false, false, true, false, true, true, true, true, true]) K c1s0 c1e := ⟨_, rnd_step hC5 fol c1r0 c1w1 (rnd_step hC5 fol c1r1 c1w2 (rnd_step hC5 fol c1r2 c1w3 (rnd_step hC5 fol c1r3 c1w4 (rnd_step hC5 fol c1r4 c1w5 (rnd_end hC5 fol c1r5)))))⟩
theorem c1gg : runG Tryz.prog (tblK 56 [⟨[false, true, true, true, false, false, true, true, false, false, true, false, true, true, true, true, true], c1s0, c1e⟩]) x5 100 r855.kn = true ∧ r855.kn.wf = true := by have := c1g; rwa [Bool.and_eq_true] at this
theorem c1kn : GoodR Tryz.prog r855 := ⟨kn_of_runG fol ok5 (by kernel_rfl) (tab_of (by kernel_rfl) (by kernel_rfl) (fun x hx => by rw [List.mem_singleton] at hx; subst hx; exact ⟨c1w0, c1ok⟩)) c1gg.1, c1gg.2⟩
theorem c2w0 : c2s0.wf c2e = true := List.all_eq_true.1 c2w c2s0 (by simp)
theorem c2w1 : c2s1.wf c2e = true := List.all_eq_true.1 c2w c2s1 (by simp)
theorem c2w2 : c2s2.wf c2e = true := List.all_eq_true.1 c2w c2s2 (by simp)
theorem c2ok (m : Nat) : ∃ K, RndOk Tryz.prog 2 56 m (bodyAt (bodyOf Tryz.prog 14) [false, true, true, true, false, false, true, true, false, false, true, false, true, true, true, true, true]) K c2s0 c2e := ⟨_, rnd_step hC5 fol c2r0 c2w1 (rnd_step hC5 fol c2r1 c2w2 (rnd_end hC5 fol c2r2))⟩
theorem c2gg : runG Tryz.prog (tblK 56 [⟨[false, true, true, true, false, false, true, true, false, false, true, false, true, true, true, true, true], c2s0, c2e⟩]) x5 100 r919.kn = true ∧ r919.kn.wf = true := by have := c2g; rwa [Bool.and_eq_true] at this
theorem c2kn : GoodR Tryz.prog r919 := ⟨kn_of_runG fol ok5 (by kernel_rfl) (tab_of (by kernel_rfl) (by kernel_rfl) (fun x hx => by rw [List.mem_singleton] at hx; subst hx; exact ⟨c2w0, c2ok⟩)) c2gg.1, c2gg.2⟩
theorem d33 : ∀ e ∈ g33, GoodR Tryz.prog e := fun e he => by
  simp only [g33, List.mem_cons, List.mem_nil_iff, or_false] at he
  rcases he with rfl | rfl | rfl
  · exact c0kn
  · exact c1kn
  · exact c2kn
theorem ok6 : ExtOk Tryz.prog x6 := msk_ok (grp_ok d33 ok5)
theorem yesRoot : Yes Tryz.prog 3 := yes_of_run fol ok6 runRoot
end Go.Proofs.YthghaehlidfpjaaGreat
