/-
  The known calls: their loops by stretches, joined. No conditions.
-/
import Derived.Test.YtigaopnmpflgmaaRun1
import Derived.Test.YtigaopnmpflgmaaRun2
import Derived.Test.YtigaopnmpflgmaaRun3
import Derived.Test.YtigaopnmpflgmaaRun4
import Derived.Test.YtigaopnmpflgmaaRun5
import Derived.Test.YtigaopnmpflgmaaRun6
import Derived.Test.YtigaopnmpflgmaaRun7
import Derived.Test.YtigaopnmpflgmaaRun8
import Derived.Test.YtigaopnmpflgmaaRun9
import Derived.Test.YtigaopnmpflgmaaRun10
import Derived.Test.YtigaopnmpflgmaaRun11
import Derived.Test.YtigaopnmpflgmaaRun12
import Derived.Test.YtigaopnmpflgmaaRun13
import Derived.Test.YtigaopnmpflgmaaRun14
import Derived.Test.YtigaopnmpflgmaaRun15
import Derived.Test.YtigaopnmpflgmaaRun16
import Derived.Test.YtigaopnmpflgmaaMore1
import Derived.Test.YtigaopnmpflgmaaMore2
import Derived.Test.YtigaopnmpflgmaaMore3
import Derived.Test.YtigaopnmpflgmaaRunRoot
import Derived.WalkKit
namespace Go.Proofs.Ytigaopnmpflgmaa
open Go.Ev
theorem fol : Try.prog.follows .mixedOrders = true := by kernel_rfl
theorem hC : CallOk Try.prog (callF Try.prog noExt 100) := callF_ok fol noExt_ok 100
set_option maxRecDepth 1000000 in
theorem c0w : [c0s0, c0s1, c0s2, c0s3, c0s4, c0s5, c0s6, c0s7].all (fun s => s.wf c0e) = true := by decide +kernel
theorem c0w0 : c0s0.wf c0e = true := List.all_eq_true.1 c0w c0s0 (by simp)
theorem c0w1 : c0s1.wf c0e = true := List.all_eq_true.1 c0w c0s1 (by simp)
theorem c0w2 : c0s2.wf c0e = true := List.all_eq_true.1 c0w c0s2 (by simp)
theorem c0w3 : c0s3.wf c0e = true := List.all_eq_true.1 c0w c0s3 (by simp)
theorem c0w4 : c0s4.wf c0e = true := List.all_eq_true.1 c0w c0s4 (by simp)
theorem c0w5 : c0s5.wf c0e = true := List.all_eq_true.1 c0w c0s5 (by simp)
theorem c0w6 : c0s6.wf c0e = true := List.all_eq_true.1 c0w c0s6 (by simp)
theorem c0w7 : c0s7.wf c0e = true := List.all_eq_true.1 c0w c0s7 (by simp)
theorem c0ok (m : Nat) : ∃ K, RndOk Try.prog 2 58 m (bodyAt (bodyOf Try.prog 11) [false, true, false, true, true, true, true]) K c0s0 c0e := ⟨_, rnd_step hC fol c0r0 c0w1 (rnd_step hC fol c0r1 c0w2 (rnd_step hC fol c0r2 c0w3 (rnd_step hC fol c0r3 c0w4 (rnd_step hC fol c0r4 c0w5 (rnd_step hC fol c0r5 c0w6 (rnd_step hC fol c0r6 c0w7 (rnd_end hC fol c0r7)))))))⟩
set_option maxRecDepth 1000000 in
theorem c0g : runG Try.prog (tblK 58 [⟨[false, true, false, true, true, true, true], c0s0, c0e⟩]) noExt 100 c0k = true := by decide +kernel
theorem c0kn : KnOk Try.prog c0k := kn_of_runG fol noExt_ok (by kernel_rfl) (tab_of (by kernel_rfl) (by kernel_rfl) (fun x hx => by rw [List.mem_singleton] at hx; subst hx; exact ⟨c0w0, c0ok⟩)) c0g
set_option maxRecDepth 1000000 in
theorem c1w : [c1s0, c1s1, c1s2, c1s3, c1s4, c1s5, c1s6, c1s7].all (fun s => s.wf c1e) = true := by decide +kernel
theorem c1w0 : c1s0.wf c1e = true := List.all_eq_true.1 c1w c1s0 (by simp)
theorem c1w1 : c1s1.wf c1e = true := List.all_eq_true.1 c1w c1s1 (by simp)
theorem c1w2 : c1s2.wf c1e = true := List.all_eq_true.1 c1w c1s2 (by simp)
theorem c1w3 : c1s3.wf c1e = true := List.all_eq_true.1 c1w c1s3 (by simp)
theorem c1w4 : c1s4.wf c1e = true := List.all_eq_true.1 c1w c1s4 (by simp)
theorem c1w5 : c1s5.wf c1e = true := List.all_eq_true.1 c1w c1s5 (by simp)
theorem c1w6 : c1s6.wf c1e = true := List.all_eq_true.1 c1w c1s6 (by simp)
theorem c1w7 : c1s7.wf c1e = true := List.all_eq_true.1 c1w c1s7 (by simp)
theorem c1ok (m : Nat) : ∃ K, RndOk Try.prog 2 58 m (bodyAt (bodyOf Try.prog 11) [false, true, false, true, true, true, true]) K c1s0 c1e := ⟨_, rnd_step hC fol c1r0 c1w1 (rnd_step hC fol c1r1 c1w2 (rnd_step hC fol c1r2 c1w3 (rnd_step hC fol c1r3 c1w4 (rnd_step hC fol c1r4 c1w5 (rnd_step hC fol c1r5 c1w6 (rnd_step hC fol c1r6 c1w7 (rnd_end hC fol c1r7)))))))⟩
set_option maxRecDepth 1000000 in
theorem c1g : runG Try.prog (tblK 58 [⟨[false, true, false, true, true, true, true], c1s0, c1e⟩]) noExt 100 c1k = true := by decide +kernel
theorem c1kn : KnOk Try.prog c1k := kn_of_runG fol noExt_ok (by kernel_rfl) (tab_of (by kernel_rfl) (by kernel_rfl) (fun x hx => by rw [List.mem_singleton] at hx; subst hx; exact ⟨c1w0, c1ok⟩)) c1g
theorem knW : ∀ e ∈ lW, KnOk Try.prog e := by
  intro e he
  simp only [lW, List.mem_cons, List.mem_nil_iff, or_false] at he
  rcases he with rfl | rfl
  · exact c0kn
  · exact c1kn
theorem wfW : ∀ e ∈ lW, e.wf = true := fun e he => List.all_eq_true.1 wfAll e (by simp only [lAll, List.mem_append]; simp [he])
theorem extW : ExtOk Try.prog (knExt lW) := knExt_ok fun e he => ⟨knW e he, wfW e he⟩
theorem knAll : ∀ e ∈ lAll, KnOk Try.prog e := by
  intro e he
  simp only [lAll, List.mem_append] at he
  rcases he with ((h0 | h1) | h2) | h3
  · exact knW e h0
  · exact kn_of_run fol extW (List.all_eq_true.1 more1 e h1)
  · exact kn_of_run fol extW (List.all_eq_true.1 more2 e h2)
  · exact kn_of_run fol extW (List.all_eq_true.1 more3 e h3)
end Go.Proofs.Ytigaopnmpflgmaa
