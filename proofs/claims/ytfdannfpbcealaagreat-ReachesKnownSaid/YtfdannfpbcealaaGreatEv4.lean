/-
  The evaluator and its soundness, part 4 of 4 (texts XEvU, XEvL, XD, XD2 joined): what a run of the abstract evaluator answers, the model's run answers, in every world and on every schedule. No conditions beyond those that each theorem states.
-/
import Derived.Test.YtfdannfpbcealaaGreatEv3
import Derived.WideKeyArgs
import Derived.Carry
import Derived.OpenShut
import Derived.ProofKit
import Derived.WalkKit
section
/-
  Loops that are known ahead, cut into stretches of rounds: each stretch runs from one state at the loop's head to the next.
-/
namespace Go.Ev
open Go.RowKit
variable {P : Program} {d n : Nat} {call : Call} {F : Fence} {m : Nat}

theorem Md.pl {lo : Nat} {ι ι' : Im} {H H' : Hp} {w w' : World} {l : List AV} {ds : List Deferred} (h : Md true lo ι H w l ds) (hs : w.heap.size ≤ w'.heap.size) : Md true lo ι' H' w' l ds := by
  obtain ⟨h0, h1, Ds, h2⟩ := h
  have e := h0 rfl
  subst e
  exact ⟨fun _ => rfl, Nat.le_trans h1 hs, Ds, h2⟩

noncomputable def hpOf (pre : List Pb) (nx : Nat) : Hp := putAll pre ⟨Hp.empty.t, nx⟩
/-- names in order -/
def wfB (pre : List Pb) (nx : Nat) (post : List Pb) (nx' : Nat) : Bool :=
  pre.all (fun p => Nat.blt p.b nx && liveB p.k && post.any (fun q => Nat.beq q.b p.b)) &&
  post.all (fun q => Nat.blt q.b nx' && (Nat.ble nx q.b || pre.any (fun p => Nat.beq p.b q.b)))
theorem hpOf_get {pre : List Pb} {nx : Nat} (h : ∀ p ∈ pre, InH (p.b)) {c : Nat} (hc : InH (c)) : (hpOf pre nx).get c = match findB c pre with | some k => k | none => .dead := by
  have := putAll_get (H := ⟨Hp.empty.t, nx⟩) hc pre h
  have hd : Hp.get ⟨Hp.empty.t, nx⟩ c = .dead := empty_get _ c
  rw [hd] at this
  exact this
theorem part_of {pre post : List Pb} {nx nx' : Nat} (hw : wfB pre nx post nx' = true) {H : Hp} (f2 : H.nx = nx) (f4 : ∀ p ∈ pre, eqBlk (H.get p.b) p.k = true) : Part (hpOf pre nx) H := by
  unfold wfB at hw
  simp only [Bool.and_eq_true, List.all_eq_true, Bool.or_eq_true, List.any_eq_true] at hw
  obtain ⟨w3, w4⟩ := hw
  have hpre : ∀ p ∈ pre, p.b < nx := fun p hp => Nat.le_of_ble_eq_true (w3 p hp).1.1
  refine ⟨(putAll_nx _ _).trans f2.symm, fun c hc => ?_⟩
  rw [hpOf_get (fun p hp => inH) hc]
  cases hfb : findB c pre with
  | none => exact .inl rfl
  | some k =>
    have h5 := f4 ⟨c, k⟩ (findB_mem hfb)
    dsimp only at h5
    exact .inr (eqBlk_alike h5)
theorem frame_put {pre post : List Pb} {nx nx' : Nat} (hw : wfB pre nx post nx' = true) {H H1 : Hp} {ι ι' : Im} {w w' : World} (hH : HR ι H w) (f2 : H.nx = nx) (part : Part (hpOf pre nx) H)
    (a2 : HR ι' H1 w') (a3 : Fr ι ι' (hpOf pre nx) H1 w w') (a4 : H1.nx = nx') (a5 : ∀ p ∈ post, isDeadB p.k = true ∨ Alike (H1.get p.b) p.k) :
    HR ι' (putAll post ⟨H.t, nx'⟩) w' ∧ Fr ι ι' H (putAll post ⟨H.t, nx'⟩) w w' := by
  unfold wfB at hw
  simp only [Bool.and_eq_true, List.all_eq_true, Bool.or_eq_true, List.any_eq_true] at hw
  obtain ⟨w3, w4⟩ := hw
  have hpre : ∀ p ∈ pre, p.b < nx := fun p hp => Nat.le_of_ble_eq_true (w3 p hp).1.1
  have hpost : ∀ p ∈ post, p.b < nx' := fun p hp => Nat.le_of_ble_eq_true (w4 p hp).1
  have getV : ∀ c, InH (c) → (hpOf pre nx).get c = match findB c pre with | some k => k | none => .dead := fun c hc => hpOf_get (fun p hp => inH) hc
  have getP : ∀ c, InH (c) → (putAll post ⟨H.t, nx'⟩).get c = match findB c post with | some k => k | none => H.get c := fun c hc =>
    putAll_get (H := ⟨H.t, nx'⟩) hc post fun p hp => inH
  have hout : ∀ c, InH (c) → ((hpOf pre nx).get c).isDead = true → c < H.nx → (putAll post ⟨H.t, nx'⟩).get c = H.get c := fun c hc hd hlt => by
    rw [getP c hc]
    cases hfb : findB c post with
    | none => rfl
    | some k =>
      have hm := w4 ⟨c, k⟩ (findB_mem hfb)
      dsimp only at hm
      rcases hm.2 with h5 | ⟨q, hq, e5⟩
      · have := Nat.le_of_ble_eq_true h5; omega
      · have e5 := Nat.eq_of_beq_eq_true e5
        obtain ⟨k', hk'⟩ := findB_some (c := c) ⟨q, hq, e5⟩
        rw [getV c hc, hk'] at hd
        have := liveB_live (w3 ⟨c, k'⟩ (findB_mem hk')).1.2
        dsimp only at this hd
        rw [this] at hd; cases hd
  have hin : ∀ c, InH (c) → (((hpOf pre nx).get c).isDead = false ∨ H.nx ≤ c) → (putAll post ⟨H.t, nx'⟩).get c = .dead ∨ Alike (H1.get c) ((putAll post ⟨H.t, nx'⟩).get c) := fun c hc hd => by
    rw [getP c hc]
    cases hfb : findB c post with
    | some k =>
      have h6 := a5 ⟨c, k⟩ (findB_mem hfb)
      dsimp only at h6
      rcases h6 with h5 | h5
      · exact .inl (isDeadB_eq h5)
      · exact .inr h5
    | none =>
      rcases hd with hd | hd
      · rw [getV c hc] at hd
        cases hfp : findB c pre with
        | none => rw [hfp] at hd; cases hd
        | some k =>
          obtain ⟨q, hq, e5⟩ := (w3 ⟨c, k⟩ (findB_mem hfp)).2
          obtain ⟨k', hk'⟩ := findB_some (c := c) ⟨q, hq, Nat.eq_of_beq_eq_true e5⟩
          rw [hfb] at hk'; cases hk'
      · exact .inl (hH.free c hd hc)
  exact hH.frame (G' := putAll post ⟨H.t, nx'⟩) part a2 a3 ((putAll_nx _ _).trans a4.symm) hout hin

/-- a state at a loop's head: the slots, the memory; which of its blocks are gone in the end -/
structure Ls where
  L : List AV
  nx : Nat
  pre : List Pb
  dd : List Nat
/-- how a loop ends -/
structure Lf where
  ex : Ex
  L : List AV
  nx : Nat
  post : List Pb
noncomputable def locL (d : Nat) (l : List AV) : TT AV d := wrL l 0 (same .undef d)
noncomputable def Ls.hp (s : Ls) : Hp := hpOf s.pre s.nx
def Ls.post (s : Ls) (e : Lf) : List Pb := e.post ++ s.dd.map fun b => ⟨b, .dead⟩
def uniqB : List Pb → Bool
  | [] => true
  | p :: l => !(l.any fun q => Nat.beq q.b p.b) && uniqB l
def Ls.wf (s : Ls) (e : Lf) : Bool := wfB s.pre s.nx (s.post e) e.nx && uniqB e.post
theorem findB_uniq {p : Pb} : ∀ {l r : List Pb}, uniqB l = true → p ∈ l → findB p.b (l ++ r) = some p.k
  | [], _, _, h => by cases h
  | q :: l, r, hu, h => by
    simp only [uniqB, Bool.and_eq_true, Bool.not_eq_true'] at hu
    show (bif Nat.beq q.b p.b then some q.k else findB p.b (l ++ r)) = _
    rcases List.mem_cons.1 h with rfl | h
    · rw [Nat.beq_refl]; rfl
    · have : Nat.beq q.b p.b = false := by
        cases hb : Nat.beq q.b p.b with
        | false => rfl
        | true =>
          have e := Nat.eq_of_beq_eq_true hb
          have : (l.any fun x => Nat.beq x.b q.b) = true := List.any_eq_true.2 ⟨p, h, by rw [e]; exact Nat.beq_refl _⟩
          rw [this] at hu; cases hu.1
      rw [this]
      exact findB_uniq hu.2 h

/-- the loop's rounds from a state, at most K -/
def RndOk (P : Program) (d n m : Nat) (b : Code) (K : Nat) (s : Ls) (e : Lf) : Prop :=
  ∀ {F : Fence}, Fence.IsWide F → noRange b = true → ∀ {lo : Nat} {ι : Im} {w : World} {a : Act}, HR ι s.hp w → LR ι d n (locL d s.L) a.tmps → Md true lo ι s.hp w (dl ((getter d n).f (locL d s.L))) a.defers →
    ∀ {Q : Exit → Act → World → Prop}, (∀ a' w' ι' H1, LR ι' d n (locL d e.L) a'.tmps → Md true lo ι' H1 w' (dl ((getter d n).f (locL d e.L))) a'.defers → HR ι' H1 w' → Fr ι ι' s.hp H1 w w' → H1.nx = e.nx → (∀ p ∈ e.post, isDeadB p.k = true ∨ Alike (H1.get p.b) p.k) → Q (exitOf e.ex) a' w') → Code.roundsIn F m P b Q K a w

theorem LR.same {ι : Im} {L L' : TT AV d} {tmps : Array Value} (h : eqCells L L' (n + 1) 0 = true) (k : LR ι d n L tmps) : LR ι d n L' tmps :=
  ⟨k.size, k.fits, fun i hi => by
    have := eqCells_at (n + 1) 0 h i (by omega)
    rw [Nat.zero_add] at this
    rw [← this]; exact k.get i hi⟩
theorem slot_same {L L' : TT AV d} (h : eqCells L L' (n + 1) 0 = true) : (getter d n).f L = (getter d n).f L' := by
  have := eqCells_at (n + 1) 0 h n (by omega)
  rwa [Nat.zero_add] at this

/-- a stretch of rounds -/
noncomputable def runS (P : Program) (d n : Nat) (b : Code) (call : Call) (k : Nat) (s s' : Ls) : Bool :=
  match iterF ((denF P d n b).f call) k (locL d s.L) s.hp with
  | .ok .normal L1 H1 => eqCells L1 (locL d s'.L) (n + 1) 0 && Nat.beq H1.nx s'.nx && s'.pre.all (fun p => eqBlk (H1.get p.b) p.k)
  | _ => false
/-- the last stretch -/
def eqEx : Ex → Ex → Bool
  | .normal, .normal => true
  | .ret, .ret => true
  | .exit a, .exit b => Nat.beq a b
  | _, _ => false
noncomputable def runE (P : Program) (d n : Nat) (b : Code) (call : Call) (k : Nat) (s : Ls) (e : Lf) : Bool :=
  match loopCF ((denF P d n b).f call) k (locL d s.L) s.hp with
  | .ok ex L1 H1 => eqEx ex e.ex && eqCells L1 (locL d e.L) (n + 1) 0 && Nat.beq H1.nx e.nx && e.post.all (fun p => isDeadB p.k || eqBlk (H1.get p.b) p.k)
  | _ => false
theorem eqEx_eq {a b : Ex} (h : eqEx a b = true) : a = b := by
  unfold eqEx at h
  split at h <;> first | rfl | (rename_i x y; have := Nat.eq_of_beq_eq_true h; subst this; rfl) | cases h

theorem rnd_step (hC : CallOk P call) (hm : P.follows .mixedOrders = true) {b : Code} {k K : Nat} {s s' : Ls} {e : Lf} (hr : runS P d n b call k s s' = true) (hw : s'.wf e = true) (h : RndOk P d n m b K s' e) : RndOk P d n m b (K + k) s e := by
  intro F hF hnr lo ι w a hH hL hM Q hQ
  unfold runS at hr
  split at hr
  · rename_i L1 H1 he
    simp only [Bool.and_eq_true, List.all_eq_true] at hr
    obtain ⟨⟨r1, r2⟩, r3⟩ := hr
    have r2 := Nat.eq_of_beq_eq_true r2
    rw [denF_eq] at he
    unfold Ls.wf at hw
    simp only [Bool.and_eq_true] at hw
    have part := part_of hw.1 r2 r3
    refine loop_iter (call := call) (den_ok hC hm b) k hF (.inr hnr) hH hL (fun _ => hnr) hM he fun a1 w1 ι1 z1 z2 z3 z4 => ?_
    refine h hF hnr (z3.part part) (z1.same r1) (by rw [← slot_same r1]; exact z2.pl (Nat.le_refl _)) fun a' w' ι' Hf y1 y2 y3 y4 y5 y6 => ?_
    obtain ⟨k1, k2⟩ := frame_put hw.1 z3 r2 part y3 y4 y5 (fun p hp => by
      rcases List.mem_append.1 hp with hp | hp
      · exact y6 p hp
      · obtain ⟨c, _, rfl⟩ := List.mem_map.1 hp; exact .inl rfl)
    refine hQ a' w' ι' _ y1 (y2.pl (Nat.le_refl _)) k1 (z4.trans k2) (putAll_nx _ _) fun p hp => ?_
    have hlt : InH (p.b) := inH
    have hall : ∀ q ∈ s'.post e, InH (q.b) := fun _ _ => inH
    have hg := putAll_get (H := ⟨H1.t, e.nx⟩) hlt (s'.post e) hall
    have hfu : findB p.b (s'.post e) = some p.k := findB_uniq hw.2 hp
    rw [hfu] at hg
    refine .inr ?_
    show Alike ((putAll (s'.post e) ⟨H1.t, e.nx⟩).get p.b) p.k
    rw [hg]
    exact Alike.refl _
  · cases hr

theorem rnd_end (hC : CallOk P call) (hm : P.follows .mixedOrders = true) {b : Code} {K : Nat} {s : Ls} {e : Lf} (hr : runE P d n b call K s e = true) : RndOk P d n m b K s e := by
  intro F hF hnr lo ι w a hH hL hM Q hQ
  unfold runE at hr
  split at hr
  · rename_i ex L1 H1 he
    simp only [Bool.and_eq_true, List.all_eq_true, Bool.or_eq_true] at hr
    obtain ⟨⟨⟨r0, r1⟩, r2⟩, r3⟩ := hr
    have r0 := eqEx_eq r0
    subst r0
    rw [denF_eq, loopCF_eq] at he
    have main : ∀ (K : Nat) {ι0 : Im} {w0 : World} {a0 : Act} {L0 : TT AV d} {H0 : Hp}, HR ι0 H0 w0 → LR ι0 d n L0 a0.tmps → Md true lo ι0 H0 w0 (dl ((getter d n).f L0)) a0.defers → loopC ((den P d n b).f call) K L0 H0 = .ok e.ex L1 H1 → After true lo ι0 H0 w0 d n L1 H1 (Q (exitOf e.ex)) → Code.roundsIn F m P b Q K a0 w0 := by
      intro K
      induction K with
      | zero => intro ι0 w0 a0 L0 H0 _ _ _ h; cases h
      | succ K ih =>
        intro ι0 w0 a0 L0 H0 q1 q2 q3 h hA
        change seqC _ _ = _ at h
        rw [roundsIn_succ]
        rcases seqC_ok h with ⟨L2, H2, h1, h2⟩ | ⟨hne, h1⟩
        · exact den_ok hC hm b hF (.inr hnr) q1 q2 (fun _ => hnr) q3 h1 fun a' w' ι' r1 r2 r3 r4 => ih r3 r1 r2 h2 (hA.normal r4)
        · refine den_ok hC hm b hF (.inr hnr) q1 q2 (fun _ => hnr) q3 h1 fun a' w' ι' r1 r2 r3 r4 => ?_
          have := hA a' w' ι' r1 r2 r3 r4
          revert this hne
          cases e.ex <;> intro hne this <;> first | exact absurd rfl hne | exact this
    refine main K hH hL hM he fun a' w' ι' z1 z2 z3 z4 => ?_
    refine hQ a' w' ι' H1 (z1.same r1) (by rw [← slot_same r1]; exact z2) z3 z4 (Nat.eq_of_beq_eq_true r2) fun p hp => (r3 p hp).imp id eqBlk_alike
  · cases hr

/-- a loop that is known: where it stands, from which state, how it ends -/
structure Lk where
  p : List Bool
  s : Ls
  e : Lf
def eqP : List Bool → List Bool → Bool
  | [], [] => true
  | a :: l, b :: m => (a == b) && eqP l m
  | _, _ => false
theorem eqP_eq : ∀ {l m : List Bool}, eqP l m = true → l = m
  | [], [], _ => rfl
  | [], _ :: _, h => by cases h
  | _ :: _, [], h => by cases h
  | a :: l, b :: m, h => by
    simp only [eqP, Bool.and_eq_true, beq_iff_eq] at h
    rw [h.1, eqP_eq h.2]
noncomputable def fitsL (n : Nat) (x : Lk) {d : Nat} (p : List Bool) (L : TT AV d) (H : Hp) : Bool :=
  eqP p x.p && (Nat.beq H.nx x.s.nx && (eqCells L (locL d x.s.L) (n + 1) 0 && x.s.pre.all (fun p => eqBlk (H.get p.b) p.k)))
noncomputable def tblK (n : Nat) (l : List Lk) (d : Nat) (p : List Bool) (L : TT AV d) (H : Hp) : Option (Rc d) :=
  List.rec (motive := fun _ => Option (Rc d)) none (fun x _ ih => @Bool.rec (fun _ => Option (Rc d)) ih (some (.ok x.e.ex (locL d x.e.L) (putAll (x.s.post x.e) ⟨H.t, x.e.nx⟩))) (fitsL n x p L H)) l
def codeAt (c : Code) : List Bool → Option Code
  | [] => some c
  | x :: p => match codeAt c p, x with
    | some (.seq a _), false => some a
    | some (.seq _ b), true => some b
    | some (.cond _ a _), false => some a
    | some (.cond _ _ b), true => some b
    | some (.block _ b), false => some b
    | some (.loop b), false => some b
    | _, _ => none
theorem At.codeAt {c0 c : Code} {p : List Bool} (h : At c0 p c) : codeAt c0 p = some c := by
  induction h with
  | root => rfl
  | _ => rename_i ih; simp only [Ev.codeAt, ih]
def bodyAt (c0 : Code) (p : List Bool) : Code := match codeAt c0 p with | some (.loop b) => b | _ => .skip
theorem At.bodyAt {c0 b : Code} {p : List Bool} (h : At c0 p (.loop b)) : bodyAt c0 p = b := by
  unfold Ev.bodyAt; rw [h.codeAt]
theorem tblK_ok {c0 : Code} : ∀ {l : List Lk}, (∀ x ∈ l, x.s.wf x.e = true ∧ ∃ K, RndOk P d n m (bodyAt c0 x.p) K x.s x.e) → TabOk P d n m c0 (tblK n l d)
  | [], _ => fun _ _ _ _ _ _ _ _ h => by cases h
  | x :: l, h => by
    intro p b L H ex L' H' hp he
    have he' : @Bool.rec (fun _ => Option (Rc d)) (tblK n l d p L H) (some (.ok x.e.ex (locL d x.e.L) (putAll (x.s.post x.e) ⟨H.t, x.e.nx⟩))) (fitsL n x p L H) = some (.ok ex L' H') := he
    cases hf : fitsL n x p L H with
    | false =>
      rw [hf] at he'
      intro F hF hr pl hp1 lo ι w a hH hL hpl hM Q hQ
      exact tblK_ok (fun y hy => h y (by simp [hy])) p b L H ex L' H' hp he' hF hr hp1 hH hL hpl hM hQ
    | true =>
      rw [hf] at he'
      cases he'
      obtain ⟨hw, K, hK⟩ := h x (by simp)
      unfold fitsL at hf
      simp only [Bool.and_eq_true, List.all_eq_true] at hf
      obtain ⟨f0, f1, f2, f3⟩ := hf
      have f0 := eqP_eq f0
      subst f0
      have f1 := Nat.eq_of_beq_eq_true f1
      rw [hp.bodyAt] at hK
      unfold Ls.wf at hw
      simp only [Bool.and_eq_true] at hw
      intro F hF hr pl hp1 lo ι w a hH hL hpl hM Q hQ
      subst hp1
      have hnr : noRange b = true := hpl rfl
      have part := part_of hw.1 f1 f3
      refine wpIn_loop_rounds K (hK hF hnr (hH.part part) (hL.same f2) (by rw [← slot_same f2]; exact hM.pl (Nat.le_refl _)) fun a' w' ι' Hf y1 y2 y3 y4 y5 y6 => ?_)
      obtain ⟨k1, k2⟩ := frame_put hw.1 hH f1 part y3 y4 y5 (fun p hp => by
        rcases List.mem_append.1 hp with hp | hp
        · exact y6 p hp
        · obtain ⟨c, _, rfl⟩ := List.mem_map.1 hp; exact .inl rfl)
      exact hQ a' w' ι' y1 (y2.pl (Nat.le_refl _)) k1 k2

/-- a known call whose loops are known -/
noncomputable def runG (P : Program) (tbl : (d : Nat) → LTab d) (ext : Ext) (k : Nat) (e : Kn) : Bool :=
  match (funG P tbl e.f).f (callF P ext k) e.args e.hp with
  | .ok v H1 => eqF 1024 v e.v && Nat.beq H1.nx e.nx' && e.post.all (fun p => isDeadB p.k || eqBlk (H1.get p.b) p.k)
  | .bad => false
theorem kn_of_runG (hm : P.follows .mixedOrders = true) {ext : Ext} (hE : ExtOk P ext) {k : Nat} {e : Kn} {tbl : (d : Nat) → LTab d} (hpl : plainFn P e.f = true) (hT : ∀ fn c, P.funcs[e.f]? = some fn → fn.body = some c → ∀ m, TabOk P (depthFor (fn.ntmps + 1)) fn.ntmps m c (tbl _)) (h : runG P tbl ext k e = true) : KnOk P e := by
  intro ι w ARGS hH ha
  unfold runG at h
  split at h
  · rename_i v H1 hc
    simp only [Bool.and_eq_true, List.all_eq_true, Bool.or_eq_true] at h
    obtain ⟨⟨h1, h2⟩, h3⟩ := h
    have h1 := (eqF_sound 1024).1 _ _ h1
    subst h1
    obtain ⟨c1, c2⟩ := funG_ok (callF_ok hm hE k) hm hc hpl hT hH ha
    refine ⟨c1, fun m => (c2 m).mono fun en w' hp => ?_⟩
    cases en with
    | returned V =>
      obtain ⟨ι', a1, a2, a3⟩ := hp
      exact ⟨ι', H1, a1, a2, a3, Nat.eq_of_beq_eq_true h2, fun p hp => (h3 p hp).imp id eqBlk_alike⟩
    | panicked => exact hp.elim
    | outgrown => exact hp.elim
  · cases h
/-- the code of a function, its slots, and the loop at a place -/
def bodyOf (P : Program) (f : FuncId) : Code := match P.funcs[f]? with | some fn => (match fn.body with | some c => c | none => .skip) | none => .skip
def slotsOf (P : Program) (f : FuncId) : Nat := match P.funcs[f]? with | some fn => fn.ntmps | none => 0
theorem tab_of {f : FuncId} {l : List Lk} (hn : slotsOf P f = n) (hd : depthFor (n + 1) = d) (h : ∀ x ∈ l, x.s.wf x.e = true ∧ ∀ m, ∃ K, RndOk P d n m (bodyAt (bodyOf P f) x.p) K x.s x.e) :
    ∀ fn c, P.funcs[f]? = some fn → fn.body = some c → ∀ m, TabOk P (depthFor (fn.ntmps + 1)) fn.ntmps m c (tblK n l _) := by
  intro fn c hfn hc m
  subst hd
  have e1 : fn.ntmps = n := by unfold slotsOf at hn; rw [hfn] at hn; exact hn
  have e2 : bodyOf P f = c := by unfold bodyOf; rw [hfn]; simp only [hc]
  subst e1
  rw [e2] at h
  exact tblK_ok fun x hx => ⟨(h x hx).1, (h x hx).2 m⟩
end Go.Ev
end

section
/-
  The last step of a law's row: the arguments read as before, where nothing that lay before has turned.
-/
namespace Go.Ev
open Go.RowKit Go.WideShapes Go.ChangeShapes Go.ChangeAt
variable {P : Program} {Hd : Type} {enc : TypeId × Value → Hd}

theorem TrodAll_stays (hl : laidOutB P = true) {W W' : World} {sp : Nat → Bool} : ∀ {ts : List TypeId} {vs : List Value} {ds : List (DataW Hd)} {ps : List MemPlace}, (∀ t ∈ ts, P.readableRec t = true ∧ t < P.types.size) →
    DataW.TrodAll enc P W 0 (fun _ => true) true ts vs ds ps → (∀ p ∈ ps, W.sameAt W' p) → (∀ p ∈ ps, sp p.block = true) → DataW.TrodAll enc P W' 0 sp true ts vs ds ps
  | [], [], [], _, _, h, _, _ => h
  | _ :: _, _ :: _, _ :: _, _, hT, ⟨p, q, h1, h2, e⟩, hs, hb =>
    ⟨p, q, WideElems.Trod_stays hl (hT _ (List.mem_cons.2 (Or.inl rfl))).1 (hT _ (List.mem_cons.2 (Or.inl rfl))).2 h1 (fun x hx => hs x (by rw [e]; exact List.mem_append_left _ hx)) (fun x hx => hb x (by rw [e]; exact List.mem_append_left _ hx)),
      TrodAll_stays hl (fun t ht => hT t (List.mem_cons.2 (Or.inr ht))) h2 (fun x hx => hs x (by rw [e]; exact List.mem_append_right _ hx)) (fun x hx => hb x (by rw [e]; exact List.mem_append_right _ hx)), e⟩

def readB (P : Program) (ts : List TypeId) : Bool := ts.all fun t => P.readableRec t && decide (t < P.types.size)

/-- a law that answers true and leaves what lay before -/
theorem post_law (hl : laidOutB P = true) {f : Func} {s : ChangeSpec} {apart fresh handsOn again : Bool} {W W' : World} {args : Array Value} {ds gs : List (DataW Hd)} {before : List MemPlace} {tb : TypeId}
    (hW : DataW.Whole enc P f.params.toList s.vars apart W args.toList ds gs before) (hv : s.vars = []) (hr : readB P f.params.toList = true)
    (hfn : s.fn Hd ds = { results := [.lit (.bool true)], args := ds }) (hres : f.resultTypes = #[tb]) (htb : P.underlying tb = some .bool) (hb : Below W.heap.size W W') :
    s.post enc P f apart fresh handsOn again W args (.bool true) W' := by
  have hW' := hW
  obtain ⟨p, q, hA, hV, hq, _, _⟩ := hW
  rw [hv] at hV
  obtain ⟨rfl, rfl⟩ := trodVars_none hV
  have hread : ∀ t ∈ f.params.toList, P.readableRec t = true ∧ t < P.types.size := fun t ht => by
    have := List.all_eq_true.1 hr t ht
    simpa using this
  have hds : ds ++ [] = ds := List.append_nil ds
  refine post_below (pa := p) (pv := []) hW' (fun b sp hd => ?_) (fun sp hsp => ?_) (fun sp _ => ?_) hq hb ?_
  · rw [hds, hfn, hres]
    exact trodAll_cons_mk (shut_bool htb _) trodAll_mk0
  · rw [hds, hfn]
    have hlow := hW'.lt
    exact TrodAll_stays hl hread hA (fun x hx => hb.same (hlow x (by rw [hq]; simpa using hx))) (fun x hx => hsp x (by rw [hq]; simpa using hx))
  · rw [hds, hfn, hv]; rfl
  · exact ok_one hres rfl (okWide_bool_mk htb _)
end Go.Ev
end

section
/-
  The evaluator with continuations: what stands behind a piece of code is handed over as a function; so a function's text can be read as one that has values in place of numbered temporaries.
-/
namespace Go.Di
open Go.Ev
variable {d : Nat}

noncomputable def G (L : TT AV d) (i : Nat) : AV := (getter d i).f L
abbrev Kt (d : Nat) := Ex → TT AV d → Hp → R1
def fin (r : Rc d) (K : Kt d) : R1 := match r with | .bad => .bad | .ok e L H => K e L H
def finS (r : Rs d) (k : TT AV d → Hp → R1) : R1 := match r with | .bad => .bad | .ok L H => k L H
def finX (r : Rx d) (k : TT AV d → Hp → List Pd → List Wt → R1) : R1 := match r with | .bad => .bad | .ok L H p w => k L H p w

/-- a quiet step -/
noncomputable def nrm (r : R0) (H : Hp) : Option (AV × Hp) := match r with | .bad => none | .val v => some (v, H) | .new v b => some (v, pushH H b)
noncomputable def vq (r : R0) (H : Hp) (k : AV → Hp → R1) : R1 := match nrm r H with | none => .bad | some p => k p.1 p.2
/-- a step with effects -/
def ve (r : R1) (k : AV → Hp → R1) : R1 := match r with | .bad => .bad | .ok v H => k v H
noncomputable def vg0 (w : Option Bool) (r : R0) (H : Hp) (k : AV → Hp → R1) : R1 := match w with | some true => vq r H k | some false => k .undef H | none => .bad
def veg0 (w : Option Bool) (r : R1) (H : Hp) (k : AV → Hp → R1) : R1 := match w with | some true => ve r k | some false => k .undef H | none => .bad
def wantV (want : Bool) (v : AV) : Option Bool := match v with | .bool b => some (b == want) | .undef => some false | _ => none
def cd (x : AV) (a b : R1) : R1 := match x with | .bool true => a | .bool false => b | _ => .bad
/- steps of a region that draws its order -/
noncomputable def dq0 (lk al : Bool) (i A nm : Nat) (H : Hp) (p : List Pd) (w : List Wt) (f : Hp → R0) (g : Option Bool) (k : AV → Hp → List Pd → List Wt → R1) : R1 :=
  match g with
  | none => .bad
  | some false => k .undef H p w
  | some true => match f (viewH A p H) with
    | .bad => .bad
    | .val v => k v H p (bif lk then ⟨i, A, f, v⟩ :: w else w)
    | .new v b => bif al && b.wr then k v H (⟨i, nm, b⟩ :: p) w else .bad
noncomputable def de0 (A : Nat) (H : Hp) (p : List Pd) (w : List Wt) (r : R1) (g : Option Bool) (k : AV → Hp → List Pd → List Wt → R1) : R1 :=
  match g with
  | none => .bad
  | some false => k .undef H p w
  | some true => match r with
    | .bad => .bad
    | .ok v H' => bif wtsOk (dropP A p) H' (dropW A w) then k v H' (dropP A p) (dropW A w) else .bad
/-- a value that is looked at or reckoned, without a new block -/
def vl (r : R0) (k : AV → R1) : R1 := match r with | .bad => .bad | .val v => k v | .new _ _ => .bad
def vlg0 (w : Option Bool) (r : R0) (k : AV → R1) : R1 := match w with | some true => vl r k | some false => k .undef | none => .bad

/- constants that cannot be taken apart: so two sides are compared argument by argument -/
noncomputable def vg : Option Bool → R0 → Hp → (AV → Hp → R1) → R1 := Classical.choose (⟨vg0, rfl⟩ : ∃ f, f = vg0)
theorem vg_eq : vg = vg0 := Classical.choose_spec (⟨vg0, rfl⟩ : ∃ f, f = vg0)
noncomputable def veg : Option Bool → R1 → Hp → (AV → Hp → R1) → R1 := Classical.choose (⟨veg0, rfl⟩ : ∃ f, f = veg0)
theorem veg_eq : veg = veg0 := Classical.choose_spec (⟨veg0, rfl⟩ : ∃ f, f = veg0)
noncomputable def vlg : Option Bool → R0 → (AV → R1) → R1 := Classical.choose (⟨vlg0, rfl⟩ : ∃ f, f = vlg0)
theorem vlg_eq : vlg = vlg0 := Classical.choose_spec (⟨vlg0, rfl⟩ : ∃ f, f = vlg0)
noncomputable def dq : Bool → Bool → Nat → Nat → Nat → Hp → List Pd → List Wt → (Hp → R0) → Option Bool → (AV → Hp → List Pd → List Wt → R1) → R1 := Classical.choose (⟨dq0, rfl⟩ : ∃ f, f = dq0)
theorem dq_eq : dq = dq0 := Classical.choose_spec (⟨dq0, rfl⟩ : ∃ f, f = dq0)
noncomputable def de : Nat → Hp → List Pd → List Wt → R1 → Option Bool → (AV → Hp → List Pd → List Wt → R1) → R1 := Classical.choose (⟨de0, rfl⟩ : ∃ f, f = de0)
theorem de_eq : de = de0 := Classical.choose_spec (⟨de0, rfl⟩ : ∃ f, f = de0)
theorem finS_doQ (put : TT AV d → AV → TT AV d) (L : TT AV d) (H : Hp) (r : R0) (k : TT AV d → Hp → R1) : finS (doQ put L H r) k = vq r H fun v H => k (put L v) H := by cases r <;> rfl
theorem finS_doE (put : TT AV d → AV → TT AV d) (L : TT AV d) (r : R1) (k : TT AV d → Hp → R1) : finS (doE put L r) k = ve r fun v H => k (put L v) H := by cases r <;> rfl
structure StC (d : Nat) where f : Ev.Call → TT AV d → Hp → (TT AV d → Hp → R1) → R1
noncomputable def stepSC (P : Program) (d n : Nat) (ops : Array Oper) (o : Oper) : StC d :=
  match opS P d n o, o.guard, wantS d n ops o, putS d n o.dst with
  | .q _ f, none, _, ⟨put⟩ => ⟨fun _ L H k => vq (f H.nx L H) H fun v H => k (put L v) H⟩
  | .e f, none, _, ⟨put⟩ => ⟨fun call L H k => ve (f call L H) fun v H => k (put L v) H⟩
  | .q _ f, some _, ⟨w⟩, ⟨put⟩ => ⟨fun _ L H k => vg (w L) (f H.nx L H) H fun v H => k (put L v) H⟩
  | .e f, some _, ⟨w⟩, ⟨put⟩ => ⟨fun call L H k => veg (w L) (f call L H) H fun v H => k (put L v) H⟩
theorem stepSC_eq (P : Program) (d n : Nat) (ops : Array Oper) (o : Oper) (call : Ev.Call) (L : TT AV d) (H : Hp) (k : TT AV d → Hp → R1) :
    finS ((stepS P d n ops o).f call L H) k = (stepSC P d n ops o).f call L H k := by
  unfold stepS stepSC
  generalize opS P d n o = x
  generalize o.guard = g
  generalize wantS d n ops o = w
  generalize putS d n o.dst = p
  obtain ⟨p⟩ := p
  obtain ⟨w⟩ := w
  cases x with
  | q l f => cases g with
    | none => exact finS_doQ ..
    | some j =>
      show finS (ifW (w L) _ _) k = vg (w L) _ H _
      rw [vg_eq]
      cases h : w L with
      | none => rfl
      | some b => cases b with
        | true => exact finS_doQ ..
        | false => rfl
  | e f => cases g with
    | none => exact finS_doE ..
    | some j =>
      show finS (ifW (w L) _ _) k = veg (w L) _ H _
      rw [veg_eq]
      cases h : w L with
      | none => rfl
      | some b => cases b with
        | true => exact finS_doE ..
        | false => rfl
noncomputable def stepDC (P : Program) (d n : Nat) (ops : Array Oper) (o : Oper) : StC d :=
  match dfOf o with
  | none => stepSC P d n ops o
  | some _ => match stepD P d n ops o with | ⟨g⟩ => ⟨fun call L H k => finS (g call L H) k⟩
theorem stepDC_eq (P : Program) (d n : Nat) (ops : Array Oper) (o : Oper) (call : Ev.Call) (L : TT AV d) (H : Hp) (k : TT AV d → Hp → R1) :
    finS ((stepD P d n ops o).f call L H) k = (stepDC P d n ops o).f call L H k := by
  unfold stepDC
  cases h : dfOf o with
  | none => simp only; rw [← stepSC_eq]; unfold stepD; rw [h]
  | some c => rfl
noncomputable def opsC (P : Program) (d n : Nat) (ops : Array Oper) : List Oper → StC d
  | [] => ⟨fun _ L H k => k L H⟩
  | o :: r => match stepDC P d n ops o, opsC P d n ops r with | ⟨g⟩, ⟨h⟩ => ⟨fun call L H k => g call L H fun L H => h call L H k⟩
theorem opsC_eq (P : Program) (d n : Nat) (ops : Array Oper) (call : Ev.Call) : ∀ (l : List Oper) (L : TT AV d) (H : Hp) (k : TT AV d → Hp → R1),
    finS ((opsS P d n ops l).f call L H) k = (opsC P d n ops l).f call L H k
  | [], _, _, _ => rfl
  | o :: r, L, H, k => by
    show finS (bindS ((stepD P d n ops o).f call L H) ((opsS P d n ops r).f call)) k = (stepDC P d n ops o).f call L H fun L H => (opsC P d n ops r).f call L H k
    rw [← stepDC_eq]
    cases (stepD P d n ops o).f call L H with
    | bad => rfl
    | ok L H => exact opsC_eq P d n ops call r L H k

structure SxC (d : Nat) where f : Ev.Call → Nat → TT AV d → Hp → List Pd → List Wt → (TT AV d → Hp → List Pd → List Wt → R1) → R1
noncomputable def stepXC (P : Program) (d n : Nat) (ops : Array Oper) (i A : Nat) (o : Oper) : SxC d :=
  match opS P d n o, projS d n (rdTmps ops o), wantS d n ops o, putS d n o.dst with
  | .q lk f, ⟨pj⟩, ⟨w⟩, ⟨put⟩ => ⟨fun _ base L H p ws k => dq lk (allocs o.op && !lk) i A (base + i) H p ws (f (base + i) (pj L)) (w (pj L)) fun v H p ws => k (put L v) H p ws⟩
  | .e f, ⟨pj⟩, ⟨w⟩, ⟨put⟩ => ⟨fun call _ L H p ws k => de A H p ws (f call (pj L) (viewH A p H)) (w (pj L)) fun v H p ws => k (put L v) H p ws⟩
theorem stepXC_eq (P : Program) (d n : Nat) (ops : Array Oper) (i A : Nat) (o : Oper) (call : Ev.Call) (base : Nat) (L : TT AV d) (H : Hp) (p : List Pd) (ws : List Wt) (k : TT AV d → Hp → List Pd → List Wt → R1) :
    finX ((stepX P d n ops i A o).f call base L H p ws) k = (stepXC P d n ops i A o).f call base L H p ws k := by
  unfold stepX stepXC
  generalize opS P d n o = x
  generalize projS d n (rdTmps ops o) = j
  generalize wantS d n ops o = w
  generalize putS d n o.dst = pt
  obtain ⟨pt⟩ := pt
  obtain ⟨w⟩ := w
  obtain ⟨j⟩ := j
  cases x with
  | q lk f =>
    dsimp only
    rw [dq_eq]
    unfold qX dq0
    cases w (j L) with
    | none => rfl
    | some b => cases b with
      | false => rfl
      | true =>
        simp only
        cases f (base + i) (j L) (viewH A p H) with
        | bad => rfl
        | val v => rfl
        | new v b =>
          simp only
          cases (allocs o.op && !lk && b.wr) <;> rfl
  | e f =>
    dsimp only
    rw [de_eq]
    unfold eX de0
    cases w (j L) with
    | none => rfl
    | some b => cases b with
      | false => rfl
      | true =>
        simp only
        cases f call (j L) (viewH A p H) with
        | bad => rfl
        | ok v H' =>
          simp only
          cases wtsOk (dropP A p) H' (dropW A ws) <;> rfl
noncomputable def opsXC (P : Program) (d n : Nat) (ops : Array Oper) (ms : List Nat) : List Nat → SxC d
  | [] => ⟨fun _ _ L H p w k => k L H p w⟩
  | i :: r => match ops[i]? with
    | some o => match stepXC P d n ops i (ms.getD i 0) o, opsXC P d n ops ms r with | ⟨g⟩, ⟨h⟩ => ⟨fun call base L H p w k => g call base L H p w fun L H p w => h call base L H p w k⟩
    | none => ⟨fun _ _ _ _ _ _ _ => .bad⟩
theorem opsXC_eq (P : Program) (d n : Nat) (ops : Array Oper) (ms : List Nat) (call : Ev.Call) (base : Nat) : ∀ (l : List Nat) (L : TT AV d) (H : Hp) (p : List Pd) (w : List Wt) (k : TT AV d → Hp → List Pd → List Wt → R1),
    finX ((opsX P d n ops ms l).f call base L H p w) k = (opsXC P d n ops ms l).f call base L H p w k
  | [], _, _, _, _, _ => rfl
  | i :: r, L, H, p, w, k => by
    unfold opsX opsXC
    cases ops[i]? with
    | none => rfl
    | some o =>
      show finX (bindX ((stepX P d n ops i (ms.getD i 0) o).f call base L H p w) ((opsX P d n ops ms r).f call base)) k = (stepXC P d n ops i (ms.getD i 0) o).f call base L H p w fun L H p w => (opsXC P d n ops ms r).f call base L H p w k
      rw [← stepXC_eq]
      cases (stepX P d n ops i (ms.getD i 0) o).f call base L H p w with
      | bad => rfl
      | ok L H p w => exact opsXC_eq P d n ops ms call base r L H p w k
noncomputable def drawC (P : Program) (d n : Nat) (ops : Array Oper) : StC d :=
  match planS P d n ops with
  | none => ⟨fun _ _ _ _ => .bad⟩
  | some pl => match opsXC P d n ops pl.ms pl.ord with
    | ⟨g⟩ => ⟨fun call L H k => g call H.nx L ⟨H.t, H.nx + pl.up⟩ [] [] fun L H p _ => k L (allH p H)⟩
theorem drawC_eq (P : Program) (d n : Nat) (ops : Array Oper) (call : Ev.Call) (L : TT AV d) (H : Hp) (k : TT AV d → Hp → R1) :
    finS ((drawS P d n ops).f call L H) k = (drawC P d n ops).f call L H k := by
  unfold drawS drawC
  cases planS P d n ops with
  | none => rfl
  | some pl =>
    show finS (match (opsX P d n ops pl.ms pl.ord).f call H.nx L ⟨H.t, H.nx + pl.up⟩ [] [] with | .bad => .bad | .ok L' H' pend _ => .ok L' (allH pend H')) k = (opsXC P d n ops pl.ms pl.ord).f call H.nx L ⟨H.t, H.nx + pl.up⟩ [] [] fun L H p _ => k L (allH p H)
    rw [← opsXC_eq]
    cases (opsX P d n ops pl.ms pl.ord).f call H.nx L ⟨H.t, H.nx + pl.up⟩ [] [] <;> rfl

/- regions that draw their order, without effects and new blocks -/
noncomputable def quietO (P : Program) (d n : Nat) (ops : Array Oper) (i : Nat) : Bool := match ops[i]? with | some o => !isE (opS P d n o) && !allocs o.op | none => false
noncomputable def lookC (P : Program) (d n : Nat) (ops : Array Oper) (i : Nat) (o : Oper) : StC d :=
  match opS P d n o, projS d n (rdTmps ops o), o.guard, wantS d n ops o, putS d n o.dst with
  | .q _ f, ⟨pj⟩, none, _, ⟨put⟩ => ⟨fun _ L H k => vl (f (H.nx + i) (pj L) H) fun v => k (put L v) H⟩
  | .q _ f, ⟨pj⟩, some _, ⟨w⟩, ⟨put⟩ => ⟨fun _ L H k => vlg (w (pj L)) (f (H.nx + i) (pj L) H) fun v => k (put L v) H⟩
  | .e _, _, _, _, _ => ⟨fun _ _ _ _ => .bad⟩
noncomputable def opsLC (P : Program) (d n : Nat) (ops : Array Oper) : List Nat → StC d
  | [] => ⟨fun _ L H k => k L H⟩
  | i :: r => match ops[i]? with
    | some o => match lookC P d n ops i o, opsLC P d n ops r with | ⟨g⟩, ⟨h⟩ => ⟨fun call L H k => g call L H fun L H => h call L H k⟩
    | none => ⟨fun _ _ _ _ => .bad⟩
theorem dq_vlg (lk : Bool) (i A nm : Nat) (H : Hp) (w : List Wt) (f : Hp → R0) (g : Option Bool) (k : AV → Hp → List Pd → List Wt → R1) (k' : AV → R1) (h : ∀ v w, k v H [] w = k' v) :
    dq lk false i A nm H [] w f g k = vlg g (f H) k' := by
  rw [dq_eq, vlg_eq]
  unfold dq0 vlg0
  cases g with
  | none => rfl
  | some b => cases b with
    | false => exact h _ _
    | true =>
      simp only
      show (match f H with | .bad => R1.bad | .val v => _ | .new v b => _) = vl (f H) k'
      cases f H with
      | bad => rfl
      | val v => exact h _ _
      | new v b => rfl
theorem opsLC_eq (P : Program) (d n : Nat) (ops : Array Oper) (ms : List Nat) (call : Ev.Call) (H : Hp) : ∀ (l : List Nat), l.all (quietO P d n ops) = true → ∀ (L : TT AV d) (w : List Wt) (k : TT AV d → Hp → R1),
    (opsXC P d n ops ms l).f call H.nx L H [] w (fun L H p _ => k L (allH p H)) = (opsLC P d n ops l).f call L H k
  | [], _, _, _, _ => rfl
  | i :: r, hl, L, w, k => by
    rw [List.all_cons, Bool.and_eq_true] at hl
    have hq := hl.1
    unfold quietO at hq
    unfold opsXC opsLC
    cases ho : ops[i]? with
    | none => simp [ho] at hq
    | some o =>
      rw [ho] at hq
      simp only [Bool.and_eq_true, Bool.not_eq_true'] at hq
      show (stepXC P d n ops i (ms.getD i 0) o).f call H.nx L H [] w (fun L H' p w => (opsXC P d n ops ms r).f call H.nx L H' p w (fun L H p _ => k L (allH p H))) = (lookC P d n ops i o).f call L H fun L H => (opsLC P d n ops r).f call L H k
      unfold stepXC lookC
      have hal := hq.2
      have hE := hq.1
      have hw : o.guard = none → (wantS d n ops o).f = fun _ => some true := fun hg => by unfold wantS; rw [hg]
      generalize wantS d n ops o = x1 at hw
      generalize opS P d n o = x2 at hE
      generalize projS d n (rdTmps ops o) = x3
      generalize putS d n o.dst = x4
      obtain ⟨x1⟩ := x1
      obtain ⟨x3⟩ := x3
      obtain ⟨x4⟩ := x4
      cases x2 with
      | e f => cases hE
      | q lk f =>
        cases hg : o.guard with
        | none =>
          have e := hw hg
          simp only at e
          subst e
          dsimp only
          rw [hal]
          refine (dq_vlg lk i _ _ H w _ (some true) _ (fun v => (opsLC P d n ops r).f call (x4 L v) H k) fun v w => ?_).trans (by rw [vlg_eq]; rfl)
          exact opsLC_eq P d n ops ms call H r hl.2 (x4 L v) w k
        | some j =>
          dsimp only
          rw [hal]
          exact dq_vlg lk i _ _ H w _ (x1 (x3 L)) _ (fun v => (opsLC P d n ops r).f call (x4 L v) H k) fun v w => opsLC_eq P d n ops ms call H r hl.2 (x4 L v) w k
noncomputable def drawL (P : Program) (d n : Nat) (ops : Array Oper) : StC d :=
  match planS P d n ops with
  | none => ⟨fun _ _ _ _ => .bad⟩
  | some pl => match pl.ord.all (quietO P d n ops) && Nat.beq pl.up 0, opsLC P d n ops pl.ord, opsXC P d n ops pl.ms pl.ord with
    | true, ⟨g⟩, _ => ⟨g⟩
    | false, _, ⟨g⟩ => ⟨fun call L H k => g call H.nx L ⟨H.t, H.nx + pl.up⟩ [] [] fun L H p _ => k L (allH p H)⟩
theorem drawL_eq (P : Program) (d n : Nat) (ops : Array Oper) (call : Ev.Call) (L : TT AV d) (H : Hp) (k : TT AV d → Hp → R1) :
    finS ((drawS P d n ops).f call L H) k = (drawL P d n ops).f call L H k := by
  rw [drawC_eq]
  unfold drawC drawL
  cases planS P d n ops with
  | none => rfl
  | some pl =>
    dsimp only
    cases hq : (pl.ord.all (quietO P d n ops) && Nat.beq pl.up 0) with
    | false => rfl
    | true =>
      rw [Bool.and_eq_true] at hq
      have hu := Nat.eq_of_beq_eq_true hq.2
      show (opsXC P d n ops pl.ms pl.ord).f call H.nx L ⟨H.t, H.nx + pl.up⟩ [] [] (fun L H p _ => k L (allH p H)) = (opsLC P d n ops pl.ord).f call L H k
      rw [hu]
      exact opsLC_eq P d n ops pl.ms call H pl.ord hq.1 L [] k

/-- code, and what stands behind it -/
def thn (b : TT AV d → Hp → R1) (K : Kt d) : Kt d := fun e L H => match e with | .normal => b L H | e => K e L H
def outK (id : Nat) (K : Kt d) : Kt d := fun e L H => match e with | .exit i => bif Nat.beq i id then K .normal L H else K (.exit i) L H | e => K e L H
structure DnC (d : Nat) where f : Ev.Call → TT AV d → Hp → Kt d → R1
noncomputable def denC (P : Program) (d n : Nat) : Code → DnC d
  | .skip | .label _ => ⟨fun _ L H K => K .normal L H⟩
  | .region _ ops false => match opsC P d n ops ops.toList with | ⟨g⟩ => ⟨fun call L H K => g call L H (K .normal)⟩
  | .region _ ops true => match drawL P d n ops with | ⟨g⟩ => ⟨fun call L H K => g call L H (K .normal)⟩
  | .seq a b => match denC P d n a, denC P d n b with | ⟨f⟩, ⟨g⟩ => ⟨fun call L H K => f call L H (thn (fun L H => g call L H K) K)⟩
  | .cond x a b => match opnd d n x, denC P d n a, denC P d n b with | ⟨g⟩, ⟨f⟩, ⟨h⟩ => ⟨fun call L H K => cd (g L) (f call L H K) (h call L H K)⟩
  | .block id b => match denC P d n b with | ⟨f⟩ => ⟨fun call L H K => f call L H (outK id K)⟩
  | .scope b => denC P d n b
  | .exit id => ⟨fun _ L H K => K (.exit id) L H⟩
  | .ret => ⟨fun _ L H K => K .ret L H⟩
  | c => match den P d n c with | ⟨g⟩ => ⟨fun call L H K => fin (g call L H) K⟩
theorem fin_ofRs (r : Rs d) (K : Kt d) : fin (ofRs r) K = finS r (K .normal) := by cases r <;> rfl
theorem fin_seq (r : Rc d) (k : TT AV d → Hp → Rc d) (K : Kt d) : fin (seqC r k) K = fin r (thn (fun L H => fin (k L H) K) K) := by
  cases r with
  | bad => rfl
  | ok e L H => cases e <;> rfl
theorem fin_block (id : Nat) (r : Rc d) (K : Kt d) : fin (blockC id r) K = fin r (outK id K) := by
  cases r with
  | bad => rfl
  | ok e L H =>
    cases e with
    | exit i =>
      show fin (bif Nat.beq i id then _ else _) K = bif Nat.beq i id then _ else _
      cases Nat.beq i id <;> rfl
    | _ => rfl
theorem denC_eq (P : Program) (d n : Nat) (call : Ev.Call) : ∀ (c : Code) (L : TT AV d) (H : Hp) (K : Kt d), fin ((den P d n c).f call L H) K = (denC P d n c).f call L H K
  | .skip, _, _, _ | .label _, _, _, _ | .exit _, _, _, _ | .ret, _, _, _ | .goto _, _, _, _ | .loop _, _, _, _ | .rangeFunc .., _, _, _ | .refuse _, _, _, _ => rfl
  | .region _ ops false, L, H, K => (fin_ofRs ..).trans (opsC_eq ..)
  | .region _ ops true, L, H, K => (fin_ofRs ..).trans (drawL_eq ..)
  | .seq a b, L, H, K => by
    refine (fin_seq ((den P d n a).f call L H) ((den P d n b).f call) K).trans ?_
    rw [denC_eq P d n call a]
    show (denC P d n a).f call L H (thn (fun L H => fin ((den P d n b).f call L H) K) K) = (denC P d n a).f call L H (thn (fun L H => (denC P d n b).f call L H K) K)
    congr 2
    funext L H
    exact denC_eq P d n call b L H K
  | .cond x a b, L, H, K => by
    show fin (condC ((opnd d n x).f L) ((den P d n a).f call L H) ((den P d n b).f call L H)) K = cd ((opnd d n x).f L) ((denC P d n a).f call L H K) ((denC P d n b).f call L H K)
    rw [← denC_eq P d n call a, ← denC_eq P d n call b]
    generalize (opnd d n x).f L = v
    cases v with
    | bool q => cases q <;> rfl
    | _ => rfl
  | .block id b, L, H, K => (fin_block ..).trans (denC_eq P d n call b L H (outK id K))
  | .scope b, L, H, K => denC_eq P d n call b L H K

/-- what a piece of code comes to, with what stands behind it, as a function of the locals -/
def Lk (P : Program) (d n : Nat) (call : Ev.Call) (c : Code) (K : Kt d) (D : TT AV d → Hp → R1) : Prop := ∀ L H, fin ((den P d n c).f call L H) K = D L H
variable {P : Program} {n : Nat} {call : Ev.Call} {K : Kt d}
theorem Lk.one {c : Code} {D : TT AV d → Hp → R1} (h : ∀ L H, (denC P d n c).f call L H K = D L H) : Lk P d n call c K D := fun L H => (denC_eq P d n call c L H K).trans (h L H)
theorem Lk.seq {a b : Code} {D E : TT AV d → Hp → R1} (hb : Lk P d n call b K E) (ha : Lk P d n call a (thn E K) D) : Lk P d n call (.seq a b) K D := fun L H => by
  refine (fin_seq ((den P d n a).f call L H) ((den P d n b).f call) K).trans ?_
  rw [show (fun L H => fin ((den P d n b).f call L H) K) = E from funext fun L => funext fun H => hb L H]
  exact ha L H
theorem Lk.block {id : Nat} {b : Code} {D : TT AV d → Hp → R1} (h : Lk P d n call b (outK id K) D) : Lk P d n call (.block id b) K D := fun L H => (fin_block ..).trans (h L H)
theorem Lk.scope {b : Code} {D : TT AV d → Hp → R1} (h : Lk P d n call b K D) : Lk P d n call (.scope b) K D := h
theorem Lk.cond {x : Operand} {a b : Code} {A B : TT AV d → Hp → R1} (ha : Lk P d n call a K A) (hb : Lk P d n call b K B) : Lk P d n call (.cond x a b) K (fun L H => cd ((opnd d n x).f L) (A L H) (B L H)) := fun L H => by
  show fin (condC ((opnd d n x).f L) ((den P d n a).f call L H) ((den P d n b).f call L H)) K = cd ((opnd d n x).f L) (A L H) (B L H)
  rw [← ha L H, ← hb L H]
  generalize (opnd d n x).f L = v
  cases v with
  | bool q => cases q <;> rfl
  | _ => rfl
/-- how many rounds a loop may go, as a number that nobody reckons with by chance -/
noncomputable def fuelX : Nat := Classical.choose (⟨loopFuel, rfl⟩ : ∃ n, n = loopFuel)
theorem fuelX_eq : fuelX = loopFuel := Classical.choose_spec (⟨loopFuel, rfl⟩ : ∃ n, n = loopFuel)
theorem Lk.loop {b : Code} {D : Nat → TT AV d → Hp → R1} (h0 : ∀ L H, D 0 L H = .bad) (hs : ∀ k, Lk P d n call b (thn (D k) K) (D (k + 1))) : Lk P d n call (.loop b) K (D fuelX) := by
  have main : ∀ k L H, fin (loopC ((den P d n b).f call) k L H) K = D k L H := by
    intro k
    induction k with
    | zero => intro L H; exact (h0 L H).symm
    | succ k ih =>
      intro L H
      show fin (seqC ((den P d n b).f call L H) (loopC ((den P d n b).f call) k)) K = _
      rw [fin_seq, show (fun L H => fin (loopC ((den P d n b).f call) k L H) K) = D k from funext fun L => funext fun H => ih L H]
      exact hs k L H
  rw [fuelX_eq]
  exact fun L H => main loopFuel L H
theorem Lk.of {c : Code} {D E : TT AV d → Hp → R1} (h : Lk P d n call c K D) (e : ∀ L H, D L H = E L H) : Lk P d n call c K E := fun L H => (h L H).trans (e L H)
/-- what stands behind a function's body -/
noncomputable def endK (n : Nat) (call : Ev.Call) (res : TT AV d → Hp → Option AV) : Kt d := fun e L H => match e with | .normal => outC n call res L H | .ret => outC n call res L H | _ => .bad
theorem retC_eq (n : Nat) (call : Ev.Call) (res : TT AV d → Hp → Option AV) (r : Rc d) : retC n call res r = fin r (endK n call res) := by
  cases r with
  | bad => rfl
  | ok e L H => cases e <;> rfl
def codeOf (f : Func) : Code := match f.body with | some c => c | none => .skip
theorem fun_link {f : FuncId} {F : Func} (hf : P.funcs[f]? = some F) (hn : (F.name == "runtime.NumGoroutine") = false) (hb : F.body.isSome = true) {args : List AV} (ha : (Nat.ble args.length F.ntmps && Nat.ble (F.ntmps + 1) 262144) = true)
    {D : TT AV (depthFor (F.ntmps + 1)) → Hp → R1} (h : Lk P (depthFor (F.ntmps + 1)) F.ntmps call (codeOf F) (endK F.ntmps call (resultsS P (depthFor (F.ntmps + 1)) F.ntmps F.results.toList).f) D) (H : Hp) :
    (funS P f).f call args H = D (wrL args 0 (same .undef _)) H := by
  unfold funS
  rw [hf]
  simp only [hn, Bool.false_eq_true, if_false]
  unfold codeOf at h
  cases hc : F.body with
  | none => rw [hc] at hb; cases hb
  | some c =>
    rw [hc] at h
    show (bif Nat.ble args.length F.ntmps && Nat.ble (F.ntmps + 1) 262144 then retC F.ntmps call _ _ else .bad) = _
    rw [ha, ← h _ H]
    exact retC_eq ..
end Go.Di
namespace Go.Di
open Go.Ev
variable {d n : Nat} {P : Program} {call : Ev.Call}
/-- no deferred call -/
def noDef : Code → Bool
  | .region _ ops _ => !(ops.toList.any isDf)
  | .seq a b => noDef a && noDef b
  | .cond _ a b => noDef a && noDef b
  | .block _ b => noDef b
  | .loop b => noDef b
  | .scope b => noDef b
  | .rangeFunc .. => true
  | _ => true
theorem dfOf_none {o : Oper} (h : isDf o = false) : dfOf o = none := by
  unfold isDf at h
  unfold dfOf
  split
  · rename_i e _; rw [e] at h; cases h
  · rfl
theorem opsS_slot (hn : n < 8 ^ d) {ops : Array Oper} : ∀ (l : List Oper), l.any isDf = false → ∀ {L : TT AV d} {H : Hp} {L' : TT AV d} {H' : Hp}, (opsS P d n ops l).f call L H = .ok L' H' → (getter d n).f L' = (getter d n).f L
  | [], _, L, H, L', H', h => by cases h; rfl
  | o :: r, hl, L, H, L', H', h => by
    rw [List.any_cons, Bool.or_eq_false_iff] at hl
    have h' : bindS ((stepD P d n ops o).f call L H) ((opsS P d n ops r).f call) = .ok L' H' := h
    cases h1 : (stepD P d n ops o).f call L H with
    | bad => rw [h1] at h'; cases h'
    | ok L1 H1 =>
      rw [h1] at h'
      unfold stepD at h1
      rw [dfOf_none hl.1] at h1
      exact (opsS_slot hn r hl.2 h').trans (stepS_slot hn h1)
theorem den_slot (hn : n < 8 ^ d) : ∀ (c : Code), noDef c = true → ∀ {L : TT AV d} {H : Hp} {e : Ex} {L' : TT AV d} {H' : Hp}, (den P d n c).f call L H = .ok e L' H' → (getter d n).f L' = (getter d n).f L
  | .skip, _, _, _, _, _, _, h | .label _, _, _, _, _, _, _, h | .exit _, _, _, _, _, _, _, h | .ret, _, _, _, _, _, _, h => by cases h; rfl
  | .goto _, _, _, _, _, _, _, h | .refuse _, _, _, _, _, _, _, h => by cases h
  | .rangeFunc f ps sa bd, _, L, H, e, L', H', h => by
    rw [den] at h
    split at h
    · cases h
    · rename_i g _ _
      have h : endLoop H.nx (callFn call (g L) [.yield H.nx] (pushH H (.loop true none d n L ps.toList sa bd))) L = .ok e L' H' := h
      unfold endLoop at h
      split at h
      · cases h
      · split at h <;> first | (cases h; rfl) | cases h
  | .region _ ops false, hc, L, H, e, L', H', h => by
    have h' : ofRs ((opsS P d n ops ops.toList).f call L H) = .ok e L' H' := h
    cases h1 : (opsS P d n ops ops.toList).f call L H with
    | bad => rw [h1] at h'; cases h'
    | ok L1 H1 =>
      rw [h1] at h'; cases h'
      exact opsS_slot hn _ (by simpa [noDef] using hc) h1
  | .region _ ops true, _, L, H, e, L', H', h => by
    have h' : ofRs ((drawS P d n ops).f call L H) = .ok e L' H' := h
    cases h1 : (drawS P d n ops).f call L H with
    | bad => rw [h1] at h'; cases h'
    | ok L1 H1 => rw [h1] at h'; cases h'; exact drawS_slot hn h1
  | .seq a b, hc, L, H, e, L', H', h => by
    simp only [noDef, Bool.and_eq_true] at hc
    have h' : seqC ((den P d n a).f call L H) ((den P d n b).f call) = .ok e L' H' := h
    cases h1 : (den P d n a).f call L H with
    | bad => rw [h1] at h'; cases h'
    | ok e1 L1 H1 =>
      rw [h1] at h'
      have g1 := den_slot hn a hc.1 h1
      cases e1 with
      | normal => exact (den_slot hn b hc.2 h').trans g1
      | exit i => cases h'; exact g1
      | goto i => cases h'; exact g1
      | ret => cases h'; exact g1
  | .cond x a b, hc, L, H, e, L', H', h => by
    simp only [noDef, Bool.and_eq_true] at hc
    have h' : condC ((opnd d n x).f L) ((den P d n a).f call L H) ((den P d n b).f call L H) = .ok e L' H' := h
    unfold condC at h'
    split at h'
    · exact den_slot hn a hc.1 h'
    · exact den_slot hn b hc.2 h'
    · cases h'
  | .block id b, hc, L, H, e, L', H', h => by
    have h' : blockC id ((den P d n b).f call L H) = .ok e L' H' := h
    cases h1 : (den P d n b).f call L H with
    | bad => rw [h1] at h'; cases h'
    | ok e1 L1 H1 =>
      rw [h1] at h'
      have g1 := den_slot hn b hc h1
      cases e1 with
      | exit i =>
        have h2 : (bif Nat.beq i id then Rc.ok .normal L1 H1 else Rc.ok (.exit i) L1 H1) = .ok e L' H' := h'
        cases hb : Nat.beq i id with
        | true => rw [hb] at h2; cases h2; exact g1
        | false => rw [hb] at h2; cases h2; exact g1
      | normal => cases h'; exact g1
      | goto i => cases h'; exact g1
      | ret => cases h'; exact g1
  | .loop b, hc, L, H, e, L', H', h => by
    have main : ∀ (k : Nat) {L : TT AV d} {H : Hp}, loopC ((den P d n b).f call) k L H = .ok e L' H' → (getter d n).f L' = (getter d n).f L := by
      intro k
      induction k with
      | zero => intro L H h; cases h
      | succ k ih =>
        intro L H h
        have h' : seqC ((den P d n b).f call L H) (loopC ((den P d n b).f call) k) = .ok e L' H' := h
        cases h1 : (den P d n b).f call L H with
        | bad => rw [h1] at h'; cases h'
        | ok e1 L1 H1 =>
          rw [h1] at h'
          have g1 := den_slot hn b hc h1
          cases e1 with
          | normal => exact (ih h').trans g1
          | exit i => cases h'; exact g1
          | goto i => cases h'; exact g1
          | ret => cases h'; exact g1
    exact main loopFuel h
  | .scope b, hc, L, H, e, L', H', h => den_slot hn b hc h

/-- the end of a function that defers nothing -/
def endR (res : TT AV d → Hp → Option AV) : Kt d := fun e L H => match e with | .normal => finR (res L H) H | .ret => finR (res L H) H | _ => .bad
theorem Lk.self {c : Code} {K : Kt d} : Lk P d n call c K (fun L H => (denC P d n c).f call L H K) := fun L H => denC_eq P d n call c L H K
theorem fun_plain {f : FuncId} {F : Func} (hf : P.funcs[f]? = some F) (hn : (F.name == "runtime.NumGoroutine") = false) (hb : F.body.isSome = true) (hd : noDef (codeOf F) = true) {args : List AV} (ha : (Nat.ble args.length F.ntmps && Nat.ble (F.ntmps + 1) 262144) = true)
    {D : TT AV (depthFor (F.ntmps + 1)) → Hp → R1} (h : Lk P (depthFor (F.ntmps + 1)) F.ntmps call (codeOf F) (endR (resultsS P (depthFor (F.ntmps + 1)) F.ntmps F.results.toList).f) D) (H : Hp) :
    (funS P f).f call args H = D (wrL args 0 (same .undef _)) H := by
  refine (fun_link hf hn hb ha (D := fun L H => fin ((den P (depthFor (F.ntmps + 1)) F.ntmps (codeOf F)).f call L H) (endK F.ntmps call (resultsS P (depthFor (F.ntmps + 1)) F.ntmps F.results.toList).f)) (fun _ _ => rfl) H).trans ?_
  rw [← h]
  cases h1 : (den P (depthFor (F.ntmps + 1)) F.ntmps (codeOf F)).f call (wrL args 0 (same .undef _)) H with
  | bad => rfl
  | ok e L' H' =>
    have hs := den_slot (Nat.lt_of_lt_of_le (Nat.lt_succ_self _) (depth_fits _)) (codeOf F) hd h1
    simp only [Bool.and_eq_true, Nat.ble_eq] at ha
    have h0 := start_slot ha.1 ha.2
    have hout : outC F.ntmps call (resultsS P (depthFor (F.ntmps + 1)) F.ntmps F.results.toList).f L' H' = finR ((resultsS P (depthFor (F.ntmps + 1)) F.ntmps F.results.toList).f L' H') H' := by
      unfold outC
      rw [hs, h0]; rfl
    cases e with
    | normal => exact hout
    | ret => exact hout
    | exit i => rfl
    | goto i => rfl
end Go.Di
end

section
namespace Go.Di
open Go.Ev
noncomputable def dz (up : Nat) (H : Hp) (k : Nat → Hp → R1) : R1 := k H.nx ⟨H.t, H.nx + up⟩
noncomputable def dz2 (p : List Pd) (H : Hp) (k : Hp → R1) : R1 := k (allH p H)
def rV (r : R0) : Option AV := match r with | .val v => some v | _ => none
def consO (a : Option AV) (b : Option (List AV)) : Option (List AV) := match a, b with | some v, some l => some (v :: l) | _, _ => none
def tupO (a : Option (List AV)) : Option AV := match a with | some l => some (.tup l) | none => none
def pA (k : Nat) : P1 := ⟨fun cs off => some (.agg ((cs.drop off).take k))⟩
def p1 : P1 := ⟨fun cs off => cs[off]?⟩
def nilC (x : AV) : R0 := match x with | .ptr b o => .val (.ptr b o) | .fn a b c => .val (.fn a b c) | .yield l => .val (.yield l) | _ => .bad
def convS (x : AV) : R0 := match x with | .str n a => .val (.str n a) | _ => .bad
def extr (i : Nat) (x : AV) : R0 := match x with | .tup l => (match l[i]? with | some v => .val v | none => .bad) | _ => .bad
end Go.Di
end
