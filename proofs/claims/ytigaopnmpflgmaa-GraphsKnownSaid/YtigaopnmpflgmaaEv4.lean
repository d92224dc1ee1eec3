/-
  The evaluator and its soundness, part 4 of 4 (texts XEvU, XEvL joined): what a run of the abstract evaluator answers, the model's run answers, in every world and on every schedule. No conditions beyond those that each theorem states.
-/
import Derived.Test.YtigaopnmpflgmaaEv3
import Derived.WideKeyArgs
import Derived.Carry
import Derived.OpenShut
import Derived.ProofKit
import Derived.WalkKit
section
/-
  Loops that are known ahead, cut into stretches of rounds: each stretch runs from one state at the loop's head to the next.
-/
namespace Go.Ev
open Go.RowKit
variable {P : Program} {d n : Nat} {call : Call} {F : Fence} {m : Nat}

theorem Md.pl {lo : Nat} {ι ι' : Im} {H H' : Hp} {w w' : World} {l : List AV} {ds : List Deferred} (h : Md true lo ι H w l ds) (hs : w.heap.size ≤ w'.heap.size) : Md true lo ι' H' w' l ds := by
  obtain ⟨h0, h1, Ds, h2⟩ := h
  have e := h0 rfl
  subst e
  exact ⟨fun _ => rfl, Nat.le_trans h1 hs, Ds, h2⟩

noncomputable def hpOf (pre : List Pb) (nx : Nat) : Hp := putAll pre ⟨same .dead HD, nx⟩
/-- names in order -/
def wfB (pre : List Pb) (nx : Nat) (post : List Pb) (nx' : Nat) : Bool :=
  Nat.ble nx 2097152 && Nat.ble nx' 2097152 && pre.all (fun p => Nat.blt p.b nx && liveB p.k && post.any (fun q => Nat.beq q.b p.b)) &&
  post.all (fun q => Nat.blt q.b nx' && (Nat.ble nx q.b || pre.any (fun p => Nat.beq p.b q.b)))
theorem hpOf_get {pre : List Pb} {nx : Nat} (h : ∀ p ∈ pre, p.b < HMax) {c : Nat} (hc : c < HMax) : (hpOf pre nx).get c = match findB c pre with | some k => k | none => .dead := by
  have := putAll_get (H := ⟨same .dead HD, nx⟩) hc pre h
  have hd : Hp.get ⟨same .dead HD, nx⟩ c = .dead := get_same _ _ c
  rw [hd] at this
  exact this
theorem part_of {pre post : List Pb} {nx nx' : Nat} (hw : wfB pre nx post nx' = true) {H : Hp} (f2 : H.nx = nx) (f4 : ∀ p ∈ pre, eqBlk (H.get p.b) p.k = true) : Part (hpOf pre nx) H := by
  unfold wfB at hw
  simp only [Bool.and_eq_true, List.all_eq_true, Bool.or_eq_true, List.any_eq_true] at hw
  obtain ⟨⟨⟨w1, w2⟩, w3⟩, w4⟩ := hw
  have w1 : nx ≤ HMax := Nat.le_of_ble_eq_true w1
  have hpre : ∀ p ∈ pre, p.b < nx := fun p hp => Nat.le_of_ble_eq_true (w3 p hp).1.1
  refine ⟨(putAll_nx _ _).trans f2.symm, fun c hc => ?_⟩
  rw [hpOf_get (fun p hp => Nat.lt_of_lt_of_le (hpre p hp) w1) hc]
  cases hfb : findB c pre with
  | none => exact .inl rfl
  | some k =>
    have h5 := f4 ⟨c, k⟩ (findB_mem hfb)
    dsimp only at h5
    exact .inr (eqBlk_alike h5)
theorem frame_put {pre post : List Pb} {nx nx' : Nat} (hw : wfB pre nx post nx' = true) {H H1 : Hp} {ι ι' : Im} {w w' : World} (hH : HR ι H w) (f2 : H.nx = nx) (part : Part (hpOf pre nx) H)
    (a2 : HR ι' H1 w') (a3 : Fr ι ι' (hpOf pre nx) H1 w w') (a4 : H1.nx = nx') (a5 : ∀ p ∈ post, isDeadB p.k = true ∨ Alike (H1.get p.b) p.k) :
    HR ι' (putAll post ⟨H.t, nx'⟩) w' ∧ Fr ι ι' H (putAll post ⟨H.t, nx'⟩) w w' := by
  unfold wfB at hw
  simp only [Bool.and_eq_true, List.all_eq_true, Bool.or_eq_true, List.any_eq_true] at hw
  obtain ⟨⟨⟨w1, w2⟩, w3⟩, w4⟩ := hw
  have w1 : nx ≤ HMax := Nat.le_of_ble_eq_true w1
  have w2 : nx' ≤ HMax := Nat.le_of_ble_eq_true w2
  have hpre : ∀ p ∈ pre, p.b < nx := fun p hp => Nat.le_of_ble_eq_true (w3 p hp).1.1
  have hpost : ∀ p ∈ post, p.b < nx' := fun p hp => Nat.le_of_ble_eq_true (w4 p hp).1
  have getV : ∀ c, c < HMax → (hpOf pre nx).get c = match findB c pre with | some k => k | none => .dead := fun c hc => hpOf_get (fun p hp => Nat.lt_of_lt_of_le (hpre p hp) w1) hc
  have getP : ∀ c, c < HMax → (putAll post ⟨H.t, nx'⟩).get c = match findB c post with | some k => k | none => H.get c := fun c hc =>
    putAll_get (H := ⟨H.t, nx'⟩) hc post fun p hp => Nat.lt_of_lt_of_le (hpost p hp) w2
  have hout : ∀ c, c < HMax → ((hpOf pre nx).get c).isDead = true → c < H.nx → (putAll post ⟨H.t, nx'⟩).get c = H.get c := fun c hc hd hlt => by
    rw [getP c hc]
    cases hfb : findB c post with
    | none => rfl
    | some k =>
      have hm := w4 ⟨c, k⟩ (findB_mem hfb)
      dsimp only at hm
      rcases hm.2 with h5 | ⟨q, hq, e5⟩
      · have := Nat.le_of_ble_eq_true h5; omega
      · have e5 := Nat.eq_of_beq_eq_true e5
        obtain ⟨k', hk'⟩ := findB_some (c := c) ⟨q, hq, e5⟩
        rw [getV c hc, hk'] at hd
        have := liveB_live (w3 ⟨c, k'⟩ (findB_mem hk')).1.2
        dsimp only at this hd
        rw [this] at hd; cases hd
  have hin : ∀ c, c < HMax → (((hpOf pre nx).get c).isDead = false ∨ H.nx ≤ c) → (putAll post ⟨H.t, nx'⟩).get c = .dead ∨ Alike (H1.get c) ((putAll post ⟨H.t, nx'⟩).get c) := fun c hc hd => by
    rw [getP c hc]
    cases hfb : findB c post with
    | some k =>
      have h6 := a5 ⟨c, k⟩ (findB_mem hfb)
      dsimp only at h6
      rcases h6 with h5 | h5
      · exact .inl (isDeadB_eq h5)
      · exact .inr h5
    | none =>
      rcases hd with hd | hd
      · rw [getV c hc] at hd
        cases hfp : findB c pre with
        | none => rw [hfp] at hd; cases hd
        | some k =>
          obtain ⟨q, hq, e5⟩ := (w3 ⟨c, k⟩ (findB_mem hfp)).2
          obtain ⟨k', hk'⟩ := findB_some (c := c) ⟨q, hq, Nat.eq_of_beq_eq_true e5⟩
          rw [hfb] at hk'; cases hk'
      · exact .inl (hH.free c hd hc)
  exact hH.frame (G' := putAll post ⟨H.t, nx'⟩) part a2 a3 ((putAll_nx _ _).trans a4.symm) hout hin

/-- a state at a loop's head: the slots, the memory; which of its blocks are gone in the end -/
structure Ls where
  L : List AV
  nx : Nat
  pre : List Pb
  dd : List Nat
/-- how a loop ends -/
structure Lf where
  ex : Ex
  L : List AV
  nx : Nat
  post : List Pb
noncomputable def locL (d : Nat) (l : List AV) : TT AV d := wrL l 0 (same .undef d)
noncomputable def Ls.hp (s : Ls) : Hp := hpOf s.pre s.nx
def Ls.post (s : Ls) (e : Lf) : List Pb := e.post ++ s.dd.map fun b => ⟨b, .dead⟩
def uniqB : List Pb → Bool
  | [] => true
  | p :: l => !(l.any fun q => Nat.beq q.b p.b) && uniqB l
def Ls.wf (s : Ls) (e : Lf) : Bool := wfB s.pre s.nx (s.post e) e.nx && uniqB e.post
theorem findB_uniq {p : Pb} : ∀ {l r : List Pb}, uniqB l = true → p ∈ l → findB p.b (l ++ r) = some p.k
  | [], _, _, h => by cases h
  | q :: l, r, hu, h => by
    simp only [uniqB, Bool.and_eq_true, Bool.not_eq_true'] at hu
    show (bif Nat.beq q.b p.b then some q.k else findB p.b (l ++ r)) = _
    rcases List.mem_cons.1 h with rfl | h
    · rw [Nat.beq_refl]; rfl
    · have : Nat.beq q.b p.b = false := by
        cases hb : Nat.beq q.b p.b with
        | false => rfl
        | true =>
          have e := Nat.eq_of_beq_eq_true hb
          have : (l.any fun x => Nat.beq x.b q.b) = true := List.any_eq_true.2 ⟨p, h, by rw [e]; exact Nat.beq_refl _⟩
          rw [this] at hu; cases hu.1
      rw [this]
      exact findB_uniq hu.2 h

/-- the loop's rounds from a state, at most K -/
def RndOk (P : Program) (d n m : Nat) (b : Code) (K : Nat) (s : Ls) (e : Lf) : Prop :=
  ∀ {F : Fence}, Fence.IsWide F → noRange b = true → ∀ {lo : Nat} {ι : Im} {w : World} {a : Act}, HR ι s.hp w → LR ι d n (locL d s.L) a.tmps → Md true lo ι s.hp w (dl ((getter d n).f (locL d s.L))) a.defers →
    ∀ {Q : Exit → Act → World → Prop}, (∀ a' w' ι' H1, LR ι' d n (locL d e.L) a'.tmps → Md true lo ι' H1 w' (dl ((getter d n).f (locL d e.L))) a'.defers → HR ι' H1 w' → Fr ι ι' s.hp H1 w w' → H1.nx = e.nx → (∀ p ∈ e.post, isDeadB p.k = true ∨ Alike (H1.get p.b) p.k) → Q (exitOf e.ex) a' w') → Code.roundsIn F m P b Q K a w

theorem LR.same {ι : Im} {L L' : TT AV d} {tmps : Array Value} (h : eqCells L L' (n + 1) 0 = true) (k : LR ι d n L tmps) : LR ι d n L' tmps :=
  ⟨k.size, k.fits, fun i hi => by
    have := eqCells_at (n + 1) 0 h i (by omega)
    rw [Nat.zero_add] at this
    rw [← this]; exact k.get i hi⟩
theorem slot_same {L L' : TT AV d} (h : eqCells L L' (n + 1) 0 = true) : (getter d n).f L = (getter d n).f L' := by
  have := eqCells_at (n + 1) 0 h n (by omega)
  rwa [Nat.zero_add] at this

/-- a stretch of rounds -/
noncomputable def runS (P : Program) (d n : Nat) (b : Code) (call : Call) (k : Nat) (s s' : Ls) : Bool :=
  match iterF ((denF P d n b).f call) k (locL d s.L) s.hp with
  | .ok .normal L1 H1 => eqCells L1 (locL d s'.L) (n + 1) 0 && Nat.beq H1.nx s'.nx && s'.pre.all (fun p => eqBlk (H1.get p.b) p.k)
  | _ => false
/-- the last stretch -/
def eqEx : Ex → Ex → Bool
  | .normal, .normal => true
  | .ret, .ret => true
  | .exit a, .exit b => Nat.beq a b
  | _, _ => false
noncomputable def runE (P : Program) (d n : Nat) (b : Code) (call : Call) (k : Nat) (s : Ls) (e : Lf) : Bool :=
  match loopCF ((denF P d n b).f call) k (locL d s.L) s.hp with
  | .ok ex L1 H1 => eqEx ex e.ex && eqCells L1 (locL d e.L) (n + 1) 0 && Nat.beq H1.nx e.nx && e.post.all (fun p => isDeadB p.k || eqBlk (H1.get p.b) p.k)
  | _ => false
theorem eqEx_eq {a b : Ex} (h : eqEx a b = true) : a = b := by
  unfold eqEx at h
  split at h <;> first | rfl | (rename_i x y; have := Nat.eq_of_beq_eq_true h; subst this; rfl) | cases h

theorem rnd_step (hC : CallOk P call) (hm : P.follows .mixedOrders = true) {b : Code} {k K : Nat} {s s' : Ls} {e : Lf} (hr : runS P d n b call k s s' = true) (hw : s'.wf e = true) (h : RndOk P d n m b K s' e) : RndOk P d n m b (K + k) s e := by
  intro F hF hnr lo ι w a hH hL hM Q hQ
  unfold runS at hr
  split at hr
  · rename_i L1 H1 he
    simp only [Bool.and_eq_true, List.all_eq_true] at hr
    obtain ⟨⟨r1, r2⟩, r3⟩ := hr
    have r2 := Nat.eq_of_beq_eq_true r2
    rw [denF_eq] at he
    unfold Ls.wf at hw
    simp only [Bool.and_eq_true] at hw
    have part := part_of hw.1 r2 r3
    refine loop_iter (call := call) (den_ok hC hm b) k hF (.inr hnr) hH hL (fun _ => hnr) hM he fun a1 w1 ι1 z1 z2 z3 z4 => ?_
    refine h hF hnr (z3.part part) (z1.same r1) (by rw [← slot_same r1]; exact z2.pl (Nat.le_refl _)) fun a' w' ι' Hf y1 y2 y3 y4 y5 y6 => ?_
    obtain ⟨k1, k2⟩ := frame_put hw.1 z3 r2 part y3 y4 y5 (fun p hp => by
      rcases List.mem_append.1 hp with hp | hp
      · exact y6 p hp
      · obtain ⟨c, _, rfl⟩ := List.mem_map.1 hp; exact .inl rfl)
    refine hQ a' w' ι' _ y1 (y2.pl (Nat.le_refl _)) k1 (z4.trans k2) (putAll_nx _ _) fun p hp => ?_
    have hlt : p.b < HMax := by
      have := hw.1
      unfold wfB at this
      simp only [Bool.and_eq_true, List.all_eq_true] at this
      obtain ⟨⟨⟨_, w2⟩, _⟩, w4⟩ := this
      have h9 : p.b < e.nx := Nat.le_of_ble_eq_true (w4 p (List.mem_append.2 (.inl hp))).1
      exact Nat.lt_of_lt_of_le h9 (Nat.le_of_ble_eq_true w2)
    have hall : ∀ q ∈ s'.post e, q.b < HMax := fun q hq => by
      have := hw.1
      unfold wfB at this
      simp only [Bool.and_eq_true, List.all_eq_true] at this
      obtain ⟨⟨⟨_, w2⟩, _⟩, w4⟩ := this
      have h9 : q.b < e.nx := Nat.le_of_ble_eq_true (w4 q hq).1
      exact Nat.lt_of_lt_of_le h9 (Nat.le_of_ble_eq_true w2)
    have hg := putAll_get (H := ⟨H1.t, e.nx⟩) hlt (s'.post e) hall
    have hfu : findB p.b (s'.post e) = some p.k := findB_uniq hw.2 hp
    rw [hfu] at hg
    refine .inr ?_
    show Alike ((putAll (s'.post e) ⟨H1.t, e.nx⟩).get p.b) p.k
    rw [hg]
    exact Alike.refl _
  · cases hr

theorem rnd_end (hC : CallOk P call) (hm : P.follows .mixedOrders = true) {b : Code} {K : Nat} {s : Ls} {e : Lf} (hr : runE P d n b call K s e = true) : RndOk P d n m b K s e := by
  intro F hF hnr lo ι w a hH hL hM Q hQ
  unfold runE at hr
  split at hr
  · rename_i ex L1 H1 he
    simp only [Bool.and_eq_true, List.all_eq_true, Bool.or_eq_true] at hr
    obtain ⟨⟨⟨r0, r1⟩, r2⟩, r3⟩ := hr
    have r0 := eqEx_eq r0
    subst r0
    rw [denF_eq, loopCF_eq] at he
    have main : ∀ (K : Nat) {ι0 : Im} {w0 : World} {a0 : Act} {L0 : TT AV d} {H0 : Hp}, HR ι0 H0 w0 → LR ι0 d n L0 a0.tmps → Md true lo ι0 H0 w0 (dl ((getter d n).f L0)) a0.defers → loopC ((den P d n b).f call) K L0 H0 = .ok e.ex L1 H1 → After true lo ι0 H0 w0 d n L1 H1 (Q (exitOf e.ex)) → Code.roundsIn F m P b Q K a0 w0 := by
      intro K
      induction K with
      | zero => intro ι0 w0 a0 L0 H0 _ _ _ h; cases h
      | succ K ih =>
        intro ι0 w0 a0 L0 H0 q1 q2 q3 h hA
        change seqC _ _ = _ at h
        rw [roundsIn_succ]
        rcases seqC_ok h with ⟨L2, H2, h1, h2⟩ | ⟨hne, h1⟩
        · exact den_ok hC hm b hF (.inr hnr) q1 q2 (fun _ => hnr) q3 h1 fun a' w' ι' r1 r2 r3 r4 => ih r3 r1 r2 h2 (hA.normal r4)
        · refine den_ok hC hm b hF (.inr hnr) q1 q2 (fun _ => hnr) q3 h1 fun a' w' ι' r1 r2 r3 r4 => ?_
          have := hA a' w' ι' r1 r2 r3 r4
          revert this hne
          cases e.ex <;> intro hne this <;> first | exact absurd rfl hne | exact this
    refine main K hH hL hM he fun a' w' ι' z1 z2 z3 z4 => ?_
    refine hQ a' w' ι' H1 (z1.same r1) (by rw [← slot_same r1]; exact z2) z3 z4 (Nat.eq_of_beq_eq_true r2) fun p hp => (r3 p hp).imp id eqBlk_alike
  · cases hr

/-- a loop that is known: where it stands, from which state, how it ends -/
structure Lk where
  p : List Bool
  s : Ls
  e : Lf
def eqP : List Bool → List Bool → Bool
  | [], [] => true
  | a :: l, b :: m => (a == b) && eqP l m
  | _, _ => false
theorem eqP_eq : ∀ {l m : List Bool}, eqP l m = true → l = m
  | [], [], _ => rfl
  | [], _ :: _, h => by cases h
  | _ :: _, [], h => by cases h
  | a :: l, b :: m, h => by
    simp only [eqP, Bool.and_eq_true, beq_iff_eq] at h
    rw [h.1, eqP_eq h.2]
noncomputable def fitsL (n : Nat) (x : Lk) {d : Nat} (p : List Bool) (L : TT AV d) (H : Hp) : Bool :=
  eqP p x.p && (Nat.beq H.nx x.s.nx && (eqCells L (locL d x.s.L) (n + 1) 0 && x.s.pre.all (fun p => eqBlk (H.get p.b) p.k)))
noncomputable def tblK (n : Nat) (l : List Lk) (d : Nat) (p : List Bool) (L : TT AV d) (H : Hp) : Option (Rc d) :=
  List.rec (motive := fun _ => Option (Rc d)) none (fun x _ ih => @Bool.rec (fun _ => Option (Rc d)) ih (some (.ok x.e.ex (locL d x.e.L) (putAll (x.s.post x.e) ⟨H.t, x.e.nx⟩))) (fitsL n x p L H)) l
def codeAt (c : Code) : List Bool → Option Code
  | [] => some c
  | x :: p => match codeAt c p, x with
    | some (.seq a _), false => some a
    | some (.seq _ b), true => some b
    | some (.cond _ a _), false => some a
    | some (.cond _ _ b), true => some b
    | some (.block _ b), false => some b
    | some (.loop b), false => some b
    | _, _ => none
theorem At.codeAt {c0 c : Code} {p : List Bool} (h : At c0 p c) : codeAt c0 p = some c := by
  induction h with
  | root => rfl
  | _ => rename_i ih; simp only [Ev.codeAt, ih]
def bodyAt (c0 : Code) (p : List Bool) : Code := match codeAt c0 p with | some (.loop b) => b | _ => .skip
theorem At.bodyAt {c0 b : Code} {p : List Bool} (h : At c0 p (.loop b)) : bodyAt c0 p = b := by
  unfold Ev.bodyAt; rw [h.codeAt]
theorem tblK_ok {c0 : Code} : ∀ {l : List Lk}, (∀ x ∈ l, x.s.wf x.e = true ∧ ∃ K, RndOk P d n m (bodyAt c0 x.p) K x.s x.e) → TabOk P d n m c0 (tblK n l d)
  | [], _ => fun _ _ _ _ _ _ _ _ h => by cases h
  | x :: l, h => by
    intro p b L H ex L' H' hp he
    have he' : @Bool.rec (fun _ => Option (Rc d)) (tblK n l d p L H) (some (.ok x.e.ex (locL d x.e.L) (putAll (x.s.post x.e) ⟨H.t, x.e.nx⟩))) (fitsL n x p L H) = some (.ok ex L' H') := he
    cases hf : fitsL n x p L H with
    | false =>
      rw [hf] at he'
      intro F hF hr pl hp1 lo ι w a hH hL hpl hM Q hQ
      exact tblK_ok (fun y hy => h y (by simp [hy])) p b L H ex L' H' hp he' hF hr hp1 hH hL hpl hM hQ
    | true =>
      rw [hf] at he'
      cases he'
      obtain ⟨hw, K, hK⟩ := h x (by simp)
      unfold fitsL at hf
      simp only [Bool.and_eq_true, List.all_eq_true] at hf
      obtain ⟨f0, f1, f2, f3⟩ := hf
      have f0 := eqP_eq f0
      subst f0
      have f1 := Nat.eq_of_beq_eq_true f1
      rw [hp.bodyAt] at hK
      unfold Ls.wf at hw
      simp only [Bool.and_eq_true] at hw
      intro F hF hr pl hp1 lo ι w a hH hL hpl hM Q hQ
      subst hp1
      have hnr : noRange b = true := hpl rfl
      have part := part_of hw.1 f1 f3
      refine wpIn_loop_rounds K (hK hF hnr (hH.part part) (hL.same f2) (by rw [← slot_same f2]; exact hM.pl (Nat.le_refl _)) fun a' w' ι' Hf y1 y2 y3 y4 y5 y6 => ?_)
      obtain ⟨k1, k2⟩ := frame_put hw.1 hH f1 part y3 y4 y5 (fun p hp => by
        rcases List.mem_append.1 hp with hp | hp
        · exact y6 p hp
        · obtain ⟨c, _, rfl⟩ := List.mem_map.1 hp; exact .inl rfl)
      exact hQ a' w' ι' y1 (y2.pl (Nat.le_refl _)) k1 k2

/-- a known call whose loops are known -/
noncomputable def runG (P : Program) (tbl : (d : Nat) → LTab d) (ext : Ext) (k : Nat) (e : Kn) : Bool :=
  match (funG P tbl e.f).f (callF P ext k) e.args e.hp with
  | .ok v H1 => eqF 1024 v e.v && Nat.beq H1.nx e.nx' && e.post.all (fun p => isDeadB p.k || eqBlk (H1.get p.b) p.k)
  | .bad => false
theorem kn_of_runG (hm : P.follows .mixedOrders = true) {ext : Ext} (hE : ExtOk P ext) {k : Nat} {e : Kn} {tbl : (d : Nat) → LTab d} (hpl : plainFn P e.f = true) (hT : ∀ fn c, P.funcs[e.f]? = some fn → fn.body = some c → ∀ m, TabOk P (depthFor (fn.ntmps + 1)) fn.ntmps m c (tbl _)) (h : runG P tbl ext k e = true) : KnOk P e := by
  intro ι w ARGS hH ha
  unfold runG at h
  split at h
  · rename_i v H1 hc
    simp only [Bool.and_eq_true, List.all_eq_true, Bool.or_eq_true] at h
    obtain ⟨⟨h1, h2⟩, h3⟩ := h
    have h1 := (eqF_sound 1024).1 _ _ h1
    subst h1
    obtain ⟨c1, c2⟩ := funG_ok (callF_ok hm hE k) hm hc hpl hT hH ha
    refine ⟨c1, fun m => (c2 m).mono fun en w' hp => ?_⟩
    cases en with
    | returned V =>
      obtain ⟨ι', a1, a2, a3⟩ := hp
      exact ⟨ι', H1, a1, a2, a3, Nat.eq_of_beq_eq_true h2, fun p hp => (h3 p hp).imp id eqBlk_alike⟩
    | panicked => exact hp.elim
    | outgrown => exact hp.elim
  · cases h
/-- the code of a function, its slots, and the loop at a place -/
def bodyOf (P : Program) (f : FuncId) : Code := match P.funcs[f]? with | some fn => (match fn.body with | some c => c | none => .skip) | none => .skip
def slotsOf (P : Program) (f : FuncId) : Nat := match P.funcs[f]? with | some fn => fn.ntmps | none => 0
theorem tab_of {f : FuncId} {l : List Lk} (hn : slotsOf P f = n) (hd : depthFor (n + 1) = d) (h : ∀ x ∈ l, x.s.wf x.e = true ∧ ∀ m, ∃ K, RndOk P d n m (bodyAt (bodyOf P f) x.p) K x.s x.e) :
    ∀ fn c, P.funcs[f]? = some fn → fn.body = some c → ∀ m, TabOk P (depthFor (fn.ntmps + 1)) fn.ntmps m c (tblK n l _) := by
  intro fn c hfn hc m
  subst hd
  have e1 : fn.ntmps = n := by unfold slotsOf at hn; rw [hfn] at hn; exact hn
  have e2 : bodyOf P f = c := by unfold bodyOf; rw [hfn]; simp only [hc]
  subst e1
  rw [e2] at h
  exact tblK_ok fun x hx => ⟨(h x hx).1, (h x hx).2 m⟩
end Go.Ev
end

section
/-
  The last step of a law's row: the arguments read as before, where nothing that lay before has turned.
-/
namespace Go.Ev
open Go.RowKit Go.WideShapes Go.ChangeShapes Go.ChangeAt
variable {P : Program} {Hd : Type} {enc : TypeId × Value → Hd}

theorem TrodAll_stays (hl : laidOutB P = true) {W W' : World} {sp : Nat → Bool} : ∀ {ts : List TypeId} {vs : List Value} {ds : List (DataW Hd)} {ps : List MemPlace}, (∀ t ∈ ts, P.readableRec t = true ∧ t < P.types.size) →
    DataW.TrodAll enc P W 0 (fun _ => true) true ts vs ds ps → (∀ p ∈ ps, W.sameAt W' p) → (∀ p ∈ ps, sp p.block = true) → DataW.TrodAll enc P W' 0 sp true ts vs ds ps
  | [], [], [], _, _, h, _, _ => h
  | _ :: _, _ :: _, _ :: _, _, hT, ⟨p, q, h1, h2, e⟩, hs, hb =>
    ⟨p, q, WideElems.Trod_stays hl (hT _ (List.mem_cons.2 (Or.inl rfl))).1 (hT _ (List.mem_cons.2 (Or.inl rfl))).2 h1 (fun x hx => hs x (by rw [e]; exact List.mem_append_left _ hx)) (fun x hx => hb x (by rw [e]; exact List.mem_append_left _ hx)),
      TrodAll_stays hl (fun t ht => hT t (List.mem_cons.2 (Or.inr ht))) h2 (fun x hx => hs x (by rw [e]; exact List.mem_append_right _ hx)) (fun x hx => hb x (by rw [e]; exact List.mem_append_right _ hx)), e⟩

def readB (P : Program) (ts : List TypeId) : Bool := ts.all fun t => P.readableRec t && decide (t < P.types.size)

/-- a law that answers true and leaves what lay before -/
theorem post_law (hl : laidOutB P = true) {f : Func} {s : ChangeSpec} {apart fresh handsOn again : Bool} {W W' : World} {args : Array Value} {ds gs : List (DataW Hd)} {before : List MemPlace} {tb : TypeId}
    (hW : DataW.Whole enc P f.params.toList s.vars apart W args.toList ds gs before) (hv : s.vars = []) (hr : readB P f.params.toList = true)
    (hfn : s.fn Hd ds = { results := [.lit (.bool true)], args := ds }) (hres : f.resultTypes = #[tb]) (htb : P.underlying tb = some .bool) (hb : Below W.heap.size W W') :
    s.post enc P f apart fresh handsOn again W args (.bool true) W' := by
  have hW' := hW
  obtain ⟨p, q, hA, hV, hq, _, _⟩ := hW
  rw [hv] at hV
  obtain ⟨rfl, rfl⟩ := trodVars_none hV
  have hread : ∀ t ∈ f.params.toList, P.readableRec t = true ∧ t < P.types.size := fun t ht => by
    have := List.all_eq_true.1 hr t ht
    simpa using this
  have hds : ds ++ [] = ds := List.append_nil ds
  refine post_below (pa := p) (pv := []) hW' (fun b sp hd => ?_) (fun sp hsp => ?_) (fun sp _ => ?_) hq hb ?_
  · rw [hds, hfn, hres]
    exact trodAll_cons_mk (shut_bool htb _) trodAll_mk0
  · rw [hds, hfn]
    have hlow := hW'.lt
    exact TrodAll_stays hl hread hA (fun x hx => hb.same (hlow x (by rw [hq]; simpa using hx))) (fun x hx => hsp x (by rw [hq]; simpa using hx))
  · rw [hds, hfn, hv]; rfl
  · exact ok_one hres rfl (okWide_bool_mk htb _)
end Go.Ev
end
