/-
 For countersignlaw18.StrataKnown: the evaluator and its soundness, part 4 of 4: what a run of the abstract evaluator answers, the model's run answers, in every world and on every schedule. No conditions beyond those that each theorem states.
-/
import Derived.Test.YtiickhlaamgljaaGreatEv3
import Derived.Sort.Grow
import Derived.Sort.EveryDepth
import Derived.Sort.Defs
import Derived.Lib.BitFns
noncomputable section
/-
 The evaluator with continuations: what stands behind a piece of code is handed over as a function; so a function's text can be read as one that has values in place of numbered temporaries.
-/
namespace Go.Di
open Go.Ev
variable {d : Nat}
def G (L : TT AV d) (i : Nat) : AV := (qah d i).f L
abbrev Kt (d : Nat) := Ex → TT AV d → Hp → R1
def fin (r : Rc d) (K : Kt d) : R1 := match r with | .bad => .bad | .ok e L H => K e L H
def finS (r : Rs d) (k : TT AV d → Hp → R1) : R1 := match r with | .bad => .bad | .ok L H => k L H
def finX (r : Rx d) (k : TT AV d → Hp → List Pd → List Wt → R1) : R1 := match r with | .bad => .bad | .ok L H p w => k L H p w
def nrm (r : R0) (H : Hp) : Option (AV × Hp) := match r with | .bad => none | .val v => some (v, H) | .new v b => some (v, qan H b)
def vq (r : R0) (H : Hp) (k : AV → Hp → R1) : R1 := match nrm r H with | none => .bad | some p => k p.1 p.2
def ve (r : R1) (k : AV → Hp → R1) : R1 := match r with | .bad => .bad | .ok v H => k v H
def vg0 (w : Option Bool) (r : R0) (H : Hp) (k : AV → Hp → R1) : R1 := match w with | some true => vq r H k | some false => k .undef H | none => .bad
def veg0 (w : Option Bool) (r : R1) (H : Hp) (k : AV → Hp → R1) : R1 := match w with | some true => ve r k | some false => k .undef H | none => .bad
def qau (want : Bool) (v : AV) : Option Bool := match v with | .bool b => some (b == want) | .undef => some false | _ => none
def cd (x : AV) (a b : R1) : R1 := match x with | .bool true => a | .bool false => b | _ => .bad
/- steps of a region that draws its order -/
def dq0 (lk al : Bool) (i A nm : Nat) (H : Hp) (p : List Pd) (w : List Wt) (f : Hp → R0) (g : Option Bool) (k : AV → Hp → List Pd → List Wt → R1) : R1 :=
 match g with
 | none => .bad
 | some false => k .undef H p w
 | some true => match f (qa2 A p H) with
  | .bad => .bad
  | .val v => k v H p (bif lk then ⟨i, A, f, v⟩ :: w else w)
  | .new v b => bif al && b.wr then k v H (⟨i, nm, b⟩ :: p) w else .bad
def de0 (A : Nat) (H : Hp) (p : List Pd) (w : List Wt) (r : R1) (g : Option Bool) (k : AV → Hp → List Pd → List Wt → R1) : R1 :=
 match g with
 | none => .bad
 | some false => k .undef H p w
 | some true => match r with
  | .bad => .bad
  | .ok v H' => bif qhb (qc9 A p) H' (qc8 A w) then k v H' (qc9 A p) (qc8 A w) else .bad
def vl (r : R0) (k : AV → R1) : R1 := match r with | .bad => .bad | .val v => k v | .new _ _ => .bad
def vlg0 (w : Option Bool) (r : R0) (k : AV → R1) : R1 := match w with | some true => vl r k | some false => k .undef | none => .bad
/- constants that cannot be taken apart: so two sides are compared argument by argument -/
def vg : Option Bool → R0 → Hp → (AV → Hp → R1) → R1 := Classical.choose (⟨vg0, rfl⟩ : ∃ f, f = vg0)
theorem q7l : vg = vg0 := Classical.choose_spec (⟨vg0, rfl⟩ : ∃ f, f = vg0)
def veg : Option Bool → R1 → Hp → (AV → Hp → R1) → R1 := Classical.choose (⟨veg0, rfl⟩ : ∃ f, f = veg0)
theorem qys : veg = veg0 := Classical.choose_spec (⟨veg0, rfl⟩ : ∃ f, f = veg0)
def vlg : Option Bool → R0 → (AV → R1) → R1 := Classical.choose (⟨vlg0, rfl⟩ : ∃ f, f = vlg0)
theorem quy : vlg = vlg0 := Classical.choose_spec (⟨vlg0, rfl⟩ : ∃ f, f = vlg0)
def dq : Bool → Bool → Nat → Nat → Nat → Hp → List Pd → List Wt → (Hp → R0) → Option Bool → (AV → Hp → List Pd → List Wt → R1) → R1 := Classical.choose (⟨dq0, rfl⟩ : ∃ f, f = dq0)
theorem q5t : dq = dq0 := Classical.choose_spec (⟨dq0, rfl⟩ : ∃ f, f = dq0)
def de : Nat → Hp → List Pd → List Wt → R1 → Option Bool → (AV → Hp → List Pd → List Wt → R1) → R1 := Classical.choose (⟨de0, rfl⟩ : ∃ f, f = de0)
theorem q5v : de = de0 := Classical.choose_spec (⟨de0, rfl⟩ : ∃ f, f = de0)
theorem qv2 (put : TT AV d → AV → TT AV d) (L : TT AV d) (H : Hp) (r : R0) (k : TT AV d → Hp → R1) : finS (doQ put L H r) k = vq r H fun v H => k (put L v) H := by cases r <;> rfl
theorem qv3 (put : TT AV d → AV → TT AV d) (L : TT AV d) (r : R1) (k : TT AV d → Hp → R1) : finS (doE put L r) k = ve r fun v H => k (put L v) H := by cases r <;> rfl
structure StC (d : Nat) where f : Ev.Call → TT AV d → Hp → (TT AV d → Hp → R1) → R1
def qy0 (P : Program) (d n : Nat) (ops : Array Oper) (o : Oper) : StC d :=
 match opS P d n o, o.guard, qdy d n ops o, putS d n o.dst with
 | .q _ f, none, _, ⟨put⟩ => ⟨fun _ L H k => vq (f H.nx L H) H fun v H => k (put L v) H⟩
 | .e f, none, _, ⟨put⟩ => ⟨fun call L H k => ve (f call L H) fun v H => k (put L v) H⟩
 | .q _ f, some _, ⟨w⟩, ⟨put⟩ => ⟨fun _ L H k => vg (w L) (f H.nx L H) H fun v H => k (put L v) H⟩
 | .e f, some _, ⟨w⟩, ⟨put⟩ => ⟨fun call L H k => veg (w L) (f call L H) H fun v H => k (put L v) H⟩
theorem qyz (P : Program) (d n : Nat) (ops : Array Oper) (o : Oper) (call : Ev.Call) (L : TT AV d) (H : Hp) (k : TT AV d → Hp → R1) :
  finS ((qgl P d n ops o).f call L H) k = (qy0 P d n ops o).f call L H k := by
 unfold qgl qy0
 generalize opS P d n o = x
 generalize o.guard = g
 generalize qdy d n ops o = w
 generalize putS d n o.dst = p
 obtain ⟨p⟩ := p
 obtain ⟨w⟩ := w
 cases x with
 | q l f => cases g with
  | none => exact qv2 ..
  | some j =>
   show finS (ifW (w L) _ _) k = vg (w L) _ H _
   rw [q7l]
   cases h : w L with
   | none => rfl
   | some b => cases b with
    | true => exact qv2 ..
    | false => rfl
 | e f => cases g with
  | none => exact qv3 ..
  | some j =>
   show finS (ifW (w L) _ _) k = veg (w L) _ H _
   rw [qys]
   cases h : w L with
   | none => rfl
   | some b => cases b with
    | true => exact qv3 ..
    | false => rfl
def qu2 (P : Program) (d n : Nat) (ops : Array Oper) (o : Oper) : StC d :=
 match dfOf o with
 | none => qy0 P d n ops o
 | some _ => match qce P d n ops o with | ⟨g⟩ => ⟨fun call L H k => finS (g call L H) k⟩
theorem qy4 (P : Program) (d n : Nat) (ops : Array Oper) (o : Oper) (call : Ev.Call) (L : TT AV d) (H : Hp) (k : TT AV d → Hp → R1) :
  finS ((qce P d n ops o).f call L H) k = (qu2 P d n ops o).f call L H k := by
 unfold qu2
 cases h : dfOf o with
 | none => simp only; rw [← qyz]; unfold qce; rw [h]
 | some c => rfl
def opsC (P : Program) (d n : Nat) (ops : Array Oper) : List Oper → StC d
 | [] => ⟨fun _ L H k => k L H⟩
 | o :: r => match qu2 P d n ops o, opsC P d n ops r with | ⟨g⟩, ⟨h⟩ => ⟨fun call L H k => g call L H fun L H => h call L H k⟩
theorem q0f (P : Program) (d n : Nat) (ops : Array Oper) (call : Ev.Call) : ∀ (l : List Oper) (L : TT AV d) (H : Hp) (k : TT AV d → Hp → R1),
  finS ((opsS P d n ops l).f call L H) k = (opsC P d n ops l).f call L H k
 | [], _, _, _ => rfl
 | o :: r, L, H, k => by
  show finS (qyd ((qce P d n ops o).f call L H) ((opsS P d n ops r).f call)) k = (qu2 P d n ops o).f call L H fun L H => (opsC P d n ops r).f call L H k
  rw [← qy4]
  cases (qce P d n ops o).f call L H with
  | bad => rfl
  | ok L H => exact q0f P d n ops call r L H k
structure SxC (d : Nat) where f : Ev.Call → Nat → TT AV d → Hp → List Pd → List Wt → (TT AV d → Hp → List Pd → List Wt → R1) → R1
def qmp (P : Program) (d n : Nat) (ops : Array Oper) (i A : Nat) (o : Oper) : SxC d :=
 match opS P d n o, qbv d n (qa4 ops o), qdy d n ops o, putS d n o.dst with
 | .q lk f, ⟨pj⟩, ⟨w⟩, ⟨put⟩ => ⟨fun _ base L H p ws k => dq lk (qgv o.op && !lk) i A (base + i) H p ws (f (base + i) (pj L)) (w (pj L)) fun v H p ws => k (put L v) H p ws⟩
 | .e f, ⟨pj⟩, ⟨w⟩, ⟨put⟩ => ⟨fun call _ L H p ws k => de A H p ws (f call (pj L) (qa2 A p H)) (w (pj L)) fun v H p ws => k (put L v) H p ws⟩
theorem qyy (P : Program) (d n : Nat) (ops : Array Oper) (i A : Nat) (o : Oper) (call : Ev.Call) (base : Nat) (L : TT AV d) (H : Hp) (p : List Pd) (ws : List Wt) (k : TT AV d → Hp → List Pd → List Wt → R1) :
  finX ((qqm P d n ops i A o).f call base L H p ws) k = (qmp P d n ops i A o).f call base L H p ws k := by
 unfold qqm qmp
 generalize opS P d n o = x
 generalize qbv d n (qa4 ops o) = j
 generalize qdy d n ops o = w
 generalize putS d n o.dst = pt
 obtain ⟨pt⟩ := pt
 obtain ⟨w⟩ := w
 obtain ⟨j⟩ := j
 cases x with
 | q lk f =>
  dsimp only
  rw [q5t]
  unfold qX dq0
  cases w (j L) with
  | none => rfl
  | some b => cases b with
   | false => rfl
   | true =>
    simp only
    cases f (base + i) (j L) (qa2 A p H) with
    | bad => rfl
    | val v => rfl
    | new v b =>
     simp only
     cases (qgv o.op && !lk && b.wr) <;> rfl
 | e f =>
  dsimp only
  rw [q5v]
  unfold eX de0
  cases w (j L) with
  | none => rfl
  | some b => cases b with
   | false => rfl
   | true =>
    simp only
    cases f call (j L) (qa2 A p H) with
    | bad => rfl
    | ok v H' =>
     simp only
     cases qhb (qc9 A p) H' (qc8 A ws) <;> rfl
def qk3 (P : Program) (d n : Nat) (ops : Array Oper) (ms : List Nat) : List Nat → SxC d
 | [] => ⟨fun _ _ L H p w k => k L H p w⟩
 | i :: r => match ops[i]? with
  | some o => match qmp P d n ops i (ms.getD i 0) o, qk3 P d n ops ms r with | ⟨g⟩, ⟨h⟩ => ⟨fun call base L H p w k => g call base L H p w fun L H p w => h call base L H p w k⟩
  | none => ⟨fun _ _ _ _ _ _ _ => .bad⟩
theorem qvl (P : Program) (d n : Nat) (ops : Array Oper) (ms : List Nat) (call : Ev.Call) (base : Nat) : ∀ (l : List Nat) (L : TT AV d) (H : Hp) (p : List Pd) (w : List Wt) (k : TT AV d → Hp → List Pd → List Wt → R1),
  finX ((opsX P d n ops ms l).f call base L H p w) k = (qk3 P d n ops ms l).f call base L H p w k
 | [], _, _, _, _, _ => rfl
 | i :: r, L, H, p, w, k => by
  unfold opsX qk3
  cases ops[i]? with
  | none => rfl
  | some o =>
   show finX (q9e ((qqm P d n ops i (ms.getD i 0) o).f call base L H p w) ((opsX P d n ops ms r).f call base)) k = (qmp P d n ops i (ms.getD i 0) o).f call base L H p w fun L H p w => (qk3 P d n ops ms r).f call base L H p w k
   rw [← qyy]
   cases (qqm P d n ops i (ms.getD i 0) o).f call base L H p w with
   | bad => rfl
   | ok L H p w => exact qvl P d n ops ms call base r L H p w k
def q80 (P : Program) (d n : Nat) (ops : Array Oper) : StC d :=
 match qtb P d n ops with
 | none => ⟨fun _ _ _ _ => .bad⟩
 | some pl => match qk3 P d n ops pl.ms pl.ord with
  | ⟨g⟩ => ⟨fun call L H k => g call H.nx L ⟨H.t, H.nx + pl.up⟩ [] [] fun L H p _ => k L (allH p H)⟩
theorem q5s (P : Program) (d n : Nat) (ops : Array Oper) (call : Ev.Call) (L : TT AV d) (H : Hp) (k : TT AV d → Hp → R1) :
  finS ((qjo P d n ops).f call L H) k = (q80 P d n ops).f call L H k := by
 unfold qjo q80
 cases qtb P d n ops with
 | none => rfl
 | some pl =>
  show finS (match (opsX P d n ops pl.ms pl.ord).f call H.nx L ⟨H.t, H.nx + pl.up⟩ [] [] with | .bad => .bad | .ok L' H' pend _ => .ok L' (allH pend H')) k = (qk3 P d n ops pl.ms pl.ord).f call H.nx L ⟨H.t, H.nx + pl.up⟩ [] [] fun L H p _ => k L (allH p H)
  rw [← qvl]
  cases (opsX P d n ops pl.ms pl.ord).f call H.nx L ⟨H.t, H.nx + pl.up⟩ [] [] <;> rfl
/- regions that draw their order, without effects and new blocks -/
def qvi (P : Program) (d n : Nat) (ops : Array Oper) (i : Nat) : Bool := match ops[i]? with | some o => !isE (opS P d n o) && !qgv o.op | none => false
def q8i (P : Program) (d n : Nat) (ops : Array Oper) (i : Nat) (o : Oper) : StC d :=
 match opS P d n o, qbv d n (qa4 ops o), o.guard, qdy d n ops o, putS d n o.dst with
 | .q _ f, ⟨pj⟩, none, _, ⟨put⟩ => ⟨fun _ L H k => vl (f (H.nx + i) (pj L) H) fun v => k (put L v) H⟩
 | .q _ f, ⟨pj⟩, some _, ⟨w⟩, ⟨put⟩ => ⟨fun _ L H k => vlg (w (pj L)) (f (H.nx + i) (pj L) H) fun v => k (put L v) H⟩
 | .e _, _, _, _, _ => ⟨fun _ _ _ _ => .bad⟩
def qrb (P : Program) (d n : Nat) (ops : Array Oper) : List Nat → StC d
 | [] => ⟨fun _ L H k => k L H⟩
 | i :: r => match ops[i]? with
  | some o => match q8i P d n ops i o, qrb P d n ops r with | ⟨g⟩, ⟨h⟩ => ⟨fun call L H k => g call L H fun L H => h call L H k⟩
  | none => ⟨fun _ _ _ _ => .bad⟩
theorem q63 (lk : Bool) (i A nm : Nat) (H : Hp) (w : List Wt) (f : Hp → R0) (g : Option Bool) (k : AV → Hp → List Pd → List Wt → R1) (k' : AV → R1) (h : ∀ v w, k v H [] w = k' v) :
  dq lk false i A nm H [] w f g k = vlg g (f H) k' := by
 rw [q5t, quy]
 unfold dq0 vlg0
 cases g with
 | none => rfl
 | some b => cases b with
  | false => exact h _ _
  | true =>
   simp only
   show (match f H with | .bad => R1.bad | .val v => _ | .new v b => _) = vl (f H) k'
   cases f H with
   | bad => rfl
   | val v => exact h _ _
   | new v b => rfl
theorem qok (P : Program) (d n : Nat) (ops : Array Oper) (ms : List Nat) (call : Ev.Call) (H : Hp) : ∀ (l : List Nat), l.all (qvi P d n ops) = true → ∀ (L : TT AV d) (w : List Wt) (k : TT AV d → Hp → R1),
  (qk3 P d n ops ms l).f call H.nx L H [] w (fun L H p _ => k L (allH p H)) = (qrb P d n ops l).f call L H k
 | [], _, _, _, _ => rfl
 | i :: r, hl, L, w, k => by
  rw [List.all_cons, Bool.and_eq_true] at hl
  have hq := hl.1
  unfold qvi at hq
  unfold qk3 qrb
  cases ho : ops[i]? with
  | none => simp [ho] at hq
  | some o =>
   rw [ho] at hq
   simp only [Bool.and_eq_true, Bool.not_eq_true'] at hq
   show (qmp P d n ops i (ms.getD i 0) o).f call H.nx L H [] w (fun L H' p w => (qk3 P d n ops ms r).f call H.nx L H' p w (fun L H p _ => k L (allH p H))) = (q8i P d n ops i o).f call L H fun L H => (qrb P d n ops r).f call L H k
   unfold qmp q8i
   have hal := hq.2
   have hE := hq.1
   have hw : o.guard = none → (qdy d n ops o).f = fun _ => some true := fun hg => by unfold qdy; rw [hg]
   generalize qdy d n ops o = x1 at hw
   generalize opS P d n o = x2 at hE
   generalize qbv d n (qa4 ops o) = x3
   generalize putS d n o.dst = x4
   obtain ⟨x1⟩ := x1
   obtain ⟨x3⟩ := x3
   obtain ⟨x4⟩ := x4
   cases x2 with
   | e f => cases hE
   | q lk f =>
    cases hg : o.guard with
    | none =>
     have e := hw hg
     simp only at e
     subst e
     dsimp only
     rw [hal]
     refine (q63 lk i _ _ H w _ (some true) _ (fun v => (qrb P d n ops r).f call (x4 L v) H k) fun v w => ?_).trans (by rw [quy]; rfl)
     exact qok P d n ops ms call H r hl.2 (x4 L v) w k
    | some j =>
     dsimp only
     rw [hal]
     exact q63 lk i _ _ H w _ (x1 (x3 L)) _ (fun v => (qrb P d n ops r).f call (x4 L v) H k) fun v w => qok P d n ops ms call H r hl.2 (x4 L v) w k
def q8z (P : Program) (d n : Nat) (ops : Array Oper) : StC d :=
 match qtb P d n ops with
 | none => ⟨fun _ _ _ _ => .bad⟩
 | some pl => match pl.ord.all (qvi P d n ops) && Nat.beq pl.up 0, qrb P d n ops pl.ord, qk3 P d n ops pl.ms pl.ord with
  | true, ⟨g⟩, _ => ⟨g⟩
  | false, _, ⟨g⟩ => ⟨fun call L H k => g call H.nx L ⟨H.t, H.nx + pl.up⟩ [] [] fun L H p _ => k L (allH p H)⟩
theorem q5q (P : Program) (d n : Nat) (ops : Array Oper) (call : Ev.Call) (L : TT AV d) (H : Hp) (k : TT AV d → Hp → R1) :
  finS ((qjo P d n ops).f call L H) k = (q8z P d n ops).f call L H k := by
 rw [q5s]
 unfold q80 q8z
 cases qtb P d n ops with
 | none => rfl
 | some pl =>
  dsimp only
  cases hq : (pl.ord.all (qvi P d n ops) && Nat.beq pl.up 0) with
  | false => rfl
  | true =>
   rw [Bool.and_eq_true] at hq
   have hu := Nat.eq_of_beq_eq_true hq.2
   show (qk3 P d n ops pl.ms pl.ord).f call H.nx L ⟨H.t, H.nx + pl.up⟩ [] [] (fun L H p _ => k L (allH p H)) = (qrb P d n ops pl.ord).f call L H k
   rw [hu]
   exact qok P d n ops pl.ms call H pl.ord hq.1 L [] k
def thn (b : TT AV d → Hp → R1) (K : Kt d) : Kt d := fun e L H => match e with | .normal => b L H | e => K e L H
def outK (id : Nat) (K : Kt d) : Kt d := fun e L H => match e with | .exit i => bif Nat.beq i id then K .normal L H else K (.exit i) L H | e => K e L H
structure DnC (d : Nat) where f : Ev.Call → TT AV d → Hp → Kt d → R1
def denC (P : Program) (d n : Nat) : Code → DnC d
 | .skip | .label _ => ⟨fun _ L H K => K .normal L H⟩
 | .region _ ops false => match opsC P d n ops ops.toList with | ⟨g⟩ => ⟨fun call L H K => g call L H (K .normal)⟩
 | .region _ ops true => match q8z P d n ops with | ⟨g⟩ => ⟨fun call L H K => g call L H (K .normal)⟩
 | .seq a b => match denC P d n a, denC P d n b with | ⟨f⟩, ⟨g⟩ => ⟨fun call L H K => f call L H (thn (fun L H => g call L H K) K)⟩
 | .cond x a b => match opnd d n x, denC P d n a, denC P d n b with | ⟨g⟩, ⟨f⟩, ⟨h⟩ => ⟨fun call L H K => cd (g L) (f call L H K) (h call L H K)⟩
 | .block id b => match denC P d n b with | ⟨f⟩ => ⟨fun call L H K => f call L H (outK id K)⟩
 | .scope b => denC P d n b
 | .exit id => ⟨fun _ L H K => K (.exit id) L H⟩
 | .ret => ⟨fun _ L H K => K .ret L H⟩
 | c => match den P d n c with | ⟨g⟩ => ⟨fun call L H K => fin (g call L H) K⟩
theorem qv1 (r : Rs d) (K : Kt d) : fin (ofRs r) K = finS r (K .normal) := by cases r <;> rfl
theorem qty (r : Rc d) (k : TT AV d → Hp → Rc d) (K : Kt d) : fin (seqC r k) K = fin r (thn (fun L H => fin (k L H) K) K) := by
 cases r with
 | bad => rfl
 | ok e L H => cases e <;> rfl
theorem qrr (id : Nat) (r : Rc d) (K : Kt d) : fin (qnh id r) K = fin r (outK id K) := by
 cases r with
 | bad => rfl
 | ok e L H =>
  cases e with
  | exit i =>
   show fin (bif Nat.beq i id then _ else _) K = bif Nat.beq i id then _ else _
   cases Nat.beq i id <;> rfl
  | _ => rfl
theorem qfx (P : Program) (d n : Nat) (call : Ev.Call) : ∀ (c : Code) (L : TT AV d) (H : Hp) (K : Kt d), fin ((den P d n c).f call L H) K = (denC P d n c).f call L H K
 | .skip, _, _, _ | .label _, _, _, _ | .exit _, _, _, _ | .ret, _, _, _ | .goto _, _, _, _ | .loop _, _, _, _ | .rangeFunc .., _, _, _ | .refuse _, _, _, _ => rfl
 | .region _ ops false, L, H, K => (qv1 ..).trans (q0f ..)
 | .region _ ops true, L, H, K => (qv1 ..).trans (q5q ..)
 | .seq a b, L, H, K => by
  refine (qty ((den P d n a).f call L H) ((den P d n b).f call) K).trans ?_
  rw [qfx P d n call a]
  show (denC P d n a).f call L H (thn (fun L H => fin ((den P d n b).f call L H) K) K) = (denC P d n a).f call L H (thn (fun L H => (denC P d n b).f call L H K) K)
  congr 2
  funext L H
  exact qfx P d n call b L H K
 | .cond x a b, L, H, K => by
  show fin (condC ((opnd d n x).f L) ((den P d n a).f call L H) ((den P d n b).f call L H)) K = cd ((opnd d n x).f L) ((denC P d n a).f call L H K) ((denC P d n b).f call L H K)
  rw [← qfx P d n call a, ← qfx P d n call b]
  generalize (opnd d n x).f L = v
  cases v with
  | bool q => cases q <;> rfl
  | _ => rfl
 | .block id b, L, H, K => (qrr ..).trans (qfx P d n call b L H (outK id K))
 | .scope b, L, H, K => qfx P d n call b L H K
def Lk (P : Program) (d n : Nat) (call : Ev.Call) (c : Code) (K : Kt d) (D : TT AV d → Hp → R1) : Prop := ∀ L H, fin ((den P d n c).f call L H) K = D L H
variable {P : Program} {n : Nat} {call : Ev.Call} {K : Kt d}
theorem Lk.one {c : Code} {D : TT AV d → Hp → R1} (h : ∀ L H, (denC P d n c).f call L H K = D L H) : Lk P d n call c K D := fun L H => (qfx P d n call c L H K).trans (h L H)
theorem Lk.seq {a b : Code} {D E : TT AV d → Hp → R1} (hb : Lk P d n call b K E) (ha : Lk P d n call a (thn E K) D) : Lk P d n call (.seq a b) K D := fun L H => by
 refine (qty ((den P d n a).f call L H) ((den P d n b).f call) K).trans ?_
 rw [show (fun L H => fin ((den P d n b).f call L H) K) = E from funext fun L => funext fun H => hb L H]
 exact ha L H
theorem Lk.block {id : Nat} {b : Code} {D : TT AV d → Hp → R1} (h : Lk P d n call b (outK id K) D) : Lk P d n call (.block id b) K D := fun L H => (qrr ..).trans (h L H)
theorem Lk.scope {b : Code} {D : TT AV d → Hp → R1} (h : Lk P d n call b K D) : Lk P d n call (.scope b) K D := h
theorem Lk.cond {x : Operand} {a b : Code} {A B : TT AV d → Hp → R1} (ha : Lk P d n call a K A) (hb : Lk P d n call b K B) : Lk P d n call (.cond x a b) K (fun L H => cd ((opnd d n x).f L) (A L H) (B L H)) := fun L H => by
 show fin (condC ((opnd d n x).f L) ((den P d n a).f call L H) ((den P d n b).f call L H)) K = cd ((opnd d n x).f L) (A L H) (B L H)
 rw [← ha L H, ← hb L H]
 generalize (opnd d n x).f L = v
 cases v with
 | bool q => cases q <;> rfl
 | _ => rfl
def qb1 : Nat := Classical.choose (⟨qao, rfl⟩ : ∃ n, n = qao)
theorem qas : qb1 = qao := Classical.choose_spec (⟨qao, rfl⟩ : ∃ n, n = qao)
theorem Lk.loop {b : Code} {D : Nat → TT AV d → Hp → R1} (h0 : ∀ L H, D 0 L H = .bad) (hs : ∀ k, Lk P d n call b (thn (D k) K) (D (k + 1))) : Lk P d n call (.loop b) K (D qb1) := by
 have main : ∀ k L H, fin (qmk ((den P d n b).f call) k L H) K = D k L H := by
  intro k
  induction k with
  | zero => intro L H; exact (h0 L H).symm
  | succ k ih =>
   intro L H
   show fin (seqC ((den P d n b).f call L H) (qmk ((den P d n b).f call) k)) K = _
   rw [qty, show (fun L H => fin (qmk ((den P d n b).f call) k L H) K) = D k from funext fun L => funext fun H => ih L H]
   exact hs k L H
 rw [qas]
 exact fun L H => main qao L H
theorem Lk.of {c : Code} {D E : TT AV d → Hp → R1} (h : Lk P d n call c K D) (e : ∀ L H, D L H = E L H) : Lk P d n call c K E := fun L H => (h L H).trans (e L H)
def endK (n : Nat) (call : Ev.Call) (res : TT AV d → Hp → Option AV) : Kt d := fun e L H => match e with | .normal => outC n call res L H | .ret => outC n call res L H | _ => .bad
theorem q7x (n : Nat) (call : Ev.Call) (res : TT AV d → Hp → Option AV) (r : Rc d) : retC n call res r = fin r (endK n call res) := by
 cases r with
 | bad => rfl
 | ok e L H => cases e <;> rfl
def codeOf (f : Func) : Code := match f.body with | some c => c | none => .skip
theorem q48 {f : FuncId} {F : Func} (hf : P.funcs[f]? = some F) (hn : (F.name == "runtime.NumGoroutine") = false) (hb : F.body.isSome = true) {args : List AV} (ha : (Nat.ble args.length F.ntmps && Nat.ble (F.ntmps + 1) 262144) = true)
  {D : TT AV (qaq (F.ntmps + 1)) → Hp → R1} (h : Lk P (qaq (F.ntmps + 1)) F.ntmps call (codeOf F) (endK F.ntmps call (qbz P (qaq (F.ntmps + 1)) F.ntmps F.results.toList).f) D) (H : Hp) :
  (funS P f).f call args H = D (wrL args 0 (same .undef _)) H := by
 unfold funS
 rw [hf]
 simp only [hn, Bool.false_eq_true, if_false]
 unfold codeOf at h
 cases hc : F.body with
 | none => rw [hc] at hb; cases hb
 | some c =>
  rw [hc] at h
  show (bif Nat.ble args.length F.ntmps && Nat.ble (F.ntmps + 1) 262144 then retC F.ntmps call _ _ else .bad) = _
  rw [ha, ← h _ H]
  exact q7x ..
end Go.Di
namespace Go.Di
open Go.Ev
variable {d n : Nat} {P : Program} {call : Ev.Call}
def qjm : Code → Bool
 | .region _ ops _ => !(ops.toList.any isDf)
 | .seq a b => qjm a && qjm b
 | .cond _ a b => qjm a && qjm b
 | .block _ b => qjm b
 | .loop b => qjm b
 | .scope b => qjm b
 | .rangeFunc .. => true
 | _ => true
theorem q2l {o : Oper} (h : isDf o = false) : dfOf o = none := by
 unfold isDf at h
 unfold dfOf
 split
 ·rename_i e _; rw [e] at h; cases h
 ·rfl
theorem qra (hn : n < 8 ^ d) {ops : Array Oper} : ∀ (l : List Oper), l.any isDf = false → ∀ {L : TT AV d} {H : Hp} {L' : TT AV d} {H' : Hp}, (opsS P d n ops l).f call L H = .ok L' H' → (qah d n).f L' = (qah d n).f L
 | [], _, L, H, L', H', h => by cases h; rfl
 | o :: r, hl, L, H, L', H', h => by
  rw [List.any_cons, Bool.or_eq_false_iff] at hl
  have h' : qyd ((qce P d n ops o).f call L H) ((opsS P d n ops r).f call) = .ok L' H' := h
  cases h1 : (qce P d n ops o).f call L H with
  | bad => rw [h1] at h'; cases h'
  | ok L1 H1 =>
   rw [h1] at h'
   unfold qce at h1
   rw [q2l hl.1] at h1
   exact (qra hn r hl.2 h').trans (qmq hn h1)
theorem qdu (hn : n < 8 ^ d) : ∀ (c : Code), qjm c = true → ∀ {L : TT AV d} {H : Hp} {e : Ex} {L' : TT AV d} {H' : Hp}, (den P d n c).f call L H = .ok e L' H' → (qah d n).f L' = (qah d n).f L
 | .skip, _, _, _, _, _, _, h | .label _, _, _, _, _, _, _, h | .exit _, _, _, _, _, _, _, h | .ret, _, _, _, _, _, _, h => by cases h; rfl
 | .goto _, _, _, _, _, _, _, h | .refuse _, _, _, _, _, _, _, h => by cases h
 | .rangeFunc f ps sa bd, _, L, H, e, L', H', h => by
  rw [den] at h
  split at h
  ·cases h
  ·rename_i g _ _
   have h : endLoop H.nx (qhz call (g L) [.yield H.nx] (qan H (.loop true none d n L ps.toList sa bd))) L = .ok e L' H' := h
   unfold endLoop at h
   split at h
   ·cases h
   ·split at h <;> first | (cases h; rfl) | cases h
 | .region _ ops false, hc, L, H, e, L', H', h => by
  have h' : ofRs ((opsS P d n ops ops.toList).f call L H) = .ok e L' H' := h
  cases h1 : (opsS P d n ops ops.toList).f call L H with
  | bad => rw [h1] at h'; cases h'
  | ok L1 H1 =>
   rw [h1] at h'; cases h'
   exact qra hn _ (by simpa [qjm] using hc) h1
 | .region _ ops true, _, L, H, e, L', H', h => by
  have h' : ofRs ((qjo P d n ops).f call L H) = .ok e L' H' := h
  cases h1 : (qjo P d n ops).f call L H with
  | bad => rw [h1] at h'; cases h'
  | ok L1 H1 => rw [h1] at h'; cases h'; exact qnd hn h1
 | .seq a b, hc, L, H, e, L', H', h => by
  simp only [qjm, Bool.and_eq_true] at hc
  have h' : seqC ((den P d n a).f call L H) ((den P d n b).f call) = .ok e L' H' := h
  cases h1 : (den P d n a).f call L H with
  | bad => rw [h1] at h'; cases h'
  | ok e1 L1 H1 =>
   rw [h1] at h'
   have g1 := qdu hn a hc.1 h1
   cases e1 with
   | normal => exact (qdu hn b hc.2 h').trans g1
   | exit i => cases h'; exact g1
   | goto i => cases h'; exact g1
   | ret => cases h'; exact g1
 | .cond x a b, hc, L, H, e, L', H', h => by
  simp only [qjm, Bool.and_eq_true] at hc
  have h' : condC ((opnd d n x).f L) ((den P d n a).f call L H) ((den P d n b).f call L H) = .ok e L' H' := h
  unfold condC at h'
  split at h'
  ·exact qdu hn a hc.1 h'
  ·exact qdu hn b hc.2 h'
  ·cases h'
 | .block id b, hc, L, H, e, L', H', h => by
  have h' : qnh id ((den P d n b).f call L H) = .ok e L' H' := h
  cases h1 : (den P d n b).f call L H with
  | bad => rw [h1] at h'; cases h'
  | ok e1 L1 H1 =>
   rw [h1] at h'
   have g1 := qdu hn b hc h1
   cases e1 with
   | exit i =>
    have h2 : (bif Nat.beq i id then Rc.ok .normal L1 H1 else Rc.ok (.exit i) L1 H1) = .ok e L' H' := h'
    cases hb : Nat.beq i id with
    | true => rw [hb] at h2; cases h2; exact g1
    | false => rw [hb] at h2; cases h2; exact g1
   | normal => cases h'; exact g1
   | goto i => cases h'; exact g1
   | ret => cases h'; exact g1
 | .loop b, hc, L, H, e, L', H', h => by
  have main : ∀ (k : Nat) {L : TT AV d} {H : Hp}, qmk ((den P d n b).f call) k L H = .ok e L' H' → (qah d n).f L' = (qah d n).f L := by
   intro k
   induction k with
   | zero => intro L H h; cases h
   | succ k ih =>
    intro L H h
    have h' : seqC ((den P d n b).f call L H) (qmk ((den P d n b).f call) k) = .ok e L' H' := h
    cases h1 : (den P d n b).f call L H with
    | bad => rw [h1] at h'; cases h'
    | ok e1 L1 H1 =>
     rw [h1] at h'
     have g1 := qdu hn b hc h1
     cases e1 with
     | normal => exact (ih h').trans g1
     | exit i => cases h'; exact g1
     | goto i => cases h'; exact g1
     | ret => cases h'; exact g1
  exact main qao h
 | .scope b, hc, L, H, e, L', H', h => qdu hn b hc h
def endR (res : TT AV d → Hp → Option AV) : Kt d := fun e L H => match e with | .normal => finR (res L H) H | .ret => finR (res L H) H | _ => .bad
theorem Lk.self {c : Code} {K : Kt d} : Lk P d n call c K (fun L H => (denC P d n c).f call L H K) := fun L H => qfx P d n call c L H K
theorem qap {f : FuncId} {F : Func} (hf : P.funcs[f]? = some F) (hn : (F.name == "runtime.NumGoroutine") = false) (hb : F.body.isSome = true) (hd : qjm (codeOf F) = true) {args : List AV} (ha : (Nat.ble args.length F.ntmps && Nat.ble (F.ntmps + 1) 262144) = true)
  {D : TT AV (qaq (F.ntmps + 1)) → Hp → R1} (h : Lk P (qaq (F.ntmps + 1)) F.ntmps call (codeOf F) (endR (qbz P (qaq (F.ntmps + 1)) F.ntmps F.results.toList).f) D) (H : Hp) :
  (funS P f).f call args H = D (wrL args 0 (same .undef _)) H := by
 refine (q48 hf hn hb ha (D := fun L H => fin ((den P (qaq (F.ntmps + 1)) F.ntmps (codeOf F)).f call L H) (endK F.ntmps call (qbz P (qaq (F.ntmps + 1)) F.ntmps F.results.toList).f)) (fun _ _ => rfl) H).trans ?_
 rw [← h]
 cases h1 : (den P (qaq (F.ntmps + 1)) F.ntmps (codeOf F)).f call (wrL args 0 (same .undef _)) H with
 | bad => rfl
 | ok e L' H' =>
  have hs := qdu (Nat.lt_of_lt_of_le (Nat.lt_succ_self _) (qbo _)) (codeOf F) hd h1
  simp only [Bool.and_eq_true, Nat.ble_eq] at ha
  have h0 := qh6 ha.1 ha.2
  have hout : outC F.ntmps call (qbz P (qaq (F.ntmps + 1)) F.ntmps F.results.toList).f L' H' = finR ((qbz P (qaq (F.ntmps + 1)) F.ntmps F.results.toList).f L' H') H' := by
   unfold outC
   rw [hs, h0]; rfl
  cases e with
  | normal => exact hout
  | ret => exact hout
  | exit i => rfl
  | goto i => rfl
end Go.Di
end
noncomputable section
namespace Go.Di
open Go.Ev
def dz (up : Nat) (H : Hp) (k : Nat → Hp → R1) : R1 := k H.nx ⟨H.t, H.nx + up⟩
def dz2 (p : List Pd) (H : Hp) (k : Hp → R1) : R1 := k (allH p H)
def rV (r : R0) : Option AV := match r with | .val v => some v | _ => none
def qrz (a : Option AV) (b : Option (List AV)) : Option (List AV) := match a, b with | some v, some l => some (v :: l) | _, _ => none
def tupO (a : Option (List AV)) : Option AV := match a with | some l => some (.tup l) | none => none
def p1 : P1 := ⟨fun cs off => cs[off]?⟩
def nilC (x : AV) : R0 := match x with | .ptr b o => .val (.ptr b o) | .fn a b c => .val (.fn a b c) | .yield l => .val (.yield l) | _ => .bad
def extr (i : Nat) (x : AV) : R0 := match x with | .tup l => (match l[i]? with | some v => .val v | none => .bad) | _ => .bad
end Go.Di
end
noncomputable section
/-
 A known function: slices.Sort of numbers, by the kit's contract of it.
-/
namespace Go.Ev
open Go.RowKit Go.Sort
variable {P : Program} {w : World} {ι : Im} {H : Hp}
def qle : List AV → Option (List Int)
 | [] => some []
 | .int .i64 z :: l => match qle l with | some r => some (z :: r) | none => none
 | _ :: _ => none
def qfh (zs : List Int) : List Int := zs.mergeSort fun x y => decide (x ≤ y)
def qqq (H : Hp) (b o n : Nat) : Option R1 :=
 match qbf (H.get b) o n with
 | some l => match qle l with
  | some zs => match storeAt H b o ((qfh zs).map fun z => .int .i64 z) (.tup []) with
   | .ok v H' => bif Nat.blt n 4611686018427387904 then some (.ok v H') else none
   | .bad => none
  | none => none
 | none => none
def qsp (f : FuncId) (e : Ext) : Ext := fun g args H =>
 bif Nat.beq g f then (match args with
 | [.sl b o n _ _] => qqq H b o n
 | [.nilsl] => some (.ok (.tup []) H)
 | _ => none) else e g args H
theorem qm2 : ∀ {l : List AV} {zs : List Int}, qle l = some zs → l = zs.map fun z => .int .i64 z
 | [], zs, h => by cases h; rfl
 | .int .i64 z :: l, zs, h => by
  unfold qle at h
  split at h
  ·rename_i r hr
   cases h
   rw [qm2 hr]; rfl
  ·cases h
 | .int .i8 _ :: _, _, h | .int .i16 _ :: _, _, h | .int .i32 _ :: _, _, h | .int .u8 _ :: _, _, h | .int .u16 _ :: _, _, h | .int .u32 _ :: _, _, h | .int .u64 _ :: _, _, h => by cases h
 | .undef :: _, _, h | .lit _ :: _, _, h | .bool _ :: _, _, h | .str _ _ :: _, _, h | .ptr _ _ :: _, _, h | .nilptr :: _, _, h | .sl _ _ _ _ _ :: _, _, h | .nilsl :: _, _, h | .sle :: _, _, h | .map _ :: _, _, h | .nilmap :: _, _, h | .fn _ _ _ :: _, _, h | .yield _ :: _, _, h | .nilfn :: _, _, h | .iface _ _ :: _, _, h | .nilif :: _, _, h | .agg _ :: _, _, h | .tup _ :: _, _, h => by cases h
def SortCalls (P : Program) (f : FuncId) : Prop := ∀ (blk off cap : Nat) (zs : List Int) (w : World), Holds (Value.int .i64) w blk off zs.toArray → blk < w.heap.size → zs.length < 4611686018427387904 →
 Calls P f #[.slice (some ⟨blk, off, none⟩) zs.length cap] w fun e w' => e = .returned (.tuple #[]) ∧ ∃ n os, w' = Go.Sort.grow (putRow (Value.int .i64) (Sort.ahead w n) blk off (qfh zs).toArray) os
theorem qkl (zs : List Int) : (qfh zs).length = zs.length := List.length_mergeSort _
theorem qzq {α : Type} [Inhabited α] (enc : α → Value) {b dd nn : Nat} {c : TT AV dd} {zz o : Nat} {loc : Loc} (hH : HR ι H w) (hg : H.get b = .cells dd nn c false zz) (hb : ι b = some loc) {d0 d : Array α} (hHo : Holds enc w loc.blk (loc.base + o) d0) (hsz : d.size = d0.size) {l : List AV} (hl : l.length = d.size) (hle : o + d.size ≤ nn)
  (hrep : ∀ j, j < d.size → Rep ι (l.getD j .undef) (enc d[j]!) ∧ (enc d[j]!).oneCell = true) (k : Nat) (os : Array Obj) :
  HR ι (H.put b (.cells dd nn (wrL l o c) false zz)) (Go.Sort.grow (putRow enc (Sort.ahead w k) loc.blk (loc.base + o) d) os) ∧ Fr ι ι H (H.put b (.cells dd nn (wrL l o c) false zz)) w (Go.Sort.grow (putRow enc (Sort.ahead w k) loc.blk (loc.base + o) d) os) := by
 have hlt := hH.lt hb
 have hB := hH.blk b hlt
 rw [hg] at hB
 obtain ⟨l', b1, b2, b3, b4⟩ := hB
 rw [hb] at b1; cases b1
 have hput : HR ι (H.put b (.cells dd nn (wrL l o c) false zz)) (putRow enc (Sort.ahead w k) loc.blk (loc.base + o) d) ∧ Fr ι ι H (H.put b (.cells dd nn (wrL l o c) false zz)) w (putRow enc (Sort.ahead w k) loc.blk (loc.base + o) d) := by
  refine hH.put hlt (by rw [hg]; rfl) hb _ rfl rfl rfl (by rw [size_putRow]; rfl) (fun c' hc' => ?_) ?_
  ·show (w.heap.modify loc.blk _)[c']? = _
   rw [Array.getElem?_modify, if_neg (by omega)]
  ·refine ⟨loc, hb, b2, fun j hj => ?_, fun _ j hj => ?_⟩
   ·have b2' := b2.1
    rw [qgw _ _ _ _ (by omega) (by omega), hl]
    obtain ⟨V, c1, c2, c3, c4⟩ := b3 j hj
    by_cases hin : o ≤ j ∧ j < o + d.size
    ·rw [if_pos hin]
     obtain ⟨e1, e2⟩ := hrep (j - o) (by omega)
     refine ⟨enc d[j - o]!, ?_, e1, e2, fun _ => ?_⟩
     ·have h1 := cell?_putRow enc (Sort.ahead w k) loc.blk (loc.base + o) d0 d hHo hsz (j - o) (by omega)
      rwa [show loc.base + o + (j - o) = loc.base + j by omega] at h1
     ·rw [frozen?_putRow]; exact c4 rfl
    ·rw [if_neg hin]
     refine ⟨V, ?_, c2, c3, fun _ => ?_⟩
     ·rw [cell?_putRow_other _ _ _ _ _ _ (.inr (by simp only; omega))]
      exact c1
     ·rw [frozen?_putRow]; exact c4 rfl
   ·have h4 := b4 rfl j hj
    rw [frozen?_putRow, cell?_putRow_other _ _ _ _ _ _ (.inr (by simp only; omega))]
    exact h4
 obtain ⟨g1, g2⟩ := hput
 have hbel : Below (putRow enc (Sort.ahead w k) loc.blk (loc.base + o) d).heap.size (putRow enc (Sort.ahead w k) loc.blk (loc.base + o) d) (Go.Sort.grow (putRow enc (Sort.ahead w k) loc.blk (loc.base + o) d) os) := ⟨rfl, rfl, rfl, by rw [Go.Sort.size_grow]; omega, fun c hc => Go.Sort.heap_grow_old _ _ hc⟩
 obtain ⟨g3, g4⟩ := g1.of_below hbel
 exact ⟨g3, g2.trans g4⟩
theorem qie {b : Blk} {o n : Nat} {l : List AV} (h : qbf b o n = some l) : ∃ dd nn c ro zz, b = .cells dd nn c ro zz ∧ o + n ≤ nn ∧ l.length = n ∧ ∀ j, j < n → l[j]? = some ((qah dd (o + j)).f c) := by
 cases b with
 | cells dd nn c ro zz =>
  have h : (bif Nat.ble (o + n) nn then some (rdN c n o) else none) = some l := h
  cases hon : Nat.ble (o + n) nn with
  | false => rw [hon] at h; cases h
  | true =>
   rw [hon] at h
   simp only [cond_true, Option.some.injEq] at h
   subst h
   exact ⟨dd, nn, c, ro, zz, rfl, qcz hon, qf6 c n o, qz0 c n o⟩
 | _ => cases h
theorem qj7 {b o : Nat} {l : List AV} {v v' : AV} {H' : Hp} {dd nn zz : Nat} {c : TT AV dd} {ro : Bool} (hg : H.get b = .cells dd nn c ro zz) (h : storeAt H b o l v = .ok v' H') : ro = false ∧ v' = v ∧ H' = H.put b (.cells dd nn (wrL l o c) false zz) ∧ o + l.length ≤ nn := by
 unfold storeAt qgk at h
 rw [hg] at h
 cases ro with
 | true => cases h
 | false =>
  dsimp only at h
  cases hle : Nat.ble (o + l.length) nn with
  | false => rw [hle] at h; cases h
  | true => rw [hle] at h; cases h; exact ⟨rfl, rfl, rfl, qcz hle⟩
theorem q39 {f : FuncId} (hf : SortCalls P f) {b o n m : Nat} {x : Bool} {v : AV} {H' : Hp} (h : qqq H b o n = some (.ok v H')) {ARGS : List Value} (hH : HR ι H w) (ha : RepL ι [.sl b o n m x] ARGS) : Calls P f ARGS.toArray w (Post ι H w v H') := by
 simp only [RepL, Rep] at ha
 obtain ⟨V, r, rfl, ⟨hnm, loc, hb, rfl⟩, rfl⟩ := ha
 unfold qqq at h
 split at h
 ·rename_i l hl
  split at h
  ·rename_i zs hz
   have hlz := qm2 hz
   split at h
   ·rename_i v' H2 hst
    cases hn : Nat.blt n 4611686018427387904 with
    | false => rw [hn] at h; cases h
    | true =>
     rw [hn] at h
     cases h
     have hn := qcz hn
     obtain ⟨dd, nn, c, ro, zz, hg, hle, hll, hget⟩ := qie hl
     obtain ⟨rfl, rfl, rfl, _⟩ := qj7 hg hst
     have hlt := hH.lt hb
     have hB := hH.blk b hlt
     rw [hg] at hB
     obtain ⟨l', b1, b2, b3, b4⟩ := hB
     rw [hb] at b1; cases b1
     have hzn : zs.length = n := by rw [← hll, hlz, List.length_map]
     subst hzn
     have hcell : ∀ j, j < zs.length → (qah dd (o + j)).f c = .int .i64 zs[j]! := fun j hj => by
      have h1 := hget j hj
      rw [hlz, List.getElem?_map, List.getElem?_eq_getElem hj] at h1
      rw [getElem!_pos zs j hj]
      exact (Option.some.inj h1).symm
     have hHo : Holds (Value.int .i64) w loc.blk (loc.base + o) zs.toArray := fun j hj => by
      have hj : j < zs.length := by simpa using hj
      obtain ⟨V, c1, c2, c3, c4⟩ := b3 (o + j) (by omega)
      rw [hcell j hj] at c2
      simp only [Rep] at c2
      subst c2
      rw [← Nat.add_assoc] at c1 c4
      refine ⟨?_, c4 rfl⟩
      rw [c1]
      simp
     have hbs : loc.blk < w.heap.size := hH.low b loc hlt (by rw [hg]; rfl) hb
     refine (hf loc.blk (loc.base + o) (if x then m else m + loc.ext) zs w hHo hbs hn).mono fun e w' hp => ?_
     obtain ⟨rfl, k, os, rfl⟩ := hp
     obtain ⟨g1, g2⟩ := qzq (Value.int .i64) hH hg hb hHo (d := (qfh zs).toArray) (l := (qfh zs).map fun z => .int .i64 z) (by simp [qkl]) (by simp) (by simp [qkl]; omega) (fun j hj => by
      have hj : j < (qfh zs).length := by simpa using hj
      refine ⟨?_, rfl⟩
      rw [List.getD_eq_getElem?_getD, List.getElem?_map, List.getElem?_eq_getElem hj]
      simp [hj, Rep]) k os
     exact ⟨ι, by simp only [Rep, RepL]; exact ⟨[], rfl, rfl⟩, g1, g2⟩
   ·cases h
  ·cases h
 ·cases h
def q3q (P : Program) (f : FuncId) : Prop := ∀ w, Calls P f #[.slice none 0 0] w fun e w' => e = .returned (.tuple #[]) ∧ Below w.heap.size w w'
def q05 : R1 → Bool
 | .ok (.tup []) _ => true
 | .ok _ _ => false
 | .bad => false
theorem qmh (hm : P.follows .mixedOrders = true) {ext : Ext} (hE : qjp P ext) {k : Nat} {f : FuncId} (h : q05 (callF P ext k (.f f) [.nilsl] Hp.empty) = true) : q3q P f := by
 intro w
 unfold q05 at h
 split at h
 ·rename_i H' he
  have := ((qh0 hm hE k).fn _ _ _ _ _ he (fun _ => none) w [.slice none 0 0] HR.empty (by simp [RepL, Rep])).2 0
  refine (callsIn_wide.1 this).mono fun e w' hp => ?_
  cases e with
  | returned V =>
   obtain ⟨ι', h1, h2, h3⟩ := hp
   simp only [Rep, RepL] at h1
   obtain ⟨r, rfl, h1⟩ := h1
   exact ⟨by simp [h1], h3.below _ (Nat.le_refl _) fun b l _ _ h => by cases h⟩
  | panicked => exact hp.elim
  | outgrown => exact hp.elim
 ·cases h
 ·cases h
theorem qlx {f : FuncId} (hb : qo8 P f = true) (A : Array Value) : (callFunc f A).run P w = .ok (.enter f A) w := by
 unfold qo8 at hb
 split at hb
 ·rename_i fn hfn
  simp only [Bool.and_eq_true, Bool.not_eq_true'] at hb
  obtain ⟨c, hc'⟩ := Option.isSome_iff_exists.1 hb.1
  have hname' : ¬ fn.name = "runtime.NumGoroutine" := fun e => by rw [e] at hb; simp at hb
  simp [callFunc, hfn, hname', hc']
 ·cases hb
theorem qwx {e : Ext} (he : qjp P e) {f : FuncId} (hf : SortCalls P f) (hn : q3q P f) (hb : qo8 P f = true) : qjp P (qsp f e) := by
 refine ⟨fun g args H r hr v H' hv ι w ARGS hH ha => ?_⟩
 unfold qsp at hr
 cases hg : Nat.beq g f with
 | false =>
  rw [hg] at hr
  exact he.fn g _ H r hr v H' hv ι w ARGS hH ha
 | true =>
  rw [hg] at hr
  obtain rfl := Nat.eq_of_beq_eq_true hg
  refine ⟨qlx hb _, fun m => callsIn_wide.2 ?_⟩
  simp only [cond_true] at hr
  split at hr
  ·subst hv
   exact q39 hf hr hH ha
  ·cases hr
   cases hv
   simp only [RepL, Rep] at ha
   obtain ⟨V, r, rfl, rfl, rfl⟩ := ha
   refine (hn w).mono fun e w' hp => ?_
   obtain ⟨rfl, hw⟩ := hp
   obtain ⟨k1, k2⟩ := hH.of_below hw
   exact ⟨ι, by simp [Rep, RepL], k1, k2⟩
  ·cases hr
end Go.Ev
end
noncomputable section
/-
 A known function: slices.SortFunc of lists, compared by their first numbers, by the kit's contract of it.
-/
namespace Go.Ev
open Go.RowKit Go.Sort
variable {P : Program} {w : World} {ι : Im} {H : Hp}
def headA (H : Hp) : AV → Option Int
 | .sl b o n _ _ => bif Nat.blt 0 n then (match qa9 (H.get b) o with | .val (.int .i64 z) => some z | _ => none) else none
 | _ => none
def qlm (H : Hp) : List AV → Option (List Int)
 | [] => some []
 | v :: l => match headA H v, qlm H l with | some z, some r => some (z :: r) | _, _ => none
def ltIx (zs : List Int) (i j : Fin zs.length) : Bool := decide (zs[i] - zs[j] < 0)
def sortIx (zs : List Int) (h : 0 < zs.length) : Array (Fin zs.length) :=
 letI : Inhabited (Fin zs.length) := ⟨⟨0, h⟩⟩
 pdq (ltIx zs) (Array.finRange zs.length) 0 (Array.finRange zs.length).size (Go.Lib.bitLen (Array.finRange zs.length).size) true true
structure HdOk (zs : List Int) : Prop where
 pos : 0 < zs.length
 len : zs.length < 4611686018427387904
 rng : ∀ z ∈ zs, 0 ≤ z ∧ z < 4611686018427387904
open Classical in
def qjf (H : Hp) (b o n : Nat) : Option R1 :=
 match qbf (H.get b) o n with
 | some l => match qlm (H.put b .dead) l with
  | some zs => if h : HdOk zs then (match storeAt H b o ((sortIx zs h.pos).toList.map fun i : Fin zs.length => l.getD i.1 .undef) (.tup []) with
   | .ok v H' => bif Nat.beq (sortIx zs h.pos).size zs.length then some (.ok v H') else none
   | .bad => none) else none
  | none => none
 | none => none
def qnx (f fc : FuncId) (e : Ext) : Ext := fun g args H =>
 bif Nat.beq g f then (match args with
 | [.sl b o n _ _, .fn c [] []] => bif Nat.beq c fc then (bif Nat.beq n 0 then some (.ok (.tup []) H) else qjf H b o n) else none
 | [.nilsl, .fn c [] []] => bif Nat.beq c fc then some (.ok (.tup []) H) else none
 | _ => none) else e g args H
def SortFNone (P : Program) (f : FuncId) : Prop := ∀ p cap fv w, Calls P f #[.slice p 0 cap, fv] w fun e w' => e = .returned (.tuple #[]) ∧ w' = w
theorem qkm {f : FuncId} (hf : SortFNone P f) {p : Option Addr} {cap : Nat} {fv : Value} (hH : HR ι H w) : Calls P f #[.slice p 0 cap, fv] w (Post ι H w (.tup []) H) :=
 (hf p cap fv w).mono fun e w' hp => by
  obtain ⟨rfl, rfl⟩ := hp
  exact ⟨ι, by simp [Rep, RepL], hH, Fr.refl _ _ _⟩
def SortFCalls (P : Program) (f fc : FuncId) : Prop := ∀ (zs : List Int) (h : HdOk zs) (enc : Fin zs.length → Value) (blk off cap : Nat) (w : World),
 letI : Inhabited (Fin zs.length) := ⟨⟨0, h.pos⟩⟩
 (∀ i : Fin zs.length, ∃ ba oa na ca, enc i = .slice (some ⟨ba, oa, none⟩) na ca ∧ 0 < na ∧ ba ≠ blk ∧ ba < w.heap.size ∧ w.cell? ⟨ba, oa, none⟩ = some (.int .i64 zs[i])) →
 Holds enc w blk off (Array.finRange zs.length) → blk < w.heap.size →
 Calls P f #[.slice (some ⟨blk, off, none⟩) zs.length cap, .func (.func fc) #[] #[]] w fun e w' => e = .returned (.tuple #[]) ∧ ∃ n os, w' = Go.Sort.grow (putRow enc (Sort.ahead w n) blk off (sortIx zs h.pos)) os
theorem qm5 {H : Hp} : ∀ {l : List AV} {zs : List Int}, qlm H l = some zs → l.length = zs.length ∧ ∀ i (h : i < l.length) (h' : i < zs.length), headA H l[i] = some zs[i]
 | [], zs, h => by cases h; exact ⟨rfl, fun i h => absurd h (Nat.not_lt_zero _)⟩
 | v :: l, zs, h => by
  unfold qlm at h
  split at h
  ·rename_i z r h1 h2
   cases h
   obtain ⟨e1, e2⟩ := qm5 h2
   refine ⟨by simp [e1], fun i h h' => ?_⟩
   cases i with
   | zero => exact h1
   | succ i => exact e2 i (by simpa using h) (by simpa using h')
  ·cases h
theorem q1b {H : Hp} {v : AV} {z : Int} (h : headA H v = some z) : ∃ b o n m x, v = .sl b o n m x ∧ 0 < n ∧ qa9 (H.get b) o = .val (.int .i64 z) := by
 unfold headA at h
 split at h
 ·rename_i b o n m x
  cases hn : Nat.blt 0 n with
  | false => rw [hn] at h; cases h
  | true =>
   rw [hn] at h
   simp only [cond_true] at h
   split at h
   ·rename_i z' hz; cases h; exact ⟨_, _, _, _, _, rfl, qcz hn, hz⟩
   ·cases h
 ·cases h
theorem qy7 {f fc : FuncId} (hf : SortFCalls P f fc) {b o n m : Nat} {x : Bool} {v : AV} {H' : Hp} (h : qjf H b o n = some (.ok v H')) {ARGS : List Value} (hH : HR ι H w) (ha : RepL ι [.sl b o n m x, .fn fc [] []] ARGS) : Calls P f ARGS.toArray w (Post ι H w v H') := by
 simp only [RepL, Rep] at ha
 obtain ⟨V, r, rfl, ⟨hnm, loc, hb, rfl⟩, V2, r2, rfl, ⟨_, _, rfl, rfl, rfl⟩, rfl⟩ := ha
 unfold qjf at h
 split at h
 ·rename_i l hl
  split at h
  ·rename_i zs hz
   split at h
   ·rename_i hOk
    split at h
    ·rename_i v' H2 hst
     cases hsz : Nat.beq (sortIx zs hOk.pos).size zs.length with
     | false => rw [hsz] at h; cases h
     | true =>
      rw [hsz] at h
      cases h
      have hsz := Nat.eq_of_beq_eq_true hsz
      obtain ⟨dd, nn, c, ro, zz, hg, hle, hll, hget⟩ := qie hl
      obtain ⟨rfl, rfl, rfl, _⟩ := qj7 hg hst
      obtain ⟨hlz, hh⟩ := qm5 hz
      letI : Inhabited (Fin zs.length) := ⟨⟨0, hOk.pos⟩⟩
      have hlt := hH.lt hb
      have hB := hH.blk b hlt
      rw [hg] at hB
      obtain ⟨l', b1, b2, b3, b4⟩ := hB
      rw [hb] at b1; cases b1
      have hn : n = zs.length := by omega
      subst hn
      have hbs : loc.blk < w.heap.size := hH.low b loc hlt (by rw [hg]; rfl) hb
      have hV : ∀ i : Fin zs.length, ∃ V, w.cell? ⟨loc.blk, loc.base + o + i, none⟩ = some V ∧ Rep ι (l.getD i .undef) V ∧ V.oneCell = true ∧ w.frozen? ⟨loc.blk, loc.base + o + i, none⟩ = false := fun i => by
       obtain ⟨V, c1, c2, c3, c4⟩ := b3 (o + i) (by have := i.2; omega)
       rw [← Nat.add_assoc] at c1 c4
       refine ⟨V, c1, ?_, c3, c4 rfl⟩
       rw [List.getD_eq_getElem?_getD, hget i i.2]
       exact c2
      let enc : Fin zs.length → Value := fun i => Classical.choose (hV i)
      have henc : ∀ i : Fin zs.length, w.cell? ⟨loc.blk, loc.base + o + i, none⟩ = some (enc i) ∧ Rep ι (l.getD i .undef) (enc i) ∧ (enc i).oneCell = true ∧ w.frozen? ⟨loc.blk, loc.base + o + i, none⟩ = false := fun i => Classical.choose_spec (hV i)
      have hfr : ∀ j (h : j < (Array.finRange zs.length).size), ((Array.finRange zs.length)[j]! : Fin zs.length) = ⟨j, by simpa using h⟩ := fun j h => by
       rw [getElem!_pos _ j h]; simp
      have hHo : Holds enc w loc.blk (loc.base + o) (Array.finRange zs.length) := fun j hj => by
       obtain ⟨e1, _, _, e4⟩ := henc ⟨j, by simpa using hj⟩
       rw [hfr j hj]
       exact ⟨e1, e4⟩
      have hel : ∀ i : Fin zs.length, ∃ ba oa na ca, enc i = .slice (some ⟨ba, oa, none⟩) na ca ∧ 0 < na ∧ ba ≠ loc.blk ∧ ba < w.heap.size ∧ w.cell? ⟨ba, oa, none⟩ = some (.int .i64 zs[i]) := fun i => by
       have hi := i.2
       obtain ⟨bi, oi, ni, mi, xi, e1, e2, e3⟩ := q1b (hh i (by omega) i.2)
       obtain ⟨_, r1, _, _⟩ := henc i
       rw [List.getD_eq_getElem?_getD, List.getElem?_eq_getElem (by omega)] at r1
       have r1 : Rep ι (l[(i : Nat)]'(by omega)) (enc i) := r1
       rw [e1] at r1
       simp only [Rep] at r1
       obtain ⟨_, li, k1, k2⟩ := r1
       have hbi : bi ≠ b := fun e => by
        subst e
        rw [Hp.get_put _ _ _ _ inH inH, if_pos rfl] at e3
        cases e3
       rw [Hp.get_put _ _ _ _ inH inH, if_neg hbi] at e3
       have hBi := hH.blk bi inH
       cases hgi : H.get bi with
       | cells di ni' ci ri zi =>
        rw [hgi] at e3 hBi
        have e3 : (bif Nat.blt oi ni' then R0.val ((qah di oi).f ci) else .bad) = .val (.int .i64 zs[i]) := e3
        cases hoi : Nat.blt oi ni' with
        | false => rw [hoi] at e3; cases e3
        | true =>
         rw [hoi] at e3
         simp only [cond_true, R0.val.injEq] at e3
         have hoi := qcz hoi
         obtain ⟨li', q1, q2, q3, _⟩ := hBi
         rw [k1] at q1; cases q1
         obtain ⟨Vi, p1, p2, _, _⟩ := q3 oi hoi
         rw [e3] at p2
         simp only [Rep] at p2
         subst p2
         exact ⟨li.blk, li.base + oi, ni, _, k2, e2, fun e => hbi (hH.inj b bi loc li inH inH (by rw [hg]; rfl) (by rw [hgi]; rfl) hb k1 e.symm).symm, hH.low bi li inH (by rw [hgi]; rfl) k1, p1⟩
       | _ => rw [hgi] at e3; cases e3
      refine (hf zs hOk enc loc.blk (loc.base + o) (if x then m else m + loc.ext) w hel hHo hbs).mono fun e w' hp => ?_
      obtain ⟨rfl, k, os, rfl⟩ := hp
      obtain ⟨g1, g2⟩ := qzq enc hH hg hb hHo (d := sortIx zs hOk.pos) (l := (sortIx zs hOk.pos).toList.map fun i : Fin zs.length => l.getD i.1 .undef) (by rw [hsz]; simp) (by simp) (by omega) (fun j hj => by
       obtain ⟨_, e2, e3, _⟩ := henc (sortIx zs hOk.pos)[j]!
       refine ⟨?_, e3⟩
       rw [getElem!_pos _ j hj] at e2 ⊢
       rw [List.getD_eq_getElem?_getD (l := (sortIx zs hOk.pos).toList.map _), List.getElem?_map, List.getElem?_eq_getElem (by simpa using hj)]
       exact e2) k os
      exact ⟨ι, by simp only [Rep, RepL]; exact ⟨[], rfl, rfl⟩, g1, g2⟩
    ·cases h
   ·cases h
  ·cases h
 ·cases h
theorem qso {e : Ext} (he : qjp P e) {f fc : FuncId} (hf : SortFCalls P f fc) (hn : SortFNone P f) (hb : qo8 P f = true) : qjp P (qnx f fc e) := by
 refine ⟨fun g args H r hr v H' hv ι w ARGS hH ha => ?_⟩
 unfold qnx at hr
 cases hg : Nat.beq g f with
 | false =>
  rw [hg] at hr
  exact he.fn g _ H r hr v H' hv ι w ARGS hH ha
 | true =>
  rw [hg] at hr
  obtain rfl := Nat.eq_of_beq_eq_true hg
  refine ⟨qlx hb _, fun k => callsIn_wide.2 ?_⟩
  simp only [cond_true] at hr
  split at hr
  ·rename_i b o n m x c
   cases hc : Nat.beq c fc with
   | false => rw [hc] at hr; cases hr
   | true =>
    rw [hc] at hr
    obtain rfl := Nat.eq_of_beq_eq_true hc
    subst hv
    cases h0 : Nat.beq n 0 with
    | false =>
     rw [h0] at hr
     exact qy7 hf hr hH ha
    | true =>
     rw [h0] at hr
     cases hr
     obtain rfl := Nat.eq_of_beq_eq_true h0
     simp only [RepL, Rep] at ha
     obtain ⟨V, r, rfl, ⟨hnm, loc, hb, rfl⟩, V2, r2, rfl, ⟨_, _, rfl, rfl, rfl⟩, rfl⟩ := ha
     exact qkm hn hH
  ·rename_i c
   cases hc : Nat.beq c fc with
   | false => rw [hc] at hr; cases hr
   | true =>
    rw [hc] at hr
    cases hr
    cases hv
    simp only [RepL, Rep] at ha
    obtain ⟨V, r, rfl, rfl, V2, r2, rfl, ⟨_, _, rfl, rfl, rfl⟩, rfl⟩ := ha
    exact qkm hn hH
  ·cases hr
end Go.Ev
end
