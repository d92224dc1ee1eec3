/-
 For countersignlaw17.CompsKnown: the evaluator and its soundness, part 4 of 4: what a run of the abstract evaluator answers, the model's run answers, in every world and on every schedule. No conditions beyond those that each theorem states.
-/
import Derived.Test.YtmdpdlnabcmlmaaEv3
noncomputable section
/-
 The evaluator with continuations: what stands behind a piece of code is handed over as a function; so a function's text can be read as one that has values in place of numbered temporaries.
-/
namespace Go.Di
open Go.Ev
variable {d : Nat}
def G (L : TT AV d) (i : Nat) : AV := (qau d i).f L
abbrev Kt (d : Nat) := Ex → TT AV d → Hp → R1
def fin (r : Rc d) (K : Kt d) : R1 := match r with | .bad => .bad | .ok e L H => K e L H
def finS (r : Rs d) (k : TT AV d → Hp → R1) : R1 := match r with | .bad => .bad | .ok L H => k L H
def finX (r : Rx d) (k : TT AV d → Hp → List Pd → List Wt → R1) : R1 := match r with | .bad => .bad | .ok L H p w => k L H p w
def nrm (r : R0) (H : Hp) : Option (AV × Hp) := match r with | .bad => none | .val v => some (v, H) | .new v b => some (v, qaw H b)
def vq (r : R0) (H : Hp) (k : AV → Hp → R1) : R1 := match nrm r H with | none => .bad | some p => k p.1 p.2
def ve (r : R1) (k : AV → Hp → R1) : R1 := match r with | .bad => .bad | .ok v H => k v H
def vg0 (w : Option Bool) (r : R0) (H : Hp) (k : AV → Hp → R1) : R1 := match w with | some true => vq r H k | some false => k .undef H | none => .bad
def veg0 (w : Option Bool) (r : R1) (H : Hp) (k : AV → Hp → R1) : R1 := match w with | some true => ve r k | some false => k .undef H | none => .bad
def qac (want : Bool) (v : AV) : Option Bool := match v with | .bool b => some (b == want) | .undef => some false | _ => none
def cd (x : AV) (a b : R1) : R1 := match x with | .bool true => a | .bool false => b | _ => .bad
/- steps of a region that draws its order -/
def dq0 (lk al : Bool) (i A nm : Nat) (H : Hp) (p : List Pd) (w : List Wt) (f : Hp → R0) (g : Option Bool) (k : AV → Hp → List Pd → List Wt → R1) : R1 :=
 match g with
 | none => .bad
 | some false => k .undef H p w
 | some true => match f (qaq A p H) with
  | .bad => .bad
  | .val v => k v H p (bif lk then ⟨i, A, f, v⟩ :: w else w)
  | .new v b => bif al && b.wr then k v H (⟨i, nm, b⟩ :: p) w else .bad
def de0 (A : Nat) (H : Hp) (p : List Pd) (w : List Wt) (r : R1) (g : Option Bool) (k : AV → Hp → List Pd → List Wt → R1) : R1 :=
 match g with
 | none => .bad
 | some false => k .undef H p w
 | some true => match r with
  | .bad => .bad
  | .ok v H' => bif qlo (qek A p) H' (qej A w) then k v H' (qek A p) (qej A w) else .bad
def vl (r : R0) (k : AV → R1) : R1 := match r with | .bad => .bad | .val v => k v | .new _ _ => .bad
def vlg0 (w : Option Bool) (r : R0) (k : AV → R1) : R1 := match w with | some true => vl r k | some false => k .undef | none => .bad
/- constants that cannot be taken apart: so two sides are compared argument by argument -/
def vg : Option Bool → R0 → Hp → (AV → Hp → R1) → R1 := Classical.choose (⟨vg0, rfl⟩ : ∃ f, f = vg0)
theorem zf4 : vg = vg0 := Classical.choose_spec (⟨vg0, rfl⟩ : ∃ f, f = vg0)
def veg : Option Bool → R1 → Hp → (AV → Hp → R1) → R1 := Classical.choose (⟨veg0, rfl⟩ : ∃ f, f = veg0)
theorem q79 : veg = veg0 := Classical.choose_spec (⟨veg0, rfl⟩ : ∃ f, f = veg0)
def vlg : Option Bool → R0 → (AV → R1) → R1 := Classical.choose (⟨vlg0, rfl⟩ : ∃ f, f = vlg0)
theorem q3y : vlg = vlg0 := Classical.choose_spec (⟨vlg0, rfl⟩ : ∃ f, f = vlg0)
def dq : Bool → Bool → Nat → Nat → Nat → Hp → List Pd → List Wt → (Hp → R0) → Option Bool → (AV → Hp → List Pd → List Wt → R1) → R1 := Classical.choose (⟨dq0, rfl⟩ : ∃ f, f = dq0)
theorem zer : dq = dq0 := Classical.choose_spec (⟨dq0, rfl⟩ : ∃ f, f = dq0)
def de : Nat → Hp → List Pd → List Wt → R1 → Option Bool → (AV → Hp → List Pd → List Wt → R1) → R1 := Classical.choose (⟨de0, rfl⟩ : ∃ f, f = de0)
theorem zeu : de = de0 := Classical.choose_spec (⟨de0, rfl⟩ : ∃ f, f = de0)
theorem q48 (put : TT AV d → AV → TT AV d) (L : TT AV d) (H : Hp) (r : R0) (k : TT AV d → Hp → R1) : finS (doQ put L H r) k = vq r H fun v H => k (put L v) H := by cases r <;> rfl
theorem q49 (put : TT AV d → AV → TT AV d) (L : TT AV d) (r : R1) (k : TT AV d → Hp → R1) : finS (doE put L r) k = ve r fun v H => k (put L v) H := by cases r <;> rfl
structure StC (d : Nat) where f : Ev.Call → TT AV d → Hp → (TT AV d → Hp → R1) → R1
def q8l (P : Program) (d n : Nat) (ops : Array Oper) (o : Oper) : StC d :=
 match opS P d n o, o.guard, qf7 d n ops o, putS d n o.dst with
 | .q _ f, none, _, ⟨put⟩ => ⟨fun _ L H k => vq (f H.nx L H) H fun v H => k (put L v) H⟩
 | .e f, none, _, ⟨put⟩ => ⟨fun call L H k => ve (f call L H) fun v H => k (put L v) H⟩
 | .q _ f, some _, ⟨w⟩, ⟨put⟩ => ⟨fun _ L H k => vg (w L) (f H.nx L H) H fun v H => k (put L v) H⟩
 | .e f, some _, ⟨w⟩, ⟨put⟩ => ⟨fun call L H k => veg (w L) (f call L H) H fun v H => k (put L v) H⟩
theorem q8k (P : Program) (d n : Nat) (ops : Array Oper) (o : Oper) (call : Ev.Call) (L : TT AV d) (H : Hp) (k : TT AV d → Hp → R1) :
  finS ((qj1 P d n ops o).f call L H) k = (q8l P d n ops o).f call L H k := by
 unfold qj1 q8l
 generalize opS P d n o = x
 generalize o.guard = g
 generalize qf7 d n ops o = w
 generalize putS d n o.dst = p
 obtain ⟨p⟩ := p
 obtain ⟨w⟩ := w
 cases x with
 | q l f => cases g with
  | none => exact q48 ..
  | some j =>
   show finS (ifW (w L) _ _) k = vg (w L) _ H _
   rw [zf4]
   cases h : w L with
   | none => rfl
   | some b => cases b with
    | true => exact q48 ..
    | false => rfl
 | e f => cases g with
  | none => exact q49 ..
  | some j =>
   show finS (ifW (w L) _ _) k = veg (w L) _ H _
   rw [q79]
   cases h : w L with
   | none => rfl
   | some b => cases b with
    | true => exact q49 ..
    | false => rfl
def q35 (P : Program) (d n : Nat) (ops : Array Oper) (o : Oper) : StC d :=
 match dfOf o with
 | none => q8l P d n ops o
 | some _ => match qh8 P d n ops o with | ⟨g⟩ => ⟨fun call L H k => finS (g call L H) k⟩
theorem q8m (P : Program) (d n : Nat) (ops : Array Oper) (o : Oper) (call : Ev.Call) (L : TT AV d) (H : Hp) (k : TT AV d → Hp → R1) :
  finS ((qh8 P d n ops o).f call L H) k = (q35 P d n ops o).f call L H k := by
 unfold q35
 cases h : dfOf o with
 | none => simp only; rw [← q8k]; unfold qh8; rw [h]
 | some c => rfl
def opsC (P : Program) (d n : Nat) (ops : Array Oper) : List Oper → StC d
 | [] => ⟨fun _ L H k => k L H⟩
 | o :: r => match q35 P d n ops o, opsC P d n ops r with | ⟨g⟩, ⟨h⟩ => ⟨fun call L H k => g call L H fun L H => h call L H k⟩
theorem q9z (P : Program) (d n : Nat) (ops : Array Oper) (call : Ev.Call) : ∀ (l : List Oper) (L : TT AV d) (H : Hp) (k : TT AV d → Hp → R1),
  finS ((opsS P d n ops l).f call L H) k = (opsC P d n ops l).f call L H k
 | [], _, _, _ => rfl
 | o :: r, L, H, k => by
  show finS (q7y ((qh8 P d n ops o).f call L H) ((opsS P d n ops r).f call)) k = (q35 P d n ops o).f call L H fun L H => (opsC P d n ops r).f call L H k
  rw [← q8m]
  cases (qh8 P d n ops o).f call L H with
  | bad => rfl
  | ok L H => exact q9z P d n ops call r L H k
structure SxC (d : Nat) where f : Ev.Call → Nat → TT AV d → Hp → List Pd → List Wt → (TT AV d → Hp → List Pd → List Wt → R1) → R1
def quk (P : Program) (d n : Nat) (ops : Array Oper) (i A : Nat) (o : Oper) : SxC d :=
 match opS P d n o, qcf d n (qbh ops o), qf7 d n ops o, putS d n o.dst with
 | .q lk f, ⟨pj⟩, ⟨w⟩, ⟨put⟩ => ⟨fun _ base L H p ws k => dq lk (qka o.op && !lk) i A (base + i) H p ws (f (base + i) (pj L)) (w (pj L)) fun v H p ws => k (put L v) H p ws⟩
 | .e f, ⟨pj⟩, ⟨w⟩, ⟨put⟩ => ⟨fun call _ L H p ws k => de A H p ws (f call (pj L) (qaq A p H)) (w (pj L)) fun v H p ws => k (put L v) H p ws⟩
theorem q8j (P : Program) (d n : Nat) (ops : Array Oper) (i A : Nat) (o : Oper) (call : Ev.Call) (base : Nat) (L : TT AV d) (H : Hp) (p : List Pd) (ws : List Wt) (k : TT AV d → Hp → List Pd → List Wt → R1) :
  finX ((qyw P d n ops i A o).f call base L H p ws) k = (quk P d n ops i A o).f call base L H p ws k := by
 unfold qyw quk
 generalize opS P d n o = x
 generalize qcf d n (qbh ops o) = j
 generalize qf7 d n ops o = w
 generalize putS d n o.dst = pt
 obtain ⟨pt⟩ := pt
 obtain ⟨w⟩ := w
 obtain ⟨j⟩ := j
 cases x with
 | q lk f =>
  dsimp only
  rw [zer]
  unfold qX dq0
  cases w (j L) with
  | none => rfl
  | some b => cases b with
   | false => rfl
   | true =>
    simp only
    cases f (base + i) (j L) (qaq A p H) with
    | bad => rfl
    | val v => rfl
    | new v b =>
     simp only
     cases (qka o.op && !lk && b.wr) <;> rfl
 | e f =>
  dsimp only
  rw [zeu]
  unfold eX de0
  cases w (j L) with
  | none => rfl
  | some b => cases b with
   | false => rfl
   | true =>
    simp only
    cases f call (j L) (qaq A p H) with
    | bad => rfl
    | ok v H' =>
     simp only
     cases qlo (qek A p) H' (qej A ws) <;> rfl
def qr2 (P : Program) (d n : Nat) (ops : Array Oper) (ms : List Nat) : List Nat → SxC d
 | [] => ⟨fun _ _ L H p w k => k L H p w⟩
 | i :: r => match ops[i]? with
  | some o => match quk P d n ops i (ms.getD i 0) o, qr2 P d n ops ms r with | ⟨g⟩, ⟨h⟩ => ⟨fun call base L H p w k => g call base L H p w fun L H p w => h call base L H p w k⟩
  | none => ⟨fun _ _ _ _ _ _ _ => .bad⟩
theorem q4p (P : Program) (d n : Nat) (ops : Array Oper) (ms : List Nat) (call : Ev.Call) (base : Nat) : ∀ (l : List Nat) (L : TT AV d) (H : Hp) (p : List Pd) (w : List Wt) (k : TT AV d → Hp → List Pd → List Wt → R1),
  finX ((opsX P d n ops ms l).f call base L H p w) k = (qr2 P d n ops ms l).f call base L H p w k
 | [], _, _, _, _, _ => rfl
 | i :: r, L, H, p, w, k => by
  unfold opsX qr2
  cases ops[i]? with
  | none => rfl
  | some o =>
   show finX (zhz ((qyw P d n ops i (ms.getD i 0) o).f call base L H p w) ((opsX P d n ops ms r).f call base)) k = (quk P d n ops i (ms.getD i 0) o).f call base L H p w fun L H p w => (qr2 P d n ops ms r).f call base L H p w k
   rw [← q8j]
   cases (qyw P d n ops i (ms.getD i 0) o).f call base L H p w with
   | bad => rfl
   | ok L H p w => exact q4p P d n ops ms call base r L H p w k
def zhm (P : Program) (d n : Nat) (ops : Array Oper) : StC d :=
 match q1s P d n ops with
 | none => ⟨fun _ _ _ _ => .bad⟩
 | some pl => match qr2 P d n ops pl.ms pl.ord with
  | ⟨g⟩ => ⟨fun call L H k => g call H.nx L ⟨H.t, H.nx + pl.up⟩ [] [] fun L H p _ => k L (allH p H)⟩
theorem zeq (P : Program) (d n : Nat) (ops : Array Oper) (call : Ev.Call) (L : TT AV d) (H : Hp) (k : TT AV d → Hp → R1) :
  finS ((qpk P d n ops).f call L H) k = (zhm P d n ops).f call L H k := by
 unfold qpk zhm
 cases q1s P d n ops with
 | none => rfl
 | some pl =>
  show finS (match (opsX P d n ops pl.ms pl.ord).f call H.nx L ⟨H.t, H.nx + pl.up⟩ [] [] with | .bad => .bad | .ok L' H' pend _ => .ok L' (allH pend H')) k = (qr2 P d n ops pl.ms pl.ord).f call H.nx L ⟨H.t, H.nx + pl.up⟩ [] [] fun L H p _ => k L (allH p H)
  rw [← q4p]
  cases (opsX P d n ops pl.ms pl.ord).f call H.nx L ⟨H.t, H.nx + pl.up⟩ [] [] <;> rfl
/- regions that draw their order, without effects and new blocks -/
def q4m (P : Program) (d n : Nat) (ops : Array Oper) (i : Nat) : Bool := match ops[i]? with | some o => !isE (opS P d n o) && !qka o.op | none => false
def zg4 (P : Program) (d n : Nat) (ops : Array Oper) (i : Nat) (o : Oper) : StC d :=
 match opS P d n o, qcf d n (qbh ops o), o.guard, qf7 d n ops o, putS d n o.dst with
 | .q _ f, ⟨pj⟩, none, _, ⟨put⟩ => ⟨fun _ L H k => vl (f (H.nx + i) (pj L) H) fun v => k (put L v) H⟩
 | .q _ f, ⟨pj⟩, some _, ⟨w⟩, ⟨put⟩ => ⟨fun _ L H k => vlg (w (pj L)) (f (H.nx + i) (pj L) H) fun v => k (put L v) H⟩
 | .e _, _, _, _, _ => ⟨fun _ _ _ _ => .bad⟩
def qzp (P : Program) (d n : Nat) (ops : Array Oper) : List Nat → StC d
 | [] => ⟨fun _ L H k => k L H⟩
 | i :: r => match ops[i]? with
  | some o => match zg4 P d n ops i o, qzp P d n ops r with | ⟨g⟩, ⟨h⟩ => ⟨fun call L H k => g call L H fun L H => h call L H k⟩
  | none => ⟨fun _ _ _ _ => .bad⟩
theorem zfs (lk : Bool) (i A nm : Nat) (H : Hp) (w : List Wt) (f : Hp → R0) (g : Option Bool) (k : AV → Hp → List Pd → List Wt → R1) (k' : AV → R1) (h : ∀ v w, k v H [] w = k' v) :
  dq lk false i A nm H [] w f g k = vlg g (f H) k' := by
 rw [zer, q3y]
 unfold dq0 vlg0
 cases g with
 | none => rfl
 | some b => cases b with
  | false => exact h _ _
  | true =>
   simp only
   show (match f H with | .bad => R1.bad | .val v => _ | .new v b => _) = vl (f H) k'
   cases f H with
   | bad => rfl
   | val v => exact h _ _
   | new v b => rfl
theorem qws (P : Program) (d n : Nat) (ops : Array Oper) (ms : List Nat) (call : Ev.Call) (H : Hp) : ∀ (l : List Nat), l.all (q4m P d n ops) = true → ∀ (L : TT AV d) (w : List Wt) (k : TT AV d → Hp → R1),
  (qr2 P d n ops ms l).f call H.nx L H [] w (fun L H p _ => k L (allH p H)) = (qzp P d n ops l).f call L H k
 | [], _, _, _, _ => rfl
 | i :: r, hl, L, w, k => by
  rw [List.all_cons, Bool.and_eq_true] at hl
  have hq := hl.1
  unfold q4m at hq
  unfold qr2 qzp
  cases ho : ops[i]? with
  | none => simp [ho] at hq
  | some o =>
   rw [ho] at hq
   simp only [Bool.and_eq_true, Bool.not_eq_true'] at hq
   show (quk P d n ops i (ms.getD i 0) o).f call H.nx L H [] w (fun L H' p w => (qr2 P d n ops ms r).f call H.nx L H' p w (fun L H p _ => k L (allH p H))) = (zg4 P d n ops i o).f call L H fun L H => (qzp P d n ops r).f call L H k
   unfold quk zg4
   have hal := hq.2
   have hE := hq.1
   have hw : o.guard = none → (qf7 d n ops o).f = fun _ => some true := fun hg => by unfold qf7; rw [hg]
   generalize qf7 d n ops o = x1 at hw
   generalize opS P d n o = x2 at hE
   generalize qcf d n (qbh ops o) = x3
   generalize putS d n o.dst = x4
   obtain ⟨x1⟩ := x1
   obtain ⟨x3⟩ := x3
   obtain ⟨x4⟩ := x4
   cases x2 with
   | e f => cases hE
   | q lk f =>
    cases hg : o.guard with
    | none =>
     have e := hw hg
     simp only at e
     subst e
     dsimp only
     rw [hal]
     refine (zfs lk i _ _ H w _ (some true) _ (fun v => (qzp P d n ops r).f call (x4 L v) H k) fun v w => ?_).trans (by rw [q3y]; rfl)
     exact qws P d n ops ms call H r hl.2 (x4 L v) w k
    | some j =>
     dsimp only
     rw [hal]
     exact zfs lk i _ _ H w _ (x1 (x3 L)) _ (fun v => (qzp P d n ops r).f call (x4 L v) H k) fun v w => qws P d n ops ms call H r hl.2 (x4 L v) w k
def zhl (P : Program) (d n : Nat) (ops : Array Oper) : StC d :=
 match q1s P d n ops with
 | none => ⟨fun _ _ _ _ => .bad⟩
 | some pl => match pl.ord.all (q4m P d n ops) && Nat.beq pl.up 0, qzp P d n ops pl.ord, qr2 P d n ops pl.ms pl.ord with
  | true, ⟨g⟩, _ => ⟨g⟩
  | false, _, ⟨g⟩ => ⟨fun call L H k => g call H.nx L ⟨H.t, H.nx + pl.up⟩ [] [] fun L H p _ => k L (allH p H)⟩
theorem zep (P : Program) (d n : Nat) (ops : Array Oper) (call : Ev.Call) (L : TT AV d) (H : Hp) (k : TT AV d → Hp → R1) :
  finS ((qpk P d n ops).f call L H) k = (zhl P d n ops).f call L H k := by
 rw [zeq]
 unfold zhm zhl
 cases q1s P d n ops with
 | none => rfl
 | some pl =>
  dsimp only
  cases hq : (pl.ord.all (q4m P d n ops) && Nat.beq pl.up 0) with
  | false => rfl
  | true =>
   rw [Bool.and_eq_true] at hq
   have hu := Nat.eq_of_beq_eq_true hq.2
   show (qr2 P d n ops pl.ms pl.ord).f call H.nx L ⟨H.t, H.nx + pl.up⟩ [] [] (fun L H p _ => k L (allH p H)) = (qzp P d n ops pl.ord).f call L H k
   rw [hu]
   exact qws P d n ops pl.ms call H pl.ord hq.1 L [] k
def thn (b : TT AV d → Hp → R1) (K : Kt d) : Kt d := fun e L H => match e with | .normal => b L H | e => K e L H
def outK (id : Nat) (K : Kt d) : Kt d := fun e L H => match e with | .exit i => bif Nat.beq i id then K .normal L H else K (.exit i) L H | e => K e L H
structure DnC (d : Nat) where f : Ev.Call → TT AV d → Hp → Kt d → R1
def denC (P : Program) (d n : Nat) : Code → DnC d
 | .skip | .label _ => ⟨fun _ L H K => K .normal L H⟩
 | .region _ ops false => match opsC P d n ops ops.toList with | ⟨g⟩ => ⟨fun call L H K => g call L H (K .normal)⟩
 | .region _ ops true => match zhl P d n ops with | ⟨g⟩ => ⟨fun call L H K => g call L H (K .normal)⟩
 | .seq a b => match denC P d n a, denC P d n b with | ⟨f⟩, ⟨g⟩ => ⟨fun call L H K => f call L H (thn (fun L H => g call L H K) K)⟩
 | .cond x a b => match opnd d n x, denC P d n a, denC P d n b with | ⟨g⟩, ⟨f⟩, ⟨h⟩ => ⟨fun call L H K => cd (g L) (f call L H K) (h call L H K)⟩
 | .block id b => match denC P d n b with | ⟨f⟩ => ⟨fun call L H K => f call L H (outK id K)⟩
 | .scope b => denC P d n b
 | .exit id => ⟨fun _ L H K => K (.exit id) L H⟩
 | .ret => ⟨fun _ L H K => K .ret L H⟩
 | c => match den P d n c with | ⟨g⟩ => ⟨fun call L H K => fin (g call L H) K⟩
theorem q47 (r : Rs d) (K : Kt d) : fin (ofRs r) K = finS r (K .normal) := by cases r <;> rfl
theorem q29 (r : Rc d) (k : TT AV d → Hp → Rc d) (K : Kt d) : fin (seqC r k) K = fin r (thn (fun L H => fin (k L H) K) K) := by
 cases r with
 | bad => rfl
 | ok e L H => cases e <;> rfl
theorem qz7 (id : Nat) (r : Rc d) (K : Kt d) : fin (qvh id r) K = fin r (outK id K) := by
 cases r with
 | bad => rfl
 | ok e L H =>
  cases e with
  | exit i =>
   show fin (bif Nat.beq i id then _ else _) K = bif Nat.beq i id then _ else _
   cases Nat.beq i id <;> rfl
  | _ => rfl
theorem qjf (P : Program) (d n : Nat) (call : Ev.Call) : ∀ (c : Code) (L : TT AV d) (H : Hp) (K : Kt d), fin ((den P d n c).f call L H) K = (denC P d n c).f call L H K
 | .skip, _, _, _ | .label _, _, _, _ | .exit _, _, _, _ | .ret, _, _, _ | .goto _, _, _, _ | .loop _, _, _, _ | .rangeFunc .., _, _, _ | .refuse _, _, _, _ => rfl
 | .region _ ops false, L, H, K => (q47 ..).trans (q9z ..)
 | .region _ ops true, L, H, K => (q47 ..).trans (zep ..)
 | .seq a b, L, H, K => by
  refine (q29 ((den P d n a).f call L H) ((den P d n b).f call) K).trans ?_
  rw [qjf P d n call a]
  show (denC P d n a).f call L H (thn (fun L H => fin ((den P d n b).f call L H) K) K) = (denC P d n a).f call L H (thn (fun L H => (denC P d n b).f call L H K) K)
  congr 2
  funext L H
  exact qjf P d n call b L H K
 | .cond x a b, L, H, K => by
  show fin (condC ((opnd d n x).f L) ((den P d n a).f call L H) ((den P d n b).f call L H)) K = cd ((opnd d n x).f L) ((denC P d n a).f call L H K) ((denC P d n b).f call L H K)
  rw [← qjf P d n call a, ← qjf P d n call b]
  generalize (opnd d n x).f L = v
  cases v with
  | bool q => cases q <;> rfl
  | _ => rfl
 | .block id b, L, H, K => (qz7 ..).trans (qjf P d n call b L H (outK id K))
 | .scope b, L, H, K => qjf P d n call b L H K
def Lk (P : Program) (d n : Nat) (call : Ev.Call) (c : Code) (K : Kt d) (D : TT AV d → Hp → R1) : Prop := ∀ L H, fin ((den P d n c).f call L H) K = D L H
variable {P : Program} {n : Nat} {call : Ev.Call} {K : Kt d}
theorem Lk.one {c : Code} {D : TT AV d → Hp → R1} (h : ∀ L H, (denC P d n c).f call L H K = D L H) : Lk P d n call c K D := fun L H => (qjf P d n call c L H K).trans (h L H)
theorem Lk.seq {a b : Code} {D E : TT AV d → Hp → R1} (hb : Lk P d n call b K E) (ha : Lk P d n call a (thn E K) D) : Lk P d n call (.seq a b) K D := fun L H => by
 refine (q29 ((den P d n a).f call L H) ((den P d n b).f call) K).trans ?_
 rw [show (fun L H => fin ((den P d n b).f call L H) K) = E from funext fun L => funext fun H => hb L H]
 exact ha L H
theorem Lk.block {id : Nat} {b : Code} {D : TT AV d → Hp → R1} (h : Lk P d n call b (outK id K) D) : Lk P d n call (.block id b) K D := fun L H => (qz7 ..).trans (h L H)
theorem Lk.scope {b : Code} {D : TT AV d → Hp → R1} (h : Lk P d n call b K D) : Lk P d n call (.scope b) K D := h
theorem Lk.cond {x : Operand} {a b : Code} {A B : TT AV d → Hp → R1} (ha : Lk P d n call a K A) (hb : Lk P d n call b K B) : Lk P d n call (.cond x a b) K (fun L H => cd ((opnd d n x).f L) (A L H) (B L H)) := fun L H => by
 show fin (condC ((opnd d n x).f L) ((den P d n a).f call L H) ((den P d n b).f call L H)) K = cd ((opnd d n x).f L) (A L H) (B L H)
 rw [← ha L H, ← hb L H]
 generalize (opnd d n x).f L = v
 cases v with
 | bool q => cases q <;> rfl
 | _ => rfl
def qba : Nat := Classical.choose (⟨qak, rfl⟩ : ∃ n, n = qak)
theorem qam : qba = qak := Classical.choose_spec (⟨qak, rfl⟩ : ∃ n, n = qak)
theorem Lk.loop {b : Code} {D : Nat → TT AV d → Hp → R1} (h0 : ∀ L H, D 0 L H = .bad) (hs : ∀ k, Lk P d n call b (thn (D k) K) (D (k + 1))) : Lk P d n call (.loop b) K (D qba) := by
 have main : ∀ k L H, fin (quc ((den P d n b).f call) k L H) K = D k L H := by
  intro k
  induction k with
  | zero => intro L H; exact (h0 L H).symm
  | succ k ih =>
   intro L H
   show fin (seqC ((den P d n b).f call L H) (quc ((den P d n b).f call) k)) K = _
   rw [q29, show (fun L H => fin (quc ((den P d n b).f call) k L H) K) = D k from funext fun L => funext fun H => ih L H]
   exact hs k L H
 rw [qam]
 exact fun L H => main qak L H
theorem Lk.of {c : Code} {D E : TT AV d → Hp → R1} (h : Lk P d n call c K D) (e : ∀ L H, D L H = E L H) : Lk P d n call c K E := fun L H => (h L H).trans (e L H)
def endK (n : Nat) (call : Ev.Call) (res : TT AV d → Hp → Option AV) : Kt d := fun e L H => match e with | .normal => outC n call res L H | .ret => outC n call res L H | _ => .bad
theorem zgg (n : Nat) (call : Ev.Call) (res : TT AV d → Hp → Option AV) (r : Rc d) : retC n call res r = fin r (endK n call res) := by
 cases r with
 | bad => rfl
 | ok e L H => cases e <;> rfl
def codeOf (f : Func) : Code := match f.body with | some c => c | none => .skip
theorem zec {f : FuncId} {F : Func} (hf : P.funcs[f]? = some F) (hn : (F.name == "runtime.NumGoroutine") = false) (hb : F.body.isSome = true) {args : List AV} (ha : (Nat.ble args.length F.ntmps && Nat.ble (F.ntmps + 1) 262144) = true)
  {D : TT AV (qax (F.ntmps + 1)) → Hp → R1} (h : Lk P (qax (F.ntmps + 1)) F.ntmps call (codeOf F) (endK F.ntmps call (qco P (qax (F.ntmps + 1)) F.ntmps F.results.toList).f) D) (H : Hp) :
  (funS P f).f call args H = D (wrL args 0 (same .undef _)) H := by
 unfold funS
 rw [hf]
 simp only [hn, Bool.false_eq_true, if_false]
 unfold codeOf at h
 cases hc : F.body with
 | none => rw [hc] at hb; cases hb
 | some c =>
  rw [hc] at h
  show (bif Nat.ble args.length F.ntmps && Nat.ble (F.ntmps + 1) 262144 then retC F.ntmps call _ _ else .bad) = _
  rw [ha, ← h _ H]
  exact zgg ..
end Go.Di
namespace Go.Di
open Go.Ev
variable {d n : Nat} {P : Program} {call : Ev.Call}
def qpj : Code → Bool
 | .region _ ops _ => !(ops.toList.any isDf)
 | .seq a b => qpj a && qpj b
 | .cond _ a b => qpj a && qpj b
 | .block _ b => qpj b
 | .loop b => qpj b
 | .scope b => qpj b
 | .rangeFunc .. => true
 | _ => true
theorem zbt {o : Oper} (h : isDf o = false) : dfOf o = none := by
 unfold isDf at h
 unfold dfOf
 split
 ·rename_i e _; rw [e] at h; cases h
 ·rfl
theorem qzo (hn : n < 8 ^ d) {ops : Array Oper} : ∀ (l : List Oper), l.any isDf = false → ∀ {L : TT AV d} {H : Hp} {L' : TT AV d} {H' : Hp}, (opsS P d n ops l).f call L H = .ok L' H' → (qau d n).f L' = (qau d n).f L
 | [], _, L, H, L', H', h => by cases h; rfl
 | o :: r, hl, L, H, L', H', h => by
  rw [List.any_cons, Bool.or_eq_false_iff] at hl
  have h' : q7y ((qh8 P d n ops o).f call L H) ((opsS P d n ops r).f call) = .ok L' H' := h
  cases h1 : (qh8 P d n ops o).f call L H with
  | bad => rw [h1] at h'; cases h'
  | ok L1 H1 =>
   rw [h1] at h'
   unfold qh8 at h1
   rw [zbt hl.1] at h1
   exact (qzo hn r hl.2 h').trans (qul hn h1)
theorem qf3 (hn : n < 8 ^ d) : ∀ (c : Code), qpj c = true → ∀ {L : TT AV d} {H : Hp} {e : Ex} {L' : TT AV d} {H' : Hp}, (den P d n c).f call L H = .ok e L' H' → (qau d n).f L' = (qau d n).f L
 | .skip, _, _, _, _, _, _, h | .label _, _, _, _, _, _, _, h | .exit _, _, _, _, _, _, _, h | .ret, _, _, _, _, _, _, h => by cases h; rfl
 | .goto _, _, _, _, _, _, _, h | .refuse _, _, _, _, _, _, _, h => by cases h
 | .rangeFunc f ps sa bd, _, L, H, e, L', H', h => by
  rw [den] at h
  split at h
  ·cases h
  ·rename_i g _ _
   have h : endLoop H.nx (qmt call (g L) [.yield H.nx] (qaw H (.loop true none d n L ps.toList sa bd))) L = .ok e L' H' := h
   unfold endLoop at h
   split at h
   ·cases h
   ·split at h <;> first | (cases h; rfl) | cases h
 | .region _ ops false, hc, L, H, e, L', H', h => by
  have h' : ofRs ((opsS P d n ops ops.toList).f call L H) = .ok e L' H' := h
  cases h1 : (opsS P d n ops ops.toList).f call L H with
  | bad => rw [h1] at h'; cases h'
  | ok L1 H1 =>
   rw [h1] at h'; cases h'
   exact qzo hn _ (by simpa [qpj] using hc) h1
 | .region _ ops true, _, L, H, e, L', H', h => by
  have h' : ofRs ((qpk P d n ops).f call L H) = .ok e L' H' := h
  cases h1 : (qpk P d n ops).f call L H with
  | bad => rw [h1] at h'; cases h'
  | ok L1 H1 => rw [h1] at h'; cases h'; exact qvc hn h1
 | .seq a b, hc, L, H, e, L', H', h => by
  simp only [qpj, Bool.and_eq_true] at hc
  have h' : seqC ((den P d n a).f call L H) ((den P d n b).f call) = .ok e L' H' := h
  cases h1 : (den P d n a).f call L H with
  | bad => rw [h1] at h'; cases h'
  | ok e1 L1 H1 =>
   rw [h1] at h'
   have g1 := qf3 hn a hc.1 h1
   cases e1 with
   | normal => exact (qf3 hn b hc.2 h').trans g1
   | exit i => cases h'; exact g1
   | goto i => cases h'; exact g1
   | ret => cases h'; exact g1
 | .cond x a b, hc, L, H, e, L', H', h => by
  simp only [qpj, Bool.and_eq_true] at hc
  have h' : condC ((opnd d n x).f L) ((den P d n a).f call L H) ((den P d n b).f call L H) = .ok e L' H' := h
  unfold condC at h'
  split at h'
  ·exact qf3 hn a hc.1 h'
  ·exact qf3 hn b hc.2 h'
  ·cases h'
 | .block id b, hc, L, H, e, L', H', h => by
  have h' : qvh id ((den P d n b).f call L H) = .ok e L' H' := h
  cases h1 : (den P d n b).f call L H with
  | bad => rw [h1] at h'; cases h'
  | ok e1 L1 H1 =>
   rw [h1] at h'
   have g1 := qf3 hn b hc h1
   cases e1 with
   | exit i =>
    have h2 : (bif Nat.beq i id then Rc.ok .normal L1 H1 else Rc.ok (.exit i) L1 H1) = .ok e L' H' := h'
    cases hb : Nat.beq i id with
    | true => rw [hb] at h2; cases h2; exact g1
    | false => rw [hb] at h2; cases h2; exact g1
   | normal => cases h'; exact g1
   | goto i => cases h'; exact g1
   | ret => cases h'; exact g1
 | .loop b, hc, L, H, e, L', H', h => by
  have main : ∀ (k : Nat) {L : TT AV d} {H : Hp}, quc ((den P d n b).f call) k L H = .ok e L' H' → (qau d n).f L' = (qau d n).f L := by
   intro k
   induction k with
   | zero => intro L H h; cases h
   | succ k ih =>
    intro L H h
    have h' : seqC ((den P d n b).f call L H) (quc ((den P d n b).f call) k) = .ok e L' H' := h
    cases h1 : (den P d n b).f call L H with
    | bad => rw [h1] at h'; cases h'
    | ok e1 L1 H1 =>
     rw [h1] at h'
     have g1 := qf3 hn b hc h1
     cases e1 with
     | normal => exact (ih h').trans g1
     | exit i => cases h'; exact g1
     | goto i => cases h'; exact g1
     | ret => cases h'; exact g1
  exact main qak h
 | .scope b, hc, L, H, e, L', H', h => qf3 hn b hc h
def endR (res : TT AV d → Hp → Option AV) : Kt d := fun e L H => match e with | .normal => finR (res L H) H | .ret => finR (res L H) H | _ => .bad
theorem Lk.self {c : Code} {K : Kt d} : Lk P d n call c K (fun L H => (denC P d n c).f call L H K) := fun L H => qjf P d n call c L H K
theorem qal {f : FuncId} {F : Func} (hf : P.funcs[f]? = some F) (hn : (F.name == "runtime.NumGoroutine") = false) (hb : F.body.isSome = true) (hd : qpj (codeOf F) = true) {args : List AV} (ha : (Nat.ble args.length F.ntmps && Nat.ble (F.ntmps + 1) 262144) = true)
  {D : TT AV (qax (F.ntmps + 1)) → Hp → R1} (h : Lk P (qax (F.ntmps + 1)) F.ntmps call (codeOf F) (endR (qco P (qax (F.ntmps + 1)) F.ntmps F.results.toList).f) D) (H : Hp) :
  (funS P f).f call args H = D (wrL args 0 (same .undef _)) H := by
 refine (zec hf hn hb ha (D := fun L H => fin ((den P (qax (F.ntmps + 1)) F.ntmps (codeOf F)).f call L H) (endK F.ntmps call (qco P (qax (F.ntmps + 1)) F.ntmps F.results.toList).f)) (fun _ _ => rfl) H).trans ?_
 rw [← h]
 cases h1 : (den P (qax (F.ntmps + 1)) F.ntmps (codeOf F)).f call (wrL args 0 (same .undef _)) H with
 | bad => rfl
 | ok e L' H' =>
  have hs := qf3 (Nat.lt_of_lt_of_le (Nat.lt_succ_self _) (qdu _)) (codeOf F) hd h1
  simp only [Bool.and_eq_true, Nat.ble_eq] at ha
  have h0 := qm2 ha.1 ha.2
  have hout : outC F.ntmps call (qco P (qax (F.ntmps + 1)) F.ntmps F.results.toList).f L' H' = finR ((qco P (qax (F.ntmps + 1)) F.ntmps F.results.toList).f L' H') H' := by
   unfold outC
   rw [hs, h0]; rfl
  cases e with
  | normal => exact hout
  | ret => exact hout
  | exit i => rfl
  | goto i => rfl
end Go.Di
end
noncomputable section
namespace Go.Di
open Go.Ev
def dz (up : Nat) (H : Hp) (k : Nat → Hp → R1) : R1 := k H.nx ⟨H.t, H.nx + up⟩
def dz2 (p : List Pd) (H : Hp) (k : Hp → R1) : R1 := k (allH p H)
def rV (r : R0) : Option AV := match r with | .val v => some v | _ => none
def q0d (a : Option AV) (b : Option (List AV)) : Option (List AV) := match a, b with | some v, some l => some (v :: l) | _, _ => none
def tupO (a : Option (List AV)) : Option AV := match a with | some l => some (.tup l) | none => none
def p1 : P1 := ⟨fun cs off => cs[off]?⟩
def nilC (x : AV) : R0 := match x with | .ptr b o => .val (.ptr b o) | .fn a b c => .val (.fn a b c) | .yield l => .val (.yield l) | _ => .bad
def extr (i : Nat) (x : AV) : R0 := match x with | .tup l => (match l[i]? with | some v => .val v | none => .bad) | _ => .bad
end Go.Di
end
