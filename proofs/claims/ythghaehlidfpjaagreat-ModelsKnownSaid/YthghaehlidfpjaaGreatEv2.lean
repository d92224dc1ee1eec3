/-
  The evaluator and its soundness, part 2 of 4 (texts XEvM, XEvQ8, XEvD, XEvF, XEvG, XEvG2, XEvG3, XEvG4, XEvC, XEvC2, XEvP, XEvO1, XEvO2, XEvO3 joined): what a run of the abstract evaluator answers, the model's run answers, in every world and on every schedule. No conditions beyond those that each theorem states.
-/
import Derived.Test.YthghaehlidfpjaaGreatEv1
import Derived.Laws.NewFold
import Derived.Lib.Bytealg
import Derived.KernelRfl
import Derived.CallsIn
import Derived.OrdersIn
import Derived.TacticsIn
import Derived.RangeFuncLeaves
section
namespace Go.Ev
open Go.RowKit
variable {P : Program} {w : World} {ι : Im} {o : Oper} {a : Act} {nm : Nat} {d n : Nat} {L : TT AV d} {H : Hp}

/- keys -/
theorem checkKey_ok (em : Bool) : ∀ (D : Nat) (t : TypeId), keyOk P D t = true → ∀ (D' : Nat), D ≤ D' → ∀ (K : Value), (isAggT P t = some true → ∃ vs : List Value, K = .agg vs.toArray ∧ sizeT P t = some vs.length) → ∀ w, (Instr.checkKey em D' t K).run P w = .ok () w := by
  intro D
  induction D with
  | zero => intro t h; simp [keyOk] at h
  | succ D ih =>
    intro t h D' hD K hK w
    obtain ⟨E, rfl⟩ : ∃ E, D' = E + 1 := ⟨D' - 1, by omega⟩
    have pk : ∀ (u : TypeId) (m : Nat), sizeT P u = some m → 0 < m → keyOk P D u = true → ∀ (vs : List Value) (off : Nat), off + m ≤ vs.length → ∀ w, ((do let p ← part u vs.toArray off; Instr.checkKey em E u p) : Sem Unit).run P w = .ok () w := by
      intro u m hu h0 hk vs off hle w
      rw [Sem.run_bind]
      cases ha : isAggT P u with
      | none =>
        unfold isAggT at ha
        cases hun : P.underlying u with
        | none => cases D <;> simp [keyOk, hun] at hk
        | some _ => rw [hun] at ha; cases ha
      | some b =>
        cases b with
        | true =>
          have : (part u vs.toArray off).run P w = .ok (.agg ((vs.drop off).take m).toArray) w := by
            simp [part, r_isAgg ha, r_size hu]
          rw [this, Result.andThen_ok]
          refine ih u hk E (by omega) _ (fun _ => ⟨_, rfl, ?_⟩) w
          rw [hu]; simp; omega
        | false =>
          have hlt : off < vs.length := by omega
          have : (part u vs.toArray off).run P w = .ok vs[off] w := by simp [part, r_isAgg ha, hlt]
          rw [this, Result.andThen_ok]
          exact ih u hk E (by omega) _ (fun h' => by rw [ha] at h'; cases h') w
    rw [keyOk] at h
    split at h
    · rename_i ht _
      unfold Instr.checkKey
      simp [r_under ht]
    · rename_i ht _
      unfold Instr.checkKey
      simp [r_under ht]
    · rename_i ht _
      unfold Instr.checkKey
      simp [r_under ht]
    · rename_i fs N ht hN
      obtain ⟨vs, rfl, hvs⟩ := hK (by simp [isAggT, ht])
      have hN' : N = vs.length := by rw [hN] at hvs; simpa using hvs
      unfold Instr.checkKey
      simp only [Sem.run_bind, r_under ht, Result.andThen_ok]
      rw [← Array.forIn_toList]
      have hall := List.all_eq_true.1 h
      have loop : ∀ (l : List Field), (∀ f ∈ l, f ∈ fs.toList) → ∀ w, (forIn l () fun f _ => (do
          if f.name ≠ "_" then (do let p ← part f.type vs.toArray f.offset; Instr.checkKey em E f.type p; pure (ForInStep.yield ())) else pure (ForInStep.yield ()) : Sem (ForInStep Unit))).run P w = .ok () w := by
        intro l
        induction l with
        | nil => intro _ w; simp
        | cons f l ihl =>
          intro hl w
          have hf := hall f (hl f (by simp))
          rw [List.forIn_cons]
          split at hf
          · rename_i m hm
            simp only [Bool.and_eq_true] at hf
            obtain ⟨⟨f1, f2⟩, f3⟩ := hf
            have r := pk f.type m hm (blt_t f3) f2 vs f.offset (by have := ble_t f1; omega)
            by_cases hn : f.name = "_"
            · simp only [hn, ne_eq, not_true_eq_false, if_false, pure_bind]
              exact ihl (fun g hg => hl g (by simp [hg])) w
            · simp only [ne_eq, hn, not_false_eq_true, if_true, bind_assoc, pure_bind]
              rw [← bind_assoc, Sem.run_bind, r w, Result.andThen_ok]
              exact ihl (fun g hg => hl g (by simp [hg])) w
          · cases hf
      have := loop fs.toList (fun f hf => hf) w
      simp at this ⊢
      erw [this]
      rfl
    · rename_i len e N ht hN
      obtain ⟨vs, rfl, hvs⟩ := hK (by simp [isAggT, ht])
      have hN' : N = vs.length := by rw [hN] at hvs; simpa using hvs
      split at h
      · rename_i m hm
        simp only [Bool.and_eq_true] at h
        obtain ⟨⟨f1, f2⟩, f3⟩ := h
        have f1 := ble_t f1
        unfold Instr.checkKey
        simp only [Sem.run_bind, r_under ht, Result.andThen_ok, Std.Legacy.Range.forIn_eq_forIn_range', Std.Legacy.Range.size, Nat.sub_zero, Nat.add_sub_cancel, Nat.div_one]
        have loop : ∀ (k i : Nat), i + k ≤ len → ∀ w, (forIn (List.range' i k) () fun i _ => (do
            let s ← sizeOf e; let p ← part e vs.toArray (i * s); Instr.checkKey em E e p; pure (ForInStep.yield ()) : Sem (ForInStep Unit))).run P w = .ok () w := by
          intro k
          induction k with
          | zero => intro i _ w; simp
          | succ k ihk =>
            intro i hi w
            have hle : i * m + m ≤ vs.length := by
              have h1 : (i + 1) * m ≤ len * m := Nat.mul_le_mul_right m (by omega)
              rw [Nat.add_mul, Nat.one_mul] at h1
              omega
            have r := pk e m hm (blt_t f3) f2 vs (i * m) hle
            rw [List.range'_succ, List.forIn_cons]
            simp only [bind_assoc, pure_bind]
            rw [Sem.run_bind, r_size hm, Result.andThen_ok, ← bind_assoc, Sem.run_bind, r w, Result.andThen_ok]
            exact ihk (i + 1) (by omega) w
        have := loop len 0 (by omega) w
        simp at this ⊢
        erw [this]
        rfl
      · cases h
    · cases h


theorem RepE.get : ∀ {es : List Ent} {ES : List MapEntry}, RepE ι es ES → ∀ (i : Nat) (x : Ent), es[i]? = some x → ∃ e, ES[i]? = some e ∧ Rep ι x.key e.key ∧ Rep ι x.val e.val ∧ e.born = x.born
  | [], ES, h, i, x, hi => by simp at hi
  | y :: es, ES, h, i, x, hi => by
    simp only [RepE] at h
    obtain ⟨e, r, rfl, h1, h2, h3, h4⟩ := h
    cases i with
    | zero => simp at hi; subst hi; exact ⟨e, rfl, h1, h2, h3⟩
    | succ i => simp at hi; obtain ⟨e', a1, a2⟩ := RepE.get h4 i x hi; exact ⟨e', by simpa using a1, a2⟩

/-- what was found, abstract and concrete -/
def HitOk (ι : Im) (es : List Ent) (ES : List MapEntry) : Option Hit → Option (Nat × Value) → Prop
  | none, R => R = none
  | some h, R => ∃ V E, R = some (h.i, V) ∧ es[h.i]? = some h.x ∧ ES[h.i]? = some E ∧ Rep ι h.x.key E.key ∧ Rep ι h.x.val V ∧ E.val = V ∧ E.born = h.x.born

theorem findE_shift {e : AV → AV → Option Bool} {k : AV} : ∀ (es : List Ent) (i : Nat) (r : Option Hit), findE e k es i = some r → ∀ h, r = some h → i ≤ h.i ∧ es[h.i - i]? = some h.x
  | [], i, r, hr, h, hh => by
    have hr : (some none : Option (Option Hit)) = some r := hr
    cases hr; cases hh
  | x :: es, i, r, hr, h, hh => by
    have hr : (match e k x.key with | some true => some (some ⟨i, x⟩) | some false => findE e k es (i + 1) | none => none) = some r := hr
    split at hr
    · simp only [Option.some.injEq] at hr; subst hr; cases hh; exact ⟨Nat.le_refl _, by simp⟩
    · obtain ⟨h1, h2⟩ := findE_shift es (i + 1) r hr h hh
      refine ⟨by omega, ?_⟩
      rw [show h.i - i = (h.i - (i + 1)) + 1 by omega, List.getElem?_cons_succ]; exact h2
    · cases hr

theorem findNow_ok {td : TypeDesc} {e : AV → AV → Option Bool} {k : AV} {K : Value} (hs : ∀ x X b, e k x = some b → Rep ι x X → Instr.sameNow td K X = some b) :
    ∀ (es : List Ent) (ES : List MapEntry) (i : Nat) (r : Option Hit), RepE ι es ES → findE e k es i = some r →
    ∃ R, Instr.findNow td K ES i = some R ∧ (r = none → R = none) ∧ ∀ h, r = some h → ∃ E, ES[h.i - i]? = some E ∧ R = some (h.i, E.val)
  | [], ES, i, r, hE, hr => by
    have hr : (some none : Option (Option Hit)) = some r := hr
    cases hr
    simp only [RepE] at hE; subst hE
    exact ⟨none, rfl, fun _ => rfl, fun h hh => by cases hh⟩
  | x :: es, ES, i, r, hE, hr => by
    simp only [RepE] at hE
    obtain ⟨E, rr, rfl, h1, h2, h3, h4⟩ := hE
    have hr : (match e k x.key with | some true => some (some ⟨i, x⟩) | some false => findE e k es (i + 1) | none => none) = some r := hr
    split at hr
    · rename_i hb
      simp only [Option.some.injEq] at hr; subst hr
      refine ⟨some (i, E.val), by simp [Instr.findNow, hs _ _ _ hb h1], (fun h => by cases h), fun h hh => ?_⟩
      cases hh; exact ⟨E, by simp, rfl⟩
    · rename_i hb
      obtain ⟨R, r1, r2, r3⟩ := findNow_ok hs es rr (i + 1) r h4 hr
      refine ⟨R, by simp [Instr.findNow, hs _ _ _ hb h1, r1], r2, fun h hh => ?_⟩
      obtain ⟨E', e1, e2⟩ := r3 h hh
      obtain ⟨g1, _⟩ := findE_shift es (i + 1) r hr h hh
      exact ⟨E', by rw [show h.i - i = (h.i - (i + 1)) + 1 by omega, List.getElem?_cons_succ]; exact e1, e2⟩
    · cases hr

theorem findAsk_ok {kt : TypeId} {e : AV → AV → Option Bool} {k : AV} {K : Value} (hs : ∀ x X b, e k x = some b → Rep ι x X → ∀ w, (Op.equal kt K X).run P w = .ok b w) :
    ∀ (es : List Ent) (ES : List MapEntry) (i : Nat) (r : Option Hit), RepE ι es ES → findE e k es i = some r →
    ∃ R, (∀ w, (Instr.findAsking kt K ES i).run P w = .ok R w) ∧ (r = none → R = none) ∧ ∀ h, r = some h → ∃ E, ES[h.i - i]? = some E ∧ R = some (h.i, E.val)
  | [], ES, i, r, hE, hr => by
    have hr : (some none : Option (Option Hit)) = some r := hr
    cases hr
    simp only [RepE] at hE; subst hE
    exact ⟨none, fun _ => rfl, fun _ => rfl, fun h hh => by cases hh⟩
  | x :: es, ES, i, r, hE, hr => by
    simp only [RepE] at hE
    obtain ⟨E, rr, rfl, h1, h2, h3, h4⟩ := hE
    have hr : (match e k x.key with | some true => some (some ⟨i, x⟩) | some false => findE e k es (i + 1) | none => none) = some r := hr
    split at hr
    · rename_i hb
      simp only [Option.some.injEq] at hr; subst hr
      refine ⟨some (i, E.val), fun w => by simp [Instr.findAsking, hs _ _ _ hb h1], (fun h => by cases h), fun h hh => ?_⟩
      cases hh; exact ⟨E, by simp, rfl⟩
    · rename_i hb
      obtain ⟨R, r1, r2, r3⟩ := findAsk_ok hs es rr (i + 1) r h4 hr
      refine ⟨R, fun w => by simp [Instr.findAsking, hs _ _ _ hb h1, r1], r2, fun h hh => ?_⟩
      obtain ⟨E', e1, e2⟩ := r3 h hh
      obtain ⟨g1, _⟩ := findE_shift es (i + 1) r hr h hh
      exact ⟨E', by rw [show h.i - i = (h.i - (i + 1)) + 1 by omega, List.getElem?_cons_succ]; exact e1, e2⟩
    · cases hr

theorem findK_ok {kt : TypeId} {ky : Ky} (hky : keyS P kt = some ky) {k : AV} {K : Value} (hK : Rep ι k K) {es : List Ent} {ES : List MapEntry} (hE : RepE ι es ES) {r : Option Hit} (h : findK ky k es = some r) :
    (∀ em w, (Instr.checkKey em 10000 kt K).run P w = .ok () w) ∧ ∃ R, (∀ w, (Instr.findKey kt K ES).run P w = .ok R w) ∧ HitOk ι es ES r R := by
  unfold findK at h
  cases hf : keyFits ky.s k with
  | false => rw [hf] at h; cases h
  | true =>
    rw [hf] at h; simp only [cond_true] at h
    have hq := eqT_ok (P := P) (ι := ι) eqDepth kt
    have fin : ∀ R : Option (Nat × Value), (r = none → R = none) → (∀ h, r = some h → ∃ E, ES[h.i - 0]? = some E ∧ R = some (h.i, E.val)) → HitOk ι es ES r R := by
      intro R h1 h2
      cases r with
      | none => exact h1 rfl
      | some hh =>
        obtain ⟨E, e1, e2⟩ := h2 hh rfl
        rw [Nat.sub_zero] at e1
        obtain ⟨_, g2⟩ := findE_shift es 0 _ h hh rfl
        rw [Nat.sub_zero] at g2
        obtain ⟨E', a1, a2, a3, a4⟩ := hE.get _ _ g2
        rw [e1] at a1; cases a1
        exact ⟨E.val, E, e2, g2, e1, a2, a3, rfl, a4⟩
    unfold keyS at hky
    have ask : ∀ (e : AV → AV → Option Bool), eqT P eqDepth kt = ⟨e⟩ → ky.e = e → ∀ x X b, ky.e k x = some b → Rep ι x X → ∀ w, (Op.equal kt K X).run P w = .ok b w := by
      intro e he hke x X b hb hx w
      rw [hke] at hb
      rw [he] at hq
      exact hq k x K X b hb hK hx Op.maxDepth (by decide) w
    split at hky
    · rename_i e N ho he ha hN
      simp only [Option.some.injEq] at hky; subst hky
      obtain ⟨l, rfl⟩ : ∃ l, k = .agg l := by cases k <;> first | exact ⟨_, rfl⟩ | (simp [keyFits] at hf; done)
      obtain ⟨vs, v1, v2, v3⟩ := agg_of hK
      have hl : l.length = N := beq_t hf
      refine ⟨fun em w => checkKey_ok em eqDepth kt ho 10000 (by decide) K (fun _ => ⟨vs, v2, by rw [hN, v1.length, hl]⟩) w, ?_⟩
      obtain ⟨R, r1, r2, r3⟩ := findAsk_ok (ask e he rfl) es ES 0 r hE h
      refine ⟨R, fun w => ?_, fin R r2 r3⟩
      have hu : ∃ td, P.underlying kt = some td := by
        unfold isAggT at ha
        cases hun : P.underlying kt with
        | none => rw [hun] at ha; cases ha
        | some td => exact ⟨td, rfl⟩
      obtain ⟨td, hu⟩ := hu
      unfold Instr.findKey
      rw [Sem.run_bind, r_under hu, Result.andThen_ok]
      cases ES with
      | nil =>
        have : R = none := by
          cases r with
          | none => exact r2 rfl
          | some hh => obtain ⟨E, e1, _⟩ := r3 hh rfl; simp at e1
        subst this
        simp [Instr.findNow]
      | cons E rest =>
        have : Instr.findNow td K (E :: rest) 0 = none := by
          have htd : (∃ fs, td = .struct fs) ∨ ∃ n t, td = .array n t := by
            unfold isAggT at ha
            rw [hu] at ha
            cases td <;> simp at ha
            · exact .inr ⟨_, _, rfl⟩
            · exact .inl ⟨_, rfl⟩
          rcases htd with ⟨fs, rfl⟩ | ⟨n, t, rfl⟩ <;> simp [Instr.findNow, Instr.sameNow]
        rw [this]
        exact r1 w
    · rename_i e N ho he ha hN
      simp only [Option.some.injEq] at hky; subst hky
      have hchk : ∀ em w, (Instr.checkKey em 10000 kt K).run P w = .ok () w := fun em w => checkKey_ok em eqDepth kt ho 10000 (by decide) K (fun h' => by rw [ha] at h'; cases h') w
      refine ⟨hchk, ?_⟩
      have now : ∀ td, P.underlying kt = some td → (∀ x X b, e k x = some b → Rep ι x X → Instr.sameNow td K X = some b) → ∃ R, (∀ w, (Instr.findKey kt K ES).run P w = .ok R w) ∧ HitOk ι es ES r R := by
        intro td hu hs
        obtain ⟨R, r1, r2, r3⟩ := findNow_ok hs es ES 0 r hE h
        refine ⟨R, fun w => ?_, fin R r2 r3⟩
        unfold Instr.findKey
        rw [Sem.run_bind, r_under hu, Result.andThen_ok, r1]
        rfl
      have ho' := ho
      unfold eqDepth at ho' he
      rw [show (20 : Nat) = 19 + 1 from rfl, keyOk] at ho'
      rw [show (20 : Nat) = 19 + 1 from rfl, eqT] at he
      split at ho'
      · rename_i ht _
        rw [ht] at he; simp only [E2.mk.injEq] at he; subst he
        refine now _ ht fun x X b hb hx => ?_
        unfold eqInt at hb
        split at hb
        · rename_i kk m k' p
          simp only [Rep] at hK hx; subst hK hx
          cases hk : eqK kk k' with
          | false => rw [hk] at hb; cases hb
          | true =>
            rw [hk] at hb; simp only [cond_true, Option.some.injEq] at hb; subst hb
            have := eqK_t hk; subst this
            simp [Instr.sameNow, eqI_eq]
        · cases hb
      · rename_i ht _
        rw [ht] at he; simp only [E2.mk.injEq] at he; subst he
        refine now _ ht fun x X b hb hx => ?_
        unfold eqStr at hb
        split at hb
        · simp only [Rep] at hK hx
          obtain ⟨s, rfl, h1⟩ := hK
          obtain ⟨u, rfl, h2⟩ := hx
          simp only [Option.some.injEq] at hb; subst hb
          simp [Instr.sameNow, beq_toListBytes, toList_eq', h1.eq h2]
        · cases hb
      · rename_i ht _
        rw [ht] at he; simp only [E2.mk.injEq] at he; subst he
        refine now _ ht fun x X b hb hx => ?_
        unfold eqBool at hb
        split at hb
        · simp only [Rep] at hK hx; subst hK hx
          simp only [Option.some.injEq] at hb; subst hb
          simp [Instr.sameNow]
        · cases hb
      · rename_i ht _
        unfold isAggT at ha; rw [ht] at ha; simp at ha
      · rename_i ht _
        unfold isAggT at ha; rw [ht] at ha; simp at ha
      · cases ho'
    · cases hky

theorem q_lookup {t kt et : TypeId} {x y : Operand} {ok : Bool} (ho : o.op = .lookup t x y ok) (ht : P.underlying t = some (.map kt et)) {ky : Ky} (hky : keyS P kt = some ky) {z : Value} (hz : (P.info? et).bind (·.zero) = some z) (hH : HR ι H w) (h : LR ι d n L a.tmps) :
    QOk P o a.eval ι w nm (lookV ky (ofVal z) ok H ((opnd d n x).f L) ((opnd d n y).f L)) := by
  have hx := opnd_rep h x
  have hy := opnd_rep h y
  have key : ∀ (es : List Ent) (ES : List MapEntry), RepE ι es ES → (∀ f : Array MapEntry → Sem Value, (execOp a.eval o).run P w = ((do
        Instr.checkKey ES.toArray.isEmpty 10000 kt (a.eval y)
        let (v, b) ← match ← Instr.findKey kt (a.eval y) ES with
          | some (_, v) => pure (v, true)
          | none => pure (← zeroValue et, false)
        pure (if ok then .tuple #[v, .bool b] else v) : Sem Value).run P w).andThen fun v w => .ok (.value v) w) →
      QOk P o a.eval ι w nm (lookR ok (ofVal z) (findK ky ((opnd d n y).f L) es)) := by
    intro es ES hE hrun
    have hrun := hrun fun _ => pure .nilFunc
    cases hf : findK ky ((opnd d n y).f L) es with
    | none => trivial
    | some r =>
      obtain ⟨c1, R, c2, c3⟩ := findK_ok hky hy hE hf
      cases r with
      | none =>
        simp only [HitOk] at c3; subst c3
        refine ⟨if ok then .tuple #[z, .bool false] else z, ?_, ?_⟩
        · rw [hrun]; simp [c1, c2, r_zeroV hz]
        · cases ok
          · exact ofVal_rep z
          · simp only [cond_true, if_true, Rep, RepL]
            exact ⟨[z, .bool false], ⟨z, _, rfl, ofVal_rep z, _, _, rfl, rfl, rfl⟩, rfl⟩
      | some hit =>
        obtain ⟨V, E, rfl, a1, a2, a3, a4, a5, a6⟩ := c3
        refine ⟨if ok then .tuple #[V, .bool true] else V, ?_, ?_⟩
        · rw [hrun]; simp [c1, c2]
        · cases ok
          · exact a4
          · simp only [cond_true, if_true, Rep, RepL]
            exact ⟨[V, .bool true], ⟨V, _, rfl, a4, _, _, rfl, rfl, rfl⟩, rfl⟩
  unfold lookV entsOf
  split
  · rename_i es he
    split at he
    · rename_i e1
      simp only [Option.some.injEq] at he; subst he
      rw [e1] at hx; simp only [Rep] at hx
      refine key [] [] (by simp [RepE]) fun _ => ?_
      simp [execOp, ho, Instr.lookup, r_under ht, hx]
      rfl
    · rename_i m e1
      rw [e1] at hx; simp only [Rep] at hx
      obtain ⟨l, h1, h2⟩ := hx
      have hb := hH.blk m (hH.lt h1)
      split at he
      · rename_i es' clock hg
        simp only [Option.some.injEq] at he; subst he
        rw [hg] at hb
        obtain ⟨l', ES, h3, h4, h5⟩ := hb
        rw [h1] at h3; cases h3
        refine key es' ES h5 fun _ => ?_
        simp [execOp, ho, Instr.lookup, r_under ht, h2, getObj, Sem.run, h4]
        rfl
      · cases he
    · cases he
  · trivial

end Go.Ev
end

section
namespace Go.Ev
open Go.RowKit
variable {P : Program} {w : World} {ι : Im} {o : Oper} {a : Act} {nm : Nat} {d n : Nat} {L : TT AV d} {H : Hp}

/-- comparing what is no number and no string -/
theorem q_eq {op : BinOp} {t ty : TypeId} {x y : Operand} (ho : o.op = .binOp op t x y ty) (neg : Bool) (hop : op = if neg then .neq else .eql) {e : AV → AV → Option Bool} (he : eqT P eqDepth t = ⟨e⟩)
    (hk : ∀ td, P.underlying t = some td → match td with | .bool | .pointer _ | .slice _ | .map .. | .func .. | .interface _ => True | .struct _ | .array .. => P.eqGuardType P.depth t = false | _ => False) (hu : ∃ td, P.underlying t = some td) (h : LR ι d n L a.tmps) :
    QOk P o a.eval ι w nm (boolR neg (e ((opnd d n x).f L) ((opnd d n y).f L))) := by
  have hx := opnd_rep h x
  have hy := opnd_rep h y
  unfold boolR
  split
  · rename_i b hb
    have hq := eqT_ok (P := P) (ι := ι) eqDepth t
    rw [he] at hq
    have hr := hq _ _ _ _ _ hb hx hy Op.maxDepth (by decide) w
    refine ⟨.bool (if neg then !b else b), ?_, by simp only [Rep]; cases neg <;> rfl⟩
    obtain ⟨td, hu⟩ := hu
    have hk := hk td hu
    generalize hX : a.eval x = X at *
    generalize hY : a.eval y = Y at *
    have run : (∃ g, (eqGuard op t x y X Y).run P w = .ok g w) ∧ (binOp op t X Y).run P w = .ok (.bool (if neg then !b else b)) w := by
      unfold eqDepth at he
      rw [show (20 : Nat) = 19 + 1 from rfl, eqT, hu] at he
      cases td <;> first | (exact hk.elim) | skip
      case bool =>
        simp only [E2.mk.injEq] at he; subst he
        unfold eqBool at hb
        split at hb
        · rename_i e1 e2; rw [e1] at hx; rw [e2] at hy; simp only [Rep] at hx hy; subst hx hy
          cases neg <;> subst hop <;> simp [eqGuard, binOp, Op.equal, hr]
        · cases hb
      case pointer =>
        simp only [E2.mk.injEq] at he; subst he
        unfold eqPtr at hb
        split at hb <;> first | (cases hb; done) | skip
        all_goals (rename_i e1 e2; rw [e1] at hx; rw [e2] at hy; simp only [Rep] at hx hy)
        · subst hx hy; cases neg <;> subst hop <;> simp [eqGuard, binOp, Op.equal, hr]
        · obtain ⟨l, _, rfl⟩ := hy; subst hx; cases neg <;> subst hop <;> simp [eqGuard, binOp, Op.equal, hr]
        · obtain ⟨l, _, rfl⟩ := hx; subst hy; cases neg <;> subst hop <;> simp [eqGuard, binOp, Op.equal, hr]
      case slice =>
        simp only [E2.mk.injEq] at he; subst he
        unfold eqSl at hb
        split at hb <;> first | (cases hb; done) | skip
        all_goals (rename_i e1 e2; rw [e1] at hx; rw [e2] at hy; simp only [Rep] at hx hy)
        · subst hx hy; cases neg <;> subst hop <;> simp [eqGuard, binOp, Op.equal, hr]
        · obtain ⟨_, l, _, rfl⟩ := hy; subst hx; cases neg <;> subst hop <;> simp [eqGuard, binOp, Op.equal, hr]
        · obtain ⟨_, l, rfl⟩ := hy; subst hx; cases neg <;> subst hop <;> simp [eqGuard, binOp, Op.equal, hr]
        · obtain ⟨_, l, _, rfl⟩ := hx; subst hy; cases neg <;> subst hop <;> simp [eqGuard, binOp, Op.equal, hr]
        · obtain ⟨_, l, rfl⟩ := hx; subst hy; cases neg <;> subst hop <;> simp [eqGuard, binOp, Op.equal, hr]
      case map =>
        simp only [E2.mk.injEq] at he; subst he
        unfold eqMap at hb
        split at hb <;> first | (cases hb; done) | skip
        all_goals (rename_i e1 e2; rw [e1] at hx; rw [e2] at hy; simp only [Rep] at hx hy)
        · subst hx hy; cases neg <;> subst hop <;> simp [eqGuard, binOp, Op.equal, hr]
        · obtain ⟨l, _, rfl⟩ := hy; subst hx; cases neg <;> subst hop <;> simp [eqGuard, binOp, Op.equal, hr]
        · obtain ⟨l, _, rfl⟩ := hx; subst hy; cases neg <;> subst hop <;> simp [eqGuard, binOp, Op.equal, hr]
      case func =>
        simp only [E2.mk.injEq] at he; subst he
        unfold eqFn at hb
        split at hb <;> first | (cases hb; done) | skip
        all_goals (rename_i e1 e2; rw [e1] at hx; rw [e2] at hy; simp only [Rep] at hx hy)
        · subst hx hy; cases neg <;> subst hop <;> simp [eqGuard, binOp, Op.equal, hr]
        · obtain ⟨_, _, _, _, rfl⟩ := hy; subst hx; cases neg <;> subst hop <;> simp [eqGuard, binOp, Op.equal, hr]
        · obtain ⟨_, _, _, _, rfl⟩ := hx; subst hy; cases neg <;> subst hop <;> simp [eqGuard, binOp, Op.equal, hr]
      case interface =>
        simp only [E2.mk.injEq] at he; subst he
        unfold eqIf at hb
        split at hb <;> first | (cases hb; done) | skip
        all_goals (rename_i e1 e2; rw [e1] at hx; rw [e2] at hy; simp only [Rep] at hx hy)
        · obtain ⟨_, _, rfl⟩ := hy; subst hx; cases neg <;> subst hop <;> simp [eqGuard, binOp, Op.equal, hr]
        · obtain ⟨_, _, rfl⟩ := hx; subst hy; cases neg <;> subst hop <;> simp [eqGuard, binOp, Op.equal, hr]
      case array len e =>
        simp only at he
        split at he
        · simp only [E2.mk.injEq] at he; subst he
          unfold eqAgg at hb
          split at hb
          · rename_i e1 e2; rw [e1] at hx; rw [e2] at hy
            obtain ⟨_, _, rfl, _⟩ := agg_of hx
            obtain ⟨_, _, rfl, _⟩ := agg_of hy
            refine ⟨⟨(), run_eqGuard_agg w op t x y _ _ hk⟩, ?_⟩
            cases neg <;> subst hop
            · rw [if_neg (by simp), run_eql_struct, show (10000 : Nat) = Op.maxDepth from rfl, hr]; rfl
            · rw [if_pos rfl, run_neq_struct, show (10000 : Nat) = Op.maxDepth from rfl, hr]; rfl
          · cases hb
        · simp only [E2.mk.injEq] at he; subst he; cases hb
      case struct fs =>
        simp only at he
        split at he
        · simp only [E2.mk.injEq] at he; subst he; cases hb
        · simp only [E2.mk.injEq] at he; subst he
          unfold eqAgg at hb
          split at hb
          · rename_i e1 e2; rw [e1] at hx; rw [e2] at hy
            obtain ⟨_, _, rfl, _⟩ := agg_of hx
            obtain ⟨_, _, rfl, _⟩ := agg_of hy
            refine ⟨⟨(), run_eqGuard_agg w op t x y _ _ hk⟩, ?_⟩
            cases neg <;> subst hop
            · rw [if_neg (by simp), run_eql_struct, show (10000 : Nat) = Op.maxDepth from rfl, hr]; rfl
            · rw [if_pos rfl, run_neq_struct, show (10000 : Nat) = Op.maxDepth from rfl, hr]; rfl
          · cases hb
    obtain ⟨⟨g, r1⟩, r2⟩ := run
    simp [execOp, ho, hX, hY, r1, r2]
  · trivial


theorem packV_nil : packV [] = 0 := rfl
theorem packV_cons (k : IntKind) (b : Nat) (l : List AV) : packV (.int k (.ofNat b) :: l) = Nat.land b 255 + 256 * packV l := rfl
theorem bytes_loop : ∀ (l : List AV) (vs : List Value) (r : Src) (acc : ByteArray), RepL ι l vs → packL l = some r →
    ∃ bs : List UInt8, bs.length = l.length ∧ packBytes bs = packV l ∧ (forIn vs acc fun c (s : ByteArray) => (match c with
      | .int .u8 n => pure (ForInStep.yield (s.push (UInt8.ofNat n.toNat)))
      | _ => do stuck "bytesToString: byte expected"; pure (ForInStep.yield s) : Sem (ForInStep ByteArray))).run P w = .ok ⟨acc.data ++ bs.toArray⟩ w
  | [], vs, r, acc, h, _ => by
    simp only [RepL] at h; subst h
    exact ⟨[], rfl, rfl, by simp⟩
  | x :: l, vs, r, acc, h, hp => by
    simp only [RepL] at h
    obtain ⟨v, rr, rfl, hv, hr⟩ := h
    have hp : pack1 x (packL l) = some r := hp
    unfold pack1 at hp
    split at hp
    · rename_i b s hs _
      simp only [Rep] at hv; subst hv
      obtain ⟨bs, b1, b2, b3⟩ := bytes_loop l rr s (acc.push (UInt8.ofNat b)) hr hs
      refine ⟨UInt8.ofNat b :: bs, by simp [b1], ?_, ?_⟩
      · rw [pack_cons, packV_cons, b2, land255, UInt8.toNat_ofNat']; omega
      · rw [List.forIn_cons]
        simp only [Int.ofNat_eq_natCast, Int.toNat_natCast, pure_bind]
        rw [b3]
        congr 2
        simp [ByteArray.push]
    · cases hp

theorem q_toStr {s t e : TypeId} {x : Operand} (ho : o.op = .convert s t x) (hs : P.underlying s = some (.slice e)) (ht : P.underlying t = some .string) (he : P.underlying e = some (.int .u8)) (hH : HR ι H w) (h : LR ι d n L a.tmps) :
    QOk P o a.eval ι w nm (toStr H ((opnd d n x).f L)) := by
  have hx := opnd_rep h x
  unfold toStr
  split
  · rename_i e1; rw [e1] at hx; simp only [Rep] at hx
    refine ⟨.string .empty, ?_, rep_str ⟨rfl, rfl⟩⟩
    simp [execOp, ho, convert, r_under hs, r_under ht, r_under he, hx, Conv.bytesToString]
  · rename_i e1; rw [e1] at hx; simp only [Rep] at hx
    obtain ⟨ad, c, hx⟩ := hx
    refine ⟨.string .empty, ?_, rep_str ⟨rfl, rfl⟩⟩
    simp [execOp, ho, convert, r_under hs, r_under ht, r_under he, hx, Conv.bytesToString, loadCells, loadCellsFrom]
  · rename_i b i m cap ex e1
    rw [e1] at hx; simp only [Rep] at hx
    obtain ⟨_, l, h1, h2⟩ := hx
    split
    · rename_i cs hcs
      split
      · rename_i r hr
        obtain ⟨c1, c2⟩ := rdBlkN_ok (hH.blk b (hH.lt h1)) hcs
        have fin : ∀ vs : List Value, vs.length = m → RepL ι cs vs → (∀ (j : Nat) (v : Value), vs[j]? = some v → w.cell? ⟨l.blk, l.base + i + j, none⟩ = some v) → QOk P o a.eval ι w nm (.val (.str m (packV cs))) := by
          intro vs v1 v2 v3
          obtain ⟨bs, b1, b2, b3⟩ := bytes_loop (P := P) (w := w) cs vs r .empty v2 hr
          have e0 : (ByteArray.empty.data ++ bs.toArray).toList = bs := by show (#[] ++ bs.toArray).toList = bs; simp
          refine ⟨.string ⟨(ByteArray.empty.data ++ bs.toArray)⟩, ?_, rep_str ⟨by rw [e0, b1, c1], by rw [e0, b2]⟩⟩
          have hl := run_loadCells P w l.blk (l.base + i) vs v3
          rw [v1] at hl
          simp only [execOp, ho, convert, Sem.run_bind, r_under hs, r_under ht, r_under he, h2, Result.andThen_ok, Conv.bytesToString, hl]
          rw [List.forIn_toArray]
          exact Eq.trans (congrArg (fun r : Result ByteArray => (r.andThen fun a w' => Sem.run P (pure (Value.string a)) w').andThen fun a w' => Sem.run P (pure (Next.value a)) w') b3) rfl
        rcases c2 with rfl | ⟨loc, vs, g1, g2, g3, g4, g5⟩
        · have : cs = [] := List.length_eq_zero_iff.1 c1
          subst this
          exact fin [] rfl (by simp [RepL]) (by simp)
        · rw [h1] at g1; cases g1
          exact fin vs g3 g2 g5
      · trivial
    · trivial
  · trivial

theorem bytesL_eq (a : Nat) : ∀ (n i : Nat), Nat.rec (motive := fun _ => Nat → List AV) (fun _ => []) (fun _ ih i => .int .u8 (.ofNat (byteAt a i)) :: ih (Nat.succ i)) n i = (List.range' i n).map fun j => .int .u8 (.ofNat (byteAt a j))
  | 0, i => rfl
  | n + 1, i => by
    rw [List.range'_succ, List.map_cons, ← bytesL_eq a n (i + 1)]
theorem bytesL_rep {m bits : Nat} {s : ByteArray} (h : StrRep m bits s) : RepL ι (bytesL bits m) (s.data.toList.map fun b => Value.int .u8 (b.toNat : Int)) := by
  obtain ⟨rfl, rfl⟩ := h
  unfold bytesL
  rw [bytesL_eq, ← List.range_eq_range']
  refine RepL.of_get (by simp) fun i v hv => ?_
  have hi : i < s.data.toList.length := by
    rcases Nat.lt_or_ge i s.data.toList.length with h | h
    · exact h
    · rw [List.getElem?_eq_none (by simpa using h)] at hv; cases hv
  rw [List.getElem?_map, List.getElem?_range hi] at hv
  simp only [Option.map_some, Option.some.injEq] at hv; subst hv
  refine ⟨_, by rw [List.getElem?_map, List.getElem?_eq_getElem hi]; rfl, ?_⟩
  rw [byteAt_eq _ _ hi]
  simp only [Rep]; rfl

theorem q_toBytes {s t e : TypeId} {x : Operand} (ho : o.op = .convert s t x) (hs : P.underlying s = some .string) (ht : P.underlying t = some (.slice e)) (he : P.underlying e = some (.int .u8)) (h : LR ι d n L a.tmps) :
    QOk P o a.eval ι w nm (toBytes nm ((opnd d n x).f L)) := by
  have hx := opnd_rep h x
  unfold toBytes
  split
  · rename_i m bits e1
    rw [e1] at hx; simp only [Rep] at hx
    obtain ⟨u, hu, h1⟩ := hx
    have hsz : u.size = m := h1.1
    obtain ⟨c, hc⟩ : ∃ c, (Question.appendCap u.size 0 e).cut (w.tape w.drawn (.appendCap u.size 0 e)) = u.size + c := ⟨_, rfl⟩
    let C : Array Value := (u.data.map fun b => Value.int .u8 (b.toNat : Int)) ++ Array.replicate c (.int .u8 0)
    have hC : C.size = m + c := by simp [C, ← hsz]
    let w1 : World := (w.drew).alloc (.cells C e)
    have hsh : w1.shape? w.heap.size = some (e, m + c) := by
      show (match (w.heap.push _)[w.heap.size]? with | some (.cells c elem _) => some (elem, c.size) | _ => none) = _
      simp [hC]
    let w2 : World := w1.freeze ⟨w.heap.size, m + c, none⟩ 1
    have hh : w2.heap[w.heap.size]? = some (.cells C e (m + c, m + c + 1)) := by
      show ((if (1 : Nat) = 0 then w1 else _ : World)).heap[w.heap.size]? = _
      rw [if_neg (by decide)]
      show ((w.heap.push _).modify _ _)[w.heap.size]? = _
      rw [Array.getElem?_modify, if_pos rfl, Array.getElem?_push, if_pos rfl]
      rfl
    refine ⟨.slice (some ⟨w.heap.size, 0, none⟩) m (m + c), w2, ⟨w.heap.size, 0, c, 1⟩, ?_, ⟨rfl, rfl, rfl, ?_, fun k hk => ?_, rfl⟩, fun ι' hle hi => ⟨?_, ?_⟩⟩
    · have hcap : u.size + c - u.size = c := by omega
      simp only [execOp, ho, convert, Sem.run_bind, r_under hs, r_under ht, r_under he, hu, Result.andThen_ok, Conv.stringToBytes, run_choose_drew, Question.forced, Bool.false_eq_true, if_false, hc, hcap, newRow, run_newObj_alloc, Sem.run_pure, markStringish, run_shape]
      rw [show (w.drew.alloc (.cells C e)).shape? w.drew.heap.size = some (e, m + c) from hsh]
      simp only [run_freeze, Result.andThen_ok, hsz]
      rfl
    · show (if (1 : Nat) = 0 then w1 else _ : World).heap.size = _
      rw [if_neg (by decide)]
      show ((w.heap.push _).modify _ _).size = _
      simp
    · show ((if (1 : Nat) = 0 then w1 else _ : World)).heap[k]? = _
      rw [if_neg (by decide)]
      show ((w.heap.push _).modify _ _)[k]? = _
      rw [Array.getElem?_modify, if_neg (show ¬ w.heap.size = k by omega), Array.getElem?_push, if_neg (show ¬ k = w.heap.size by omega)]
    · simp only [Rep]; exact ⟨Nat.le_refl _, _, hi, by simp⟩
    · have cell : ∀ i, w2.cell? ⟨w.heap.size, i, none⟩ = C[i]? := fun i => by simp [World.cell?, hh]
      have froz : ∀ i, i < m + c → w2.frozen? ⟨w.heap.size, i, none⟩ = false := fun i hi => by
        simp [World.frozen?, hh]; omega
      have hl : (bytesL bits m).length = m := by rw [← (bytesL_rep (ι := ι') h1).length]; simp; exact h1.1
      refine mkBlk_ok (loc := ⟨w.heap.size, 0, c, 1⟩) hi (bytesL_rep h1) (fun v hv => ?_) (fun i v hv => ?_) (fun j hj => ?_)
      · simp at hv; obtain ⟨_, _, rfl⟩ := hv; rfl
      · have hi' : i < m := by
          rcases Nat.lt_or_ge i m with h | h
          · exact h
          · rw [List.getElem?_eq_none (by simp; rw [← hsz] at h; exact h)] at hv; cases hv
        simp only [Nat.zero_add]
        refine ⟨?_, froz i (by omega)⟩
        rw [cell, Array.getElem?_append_left (by simp; rw [← hsz] at hi'; exact hi')]
        simpa using hv
      · simp only [Nat.mul_one] at hj
        simp only [Nat.zero_add, hl]
        refine ⟨.int .u8 0, ?_, froz _ (by omega), rfl⟩
        rw [cell, Array.getElem?_append_right (by simp; rw [← hsz]; exact Nat.le_add_right _ _)]
        have e2 : (u.data.map fun b => Value.int .u8 (b.toNat : Int)).size = m := by simp; exact hsz
        rw [e2, show m + j - m = j by omega]
        simp [hj]
  · trivial

end Go.Ev
end

section
namespace Go.Ev
open Go.RowKit
variable {P : Program} {w : World} {ι : Im} {o : Oper} {a : Act} {nm : Nat} {d n : Nat} {L : TT AV d} {H : Hp}

theorem binS_ok {op : BinOp} {t ty : TypeId} {x y : Operand} (ho : o.op = .binOp op t x y ty) (h : LR ι d n L a.tmps) :
    QOk P o a.eval ι w nm ((binS P op t).f ((opnd d n x).f L) ((opnd d n y).f L)) := by
  have eqs : ∀ td, P.underlying t = some td → (match td with | .bool | .pointer _ | .slice _ | .map .. | .func .. | .interface _ => True | .struct _ | .array .. => P.eqGuardType P.depth t = false | _ => False) →
      QOk P o a.eval ι w nm ((match op, eqT P eqDepth t with
        | .eql, ⟨e⟩ => (⟨fun x y => boolR false (e x y)⟩ : V2)
        | .neq, ⟨e⟩ => ⟨fun x y => boolR true (e x y)⟩
        | _, _ => ⟨fun _ _ => .bad⟩).f ((opnd d n x).f L) ((opnd d n y).f L)) := by
    intro td hu hk
    have hk' : ∀ td', P.underlying t = some td' → match td' with | .bool | .pointer _ | .slice _ | .map .. | .func .. | .interface _ => True | .struct _ | .array .. => P.eqGuardType P.depth t = false | _ => False := fun td' h' => by
      rw [hu] at h'; cases h'; exact hk
    split
    · rename_i e he; exact q_eq ho false rfl he hk' ⟨td, hu⟩ h
    · rename_i e he; exact q_eq ho true rfl he hk' ⟨td, hu⟩ h
    · trivial
  unfold binS
  split
  · split
    · exact q_shift ho (.inl rfl) h
    · exact q_shift ho (.inr rfl) h
    · rename_i h1 h2; exact q_int ho ⟨fun e => h1 e, fun e => h2 e⟩ h
  · exact q_strBin ho h
  · rename_i hu; exact eqs _ hu trivial
  · rename_i hu; exact eqs _ hu trivial
  · rename_i hu; exact eqs _ hu trivial
  · rename_i hu; exact eqs _ hu trivial
  · rename_i hu; exact eqs _ hu trivial
  · rename_i hu; exact eqs _ hu trivial
  · rename_i hu
    split
    · trivial
    · rename_i hg; exact eqs _ hu (by simpa using hg)
  · rename_i hu
    split
    · trivial
    · rename_i hg; exact eqs _ hu (by simpa using hg)
  · trivial

def BadOp {d : Nat} (s : OpS d) : Prop := ∀ lk f, s ≠ .q lk f
theorem bad_ne {lk : Bool} {f : Nat → TT AV d → Hp → R0} (h : badOp d = .q lk f) : False := by cases h

theorem lenB_q {args : List Operand} {ts : List TypeId} (ho : o.op = .call { callee := .builtin .len, args := args.toArray, argTypes := ts.toArray }) {lk : Bool} {f : Nat → TT AV d → Hp → R0} (hf : lenB P d n args ts = .q lk f) (hH : HR ι H w) (h : LR ι d n L a.tmps) :
    QOk P o a.eval ι w nm (f nm L H) := by
  unfold lenB at hf
  split at hf
  · rename_i x t
    split at hf
    · rename_i hu; cases hf; exact q_lenConst ho (.inl ⟨_, hu⟩)
    · rename_i hu
      split at hf
      · rename_i ha; cases hf; exact q_lenConst ho (.inr ⟨_, _, hu, ha⟩)
      · cases hf
    · rename_i hu; cases hf; exact q_lenStr ho hu h
    · rename_i hu; cases hf; exact q_lenSl ho hu h
    · rename_i hu; cases hf; exact q_lenM ho hu hH h
    · cases hf
  · cases hf
theorem capB_q {args : List Operand} {ts : List TypeId} (ho : o.op = .call { callee := .builtin .cap, args := args.toArray, argTypes := ts.toArray }) {lk : Bool} {f : Nat → TT AV d → Hp → R0} (hf : capB P d n args ts = .q lk f) (h : LR ι d n L a.tmps) :
    QOk P o a.eval ι w nm (f nm L H) := by
  unfold capB at hf
  split at hf
  · rename_i x t
    split at hf
    · rename_i hu; cases hf; exact q_capConst ho ⟨_, hu⟩
    · rename_i hu; cases hf; exact q_capSl ho hu h
    · cases hf
  · cases hf
theorem minB_q {args : List Operand} {ts : Array TypeId} (ho : o.op = .call { callee := .builtin .min, args := args.toArray, argTypes := ts }) {lk : Bool} {f : Nat → TT AV d → Hp → R0} (hf : minB d n args = .q lk f) (h : LR ι d n L a.tmps) :
    QOk P o a.eval ι w nm (f nm L H) := by
  unfold minB at hf
  split at hf
  · cases hf; exact q_min ho h
  · cases hf
theorem maxB_q {args : List Operand} {ts : Array TypeId} (ho : o.op = .call { callee := .builtin .max, args := args.toArray, argTypes := ts }) {lk : Bool} {f : Nat → TT AV d → Hp → R0} (hf : maxB d n args = .q lk f) (h : LR ι d n L a.tmps) :
    QOk P o a.eval ι w nm (f nm L H) := by
  unfold maxB at hf
  split at hf
  · cases hf; exact q_max ho h
  · cases hf
theorem appB_q {args : List Operand} {ts : List TypeId} {lk : Bool} {f : Nat → TT AV d → Hp → R0} (hf : appB P d n args ts = .q lk f) : False := by
  unfold appB at hf
  split at hf
  · split at hf
    · split at hf <;> cases hf
    · cases hf
  · cases hf
theorem copyB_q {args : List Operand} {ts : List TypeId} {lk : Bool} {f : Nat → TT AV d → Hp → R0} (hf : copyB P d n args ts = .q lk f) : False := by
  unfold copyB at hf
  split at hf
  · split at hf
    · split at hf <;> cases hf
    · cases hf
  · cases hf
theorem delB_q {args : List Operand} {ts : List TypeId} {lk : Bool} {f : Nat → TT AV d → Hp → R0} (hf : delB P d n args ts = .q lk f) : False := by
  unfold delB at hf
  split at hf
  · split at hf
    · split at hf <;> cases hf
    · cases hf
  · cases hf
theorem clrB_q {args : List Operand} {ts : List TypeId} {lk : Bool} {f : Nat → TT AV d → Hp → R0} (hf : clrB P d n args ts = .q lk f) : False := by
  unfold clrB at hf
  split at hf
  · split at hf
    · split at hf <;> cases hf
    · cases hf
    · cases hf
  · cases hf
theorem builtinS_q {b : Builtin} {args : Array Operand} {ts : Array TypeId} (ho : o.op = .call { callee := .builtin b, args, argTypes := ts }) {lk : Bool} {f : Nat → TT AV d → Hp → R0} (hf : builtinS P d n b args.toList ts.toList = .q lk f) (hH : HR ι H w) (h : LR ι d n L a.tmps) :
    QOk P o a.eval ι w nm (f nm L H) := by
  unfold builtinS at hf
  split at hf
  · exact lenB_q (by simpa using ho) hf hH h
  · exact capB_q (by simpa using ho) hf h
  · exact minB_q (ts := ts) (by simpa using ho) hf h
  · exact maxB_q (ts := ts) (by simpa using ho) hf h
  · exact (appB_q hf).elim
  · exact (copyB_q hf).elim
  · exact (delB_q hf).elim
  · exact (clrB_q hf).elim
  · cases hf

theorem cmpBytes_eq : ∀ x y : List UInt8, Lib.compareBytes x y = bif Op.bytesLess x y then -1 else bif decide (x = y) then 0 else 1
  | [], [] => by simp [Lib.compareBytes, Op.bytesLess]
  | [], _ :: _ => by simp [Lib.compareBytes, Op.bytesLess]
  | _ :: _, [] => by simp [Lib.compareBytes, Op.bytesLess]
  | a :: x, b :: y => by
    have ih := cmpBytes_eq x y
    simp only [Lib.compareBytes, Op.bytesLess]
    by_cases h1 : a < b
    · simp [h1]
    · by_cases h2 : b < a
      · have hne : a ≠ b := fun e => by subst e; exact absurd h2 h1
        have hb : (a == b) = false := by simpa using hne
        simp [h1, h2, hne, hb]
      · have he : a = b := UInt8.le_antisymm (UInt8.not_lt.1 h2) (UInt8.not_lt.1 h1)
        subst he
        simp [h1, ih]
theorem isCmp_run {f : FuncId} (h : isCmp P f = true) (s t : ByteArray) (w : World) : (callFunc f #[.string s, .string t]).run P w = .ok (.value (.int .i64 (Lib.compareBytes s.data.toList t.data.toList))) w := by
  unfold isCmp at h
  split at h
  · rename_i fn hfn
    simp only [Bool.and_eq_true, beq_iff_eq, Option.isNone_iff_eq_none] at h
    obtain ⟨⟨h1, h2⟩, h3⟩ := h
    have hnx : Extern.findNext fn = none := by
      unfold Extern.findNext
      rw [h2, h3]
      have e1 : Extern.allNextRows.lookup cmpName = none := by decide +kernel
      have e2 : Extern.allNextRows.lookup "" = none := by decide +kernel
      simp only [e1, e2]; rfl
    have hfd : Extern.find fn = some Extern.BytealgCompare.compare := by
      unfold Extern.find
      rw [h2]
      have e1 : (Extern.allGenericRows.lookup cmpName) = none := by decide +kernel
      have e2 : (Extern.allTypedRows.lookup cmpName) = none := by decide +kernel
      have e3 : Extern.allRows.lookup cmpName = some Extern.BytealgCompare.compare := by kernel_rfl
      simp only [e1, e2, e3]; rfl
    have hname : ¬ fn.name = "runtime.NumGoroutine" := by rw [h2]; decide +kernel
    have hr := Lib.run_compareString (P := P) s t w
    simp [callFunc, hfn, hname, h1, hnx, hfd, hr, mark, Sem.run]
  · cases h
theorem q_cmp {f : FuncId} {args : Array Operand} {ts : Array TypeId} (ho : o.op = .call { callee := .value (.func f), args, argTypes := ts }) (hc : isCmp P f = true) (h : LR ι d n L a.tmps) : QOk P o a.eval ι w nm (cmpV ((opnds d n args.toList).f L)) := by
  have ha := opnds_rep h args.toList
  unfold cmpV
  split
  · rename_i n1 a1 m1 b1 e
    rw [e] at ha
    simp only [RepL, Rep] at ha
    obtain ⟨v1, r1, e1, ⟨s, rfl, hs⟩, v2, r2, rfl, ⟨t, rfl, ht⟩, rfl⟩ := ha
    refine ⟨.int .i64 (Lib.compareBytes s.data.toList t.data.toList), ?_, ?_⟩
    · have hargs : args.map a.eval = #[.string s, .string t] := by
        have : args.map a.eval = (args.toList.map a.eval).toArray := by rw [← Array.toList_map]
        rw [this, e1]
      have hr := isCmp_run hc s t w
      have hev : a.eval (.func f) = .func (.func f) #[] #[] := rfl
      simp only [execOp, ho, resolve, hev, Deferred.ofValue, hargs]
      simpa [invoke] using hr
    · have hl := StrRep.less hs ht
      have he : eqS n1 a1 m1 b1 = decide (s.data.toList = t.data.toList) := by
        rw [StrRep.eq hs ht, Bool.eq_iff_iff]; simp
      simp only [Rep]
      rw [hl, he, cmpBytes_eq]
      cases Op.bytesLess s.data.toList t.data.toList <;> cases decide (s.data.toList = t.data.toList) <;> rfl
  · trivial

theorem q_entry {x : Operand} (ho : o.op = .entry x) (hH : HR ι H w) (h : LR ι d n L a.tmps) : QOk P o a.eval ι w nm (entR H ((opnd d n x).f L)) := by
  have hx := opnd_rep h x
  unfold entR
  split
  · rename_i b off e1
    rw [e1] at hx; simp only [Rep] at hx
    obtain ⟨loc, h1, h2⟩ := hx
    have hb := hH.blk b (hH.lt h1)
    cases ho0 : Nat.beq off 0 with
    | false => trivial
    | true =>
      obtain rfl := Nat.eq_of_beq_eq_true ho0
      simp only [cond_true]
      split
      · rename_i m since pos hg
        rw [hg] at hb
        obtain ⟨l', r, g1, g0, g2, g3⟩ := hb
        rw [h1] at g1; cases g1
        rw [g0, Nat.add_zero] at h2
        split
        · rename_i m p
          obtain ⟨lm, k1, rfl⟩ := g3
          have hm := hH.blk m (hH.lt k1)
          split
          · rename_i es clock hgm
            rw [hgm] at hm
            obtain ⟨l2, ES, j1, j2, j3⟩ := hm
            rw [k1] at j1; cases j1
            cases hcs : Nat.beq clock since with
            | false => trivial
            | true =>
              obtain rfl := Nat.eq_of_beq_eq_true hcs
              simp only [cond_true]
              split
              · rename_i e
                simp only [RepE] at j3
                obtain ⟨E, _, rfl, q1, q2, q3, rfl⟩ := j3
                cases hp : Nat.beq e.born p with
                | false => trivial
                | true =>
                  have hp := Nat.eq_of_beq_eq_true hp
                  have hp : p = E.born := by omega
                  subst hp
                  simp only [cond_true]
                  refine ⟨.tuple #[E.key, E.val], ?_, ?_⟩
                  · simp [execOp, ho, h2, Instr.entry, getObj, Sem.run, g2, j2]
                  · simp only [Rep, RepL]; exact ⟨_, ⟨_, _, rfl, q1, _, _, rfl, q2, rfl⟩, rfl⟩
              · trivial
          · trivial
        · trivial
      · trivial
  · trivial
theorem opS_q {lk : Bool} {f : Nat → TT AV d → Hp → R0} (hf : opS P d n o = .q lk f) (hH : HR ι H w) (h : LR ι d n L a.tmps) : QOk P o a.eval ι w nm (f nm L H) := by
  unfold opS at hf
  split at hf
  · rename_i x ho; cases hf; exact q_move (.inl ho) h
  · rename_i x ho; cases hf; exact q_move (.inr ho) h
  · rename_i ho; cases hf; exact q_pick ho h
  · rename_i ho
    unfold sAlloc at hf
    split at hf
    · rename_i hz; cases hf; exact q_alloc ho hz
    · cases hf
  · rename_i ho
    unfold sBox at hf
    split at hf
    · rename_i k g e1 e2 e3; cases hf
      have := q_boxA (P := P) (w := w) (nm := nm) ho k h
      rw [e3] at this; exact this
    · rename_i e1 e2 e3; cases hf
      have := q_box1 (P := P) (w := w) (nm := nm) ho h
      rw [e3] at this; exact this
    · cases hf
  · rename_i ho
    unfold sBuild at hf
    split at hf
    · rename_i e1 e2
      split at hf
      · rename_i e3
        split at hf
        · rename_i e4; cases hf; exact q_buildS ho e1 e2 e3 e4 h
        · cases hf
      · cases hf
    · rename_i e1 e2
      split at hf
      · rename_i e3
        split at hf
        · rename_i e4; cases hf; exact q_buildA ho e1 e2 e3 e4 h
        · cases hf
      · cases hf
    · cases hf
  · rename_i ho
    unfold sBuildSlice at hf
    split at hf
    · rename_i e1
      split at hf
      · rename_i s z e2 e3
        cases hc : (Nat.ble (_ * s) 65536 && Nat.beq z.length s) with
        | false => rw [hc] at hf; cases hf
        | true =>
          rw [hc] at hf; simp only [cond_true] at hf
          simp only [Bool.and_eq_true] at hc
          split at hf
          · rename_i e4; cases hf; exact q_buildSlice ho e1 e3 e2 (beq_t hc.2) (ble_t hc.1) e4 h
          · cases hf
      · cases hf
    · cases hf
  · rename_i ho
    unfold sLoad at hf
    split at hf
    · rename_i e1 e2 e3; cases hf
      have := q_loadA (P := P) (nm := nm) ho e1 e2 hH h
      rw [e3] at this; exact this
    · rename_i e1 e2 e3; cases hf
      have := q_load1 (P := P) (nm := nm) ho e1 hH h
      rw [e3] at this; exact this
    · cases hf
  · unfold sStore at hf; split at hf <;> cases hf
  · rename_i ho; cases hf; exact q_nilCheck ho h
  · rename_i ho; cases hf; exact binS_ok ho h
  · rename_i ho; cases hf; exact q_un ho h
  · rename_i ho
    unfold sConvert at hf
    split at hf
    · rename_i e1 e2 e3; cases hf
      have := q_convI (P := P) (w := w) (nm := nm) ho e1 e2 h
      rw [e3] at this; exact this
    · rename_i e1 e2 e3; cases hf
      have := q_convS (P := P) (w := w) (nm := nm) ho e1 e2 h
      rw [e3] at this; exact this
    · rename_i e1 e2 e3
      split at hf
      · rename_i e4; cases hf
        have := q_toBytes (P := P) (w := w) (nm := nm) ho e1 e2 e4 h
        rw [e3] at this; exact this
      · cases hf
    · rename_i e1 e2 e3
      split at hf
      · rename_i e4
        split at hf
        · cases hf
          have := q_toStr (P := P) (nm := nm) ho e1 e2 e4 hH h
          rw [e3] at this; exact this
        · cases hf
      · cases hf
    · cases hf
  · rename_i ho
    unfold sMakeInterface at hf
    split at hf
    · cases hf
    · rename_i hn e1 e2; cases hf
      have := q_makeInterface (P := P) (w := w) (nm := nm) ho e1 (fun ms e => hn ms (by rw [e])) h
      rw [e2] at this; exact this
    · cases hf
  · rename_i ho; cases hf; exact q_makeFunc ho h
  · rename_i ho; cases hf; exact q_makeMap ho
  · rename_i ho
    unfold sMakeSlice at hf
    split at hf
    · rename_i e1 e2 e3
      split at hf
      · rename_i z w' s e4 e5 e6
        cases hc : Nat.beq z.length s with
        | false => rw [hc] at hf; cases hf
        | true =>
          rw [hc] at hf; cases hf
          have := q_makeSl (P := P) (w := w) (nm := nm) ho e1 e4 e5 e6 (beq_t hc) h
          rw [e2, e3] at this; exact this
      · cases hf
    · cases hf
  · rename_i ho
    unfold sSlice at hf
    split at hf
    · rename_i e1 e2 e3 e4
      split at hf
      · cases hf
        have := q_sliceStr (P := P) (w := w) (nm := nm) ho e1 h
        rw [e2, e3, e4] at this; exact this
      · cases hf
    · rename_i e1 e2 e3 e4 e5
      split at hf
      · rename_i e6; cases hf
        have := q_sliceSl (P := P) (w := w) (nm := nm) ho e1 e6 h
        rw [e2, e3, e4, e5] at this; exact this
      · cases hf
    · rename_i e1 e2 e3 e4 e5
      split at hf
      · rename_i e6; cases hf
        have := q_sliceArr (P := P) (w := w) (nm := nm) ho (.inl e1) e6 h
        rw [e2, e3, e4, e5] at this; exact this
      · cases hf
    · rename_i e1 e2 e3 e4 e5
      split at hf
      · rename_i e7
        split at hf
        · rename_i e6; cases hf
          have := q_sliceArr (P := P) (w := w) (nm := nm) ho (.inr ⟨_, e1, e7⟩) e6 h
          rw [e2, e3, e4, e5] at this; exact this
        · cases hf
      · cases hf
    · cases hf
  · rename_i ho
    unfold sFieldAddr at hf
    split at hf
    · rename_i e1 e2
      split at hf
      · rename_i e3
        split at hf
        · rename_i e4; cases hf
          have := q_fieldAddr (P := P) (w := w) (nm := nm) ho e1 e3 e4 h
          rw [e2] at this; exact this
        · cases hf
      · cases hf
    · cases hf
  · rename_i ho
    unfold sField at hf
    split at hf
    · rename_i e1 e2
      split at hf
      · rename_i e3; cases hf
        have := q_field (P := P) (w := w) (nm := nm) ho e1 e3 h
        rw [e2] at this; exact this
      · cases hf
    · cases hf
  · rename_i ho
    unfold sIndexAddr at hf
    split at hf
    · rename_i e1 e2 e3
      split at hf
      · rename_i e4; cases hf
        have := q_idxS (P := P) (w := w) (nm := nm) ho e1 e4 h
        rw [e2, e3] at this; exact this
      · cases hf
    · rename_i e1 e2 e3
      split at hf
      · rename_i e4; cases hf
        have := q_idxA (P := P) (w := w) (nm := nm) ho e1 e4 h
        rw [e2, e3] at this; exact this
      · cases hf
    · cases hf
  · rename_i ho
    unfold sIndex at hf
    split at hf
    · rename_i e1 e2 e3; cases hf
      have := q_idxStr (P := P) (w := w) (nm := nm) ho e1 h
      rw [e2, e3] at this; exact this
    · rename_i e1 e2 e3
      split at hf
      · rename_i e4; cases hf
        have := q_idxV (P := P) (w := w) (nm := nm) ho e1 e4 h
        rw [e2, e3] at this; exact this
      · cases hf
    · cases hf
  · rename_i ho
    unfold sLookup at hf
    split at hf
    · rename_i e1 e2 e3
      split at hf
      · rename_i e4 e5; cases hf
        have := q_lookup (P := P) (nm := nm) ho e1 e4 e5 hH h
        rw [e2, e3] at this; exact this
      · cases hf
    · cases hf
  · unfold sMapUpdate at hf; split at hf <;> first | (cases hf; done) | (split at hf <;> cases hf)
  · unfold sMapUpdate at hf; split at hf <;> first | (cases hf; done) | (split at hf <;> cases hf)
  · unfold sMapEntry at hf; split at hf <;> first | (cases hf; done) | (split at hf <;> cases hf)
  · cases hf
  · rename_i ho; cases hf; exact q_extract ho h
  · unfold sRange at hf; split at hf <;> cases hf
  · unfold sNext at hf; split at hf <;> cases hf
  · rename_i ho; cases hf; exact q_entry ho hH h
  · rename_i ho; exact builtinS_q ho hf hH h
  · rename_i ho
    unfold sCallF at hf
    split at hf
    · rename_i g e1 e2; cases hf
      have := q_cmp (P := P) (w := w) (nm := nm) ho e2 h
      rw [e1] at this; exact this
    · cases hf
  · cases hf
  · cases hf

end Go.Ev
end

section
namespace Go.Ev
open Go.RowKit
variable {P : Program} {w : World} {ι : Im} {o : Oper} {a : Act} {d n : Nat} {L : TT AV d} {H : Hp}

/-- what an effect that calls nothing comes to -/
def VOk (P : Program) (o : Oper) (ρ : Operand → Value) (ι : Im) (H : Hp) (w : World) : R1 → Prop
  | .bad => True
  | .ok v H' => ∃ N V w' ι', (execOp ρ o).run P w = .ok N w' ∧ (N = .value V ∨ (N = .skip ∧ V = Go.undef)) ∧ Rep ι' v V ∧ HR ι' H' w' ∧ Fr ι ι' H H' w w'

theorem storeAt_ok (P : Program) {b i : Nat} {l : List AV} {vs : List Value} {loc : Loc} (hH : HR ι H w) (hb : ι b = some loc) (hr : RepL ι l vs) (h1 : ∀ v ∈ vs, v.oneCell = true) {v u : AV} {H' : Hp} (h : storeAt H b i l v = .ok u H') :
    u = v ∧ ∃ w', (storeCells ⟨loc.blk, loc.base + i, none⟩ vs).run P w = .ok () w' ∧ HR ι H' w' ∧ Fr ι ι H H' w w' := by
  have hlt := hH.lt hb
  have hB := hH.blk b hlt
  unfold storeAt at h
  split at h
  · rename_i blk hblk
    simp only [R1.ok.injEq] at h
    obtain ⟨rfl, rfl⟩ := h
    refine ⟨rfl, ?_⟩
    unfold wrBlk at hblk
    split at hblk
    · rename_i dd nn c zz hg
      cases hle : Nat.ble (i + l.length) nn with
      | false => rw [hle] at hblk; cases hblk
      | true =>
        rw [hle] at hblk; simp only [cond_true, Option.some.injEq] at hblk; subst hblk
        have hle := ble_t hle
        rw [hg] at hB
        obtain ⟨l', b1, b2, b3, b4⟩ := hB
        rw [hb] at b1; cases b1
        have hlen := hr.length
        obtain ⟨w', r1, r2⟩ := run_storeCells P loc.blk vs w (loc.base + i) 0 (fun j hj => by
          obtain ⟨V, c1, c2, c3, c4⟩ := b3 (i + j) (by omega)
          refine ⟨V, ?_, ?_⟩
          · rw [show loc.base + i + 0 + j = loc.base + (i + j) by omega]; exact c1
          · rw [show loc.base + i + 0 + j = loc.base + (i + j) by omega]; exact c4 rfl) h1
        rw [Nat.add_zero] at r2
        refine ⟨w', r1, hH.put hlt (by rw [hg]; rfl) hb _ r2.os r2.tape r2.output r2.size r2.keep ?_⟩
        refine ⟨loc, hb, b2, fun j hj => ?_, fun _ j hj => ?_⟩
        · rw [wrL_get _ _ _ _ (by omega) (by omega), r2.cell, r2.frozen]
          obtain ⟨V, c1, c2, c3, c4⟩ := b3 j hj
          by_cases hin : i ≤ j ∧ j < i + l.length
          · rw [if_pos hin, if_pos (by omega)]
            have hg' : l[j - i]? = some (l.getD (j - i) .undef) := by
              have : j - i < l.length := by omega
              simp [this]
            obtain ⟨V', d1, d2⟩ := hr.get _ _ hg'
            refine ⟨V', ?_, d2, h1 V' (List.mem_of_getElem? d1), c4⟩
            rw [show loc.base + j - (loc.base + i) = j - i by omega, List.getD_eq_getElem?_getD, d1]; rfl
          · rw [if_neg hin, if_neg (by omega)]
            exact ⟨V, c1, c2, c3, c4⟩
        · rw [r2.cell, r2.frozen, if_neg (by omega)]
          exact b4 rfl j hj
    · cases hblk
  · cases h

theorem e_store1 {t : TypeId} {x y : Operand} (ho : o.op = .store t x y) (hz : sizeT P t = some 1) (hH : HR ι H w) (h : LR ι d n L a.tmps) :
    VOk P o a.eval ι H w (store1 H ((opnd d n x).f L) ((opnd d n y).f L)) := by
  have hx := opnd_rep h x
  have hy := opnd_rep h y
  unfold store1
  split <;> first | trivial | skip
  rename_i b i e1 hn1 hn2 hn3 hn4
  rw [e1] at hx; simp only [Rep] at hx
  obtain ⟨loc, h1, h2⟩ := hx
  have hp : ((opnd d n y).f L).plain = true := by
    unfold AV.plain; split
    · rename_i e; exact absurd e (hn1 _)
    · rename_i e; exact absurd e (hn2 _)
    · rename_i e; exact absurd e hn3
    · rename_i e; exact absurd e (hn4 _)
    · rfl
  obtain ⟨o1, o2⟩ := hy.one hp
  cases hs : storeAt H b i [(opnd d n y).f L] .undef with
  | bad => trivial
  | ok u H' =>
    obtain ⟨rfl, w', r1, r2, r3⟩ := storeAt_ok P hH h1 (RepL.singleton hy) (by simpa using o1) hs
    refine ⟨.skip, Go.undef, w', ι, ?_, .inr ⟨rfl, rfl⟩, by simp [Rep, Go.undef], r2, r3⟩
    simp [execOp, ho, Instr.storeAt, h2, Instr.sureAddr, storeVar, o2, r_size hz, r1]

theorem e_storeA {t : TypeId} {x y : Operand} (ho : o.op = .store t x y) {k : Nat} (hz : sizeT P t = some k) (hH : HR ι H w) (h : LR ι d n L a.tmps) :
    VOk P o a.eval ι H w (storeA k H ((opnd d n x).f L) ((opnd d n y).f L)) := by
  have hx := opnd_rep h x
  have hy := opnd_rep h y
  unfold storeA
  split
  · rename_i b i l e1 e2
    rw [e1] at hx; simp only [Rep] at hx
    obtain ⟨loc, h1, h2⟩ := hx
    rw [e2] at hy
    obtain ⟨vs, v1, v2, v3⟩ := agg_of hy
    cases hk : Nat.beq l.length k with
    | false => trivial
    | true =>
      have hk := beq_t hk
      simp only [cond_true]
      cases hs : storeAt H b i l .undef with
      | bad => trivial
      | ok u H' =>
        obtain ⟨rfl, w', r1, r2, r3⟩ := storeAt_ok P hH h1 v1 v3 hs
        refine ⟨.skip, Go.undef, w', ι, ?_, .inr ⟨rfl, rfl⟩, by simp [Rep, Go.undef], r2, r3⟩
        have hl : vs.length = k := by rw [v1.length, hk]
        simp [execOp, ho, Instr.storeAt, h2, Instr.sureAddr, storeVar, v2, Value.cells, r_size hz, hl, r1]
  · trivial

end Go.Ev
end

section
namespace Go.Ev
open Go.RowKit
variable {P : Program} {w : World} {ι : Im} {o : Oper} {a : Act} {d n : Nat} {L : TT AV d} {H : Hp}

theorem growBy_le (need : Nat) : ∀ (r c X : Nat), c ≤ X → need + (need + 768) / 4 ≤ X → Builtin.growBy need r c ≤ X
  | 0, c, X, h, _ => h
  | r + 1, c, X, h, k => by
    unfold Builtin.growBy
    split
    · exact h
    · exact growBy_le need r _ X (by omega) k
theorem nextcap_le {need old : Nat} (h : old < need) : Builtin.nextslicecap need old ≤ 3 * need := by
  unfold Builtin.nextslicecap
  split
  · omega
  · split
    · omega
    · exact growBy_le need 4 old _ (by omega) (by omega)

theorem srcOf_ok {z : Nat} {x : AV} {X : Value} (hx : Rep ι x X) (hH : HR ι H w) {s : Src} (h : srcOf z H x = some s) (hz1 : (∃ m b, x = .str m b) → z = 1) :
    ∃ vs : List Value, RepL ι s.l vs ∧ (∀ v ∈ vs, v.oneCell = true) ∧ vs.length = s.n * z ∧ (Builtin.lenOf X).run P w = .ok s.n w ∧
      ∀ k, k ≤ s.n → (Builtin.firstCells z k X).run P w = .ok (vs.take (k * z)).toArray w := by
  unfold srcOf at h
  split at h
  · simp only [Option.some.injEq] at h; subst h
    simp only [Rep] at hx; subst hx
    exact ⟨[], by simp [RepL], by simp, by simp, by simp [Builtin.lenOf], fun k _ => by simp [Builtin.firstCells]⟩
  · simp only [Option.some.injEq] at h; subst h
    simp only [Rep] at hx; obtain ⟨ad, c, rfl⟩ := hx
    refine ⟨[], by simp [RepL], by simp, by simp, by simp [Builtin.lenOf], fun k hk => ?_⟩
    have : k = 0 := by simpa using hk
    subst this
    simp [Builtin.firstCells, loadCells, loadCellsFrom]
  · rename_i b i m cap ex
    simp only [Rep] at hx
    obtain ⟨_, loc, h1, rfl⟩ := hx
    split at h
    · rename_i cs hcs
      simp only [Option.some.injEq] at h; subst h
      obtain ⟨c1, c2⟩ := rdBlkN_ok (hH.blk b (hH.lt h1)) hcs
      have fin : ∀ vs : List Value, vs.length = m * z → RepL ι cs vs → (∀ v ∈ vs, v.oneCell = true) → (∀ (j : Nat) (v : Value), vs[j]? = some v → w.cell? ⟨loc.blk, loc.base + i + j, none⟩ = some v) →
          ∃ vs : List Value, RepL ι cs vs ∧ (∀ v ∈ vs, v.oneCell = true) ∧ vs.length = m * z ∧ (Builtin.lenOf (.slice (some ⟨loc.blk, loc.base + i, none⟩) m (if ex then cap else cap + loc.ext))).run P w = .ok m w ∧
            ∀ k, k ≤ m → (Builtin.firstCells z k (.slice (some ⟨loc.blk, loc.base + i, none⟩) m (if ex then cap else cap + loc.ext))).run P w = .ok (vs.take (k * z)).toArray w := by
        intro vs v1 v2 v3 v4
        refine ⟨vs, v2, v3, v1, by simp [Builtin.lenOf], fun k hk => ?_⟩
        have hkz : k * z ≤ m * z := Nat.mul_le_mul_right z hk
        have hlen : (vs.take (k * z)).length = k * z := by rw [List.length_take]; omega
        have := run_loadCells P w loc.blk (loc.base + i) (vs.take (k * z)) (fun j v hv => v4 j v (by
          rw [List.getElem?_take] at hv; split at hv
          · exact hv
          · cases hv))
        rw [hlen] at this
        simp only [Builtin.firstCells]; exact this
      rcases c2 with c2 | ⟨loc', vs, g1, g2, g3, g4, g5⟩
      · have c2 : m * z = 0 := c2
        have : cs = [] := List.length_eq_zero_iff.1 (by rw [c1]; exact c2)
        subst this
        exact fin [] (by simp [c2]) (by simp [RepL]) (by simp) (by simp)
      · rw [h1] at g1; cases g1
        exact fin vs g3 g2 g4 g5
    · cases h
  · rename_i m bits
    simp only [Option.some.injEq] at h; subst h
    have hz : z = 1 := hz1 ⟨_, _, rfl⟩
    subst hz
    simp only [Rep] at hx
    obtain ⟨s, rfl, hs⟩ := hx
    have hsz : s.size = m := hs.1
    refine ⟨_, bytesL_rep hs, fun v hv => ?_, ?_, by simp [Builtin.lenOf, hsz], fun k hk => ?_⟩
    · simp at hv; obtain ⟨_, _, rfl⟩ := hv; rfl
    · simp; exact hsz
    · simp only [Builtin.firstCells, Sem.run_pure]
      congr 1
      apply Array.ext'
      simp
  · cases h

/-- the row that a growing append makes -/
theorem grow_ok {e : TypeId} {ap : Ap} (hap : apS P e = some ap) (hH : HR ι H w) {old : List AV} {ovs : List Value} (ho : RepL ι old ovs) (ho1 : ∀ v ∈ ovs, v.oneCell = true) {x : Src} {xvs : List Value} (hx : RepL ι x.l xvs) (hx1 : ∀ v ∈ xvs, v.oneCell = true)
    {need : Nat} (hn : ovs.length + xvs.length = need * ap.z) {v : AV} {H' : Hp} (h : grow ap.z H old x need = .ok v H') (newCap : Nat) (hc : need ≤ newCap) {zv : Value} (hzv : (P.info? e).bind (·.zero) = some zv) (w1 : World) (hw1 : w1 = w.drew) :
    ∃ ι', Rep ι' v (.slice (some ⟨w.heap.size, 0, none⟩) need newCap) ∧ HR ι' H' (w1.alloc (.cells (ovs.toArray ++ xvs.toArray ++ Builtin.zeroCells zv.cells (newCap - need)) e)) ∧
      Fr ι ι' H H' w (w1.alloc (.cells (ovs.toArray ++ xvs.toArray ++ Builtin.zeroCells zv.cells (newCap - need)) e)) := by
  subst hw1
  unfold grow at h
  ·
    simp only [R1.ok.injEq] at h
    obtain ⟨rfl, rfl⟩ := h
    have hlt : InH (H.nx) := inH
    unfold apS at hap
    split at hap
    · rename_i z ww zl e1 e2 e3
      cases hb : Nat.beq zl.length z with
      | false => rw [hb] at hap; cases hap
      | true =>
        rw [hb] at hap; simp only [cond_true, Option.some.injEq] at hap; subst hap
        have hb := beq_t hb
        obtain ⟨zv', z1, z2, z3⟩ := zeroT_rep (ι := ι) e3
        rw [hzv] at z1; cases z1
        have hzl : zv.cells.size = z := by have := z2.length; simp at this; omega
        have hzc : Builtin.zeroCells zv.cells (newCap - need) = (repV zv.cells.toList (newCap - need)).toArray := by
          have := range_zero zv.cells (newCap - need) z hzl
          unfold Builtin.zeroCells; rw [hzl] at this ⊢; exact this
        rw [hzc]
        let loc : Loc := ⟨w.heap.size, 0, newCap - need, z⟩
        let W : World := w.drew.alloc (.cells (ovs.toArray ++ xvs.toArray ++ (repV zv.cells.toList (newCap - need)).toArray) e)
        have hlen : (old ++ x.l).length = need * z := by
          rw [List.length_append, ← ho.length, ← hx.length]; exact hn
        have cell : ∀ i, W.cell? ⟨w.heap.size, i, none⟩ = (ovs ++ xvs ++ repV zv.cells.toList (newCap - need))[i]? := fun i => by
          show (w.drew.alloc _).cell? ⟨w.drew.heap.size, i, none⟩ = _
          rw [World.cell?_alloc_new]; simp
        have froz : ∀ i, W.frozen? ⟨w.heap.size, i, none⟩ = false := fun i => by
          show (w.drew.alloc _).frozen? ⟨w.drew.heap.size, i, none⟩ = _
          rw [World.frozen?_alloc_new]
        have key := hH.push (w' := W) hlt loc (mkBlk z (old ++ x.l)) rfl rfl rfl (by show w.heap.size < (w.drew.alloc _).heap.size; simp) (fun c hc' => Below.heap_alloc w.drew _ c hc') rfl
          (mkBlk_ok (vs := ovs ++ xvs) (loc := loc) (Im.set_same _ _ _) (RepL.mono (Im.le_set loc (hH.fresh _ (Nat.le_refl _))) _ _ (ho.append hx)) (fun v hv => by
            rcases List.mem_append.1 hv with hv | hv
            · exact ho1 v hv
            · exact hx1 v hv) (fun i v hv => by
            show W.cell? ⟨w.heap.size, 0 + i, none⟩ = some v ∧ W.frozen? ⟨w.heap.size, 0 + i, none⟩ = false
            rw [Nat.zero_add]
            refine ⟨?_, froz i⟩
            rw [cell]
            have hi : i < (ovs ++ xvs).length := by
              rcases Nat.lt_or_ge i (ovs ++ xvs).length with h | h
              · exact h
              · rw [List.getElem?_eq_none h] at hv; cases hv
            rw [List.getElem?_append_left hi]; exact hv) (fun j hj => by
            show ∃ V, W.cell? ⟨w.heap.size, 0 + ((old ++ x.l).length + j), none⟩ = some V ∧ W.frozen? ⟨w.heap.size, 0 + ((old ++ x.l).length + j), none⟩ = false ∧ V.oneCell = true
            have hj : j < (newCap - need) * z := hj
            rw [Nat.zero_add, cell]
            have hl2 : (ovs ++ xvs).length = (old ++ x.l).length := by rw [List.length_append, List.length_append, ho.length, hx.length]
            rw [List.getElem?_append_right (by omega), hl2, Nat.add_sub_cancel_left]
            have : j < (repV zv.cells.toList (newCap - need)).length := by rw [repV_length]; simpa [hzl] using hj
            exact ⟨_, List.getElem?_eq_getElem this, froz _, z3 _ (repV_mem (List.getElem_mem this))⟩))
        refine ⟨ι.set H.nx loc, ?_, key.1, key.2⟩
        simp only [Rep]
        refine ⟨Nat.le_refl _, loc, Im.set_same _ _ _, ?_⟩
        simp [loc]; omega
    · cases hap


theorem i64max : IntKind.i64.max = 9223372036854775807 := by decide

/-- append, the source read as cells: in place -/
theorem run_append_in {t u e ty : TypeId} (ht : P.underlying t = some (.slice e)) {td : TypeDesc} (hu : P.underlying u = some td) (htd : td = .string ∨ ∃ e', td = .slice e') {z : Nat} (hz : sizeT P e = some z) (base : Option Addr) (len C : Nat) (X : Value) {m : Nat} {vs : List Value}
    (hl : (Builtin.lenOf X).run P w = .ok m w) (hf : (Builtin.firstCells z m X).run P w = .ok vs.toArray w) (hle : len + m ≤ C) {w' : World}
    (hst : ∀ ad, base = some ad → (storeCells (ad.add (len * z)) vs).run P w = .ok () w') (hno : base = none → w' = w) :
    (Builtin.append_ #[t, u] ty #[.slice base len C, X]).run P w = .ok (.slice base (len + m) C) w' := by
  cases base with
  | none =>
    rw [hno rfl]
    rcases htd with rfl | ⟨e', rfl⟩
    all_goals simp [Builtin.append_, r_under ht, r_under hu, r_size hz, hl, hf, hle]
  | some ad =>
    have hst := hst ad rfl
    rcases htd with rfl | ⟨e', rfl⟩
    all_goals simp [Builtin.append_, r_under ht, r_under hu, r_size hz, hl, hf, hle, hst]

set_option maxHeartbeats 1000000 in
/-- append, the source read as cells: a new row -/
theorem run_append_new {t u e ty : TypeId} (ht : P.underlying t = some (.slice e)) {td : TypeDesc} (hu : P.underlying u = some td) (htd : td = .string ∨ ∃ e', td = .slice e') {z b : Nat} (hz : sizeT P e = some z) (hb : bytesT P e = some b) {zv : Value} (hzv : (P.info? e).bind (·.zero) = some zv) (base : Option Addr) (len C : Nat) (X : Value) {m : Nat} {vs ovs : List Value}
    (hl : (Builtin.lenOf X).run P w = .ok m w) (hf : (Builtin.firstCells z m X).run P w.drew = .ok vs.toArray w.drew) (hof : (Builtin.firstCells z len (.slice base len C)).run P w.drew = .ok ovs.toArray w.drew) (hgt : ¬ len + m ≤ C) (hbig : (len + m) * b ≤ 1099511627776) (hbig2 : len + m ≤ 1099511627776) :
    ∃ newCap, len + m ≤ newCap ∧ (Builtin.append_ #[t, u] ty #[.slice base len C, X]).run P w = .ok (.slice (some ⟨w.heap.size, 0, none⟩) (len + m) newCap) (w.drew.alloc (.cells (ovs.toArray ++ vs.toArray ++ Builtin.zeroCells zv.cells (newCap - (len + m))) e)) := by
  obtain ⟨ti, ti1, ti2⟩ := r_bytes (P := P) hb
  have hnc := nextcap_le (need := len + m) (old := C) (by omega)
  have h2 : ¬ (2 ^ 48 < Builtin.nextslicecap (len + m) C * ti.bytes) := by
    have hm : Builtin.nextslicecap (len + m) C * ti.bytes ≤ 3 * (len + m) * ti.bytes := Nat.mul_le_mul_right _ hnc
    rw [ti2] at hm ⊢
    have : 3 * (len + m) * b = 3 * ((len + m) * b) := Nat.mul_assoc _ _ _
    omega
  refine ⟨(Question.appendCap (len + m) C e).cut (w.tape w.drawn (.appendCap (len + m) C e)), by simp only [Question.cut]; omega, ?_⟩
  generalize hcap : (Question.appendCap (len + m) C e).cut (w.tape w.drawn (.appendCap (len + m) C e)) = cap
  rcases htd with rfl | ⟨e', rfl⟩
  all_goals
    simp [Builtin.append_, r_under ht, r_under hu, r_size hz, hl, hgt, ti1, h2, Question.forced, hcap, hof, hf, r_zeroV hzv, newRow]
    rw [if_neg (by omega), ← Array.append_assoc]
    simp

end Go.Ev
end

section
namespace Go.Ev
open Go.RowKit
variable {P : Program} {w : World} {ι : Im} {o : Oper} {a : Act} {d n : Nat} {L : TT AV d} {H : Hp}

theorem apS_parts {e : TypeId} {ap : Ap} (h : apS P e = some ap) : sizeT P e = some ap.z ∧ bytesT P e = some ap.w ∧ zeroT P e = some ap.zl ∧ ap.zl.length = ap.z ∧ ∃ zv, (P.info? e).bind (·.zero) = some zv := by
  unfold apS at h
  split at h
  · rename_i z ww zl e1 e2 e3
    cases hb : Nat.beq zl.length z with
    | false => rw [hb] at h; cases h
    | true =>
      rw [hb] at h; simp only [cond_true, Option.some.injEq] at h; subst h
      obtain ⟨zv, z1, _⟩ := zeroT_rep (ι := fun _ => none) e3
      exact ⟨e1, e2, e3, beq_t hb, zv, z1⟩
  · cases h

theorem HR.drew (h : HR ι H w) : HR ι H w.drew :=
  ⟨h.top, fun b hb => (h.blk b hb).keep fun _ _ _ => rfl, h.low, h.inj, h.fresh, h.free⟩
theorem Fr.drew_right {ι' : Im} {H' : Hp} {w' : World} (h : Fr ι ι' H H' w w') : Fr ι ι' H H' w w'.drew :=
  ⟨h.le, h.nx, h.dom, h.os, h.tape, h.output, h.size, h.keep, h.new, h.live⟩

/-- in place, into spare room that no name knows: the row is taken over under a new name -/
theorem over_ok {b i len cap : Nat} {loc : Loc} {z : Nat} (hH : HR ι H w) (hb : ι b = some loc) (hend : endsAt (H.get b) (i + cap * z) z = true) {old : List AV} (hold : rdBlkN (H.get b) i (len * z) = some old) {x : Src} {xvs : List Value} (hx : RepL ι x.l xvs) (hx1 : ∀ v ∈ xvs, v.oneCell = true) (hxn : xvs.length = x.n * z)
    (hlc : len ≤ cap) (hgt : ¬ len + x.n ≤ cap) (hfit : len + x.n ≤ cap + loc.ext) {v : AV} {H' : Hp} (h : grow z (H.put b .dead) old x (len + x.n) = .ok v H') :
    ∃ w' ι', (storeCells ⟨loc.blk, loc.base + i + len * z, none⟩ xvs).run P w = .ok () w' ∧ Rep ι' v (.slice (some ⟨loc.blk, loc.base + i, none⟩) (len + x.n) (cap + loc.ext)) ∧ HR ι' H' w' ∧ Fr ι ι' H H' w w' := by
  have hlt := hH.lt hb
  have hB := hH.blk b hlt
  unfold endsAt at hend
  split at hend
  · rename_i dd nn c z' hg
    simp only [Bool.and_eq_true] at hend
    have e1 := beq_t hend.1
    have e2 := beq_t hend.2
    have hwr : (H.get b).wr = true := by rw [hg]; rfl
    obtain ⟨ol, ov⟩ := rdBlkN_ok hB hold
    rw [hg] at hB
    obtain ⟨l', b1, ⟨b2, b2'⟩, b3, b4⟩ := hB
    rw [hb] at b1; cases b1
    have hz : loc.z = z := by rw [b2', e2]
    have hmul1 : len * z ≤ cap * z := Nat.mul_le_mul_right z hlc
    have hmul2 : (len + x.n) * z = len * z + x.n * z := Nat.add_mul _ _ _
    have hmul3 : (cap + loc.ext) * z = cap * z + loc.ext * z := Nat.add_mul _ _ _
    have hmul4 : (len + x.n) * z ≤ (cap + loc.ext) * z := Nat.mul_le_mul_right z hfit
    have hmul5 : cap * z ≤ (len + x.n) * z := Nat.mul_le_mul_right z (by omega)
    -- every cell up to the end of the room is there
    have there : ∀ j, j < nn + loc.ext * z → ∃ u, w.cell? ⟨loc.blk, loc.base + j, none⟩ = some u ∧ w.frozen? ⟨loc.blk, loc.base + j, none⟩ = false ∧ u.oneCell = true := by
      intro j hj
      by_cases hjn : j < nn
      · obtain ⟨V, c1, _, c3, c4⟩ := b3 j hjn; exact ⟨V, c1, c4 rfl, c3⟩
      · obtain ⟨V, c1, c2⟩ := b4 rfl (j - nn) (by rw [hz]; omega)
        rw [show nn + (j - nn) = j by omega] at c1 c2
        exact ⟨V, c1, c2⟩
    obtain ⟨w', r1, r2⟩ := run_storeCells P loc.blk xvs w (loc.base + i + len * z) 0 (fun j hj => by
      obtain ⟨u, c1, c2, _⟩ := there (i + len * z + j) (by omega)
      rw [show loc.base + i + len * z + 0 + j = loc.base + (i + len * z + j) by omega]
      exact ⟨u, c1, c2⟩) hx1
    rw [Nat.add_zero] at r2
    unfold grow at h
    ·
      simp only [R1.ok.injEq] at h
      obtain ⟨rfl, rfl⟩ := h
      have hnx : InH (H.nx) := inH
      obtain ⟨k1, k2⟩ := hH.kill hlt hwr
      have hnone := hH.fresh H.nx (Nat.le_refl _)
      let loc' : Loc := ⟨loc.blk, loc.base + i, cap + loc.ext - (len + x.n), z⟩
      have hle : ι.le (ι.set H.nx loc') := Im.le_set loc' hnone
      have hdead : (H.put b .dead).get H.nx = .dead := k1.free _ (Nat.le_refl _) hnx
      -- the cells that were there
      obtain ⟨ovs, o1, o2, o3, o4⟩ : ∃ ovs, RepL ι old ovs ∧ ovs.length = len * z ∧ (∀ v ∈ ovs, v.oneCell = true) ∧ ∀ (j : Nat) (v : Value), ovs[j]? = some v → w.cell? ⟨loc.blk, loc.base + i + j, none⟩ = some v := by
        rcases ov with ov | ⟨l2, ovs, g1, g2, g3, g4, g5⟩
        · have : old = [] := List.length_eq_zero_iff.1 (by rw [ol]; exact ov)
          subst this
          exact ⟨[], by simp [RepL], by simpa using ov.symm, by simp, by simp⟩
        · rw [hb] at g1; cases g1; exact ⟨ovs, g2, g3, g4, g5⟩
      have hlen : (old ++ x.l).length = (len + x.n) * z := by rw [List.length_append, ol, ← hx.length, hxn, hmul2]
      have cell : ∀ j, w'.cell? ⟨loc.blk, loc.base + i + j, none⟩ = if len * z ≤ j ∧ j < len * z + xvs.length then some (xvs.getD (j - len * z) Go.undef) else w.cell? ⟨loc.blk, loc.base + i + j, none⟩ := fun j => by
        rw [r2.cell]
        by_cases hc : len * z ≤ j ∧ j < len * z + xvs.length
        · rw [if_pos hc, if_pos (by omega), show loc.base + i + j - (loc.base + i + len * z) = j - len * z by omega]
        · rw [if_neg hc, if_neg (by omega)]
      have hbr : BR (ι.set H.nx loc') w' H.nx (mkBlk z (old ++ x.l)) := by
        refine mkBlk_ok (vs := ovs ++ xvs) (loc := loc') (Im.set_same _ _ _) (RepL.mono hle _ _ (o1.append hx)) (fun v hv => by
          rcases List.mem_append.1 hv with hv | hv
          · exact o3 v hv
          · exact hx1 v hv) (fun j v hv => ?_) (fun j hj => ?_)
        · show w'.cell? ⟨loc.blk, loc.base + i + j, none⟩ = some v ∧ w'.frozen? ⟨loc.blk, loc.base + i + j, none⟩ = false
          have hj : j < (ovs ++ xvs).length := by
            rcases Nat.lt_or_ge j (ovs ++ xvs).length with h | h
            · exact h
            · rw [List.getElem?_eq_none h] at hv; cases hv
          rw [List.length_append, o2, hxn] at hj
          refine ⟨?_, ?_⟩
          · rw [cell]
            by_cases hc : j < len * z
            · rw [if_neg (by omega)]
              rw [List.getElem?_append_left (by omega)] at hv
              exact o4 j v hv
            · rw [if_pos (by omega)]
              rw [List.getElem?_append_right (by omega), o2] at hv
              rw [List.getD_eq_getElem?_getD, hv]; rfl
          · rw [r2.frozen]
            obtain ⟨_, _, c2, _⟩ := there (i + j) (by omega)
            rw [Nat.add_assoc]; exact c2
        · show ∃ V, w'.cell? ⟨loc.blk, loc.base + i + ((old ++ x.l).length + j), none⟩ = some V ∧ w'.frozen? ⟨loc.blk, loc.base + i + ((old ++ x.l).length + j), none⟩ = false ∧ V.oneCell = true
          have hj : j < (cap + loc.ext - (len + x.n)) * z := hj
          have hmul6 : (cap + loc.ext - (len + x.n)) * z = (cap + loc.ext) * z - (len + x.n) * z := Nat.sub_mul _ _ _
          rw [cell, r2.frozen, if_neg (by omega), hlen]
          obtain ⟨u, c1, c2⟩ := there (i + ((len + x.n) * z + j)) (by omega)
          rw [Nat.add_assoc]
          exact ⟨u, c1, c2⟩
      have hadd := k1.add (w' := w') hnx hnone hdead (Nat.le_succ _) hnx (Nat.lt_succ_self _) loc' (mkBlk z (old ++ x.l)) (by rw [r2.size]; exact Nat.le_refl _)
        (fun c m hc h1 h2 => r2.keep _ fun he => by
          rw [Hp.get_put _ _ _ _ hlt hc] at h1
          by_cases ecb : c = b
          · subst ecb; simp [Blk.isDead] at h1
          · rw [if_neg ecb] at h1
            exact ecb (hH.inj b c loc m hlt hc hwr h1 hb h2 he.symm).symm)
        (fun _ => by rw [r2.size]; exact hH.low b loc hlt (Blk.live_of_wr hwr) hb)
        (fun c m hc h1 h2 he => by
          rw [Hp.get_put _ _ _ _ hlt hc] at h1
          by_cases ecb : c = b
          · subst ecb; simp [Blk.isDead] at h1
          · rw [if_neg ecb] at h1
            exact ecb (hH.inj b c loc m hlt hc hwr h1 hb h2 he.symm).symm) hbr
      refine ⟨w', ι.set H.nx loc', r1, ?_, hadd, ⟨hle, Nat.le_succ _, fun c h1 h2 => ?_, r2.os, r2.tape, r2.output, by rw [r2.size]; exact Nat.le_refl _, fun c hc h1 => r2.keep c fun he => h1 b loc hlt hwr hb he.symm, fun c m hc h1 h2 => ?_, fun c m hc h1 h2 => ?_⟩⟩
      · simp only [Rep]
        refine ⟨Nat.le_refl _, loc', Im.set_same _ _ _, ?_⟩
        simp [loc']; omega
      · by_cases e : c = H.nx
        · omega
        · rw [Im.set_ne _ _ e] at h2; exact absurd h1 h2
      · have hgc : (pushH (H.put b .dead) (mkBlk z (old ++ x.l))).get c = if c = H.nx then mkBlk z (old ++ x.l) else (H.put b .dead).get c := by exact Mem.get_put _ _ _ _
        by_cases e : c = H.nx
        · subst e; rw [Im.set_same] at h2; cases h2; exact .inr ⟨b, loc, hlt, hwr, hb, rfl⟩
        · rw [hgc, if_neg e, Hp.get_put _ _ _ _ hlt hc] at h1; rw [Im.set_ne _ _ e] at h2
          by_cases ecb : c = b
          · subst ecb; simp [Blk.wr] at h1
          · rw [if_neg ecb] at h1; exact .inr ⟨c, m, hc, h1, h2, rfl⟩
      · have hgc : (pushH (H.put b .dead) (mkBlk z (old ++ x.l))).get c = if c = H.nx then mkBlk z (old ++ x.l) else (H.put b .dead).get c := by exact Mem.get_put _ _ _ _
        by_cases e : c = H.nx
        · subst e; rw [Im.set_same] at h2; cases h2; exact .inr ⟨b, loc, hlt, Blk.live_of_wr hwr, hb, rfl⟩
        · rw [hgc, if_neg e, Hp.get_put _ _ _ _ hlt hc] at h1; rw [Im.set_ne _ _ e] at h2
          by_cases ecb : c = b
          · subst ecb; simp [Blk.isDead] at h1
          · rw [if_neg ecb] at h1; exact .inr ⟨c, m, hc, h1, h2, rfl⟩
  · cases hend


theorem srcOfC_ok {z : Nat} {x : AV} {X : Value} (hx : Rep ι x X) (hH : HR ι H w) {s : Src} (h : srcOfC z H x = some s) :
    ∃ vs : List Value, RepL ι s.l vs ∧ (∀ v ∈ vs, v.oneCell = true) ∧ vs.length = s.n * z ∧ (Builtin.lenOf X).run P w = .ok s.n w ∧
      ∀ k, k ≤ s.n → (Builtin.firstCells z k X).run P w = .ok (vs.take (k * z)).toArray w := by
  unfold srcOfC at h
  split at h
  · cases hz : Nat.beq z 1 with
    | false => rw [hz] at h; cases h
    | true => rw [hz] at h; exact srcOf_ok hx hH h (fun _ => beq_t hz)
  · rename_i hn
    exact srcOf_ok hx hH h (fun ⟨m, b, e⟩ => absurd e (hn m b))

theorem old_ok {b i len : Nat} {z : Nat} {loc : Loc} {C : Nat} (hH : HR ι H w) (hb : ι b = some loc) {old : List AV} (h : rdBlkN (H.get b) i (len * z) = some old) :
    ∃ ovs, RepL ι old ovs ∧ (∀ v ∈ ovs, v.oneCell = true) ∧ ovs.length = len * z ∧ (Builtin.firstCells z len (.slice (some ⟨loc.blk, loc.base + i, none⟩) len C)).run P w = .ok ovs.toArray w := by
  obtain ⟨ol, ov⟩ := rdBlkN_ok (hH.blk b (hH.lt hb)) h
  have fin : ∀ ovs : List Value, ovs.length = len * z → (∀ (j : Nat) (v : Value), ovs[j]? = some v → w.cell? ⟨loc.blk, loc.base + i + j, none⟩ = some v) → (Builtin.firstCells z len (.slice (some ⟨loc.blk, loc.base + i, none⟩) len C)).run P w = .ok ovs.toArray w := fun ovs h1 h2 => by
    have := run_loadCells P w loc.blk (loc.base + i) ovs h2
    rw [h1] at this
    simp only [Builtin.firstCells]; exact this
  rcases ov with ov | ⟨l2, ovs, g1, g2, g3, g4, g5⟩
  · have : old = [] := List.length_eq_zero_iff.1 (by rw [ol]; exact ov)
    subst this
    exact ⟨[], by simp [RepL], by simp, by simpa using ov.symm, fin [] (by simpa using ov.symm) (by simp)⟩
  · rw [hb] at g1; cases g1; exact ⟨ovs, g2, g4, g3, fin ovs g3 g5⟩

theorem e_append {t u e : TypeId} {x y : Operand} (ho : o.op = .call { callee := .builtin .append, args := #[x, y], argTypes := #[t, u] }) (ht : P.underlying t = some (.slice e)) {td : TypeDesc} (hu : P.underlying u = some td) (htd : td = .string ∨ ∃ e', td = .slice e') {ap : Ap} (hap : apS P e = some ap) (hH : HR ι H w) (h : LR ι d n L a.tmps) :
    VOk P o a.eval ι H w (appendV ap.z ap.w H ((opnd d n x).f L) (srcOfC ap.z H ((opnd d n y).f L))) := by
  have hx := opnd_rep h x
  have hy := opnd_rep h y
  obtain ⟨a1, a2, a3, a4, zv, a5⟩ := apS_parts hap
  have run : ∀ S V w', a.eval x = S → (Builtin.append_ #[t, u] o.type #[S, a.eval y]).run P w = .ok V w' → (execOp a.eval o).run P w = .ok (.value V) w' := fun S V w' h1 h2 => by
    simp [execOp, ho, resolve, invoke, builtin, h1, h2]
  cases hs : srcOfC ap.z H ((opnd d n y).f L) with
  | none => trivial
  | some s =>
    obtain ⟨xvs, x1, x2, x3, x4, x5⟩ := srcOfC_ok (P := P) hy hH hs
    obtain ⟨xvs', x1', x2', x3', x4', x5'⟩ := srcOfC_ok (P := P) hy hH.drew hs
    have x5 := x5 s.n (Nat.le_refl _)
    have x5' := x5' s.n (Nat.le_refl _)
    rw [← x3, List.take_length] at x5
    rw [← x3', List.take_length] at x5'
    cases hv : appendV ap.z ap.w H ((opnd d n x).f L) (some s) with
    | bad => trivial
    | ok v H' =>
      unfold appendV at hv
      simp only at hv
      split at hv
      · rename_i e1
        rw [e1] at hx; simp only [Rep] at hx
        cases hn : Nat.beq s.n 0 with
        | true =>
          have hn := beq_t hn
          rw [hn] at hv
          simp only [show Nat.beq 0 0 = true from rfl, cond_true, R1.ok.injEq] at hv
          obtain ⟨rfl, rfl⟩ := hv
          have r := run_append_in (ty := o.type) ht hu htd a1 none 0 0 (a.eval y) x4 x5 (by omega) (w' := w) (fun _ h => by cases h) (fun _ => rfl)
          rw [hn] at r
          exact ⟨_, .slice none 0 0, w, ι, run _ _ _ hx r, .inl rfl, by simp only [Rep], hH, Fr.refl _ _ _⟩
        | false =>
          rw [hn] at hv; simp only [cond_false] at hv
          have hn := beq_f hn
          cases hbg : (Nat.ble (Nat.mul s.n ap.w) bigB && Nat.ble s.n bigB) with
          | false => rw [hbg] at hv; cases hv
          | true =>
            rw [hbg] at hv; simp only [cond_true] at hv
            simp only [Bool.and_eq_true] at hbg
            have g1 : s.n * ap.w ≤ 1099511627776 := ble_t hbg.1
            have g2 : s.n ≤ 1099511627776 := ble_t hbg.2
            obtain ⟨nc, c1, c2⟩ := run_append_new (ty := o.type) (ovs := []) ht hu htd a1 a2 a5 none 0 0 (a.eval y) x4 x5' (by simp [Builtin.firstCells]) (by omega) (by rw [Nat.zero_add]; exact g1) (by omega)
            rw [Nat.zero_add] at c1 c2
            obtain ⟨ι', d1, d2, d3⟩ := grow_ok hap hH (ovs := []) (show RepL ι [] [] by simp [RepL]) (by simp) x1' x2' (by simp [x3']) hv nc c1 a5 w.drew rfl
            exact ⟨_, _, _, ι', run _ _ _ hx c2, .inl rfl, d1, d2, d3⟩
      · rename_i b i len cap ex e1
        rw [e1] at hx; simp only [Rep] at hx
        obtain ⟨hlc, loc, h1, h2⟩ := hx
        cases hin : Nat.ble (len + s.n) cap with
        | true =>
          rw [hin] at hv; simp only [cond_true] at hv
          have hin := ble_t hin
          obtain ⟨rfl, w', r1, r2, r3⟩ := storeAt_ok P hH h1 x1 x2 hv
          have r := run_append_in (ty := o.type) ht hu htd a1 (some ⟨loc.blk, loc.base + i, none⟩) len (if ex then cap else cap + loc.ext) (a.eval y) x4 x5 (by split <;> omega) (w' := w')
            (fun ad h => by cases h; rw [addr_add, Nat.add_assoc]; exact r1) (fun h => by cases h)
          refine ⟨_, _, w', ι, run _ _ _ h2 r, .inl rfl, ?_, r2, r3⟩
          simp only [Rep]; exact ⟨hin, loc, h1, rfl⟩
        | false =>
          rw [hin] at hv; simp only [cond_false] at hv
          have hin := ble_f hin
          cases hbg : (Nat.ble (Nat.mul (len + s.n) ap.w) bigB && Nat.ble (len + s.n) bigB) with
          | false => rw [hbg] at hv; cases hv
          | true =>
            rw [hbg] at hv; simp only [cond_true] at hv
            simp only [Bool.and_eq_true] at hbg
            have g1 : (len + s.n) * ap.w ≤ 1099511627776 := ble_t hbg.1
            have g2 : len + s.n ≤ 1099511627776 := ble_t hbg.2
            split at hv
            · cases hv
            · rename_i old hold
              have grown : ∀ C, ¬ len + s.n ≤ C → a.eval x = .slice (some ⟨loc.blk, loc.base + i, none⟩) len C → ∀ (H1 : Hp), HR ι H1 w → Fr ι ι H H1 w w → grow ap.z H1 old s (len + s.n) = .ok v H' → VOk P o a.eval ι H w (.ok v H') := by
                intro C hC hxC H1 hH1 hF1 hg
                obtain ⟨ovs, o1, o2, o3, o4⟩ := old_ok (P := P) (w := w.drew) (C := C) hH.drew h1 hold
                obtain ⟨nc, c1, c2⟩ := run_append_new (ty := o.type) ht hu htd a1 a2 a5 (some ⟨loc.blk, loc.base + i, none⟩) len C (a.eval y) x4 x5' o4 hC g1 g2
                obtain ⟨ι', d1, d2, d3⟩ := grow_ok hap hH1 o1 o2 x1' x2' (by rw [o3, x3', Nat.add_mul]) hg nc c1 a5 w.drew rfl
                exact ⟨_, _, _, ι', run _ _ _ hxC c2, .inl rfl, d1, d2, hF1.trans d3⟩
              cases ex with
              | true =>
                simp only [cond_true] at hv
                exact grown cap hin (by simpa using h2) H hH (Fr.refl _ _ _) hv
              | false =>
                simp only [cond_false] at hv
                cases hend : endsAt (H.get b) (i + cap * ap.z) ap.z with
                | false => rw [hend] at hv; cases hv
                | true =>
                  rw [hend] at hv; simp only [cond_true] at hv
                  simp only [Bool.false_eq_true, if_false] at h2
                  by_cases hfit : len + s.n ≤ cap + loc.ext
                  · obtain ⟨w', ι', q1, q2, q3, q4⟩ := over_ok (P := P) hH h1 hend hold x1 x2 x3 hlc hin hfit hv
                    have r := run_append_in (ty := o.type) ht hu htd a1 (some ⟨loc.blk, loc.base + i, none⟩) len (cap + loc.ext) (a.eval y) x4 x5 hfit (w' := w')
                      (fun ad h => by cases h; rw [addr_add]; exact q1) (fun h => by cases h)
                    exact ⟨_, _, w', ι', run _ _ _ h2 r, .inl rfl, q2, q3, q4⟩
                  · have hwr : (H.get b).wr = true := by
                      unfold endsAt at hend
                      split at hend
                      · rename_i hg; rw [hg]; rfl
                      · cases hend
                    obtain ⟨k1, k2⟩ := hH.kill (hH.lt h1) hwr
                    exact grown _ hfit h2 _ k1 k2 hv
      · cases hv

end Go.Ev
end

section
namespace Go.Ev
open Go.RowKit
variable {P : Program} {w : World} {ι : Im} {o : Oper} {a : Act} {d n : Nat} {L : TT AV d} {H : Hp}

theorem e_copy {t u e : TypeId} {x y : Operand} (ho : o.op = .call { callee := .builtin .copy, args := #[x, y], argTypes := #[t, u] }) (ht : P.underlying t = some (.slice e)) {z : Nat} (hz : sizeT P e = some z) (hH : HR ι H w) (h : LR ι d n L a.tmps) :
    VOk P o a.eval ι H w (copyV z H ((opnd d n x).f L) (srcOfC z H ((opnd d n y).f L))) := by
  have hx := opnd_rep h x
  have hy := opnd_rep h y
  cases hs : srcOfC z H ((opnd d n y).f L) with
  | none => cases (opnd d n x).f L <;> trivial
  | some s =>
    obtain ⟨xvs, x1, x2, x3, x4, x5⟩ := srcOfC_ok (P := P) hy hH hs
    unfold copyV
    split
    · rename_i s' b i m cap ex e0 e1
      cases e0
      rw [e1] at hx; simp only [Rep] at hx
      obtain ⟨_, loc, h1, h2⟩ := hx
      cases hst : storeAt H b i (s.l.take (Nat.mul (min s.n m) z)) (i64 (min s.n m)) with
      | bad => trivial
      | ok v H' =>
        obtain ⟨rfl, w', r1, r2, r3⟩ := storeAt_ok P hH h1 (x1.take _) (fun v hv => x2 v (List.mem_of_mem_take hv)) hst
        refine ⟨.value (.int .i64 ((min s.n m : Nat) : Int)), _, w', ι, ?_, .inl rfl, rep_int _ _, r2, r3⟩
        have x5 := x5 (min s.n m) (Nat.min_le_left _ _)
        have r1 : (storeCells ⟨loc.blk, loc.base + i, none⟩ (xvs.take (min s.n m * z))).run P w = .ok () w' := r1
        simp only [execOp, ho, resolve, invoke, builtin, Sem.run_bind, Sem.run_pure, Result.andThen_ok, List.map_toArray, List.map_cons, List.map_nil, Builtin.copy_, h2]
        simp only [List.getElem?_toArray, List.getElem?_cons_zero, List.getElem?_cons_succ, Sem.run_bind, r_under ht, x4, r_size hz, Result.andThen_ok]
        rw [show s.n.min m = min s.n m from rfl, x5]
        simp [r1, goInt]
    · rename_i s' e0 e1
      rw [e1] at hx; simp only [Rep] at hx
      refine ⟨.value (.int .i64 0), _, w, ι, ?_, .inl rfl, rep_int _ _, hH, Fr.refl _ _ _⟩
      have x5 := x5 0 (Nat.zero_le _)
      simp only [execOp, ho, resolve, invoke, builtin, Sem.run_bind, Sem.run_pure, Result.andThen_ok, List.map_toArray, List.map_cons, List.map_nil, Builtin.copy_, hx]
      simp only [List.getElem?_toArray, List.getElem?_cons_zero, List.getElem?_cons_succ, Sem.run_bind, r_under ht, x4, r_size hz, Result.andThen_ok]
      rw [show s.n.min 0 = 0 from Nat.min_zero _, x5]
      simp [goInt]
    · rename_i s' e0 e1
      rw [e1] at hx; simp only [Rep] at hx
      obtain ⟨ad, c, hx⟩ := hx
      refine ⟨.value (.int .i64 0), _, w, ι, ?_, .inl rfl, rep_int _ _, hH, Fr.refl _ _ _⟩
      have x5 := x5 0 (Nat.zero_le _)
      simp only [execOp, ho, resolve, invoke, builtin, Sem.run_bind, Sem.run_pure, Result.andThen_ok, List.map_toArray, List.map_cons, List.map_nil, Builtin.copy_, hx]
      simp only [List.getElem?_toArray, List.getElem?_cons_zero, List.getElem?_cons_succ, Sem.run_bind, r_under ht, x4, r_size hz, Result.andThen_ok]
      rw [show s.n.min 0 = 0 from Nat.min_zero _, x5]
      simp [goInt, storeCells]
    · trivial

/- maps -/
theorem setMap_ok {b : Nat} {es : List Ent} {clock : Nat} {loc : Loc} (hH : HR ι H w) (hb : ι b = some loc) (hg : H.get b = .map es clock) (es' : List Ent) (clock' : Nat) {ES' : List MapEntry} (hE : RepE ι es' ES') :
    HR ι (H.put b (.map es' clock')) { w with heap := w.heap.setIfInBounds loc.blk (.map ES'.toArray clock') } ∧ Fr ι ι H (H.put b (.map es' clock')) w { w with heap := w.heap.setIfInBounds loc.blk (.map ES'.toArray clock') } := by
  have hlt := hH.lt hb
  have hwr : (H.get b).wr = true := by rw [hg]; rfl
  have hlow := hH.low b loc hlt (Blk.live_of_wr hwr) hb
  refine hH.put hlt hwr hb _ rfl rfl rfl (by simp) (fun c hc => ?_) ⟨loc, ES', hb, ?_, hE⟩
  · show (w.heap.setIfInBounds loc.blk _)[c]? = _
    rw [Array.getElem?_setIfInBounds_ne (Ne.symm hc)]
  · show (w.heap.setIfInBounds loc.blk _)[loc.blk]? = _
    simp [hlow]

theorem RepE.set : ∀ {es : List Ent} {ES : List MapEntry}, RepE ι es ES → ∀ (i : Nat) (x : Ent) (e : MapEntry), Rep ι x.key e.key → Rep ι x.val e.val → e.born = x.born → RepE ι (es.set i x) (ES.set i e)
  | [], ES, h, i, x, e, _, _, _ => by simp only [RepE] at h; subst h; simp [RepE]
  | y :: es, ES, h, i, x, e, h1, h2, h3 => by
    simp only [RepE] at h
    obtain ⟨e0, r, rfl, g1, g2, g3, g4⟩ := h
    cases i with
    | zero => simp only [List.set_cons_zero, RepE]; exact ⟨e, r, rfl, h1, h2, h3, g4⟩
    | succ i => simp only [List.set_cons_succ, RepE]; exact ⟨e0, r.set i e, rfl, g1, g2, g3, RepE.set g4 i x e h1 h2 h3⟩
theorem RepE.snoc : ∀ {es : List Ent} {ES : List MapEntry}, RepE ι es ES → ∀ (x : Ent) (e : MapEntry), Rep ι x.key e.key → Rep ι x.val e.val → e.born = x.born → RepE ι (es ++ [x]) (ES ++ [e])
  | [], ES, h, x, e, h1, h2, h3 => by
    simp only [RepE] at h; subst h
    simp only [List.nil_append, RepE]; exact ⟨e, [], rfl, h1, h2, h3, rfl⟩
  | y :: es, ES, h, x, e, h1, h2, h3 => by
    simp only [RepE] at h
    obtain ⟨e0, r, rfl, g1, g2, g3, g4⟩ := h
    simp only [List.cons_append, RepE]; exact ⟨e0, r ++ [e], rfl, g1, g2, g3, RepE.snoc g4 x e h1 h2 h3⟩
theorem RepE.erase : ∀ {es : List Ent} {ES : List MapEntry}, RepE ι es ES → ∀ (i : Nat), RepE ι (es.eraseIdx i) (ES.eraseIdx i)
  | [], ES, h, i => by simp only [RepE] at h; subst h; simp [RepE]
  | y :: es, ES, h, i => by
    simp only [RepE] at h
    obtain ⟨e0, r, rfl, g1, g2, g3, g4⟩ := h
    cases i with
    | zero => simpa using g4
    | succ i => simp only [List.eraseIdx_cons_succ, RepE]; exact ⟨e0, r.eraseIdx i, rfl, g1, g2, g3, RepE.erase g4 i⟩

/- keys that are the same -/
theorem same1_ok {x y : AV} (h : same1 x y = true) {X Y : Value} (hx : Rep ι x X) (hy : Rep ι y Y) : X = Y ∧ ∀ k, Instr.sameBits k X X = true := by
  unfold same1 at h
  split at h
  · simp only [Bool.and_eq_true] at h
    have := eqK_t h.1; subst this
    have h2 := h.2; rw [eqI_eq] at h2
    simp only [Rep] at hx hy; subst hx hy
    obtain rfl := eq_of_beq h2
    exact ⟨rfl, fun k => by cases k <;> simp [Instr.sameBits]⟩
  · simp only [Rep] at hx hy
    obtain ⟨s, rfl, h1⟩ := hx
    obtain ⟨u, rfl, h2⟩ := hy
    rw [h1.eq h2] at h
    have e : s = u := by
      have : s.data.toList = u.data.toList := by simpa using h
      cases s; cases u; simp at this; rw [this]
    subst e
    exact ⟨rfl, fun k => by cases k <;> simp [Instr.sameBits, beq_toListBytes]⟩
  · simp only [Rep] at hx hy; subst hx hy
    obtain rfl := eq_of_beq h
    exact ⟨rfl, fun k => by cases k <;> simp [Instr.sameBits]⟩
  · cases h
theorem sameL_ok : ∀ {l m : List AV} {vs us : List Value}, sameL l m = true → RepL ι l vs → RepL ι m us → vs = us ∧ ∀ k, (vs.zip vs).all (fun (x, y) => Instr.sameBits k x y) = true
  | [], [], vs, us, _, h1, h2 => by simp only [RepL] at h1 h2; subst h1 h2; exact ⟨rfl, fun _ => rfl⟩
  | [], _ :: _, vs, us, h, _, _ => by simp [sameL] at h
  | _ :: _, [], vs, us, h, _, _ => by simp [sameL] at h
  | x :: l, y :: m, vs, us, h, h1, h2 => by
    simp only [RepL] at h1 h2
    obtain ⟨v, r, rfl, a1, a2⟩ := h1
    obtain ⟨u, r', rfl, b1, b2⟩ := h2
    simp only [sameL, Bool.and_eq_true] at h
    obtain ⟨c1, c2⟩ := same1_ok h.1 a1 b1
    obtain ⟨d1, d2⟩ := sameL_ok h.2 a2 b2
    exact ⟨by rw [c1, d1], fun k => by
      rw [List.zip_cons_cons, List.all_cons, Bool.and_eq_true]
      exact ⟨c2 k, d2 k⟩⟩
theorem sameKey_ok {x y : AV} (h : sameKey x y = true) {X Y : Value} (hx : Rep ι x X) (hy : Rep ι y Y) : Instr.sameBits 10000 X Y = true := by
  unfold sameKey at h
  split at h
  · obtain ⟨vs, a1, rfl, _⟩ := agg_of hx
    obtain ⟨us, b1, rfl, _⟩ := agg_of hy
    obtain ⟨rfl, c⟩ := sameL_ok h a1 b1
    rw [show (10000 : Nat) = 9999 + 1 from rfl]
    simp only [Instr.sameBits, Bool.and_eq_true]
    exact ⟨by simp, by simpa using c 9999⟩
  · obtain ⟨rfl, c⟩ := same1_ok h hx hy
    exact c 10000

theorem modify_set (ES : List MapEntry) (i : Nat) (E : MapEntry) (h : ES[i]? = some E) (f : MapEntry → MapEntry) : ES.modify i f = ES.set i (f E) := by
  apply List.ext_getElem?
  intro j
  rw [List.getElem?_modify, List.getElem?_set]
  by_cases e : i = j
  · subst e; have hlt := (List.getElem?_eq_some_iff.1 h).1; simp only [if_true, hlt]; rw [h]; rfl
  · simp [e]

theorem e_upd {t kt et : TypeId} {x y z : Operand} (ho : o.op = .mapUpdate t x y z ∨ o.op = .insert t x y z) (ht : P.underlying t = some (.map kt et)) {ky : Ky} (hky : keyS P kt = some ky) (hH : HR ι H w) (h : LR ι d n L a.tmps) :
    VOk P o a.eval ι H w (updV ky H ((opnd d n x).f L) ((opnd d n y).f L) ((opnd d n z).f L)) := by
  have hx := opnd_rep h x
  have hy := opnd_rep h y
  have hz := opnd_rep h z
  have hrun : (execOp a.eval o).run P w = ((Instr.mapUpdate t (a.eval x) (a.eval y) (a.eval z)).run P w).andThen fun _ w => .ok .skip w := by
    rcases ho with ho | ho <;> simp [execOp, ho]
  unfold updV
  split
  · rename_i b e1
    rw [e1] at hx; simp only [Rep] at hx
    obtain ⟨loc, h1, h2⟩ := hx
    have hb := hH.blk b (hH.lt h1)
    split
    · rename_i es clock hg
      rw [hg] at hb
      obtain ⟨l', ES, g1, g2, g3⟩ := hb
      rw [h1] at g1; cases g1
      split
      · rename_i hit hf
        obtain ⟨c1, R, c2, c3⟩ := findK_ok hky hy g3 hf
        obtain ⟨V, E, rfl, d1, d2, d3, d4, d5, d6⟩ := c3
        cases hsk : sameKey hit.x.key ((opnd d n y).f L) with
        | false => trivial
        | true =>
          have hsb := sameKey_ok hsk d3 hy
          obtain ⟨m1, m2⟩ := setMap_ok hH h1 hg (es.set hit.i ⟨(opnd d n y).f L, (opnd d n z).f L, hit.x.born⟩) clock (g3.set hit.i _ ⟨a.eval y, a.eval z, E.born⟩ hy hz d6)
          refine ⟨.skip, Go.undef, _, ι, ?_, .inr ⟨rfl, rfl⟩, by simp [Rep, Go.undef], m1, m2⟩
          rw [hrun, h2]
          have hmod := modify_set ES hit.i E d2 (fun e => { e with key := a.eval y, val := a.eval z })
          simp [Instr.mapUpdate, r_under ht, getObj, setObj, Sem.run, g2, c1, c2, d2, Instr.keyThatStays, hsb, hmod]
      · rename_i hf
        obtain ⟨c1, R, c2, c3⟩ := findK_ok hky hy g3 hf
        simp only [HitOk] at c3; subst c3
        obtain ⟨m1, m2⟩ := setMap_ok hH h1 hg (es ++ [⟨(opnd d n y).f L, (opnd d n z).f L, clock⟩]) (clock + 1) (g3.snoc _ ⟨a.eval y, a.eval z, clock⟩ hy hz rfl)
        refine ⟨.skip, Go.undef, _, ι, ?_, .inr ⟨rfl, rfl⟩, by simp [Rep, Go.undef], m1, m2⟩
        rw [hrun, h2]
        simp [Instr.mapUpdate, r_under ht, getObj, setObj, Sem.run, g2, c1, c2]
      · trivial
    · trivial
  · trivial


theorem e_range {t kt et : TypeId} {x : Operand} (ho : o.op = .range t x) (ht : P.underlying t = some (.map kt et)) (hH : HR ι H w) (h : LR ι d n L a.tmps) :
    VOk P o a.eval ι H w (rangeV H ((opnd d n x).f L)) := by
  have hx := opnd_rep h x
  unfold rangeV
  split
  · rename_i e1
    rw [e1] at hx; simp only [Rep] at hx
    obtain ⟨m1, m2⟩ := hH.push (w' := w.alloc (.mapIter none 0 #[] 0)) inH ⟨w.heap.size, 0, 0, 0⟩ (.strIter 0 0 0) rfl rfl rfl (by simp) (fun c hc => Below.heap_alloc w _ c hc) rfl ⟨_, none, Im.set_same _ _ _, rfl, by show (w.heap.push _)[w.heap.size]? = _; simp, rfl⟩
    refine ⟨.value (.pointer (some ⟨w.heap.size, 0, none⟩)), _, _, _, ?_, .inl rfl, ?_, m1, m2⟩
    · simp [execOp, ho, hx, Instr.range, r_under ht]
    · simp only [Rep]
      exact ⟨_, Im.set_same _ _ _, rfl⟩
  · rename_i b e1
    rw [e1] at hx; simp only [Rep] at hx
    obtain ⟨loc, h1, h2⟩ := hx
    have hb := hH.blk b (hH.lt h1)
    split
    · rename_i es clock hg
      rw [hg] at hb
      obtain ⟨l', ES, g1, g2, g3⟩ := hb
      rw [h1] at g1; cases g1
      have hne : b ≠ H.nx := fun e => by rw [e, hH.fresh _ (Nat.le_refl _)] at h1; cases h1
      obtain ⟨m1, m2⟩ := hH.push (w' := w.alloc (.mapIter (some loc.blk) clock #[] clock)) inH ⟨w.heap.size, 0, 0, 0⟩ (.strIter (Nat.succ b) clock 0) rfl rfl rfl (by simp) (fun c hc => Below.heap_alloc w _ c hc) rfl ⟨_, some loc.blk, Im.set_same _ _ _, rfl, by show (w.heap.push _)[w.heap.size]? = _; simp, loc, by rw [Im.set_ne _ _ hne]; exact h1, rfl⟩
      refine ⟨.value (.pointer (some ⟨w.heap.size, 0, none⟩)), _, _, _, ?_, .inl rfl, ?_, m1, m2⟩
      · simp [execOp, ho, h2, Instr.range, r_under ht, Sem.run, getObj, g2]
      · simp only [Rep]
        exact ⟨_, Im.set_same _ _ _, rfl⟩
    · trivial
  · trivial
theorem e_next {x : Operand} (ho : o.op = .next x false) (hH : HR ι H w) (h : LR ι d n L a.tmps) :
    VOk P o a.eval ι H w (nextV H ((opnd d n x).f L)) := by
  have hx := opnd_rep h x
  unfold nextV
  split
  · rename_i b off e1
    rw [e1] at hx; simp only [Rep] at hx
    obtain ⟨loc, h1, h2⟩ := hx
    have hb := hH.blk b (hH.lt h1)
    cases ho0 : Nat.beq off 0 with
    | false => trivial
    | true =>
      obtain rfl := Nat.eq_of_beq_eq_true ho0
      simp only [cond_true]
      split
      · rename_i m since pos hg
        rw [hg] at hb
        obtain ⟨l', r, g1, g0, g2, g3⟩ := hb
        rw [h1] at g1; cases g1
        rw [g0, Nat.add_zero] at h2
        cases m with
        | zero =>
          simp only at g3
          subst g3
          refine ⟨.value (.tuple #[.bool false]), _, _, ι, ?_, .inl rfl, ?_, hH, Fr.refl _ _ _⟩
          · simp [execOp, ho, h2, Instr.next, getObj, Sem.run, g2]
          · simp only [Rep, RepL]; exact ⟨_, ⟨_, _, rfl, rfl, rfl⟩, rfl⟩
        | succ m =>
          obtain ⟨lm, k1, rfl⟩ := g3
          have hm := hH.blk m (hH.lt k1)
          simp only
          split
          · rename_i es clock hgm
            rw [hgm] at hm
            obtain ⟨l2, ES, j1, j2, j3⟩ := hm
            rw [k1] at j1; cases j1
            cases hcs : Nat.beq clock since with
            | false => trivial
            | true =>
              obtain rfl := Nat.eq_of_beq_eq_true hcs
              simp only [cond_true]
              unfold nextB
              split
              · simp only [RepE] at j3
                subst j3
                refine ⟨.value (.tuple #[.bool false]), _, _, ι, ?_, .inl rfl, ?_, hH, Fr.refl _ _ _⟩
                · simp [execOp, ho, h2, Instr.next, getObj, Sem.run, g2, j2, choose, Question.forced]
                · simp only [Rep, RepL]; exact ⟨_, ⟨_, _, rfl, rfl, rfl⟩, rfl⟩
              · rename_i e
                simp only [RepE] at j3
                obtain ⟨E, _, rfl, q1, q2, q3, rfl⟩ := j3
                cases hbl : Nat.blt e.born clock with
                | false => trivial
                | true =>
                  have hbl := ble_t hbl
                  rw [← q3] at hbl
                  simp only [cond_true]
                  cases pos with
                  | zero =>
                    have hwr : (H.get b).wr = true := by rw [hg]; rfl
                    have hlow := hH.low b loc (hH.lt h1) (Blk.live_of_wr hwr) h1
                    obtain ⟨m1, m2⟩ := hH.put (w' := { w with heap := w.heap.setIfInBounds loc.blk (.mapIter (some lm.blk) clock #[E.born] clock) }) (hH.lt h1) hwr h1 (.strIter (Nat.succ m) clock (Nat.succ e.born)) rfl rfl rfl (by simp) (fun c hc => by
                      show (w.heap.setIfInBounds loc.blk _)[c]? = _
                      rw [Array.getElem?_setIfInBounds_ne (Ne.symm hc)]) ⟨loc, some lm.blk, h1, g0, by
                      show (w.heap.setIfInBounds loc.blk _)[loc.blk]? = _
                      rw [Array.getElem?_setIfInBounds_self_of_lt hlow, q3], lm, k1, rfl⟩
                    refine ⟨.value (.tuple #[.bool true, E.key, E.val]), _, _, ι, ?_, .inl rfl, ?_, m1, m2⟩
                    · have hnl : ¬ clock ≤ E.born := by omega
                      simp [execOp, ho, h2, Instr.next, getObj, setObj, Sem.run, g2, j2, choose, Question.forced, hnl, show E.born < clock from hbl]
                    · simp only [Rep, RepL]; exact ⟨_, ⟨_, _, rfl, rfl, _, _, rfl, q1, _, _, rfl, q2, rfl⟩, rfl⟩
                  | succ p =>
                    show VOk P o a.eval ι H w (bif Nat.beq (p + 1) (Nat.succ e.born) then .ok (.tup [.bool false]) H else .bad)
                    cases hp : Nat.beq (p + 1) (Nat.succ e.born) with
                    | false => trivial
                    | true =>
                      have hp : p + 1 = e.born + 1 := Nat.eq_of_beq_eq_true hp
                      have hp : p = E.born := by omega
                      subst hp
                      refine ⟨.value (.tuple #[.bool false]), _, _, ι, ?_, .inl rfl, ?_, hH, Fr.refl _ _ _⟩
                      · have hnl : ¬ clock ≤ E.born := by omega
                        simp [execOp, ho, h2, Instr.next, getObj, Sem.run, g2, j2, choose, Question.forced, hnl]
                      · simp only [Rep, RepL]; exact ⟨_, ⟨_, _, rfl, rfl, rfl⟩, rfl⟩
              · trivial
          · trivial
      · trivial
  · trivial
theorem e_entry {t kt et : TypeId} {x y : Operand} (ho : o.op = .mapEntry t x y) (ht : P.underlying t = some (.map kt et)) {ky : Ky} (hky : keyS P kt = some ky) {z : Value} (hz : (P.info? et).bind (·.zero) = some z) (hH : HR ι H w) (h : LR ι d n L a.tmps) :
    VOk P o a.eval ι H w (entryV ky (ofVal z) H ((opnd d n x).f L) ((opnd d n y).f L)) := by
  have hx := opnd_rep h x
  have hy := opnd_rep h y
  unfold entryV
  split
  · rename_i b e1
    rw [e1] at hx; simp only [Rep] at hx
    obtain ⟨loc, h1, h2⟩ := hx
    have hb := hH.blk b (hH.lt h1)
    split
    · rename_i es clock hg
      rw [hg] at hb
      obtain ⟨l', ES, g1, g2, g3⟩ := hb
      rw [h1] at g1; cases g1
      split
      · rename_i hit hf
        obtain ⟨c1, R, c2, c3⟩ := findK_ok hky hy g3 hf
        obtain ⟨V, E, rfl, d1, d2, d3, d4, d5, d6⟩ := c3
        cases hsk : sameKey hit.x.key ((opnd d n y).f L) with
        | false => trivial
        | true =>
          have hsb := sameKey_ok hsk d3 hy
          obtain ⟨m1, m2⟩ := setMap_ok hH h1 hg (es.set hit.i ⟨(opnd d n y).f L, hit.x.val, hit.x.born⟩) clock (g3.set hit.i _ ⟨a.eval y, E.val, E.born⟩ hy (by rw [d5]; exact d4) d6)
          refine ⟨.value (.tuple #[V, .int .i64 (E.born : Int)]), _, _, ι, ?_, .inl rfl, ?_, m1, m2⟩
          · have hmod := modify_set ES hit.i E d2 (fun e => { e with key := a.eval y })
            simp [execOp, ho, h2, Instr.mapEntry, r_under ht, getObj, setObj, Sem.run, g2, c1, c2, d2, Instr.keyThatStays, hsb, hmod, goInt]
          · simp only [Rep, RepL]
            exact ⟨[V, .int .i64 (E.born : Int)], ⟨V, _, rfl, d4, _, _, rfl, by rw [d6]; rfl, rfl⟩, rfl⟩
      · rename_i hf
        obtain ⟨c1, R, c2, c3⟩ := findK_ok hky hy g3 hf
        simp only [HitOk] at c3; subst c3
        obtain ⟨m1, m2⟩ := setMap_ok hH h1 hg (es ++ [⟨(opnd d n y).f L, ofVal z, clock⟩]) (clock + 1) (g3.snoc _ ⟨a.eval y, z, clock⟩ hy (ofVal_rep z) rfl)
        refine ⟨.value (.tuple #[z, .int .i64 (clock : Int)]), _, _, ι, ?_, .inl rfl, ?_, m1, m2⟩
        · simp [execOp, ho, h2, Instr.mapEntry, r_under ht, getObj, setObj, Sem.run, g2, c1, c2, r_zeroV hz, goInt]
        · simp only [Rep, RepL]
          exact ⟨[z, .int .i64 (clock : Int)], ⟨z, _, rfl, ofVal_rep z, _, _, rfl, rfl, rfl⟩, rfl⟩
      · trivial
    · trivial
  · trivial

theorem stampE_ok {k : Nat} : ∀ (es : List Ent) (ES : List MapEntry) (i : Nat) (hit : Hit), RepE ι es ES → stampE k es i = some hit →
    ∃ E j, hit.i = i + j ∧ ES[j]? = some E ∧ ES.findIdx? (fun e => (e.born : Int) == (k : Int)) = some j ∧ Rep ι hit.x.key E.key ∧ E.born = hit.x.born
  | [], ES, i, hit, hE, hs => by
    have hs : (none : Option Hit) = some hit := hs
    cases hs
  | x :: es, ES, i, hit, hE, hs => by
    simp only [RepE] at hE
    obtain ⟨e, r, rfl, h1, h2, h3, h4⟩ := hE
    have hs : (bif Nat.beq x.born k then some ⟨i, x⟩ else stampE k es (i + 1)) = some hit := hs
    cases hk : Nat.beq x.born k with
    | true =>
      rw [hk] at hs; simp only [cond_true, Option.some.injEq] at hs; subst hs
      have := beq_t hk
      exact ⟨e, 0, rfl, rfl, by simp [List.findIdx?_cons, h3, this], h1, h3⟩
    | false =>
      rw [hk] at hs; simp only [cond_false] at hs
      have hne := beq_f hk
      obtain ⟨E, j, a1, a2, a3, a4, a5⟩ := stampE_ok es r (i + 1) hit h4 hs
      refine ⟨E, j + 1, by omega, by simpa using a2, ?_, a4, a5⟩
      have hb : (((e.born : Int)) == (k : Int)) = false := by rw [h3]; simp; omega
      rw [List.findIdx?_cons, hb, a3]; rfl

theorem e_entrySt {t : TypeId} {x y z : Operand} (ho : o.op = .entryStore t x y z) (hH : HR ι H w) (h : LR ι d n L a.tmps) :
    VOk P o a.eval ι H w (entryStV H ((opnd d n x).f L) ((opnd d n y).f L) ((opnd d n z).f L)) := by
  have hx := opnd_rep h x
  have hy := opnd_rep h y
  have hz := opnd_rep h z
  unfold entryStV
  split
  · rename_i b kk m e1 e2
    rw [e1] at hx; rw [e2] at hy; simp only [Rep] at hx hy
    obtain ⟨loc, h1, h2⟩ := hx
    have hb := hH.blk b (hH.lt h1)
    split
    · rename_i es clock hg
      rw [hg] at hb
      obtain ⟨l', ES, g1, g2, g3⟩ := hb
      rw [h1] at g1; cases g1
      split
      · rename_i hit hf
        obtain ⟨E, j, a1, a2, a3, a4, a5⟩ := stampE_ok es ES 0 hit g3 hf
        rw [Nat.zero_add] at a1
        obtain ⟨m1, m2⟩ := setMap_ok hH h1 hg (es.set hit.i ⟨hit.x.key, (opnd d n z).f L, hit.x.born⟩) clock (g3.set hit.i _ ⟨E.key, a.eval z, E.born⟩ a4 hz a5)
        refine ⟨.skip, Go.undef, _, ι, ?_, .inr ⟨rfl, rfl⟩, by simp [Rep, Go.undef], m1, m2⟩
        have hmod := modify_set ES j E a2 (fun e => { e with val := a.eval z })
        simp [execOp, ho, h2, hy, Instr.entryStore, getObj, setObj, Sem.run, g2, asInt, asIntOf, a3, hmod, a1]
      · trivial
    · trivial
  · trivial

theorem e_del {t kt et : TypeId} {x y : Operand} {ts : Array TypeId} (ho : o.op = .call { callee := .builtin .delete, args := #[x, y], argTypes := ts }) (hts : ts[0]? = some t) (ht : P.underlying t = some (.map kt et)) {ky : Ky} (hky : keyS P kt = some ky) (hH : HR ι H w) (h : LR ι d n L a.tmps) :
    VOk P o a.eval ι H w (delV ky H ((opnd d n x).f L) ((opnd d n y).f L)) := by
  have hx := opnd_rep h x
  have hy := opnd_rep h y
  unfold delV
  split
  · rename_i b e1
    rw [e1] at hx; simp only [Rep] at hx
    obtain ⟨loc, h1, h2⟩ := hx
    have hb := hH.blk b (hH.lt h1)
    split
    · rename_i es clock hg
      rw [hg] at hb
      obtain ⟨l', ES, g1, g2, g3⟩ := hb
      rw [h1] at g1; cases g1
      split
      · rename_i hit hf
        obtain ⟨c1, R, c2, c3⟩ := findK_ok hky hy g3 hf
        obtain ⟨V, E, rfl, d1, d2, d3, d4, d5, d6⟩ := c3
        obtain ⟨m1, m2⟩ := setMap_ok hH h1 hg (es.eraseIdx hit.i) clock (g3.erase hit.i)
        refine ⟨.value (.tuple #[]), _, _, ι, ?_, .inl rfl, by simp [Rep], m1, m2⟩
        have hlt := (List.getElem?_eq_some_iff.1 d2).1
        have he : ES.toArray.eraseIdxIfInBounds hit.i = (ES.eraseIdx hit.i).toArray := by simp [Array.eraseIdxIfInBounds, hlt]
        simp [execOp, ho, resolve, invoke, builtin, Builtin.delete_, h2, hts, r_under ht, getObj, setObj, Sem.run, g2, c1, c2]
      · rename_i hf
        obtain ⟨c1, R, c2, c3⟩ := findK_ok hky hy g3 hf
        simp only [HitOk] at c3; subst c3
        obtain ⟨m1, m2⟩ := setMap_ok hH h1 hg es clock g3
        refine ⟨.value (.tuple #[]), _, _, ι, ?_, .inl rfl, by simp [Rep], m1, m2⟩
        simp [execOp, ho, resolve, invoke, builtin, Builtin.delete_, h2, hts, r_under ht, getObj, setObj, Sem.run, g2, c1, c2]
      · trivial
    · trivial
  · trivial

end Go.Ev
end

section
namespace Go.Ev
open Go.RowKit
variable {P : Program} {w : World} {ι : Im} {o : Oper} {a : Act} {d n : Nat} {L : TT AV d} {H : Hp}

theorem zeroCells_eq (zv : Value) (k : Nat) : Builtin.zeroCells zv.cells k = (repV zv.cells.toList k).toArray := by
  have := range_zero zv.cells k zv.cells.size rfl
  unfold Builtin.zeroCells; exact this

theorem e_clearM {t k e : TypeId} {x : Operand} (ho : o.op = .call { callee := .builtin .clear, args := #[x], argTypes := #[t] }) (ht : P.underlying t = some (.map k e)) (hH : HR ι H w) (h : LR ι d n L a.tmps) :
    VOk P o a.eval ι H w (clearM H ((opnd d n x).f L)) := by
  have hx := opnd_rep h x
  unfold clearM
  split
  · rename_i e1; rw [e1] at hx; simp only [Rep] at hx
    refine ⟨.value (.tuple #[]), _, w, ι, ?_, .inl rfl, by simp [Rep], hH, Fr.refl _ _ _⟩
    simp [execOp, ho, resolve, invoke, builtin, Builtin.clear_, hx, r_under ht]
  · rename_i b e1; rw [e1] at hx; simp only [Rep] at hx
    obtain ⟨loc, h1, h2⟩ := hx
    have hb := hH.blk b (hH.lt h1)
    split
    · rename_i es clock hg
      rw [hg] at hb
      obtain ⟨l', ES, g1, g2, g3⟩ := hb
      rw [h1] at g1; cases g1
      obtain ⟨m1, m2⟩ := setMap_ok hH h1 hg [] clock (ES' := []) (by simp [RepE])
      refine ⟨.value (.tuple #[]), _, _, ι, ?_, .inl rfl, by simp [Rep], m1, m2⟩
      simp [execOp, ho, resolve, invoke, builtin, Builtin.clear_, h2, r_under ht, getObj, setObj, Sem.run, g2]
    · trivial
  · trivial

theorem e_clearSl {t e : TypeId} {x : Operand} (ho : o.op = .call { callee := .builtin .clear, args := #[x], argTypes := #[t] }) (ht : P.underlying t = some (.slice e)) {ap : Ap} (hap : apS P e = some ap) (hH : HR ι H w) (h : LR ι d n L a.tmps) :
    VOk P o a.eval ι H w (clearSl ap.zl H ((opnd d n x).f L)) := by
  have hx := opnd_rep h x
  obtain ⟨a1, a2, a3, a4, _⟩ := apS_parts hap
  obtain ⟨zv, z1, z2, z3⟩ := zeroT_rep (ι := ι) a3
  unfold clearSl
  split
  · rename_i e1; rw [e1] at hx; simp only [Rep] at hx
    refine ⟨.value (.tuple #[]), _, w, ι, ?_, .inl rfl, by simp [Rep], hH, Fr.refl _ _ _⟩
    simp [execOp, ho, resolve, invoke, builtin, Builtin.clear_, hx, r_under ht]
  · rename_i b i m cap ex e1; rw [e1] at hx; simp only [Rep] at hx
    obtain ⟨_, loc, h1, h2⟩ := hx
    cases hm : Nat.beq m 0 with
    | true =>
      have hm := beq_t hm; subst hm
      refine ⟨.value (.tuple #[]), _, w, ι, ?_, .inl rfl, by simp [Rep], hH, Fr.refl _ _ _⟩
      simp [execOp, ho, resolve, invoke, builtin, Builtin.clear_, h2, r_under ht]
    | false =>
      have hm := beq_f hm
      simp only [cond_false]
      cases hst : storeAt H b i (reps ap.zl m) .undef with
      | bad => trivial
      | ok v H' =>
        obtain ⟨rfl, w', r1, r2, r3⟩ := storeAt_ok P hH h1 (reps_rep z2 m) (fun v hv => z3 v (repV_mem hv)) hst
        refine ⟨.value (.tuple #[]), _, w', ι, ?_, .inl rfl, by simp [Rep], r2, r3⟩
        obtain ⟨m', rfl⟩ : ∃ m', m = m' + 1 := ⟨m - 1, by omega⟩
        simp [execOp, ho, resolve, invoke, builtin, Builtin.clear_, h2, r_under ht, r_zeroV z1, zeroCells_eq, r1]
  · trivial

/-- append(s, make([]T, n)...): zeros, in place -/
theorem run_appz_in {t u e ty : TypeId} (ht : P.underlying t = some (.slice e)) {kk : IntKind} (hu : P.underlying u = some (.int kk)) {z b : Nat} (hz : sizeT P e = some z) (hb : bytesT P e = some b) {zv : Value} (hzv : (P.info? e).bind (·.zero) = some zv) {zl : List AV} (hzr : RepL ι zl zv.cells.toList) (hzl : zl.length = z) (base : Option Addr) (len C : Nat) {k2 : IntKind} {m : Nat}
    (hm : m ≤ 1099511627776) (hmb : m * b ≤ 1099511627776) (hle : len + m ≤ C) {w' : World}
    (hst : ∀ ad, base = some ad → (storeCells (ad.add (len * z)) (repV zv.cells.toList m)).run P w = .ok () w') (hno : base = none → w' = w) :
    (Builtin.append_ #[t, u] ty #[.slice base len C, .int k2 (m : Int)]).run P w = .ok (.slice base (len + m) C) w' := by
  obtain ⟨ti, ti1, ti2⟩ := r_bytes (P := P) hb
  have w1 : IntKind.i64.wrap (m : Int) = m := IntWalk.i64_in _ (by omega)
  have hlt : ¬ ((m : Int) < 0) := by omega
  have hbig : ¬ (281474976710656 < (m : Int) * (ti.bytes : Int)) := by
    rw [ti2]
    have : ((m * b : Nat) : Int) ≤ 281474976710656 := by omega
    have e : ((m * b : Nat) : Int) = (m : Int) * (b : Int) := by simp
    omega
  have hsz : zv.cells.size = z := by have := hzr.length; simp at this; omega
  have hnil : m * z = 0 → repV zv.cells.toList m = [] := fun h0 => List.length_eq_zero_iff.1 (by rw [repV_length]; simp [hsz, h0])
  by_cases h0 : m * z = 0
  · have hr := hnil h0
    cases base with
    | none => rw [hno rfl]; simp [Builtin.append_, r_under ht, r_under hu, r_size hz, asInt, asIntOf, w1, hlt, ti1, hbig, h0, hle]
    | some ad => have hst := hst ad rfl; rw [hr] at hst; simp [Builtin.append_, r_under ht, r_under hu, r_size hz, asInt, asIntOf, w1, hlt, ti1, hbig, h0, hle, hst]
  · cases base with
    | none => rw [hno rfl]; simp [Builtin.append_, r_under ht, r_under hu, r_size hz, asInt, asIntOf, w1, hlt, ti1, hbig, hle, r_zeroV hzv]
    | some ad => have hst := hst ad rfl; simp [Builtin.append_, r_under ht, r_under hu, r_size hz, asInt, asIntOf, w1, hlt, ti1, hbig, h0, hle, r_zeroV hzv, zeroCells_eq, hst]


set_option maxHeartbeats 1000000 in
/-- append(s, make([]T, n)...): zeros, a new row -/
theorem run_appz_new {t u e ty : TypeId} (ht : P.underlying t = some (.slice e)) {kk : IntKind} (hu : P.underlying u = some (.int kk)) {z b : Nat} (hz : sizeT P e = some z) (hb : bytesT P e = some b) {zv : Value} (hzv : (P.info? e).bind (·.zero) = some zv) {zl : List AV} (hzr : RepL ι zl zv.cells.toList) (hzl : zl.length = z) (base : Option Addr) (len C : Nat) {k2 : IntKind} {m : Nat} {ovs : List Value}
    (hm : m ≤ 1099511627776) (hmb : m * b ≤ 1099511627776) (hof : (Builtin.firstCells z len (.slice base len C)).run P w.drew = .ok ovs.toArray w.drew) (hgt : ¬ len + m ≤ C) (hbig : (len + m) * b ≤ 1099511627776) (hbig2 : len + m ≤ 1099511627776) :
    ∃ newCap, len + m ≤ newCap ∧ (Builtin.append_ #[t, u] ty #[.slice base len C, .int k2 (m : Int)]).run P w = .ok (.slice (some ⟨w.heap.size, 0, none⟩) (len + m) newCap) (w.drew.alloc (.cells (ovs.toArray ++ (repV zv.cells.toList m).toArray ++ Builtin.zeroCells zv.cells (newCap - (len + m))) e)) := by
  obtain ⟨ti, ti1, ti2⟩ := r_bytes (P := P) hb
  have w1 : IntKind.i64.wrap (m : Int) = m := IntWalk.i64_in _ (by omega)
  have hlt : ¬ ((m : Int) < 0) := by omega
  have hb2 : ¬ (281474976710656 < (m : Int) * (ti.bytes : Int)) := by
    rw [ti2]
    have : ((m * b : Nat) : Int) ≤ 281474976710656 := by omega
    have e : ((m * b : Nat) : Int) = (m : Int) * (b : Int) := by simp
    omega
  have hsz : zv.cells.size = z := by have := hzr.length; simp at this; omega
  have hnil : m * z = 0 → repV zv.cells.toList m = [] := fun h0 => List.length_eq_zero_iff.1 (by rw [repV_length]; simp [hsz, h0])
  have hnc := nextcap_le (need := len + m) (old := C) (by omega)
  have h2 : ¬ (2 ^ 48 < Builtin.nextslicecap (len + m) C * ti.bytes) := by
    have hm : Builtin.nextslicecap (len + m) C * ti.bytes ≤ 3 * (len + m) * ti.bytes := Nat.mul_le_mul_right _ hnc
    rw [ti2] at hm ⊢
    have : 3 * (len + m) * b = 3 * ((len + m) * b) := Nat.mul_assoc _ _ _
    omega
  refine ⟨(Question.appendCap (len + m) C e).cut (w.tape w.drawn (.appendCap (len + m) C e)), by simp only [Question.cut]; omega, ?_⟩
  generalize hcap : (Question.appendCap (len + m) C e).cut (w.tape w.drawn (.appendCap (len + m) C e)) = cap
  by_cases h0 : m * z = 0
  · rw [hnil h0]
    simp [Builtin.append_, r_under ht, r_under hu, r_size hz, asInt, asIntOf, w1, hlt, ti1, hb2, hgt, h2, Question.forced, hcap, hof, h0, r_zeroV hzv, newRow]
    intro hbad; omega
  · simp [Builtin.append_, r_under ht, r_under hu, r_size hz, asInt, asIntOf, w1, hlt, ti1, hb2, hgt, h2, Question.forced, hcap, hof, h0, r_zeroV hzv, newRow]
    rw [if_neg (by omega), zeroCells_eq zv m, ← Array.append_assoc]
    simp

theorem e_appz {t u e : TypeId} {x y : Operand} (ho : o.op = .call { callee := .builtin .append, args := #[x, y], argTypes := #[t, u] }) (ht : P.underlying t = some (.slice e)) {kk : IntKind} (hu : P.underlying u = some (.int kk)) {ap : Ap} (hap : apS P e = some ap) (hH : HR ι H w) (h : LR ι d n L a.tmps) :
    VOk P o a.eval ι H w (appendV ap.z ap.w H ((opnd d n x).f L) (zerosOf ap.w ap.zl ((opnd d n y).f L))) := by
  have hx := opnd_rep h x
  have hy := opnd_rep h y
  obtain ⟨a1, a2, a3, a4, _⟩ := apS_parts hap
  obtain ⟨zv, a5, z2, z3⟩ := zeroT_rep (ι := ι) a3
  cases hs : zerosOf ap.w ap.zl ((opnd d n y).f L) with
  | none => trivial
  | some s =>
    unfold zerosOf at hs
    split at hs
    · rename_i k2 m e2
      rw [e2] at hy; simp only [Rep] at hy
      cases hmm : (Nat.ble m bigB && Nat.ble (Nat.mul m ap.w) bigB) with
      | false => rw [hmm] at hs; cases hs
      | true =>
        rw [hmm] at hs; simp only [cond_true, Option.some.injEq] at hs; subst hs
        simp only [Bool.and_eq_true] at hmm
        have m1 : m ≤ 1099511627776 := ble_t hmm.1
        have m2 : m * ap.w ≤ 1099511627776 := ble_t hmm.2
        have hy : a.eval y = .int k2 (m : Int) := hy
        have run : ∀ S V w', a.eval x = S → (Builtin.append_ #[t, u] o.type #[S, .int k2 (m : Int)]).run P w = .ok V w' → (execOp a.eval o).run P w = .ok (.value V) w' := fun S V w' h1 h2 => by
          simp [execOp, ho, resolve, invoke, builtin, h1, hy, h2]
        have x1 := reps_rep z2 m
        have x2 : ∀ v ∈ repV zv.cells.toList m, v.oneCell = true := fun v hv => z3 v (repV_mem hv)
        have x3 : (repV zv.cells.toList m).length = m * ap.z := by rw [repV_length, z2.length, a4]
        cases hv : appendV ap.z ap.w H ((opnd d n x).f L) (some ⟨m, reps ap.zl m⟩) with
        | bad => trivial
        | ok v H' =>
          unfold appendV at hv
          simp only at hv
          split at hv
          · rename_i e1
            rw [e1] at hx; simp only [Rep] at hx
            cases hn : Nat.beq m 0 with
            | true =>
              have hn := beq_t hn
              subst hn
              simp only [show Nat.beq 0 0 = true from rfl, cond_true, R1.ok.injEq] at hv
              obtain ⟨rfl, rfl⟩ := hv
              have r := run_appz_in (P := P) (ty := o.type) (k2 := k2) ht hu a1 a2 a5 z2 a4 none 0 0 m1 m2 (by omega) (w' := w) (fun _ h => by cases h) (fun _ => rfl)
              exact ⟨_, .slice none 0 0, w, ι, run _ _ _ hx r, .inl rfl, by simp only [Rep], hH, Fr.refl _ _ _⟩
            | false =>
              rw [hn] at hv; simp only [cond_false] at hv
              have hn := beq_f hn
              cases hbg : (Nat.ble (Nat.mul m ap.w) bigB && Nat.ble m bigB) with
              | false => rw [hbg] at hv; cases hv
              | true =>
                rw [hbg] at hv; simp only [cond_true] at hv
                obtain ⟨nc, c1, c2⟩ := run_appz_new (P := P) (w := w) (ty := o.type) (k2 := k2) (ovs := []) ht hu a1 a2 a5 z2 a4 none 0 0 m1 m2 (by simp [Builtin.firstCells]) (by omega) (by rw [Nat.zero_add]; exact m2) (by omega)
                rw [Nat.zero_add] at c1 c2
                obtain ⟨ι', d1, d2, d3⟩ := grow_ok hap hH (ovs := []) (show RepL ι [] [] by simp [RepL]) (by simp) x1 x2 (by simp [x3]) hv nc c1 a5 w.drew rfl
                exact ⟨_, _, _, ι', run _ _ _ hx c2, .inl rfl, d1, d2, d3⟩
          · rename_i b i len cap ex e1
            rw [e1] at hx; simp only [Rep] at hx
            obtain ⟨hlc, loc, h1, h2⟩ := hx
            cases hin : Nat.ble (len + m) cap with
            | true =>
              rw [hin] at hv; simp only [cond_true] at hv
              have hin := ble_t hin
              obtain ⟨rfl, w', r1, r2, r3⟩ := storeAt_ok P hH h1 x1 x2 hv
              have r := run_appz_in (P := P) (ty := o.type) (k2 := k2) ht hu a1 a2 a5 z2 a4 (some ⟨loc.blk, loc.base + i, none⟩) len (if ex then cap else cap + loc.ext) m1 m2 (by split <;> omega) (w' := w')
                (fun ad h => by cases h; rw [addr_add, Nat.add_assoc]; exact r1) (fun h => by cases h)
              refine ⟨_, _, w', ι, run _ _ _ h2 r, .inl rfl, ?_, r2, r3⟩
              simp only [Rep]; exact ⟨hin, loc, h1, rfl⟩
            | false =>
              rw [hin] at hv; simp only [cond_false] at hv
              have hin := ble_f hin
              cases hbg : (Nat.ble (Nat.mul (len + m) ap.w) bigB && Nat.ble (len + m) bigB) with
              | false => rw [hbg] at hv; cases hv
              | true =>
                rw [hbg] at hv; simp only [cond_true] at hv
                simp only [Bool.and_eq_true] at hbg
                have g1 : (len + m) * ap.w ≤ 1099511627776 := ble_t hbg.1
                have g2 : len + m ≤ 1099511627776 := ble_t hbg.2
                split at hv
                · cases hv
                · rename_i old hold
                  have grown : ∀ C, ¬ len + m ≤ C → a.eval x = .slice (some ⟨loc.blk, loc.base + i, none⟩) len C → ∀ (H1 : Hp), HR ι H1 w → Fr ι ι H H1 w w → grow ap.z H1 old ⟨m, reps ap.zl m⟩ (len + m) = .ok v H' → VOk P o a.eval ι H w (.ok v H') := by
                    intro C hC hxC H1 hH1 hF1 hg
                    obtain ⟨ovs, o1, o2, o3, o4⟩ := old_ok (P := P) (w := w.drew) (C := C) hH.drew h1 hold
                    obtain ⟨nc, c1, c2⟩ := run_appz_new (P := P) (w := w) (ty := o.type) (k2 := k2) ht hu a1 a2 a5 z2 a4 (some ⟨loc.blk, loc.base + i, none⟩) len C m1 m2 o4 hC g1 g2
                    obtain ⟨ι', d1, d2, d3⟩ := grow_ok hap hH1 o1 o2 x1 x2 (by rw [o3, x3, Nat.add_mul]) hg nc c1 a5 w.drew rfl
                    exact ⟨_, _, _, ι', run _ _ _ hxC c2, .inl rfl, d1, d2, hF1.trans d3⟩
                  cases ex with
                  | true =>
                    simp only [cond_true] at hv
                    exact grown cap hin (by simpa using h2) H hH (Fr.refl _ _ _) hv
                  | false =>
                    simp only [cond_false] at hv
                    cases hend : endsAt (H.get b) (i + cap * ap.z) ap.z with
                    | false => rw [hend] at hv; cases hv
                    | true =>
                      rw [hend] at hv; simp only [cond_true] at hv
                      simp only [Bool.false_eq_true, if_false] at h2
                      by_cases hfit : len + m ≤ cap + loc.ext
                      · obtain ⟨w', ι', q1, q2, q3, q4⟩ := over_ok (P := P) (x := ⟨m, reps ap.zl m⟩) hH h1 hend hold x1 x2 x3 hlc hin hfit hv
                        have r := run_appz_in (P := P) (ty := o.type) (k2 := k2) ht hu a1 a2 a5 z2 a4 (some ⟨loc.blk, loc.base + i, none⟩) len (cap + loc.ext) m1 m2 hfit (w' := w')
                          (fun ad h => by cases h; rw [addr_add]; exact q1) (fun h => by cases h)
                        exact ⟨_, _, w', ι', run _ _ _ h2 r, .inl rfl, q2, q3, q4⟩
                      · have hwr : (H.get b).wr = true := by
                          unfold endsAt at hend
                          split at hend
                          · rename_i hg; rw [hg]; rfl
                          · cases hend
                        obtain ⟨k1, k2⟩ := hH.kill (hH.lt h1) hwr
                        exact grown _ hfit h2 _ k1 k2 hv
          · cases hv
    · cases hs

end Go.Ev
end

section
namespace Go.Ev
open Go.RowKit
variable {P : Program} {w : World} {ι : Im} {o : Oper} {a : Act} {d n : Nat} {L : TT AV d} {H : Hp}

/-- what a call that answers `v` leaves -/
def Post (ι : Im) (H : Hp) (w : World) (v : AV) (H' : Hp) : Ending → World → Prop
  | .returned V, w' => ∃ ι', Rep ι' v V ∧ HR ι' H' w' ∧ Fr ι ι' H H' w w'
  | _, _ => False

structure CallOk (P : Program) (call : Call) : Prop where
  fn : ∀ f args H v H', call (.f f) args H = .ok v H' → ∀ ι w ARGS, HR ι H w → RepL ι args ARGS →
    (callFunc f ARGS.toArray).run P w = .ok (.enter f ARGS.toArray) w ∧ ∀ m, CallsIn Fence.wide m P f ARGS.toArray w (Post ι H w v H')
  yd : ∀ b args H v H', call (.y b) args H = .ok v H' → ∀ ι w ARGS loc, HR ι H w → RepL ι args ARGS → ι b = some loc →
    ∃ f tmps assign body, (Instr.yield loc.blk ARGS.toArray).run P w = .ok (.round loc.blk f tmps assign body) w ∧
      ∀ m, RoundIn Fence.wide m P loc.blk f tmps assign body w (Post ι H w v H')
  df : ∀ f args H v H', call (.d f) args H = .ok v H' → ∀ ι w ARGS, HR ι H w → RepL ι args ARGS →
    (callFunc f ARGS.toArray).run P w = .ok (.enter f ARGS.toArray) w ∧ ∀ m, CallsDIn Fence.wide m P f ARGS.toArray .returning w (fun e u' w' => u' = .returning ∧ Post ι H w v H' e w')

/-- a wide fence, inside of a round or not -/
structure Fence.IsWide (F : Fence) : Prop where
  eq : ∃ r, F = { Fence.wide with round := r }
theorem Fence.isWide : Fence.IsWide Fence.wide := ⟨none, rfl⟩
theorem Fence.isWide_round (l : Nat) : Fence.IsWide (Fence.wide.inRound l) := ⟨some l, rfl⟩
theorem Fence.IsWide.fn {F : Fence} (h : Fence.IsWide F) (f : FuncId) : F.fn f := by obtain ⟨r, rfl⟩ := h; trivial
theorem Fence.IsWide.depth {F : Fence} (h : Fence.IsWide F) : F.depth = none := by obtain ⟨r, rfl⟩ := h; rfl
theorem Fence.IsWide.calls {F : Fence} (h : Fence.IsWide F) {m : Nat} {f : FuncId} {args : Array Value} {R : Ending → World → Prop} (k : CallsIn Fence.wide m P f args w R) : CallsIn F m P f args w R := by
  obtain ⟨r, rfl⟩ := h; exact k
theorem Fence.IsWide.round {F : Fence} (h : Fence.IsWide F) {m l : Nat} {f : FuncId} {tmps : Array Value} {assign body : Code} {R : Ending → World → Prop} (k : RoundIn Fence.wide m P l f tmps assign body w R) : RoundIn F m P l f tmps assign body w R := by
  obtain ⟨r, rfl⟩ := h; exact k

theorem semAt_exec {F : Fence} {ρ : Operand → Value} (h : ∀ c, o.op ≠ .defer c) : o.semAt F.round ρ = execOp ρ o := by
  cases F.round with
  | none => exact Oper.semAt_none ..
  | some l => exact Oper.semAt_some l ρ o h

/-- what comes behind -/
def Nx (ι : Im) (H : Hp) (w : World) (a : Act) (o : Oper) (v : AV) (H' : Hp) (next : Act → World → Prop) : Prop :=
  ∀ V w' ι', Rep ι' v V → HR ι' H' w' → Fr ι ι' H H' w w' → next (a.put o.dst V) w'

theorem wp_of_VOk {F : Fence} (hF : Fence.IsWide F) (hd : ∀ c, o.op ≠ .defer c) {v : AV} {H' : Hp} (h : VOk P o a.eval ι H w (.ok v H')) {m : Nat} {next : Act → World → Prop} {Q : Exit → Act → World → Prop} (hn : Nx ι H w a o v H' next) :
    o.wpIn F m P a w next Q := by
  obtain ⟨N, V, w', ι', h1, h2, h3, h4, h5⟩ := h
  refine ⟨fun f _ => hF.fn f, ?_⟩
  rw [semAt_exec hd, h1]
  rcases h2 with rfl | ⟨rfl, rfl⟩
  · exact hn _ _ _ h3 h4 h5
  · exact hn _ _ _ h3 h4 h5

theorem post_next {v : AV} {H' : Hp} {next : Act → World → Prop} {Q : Exit → Act → World → Prop} (hn : Nx ι H w a o v H' next) :
    ∀ e w', Post ι H w v H' e w' → (match e, w' with
      | .returned v, w'' => next (a.put o.dst v) w''
      | .panicked chain, w'' => Q (.panic chain) a w''
      | .outgrown, _ => LetsOut Q) := by
  intro e w' h
  cases e with
  | returned V => obtain ⟨ι', h1, h2, h3⟩ := h; exact hn _ _ _ h1 h2 h3
  | panicked => exact h.elim
  | outgrown => exact h.elim

theorem wp_call {F : Fence} (hF : Fence.IsWide F) {c : Go.Call} (ho : o.op = .call c) {x : Operand} (hc : c.callee = .value x) {call : Call} (hC : CallOk P call) (hH : HR ι H w) {fv : AV} (hx : Rep ι fv (a.eval x)) {args : List AV} (ha : RepL ι args (c.args.toList.map a.eval))
    {v : AV} {H' : Hp} (h : callV call fv args H = .ok v H') {m : Nat} {next : Act → World → Prop} {Q : Exit → Act → World → Prop} (hn : Nx ι H w a o v H' next) : o.wpIn F m P a w next Q := by
  refine ⟨fun f _ => hF.fn f, ?_⟩
  rw [semAt_exec (by intro c'; rw [ho]; exact fun h => by cases h)]
  have hargs : c.args.map a.eval = (c.args.toList.map a.eval).toArray := by rw [← Array.toList_map]
  unfold callV at h
  split at h
  · rename_i g first cap
    simp only [Rep] at hx
    obtain ⟨A, C, h1, h2, h3⟩ := hx
    obtain ⟨c1, c2⟩ := hC.fn _ _ _ _ _ h ι w (A ++ c.args.toList.map a.eval ++ C) hH ((h1.append ha).append h2)
    have : (execOp a.eval o).run P w = .ok (.enter g (A ++ c.args.toList.map a.eval ++ C).toArray) w := by
      simp only [execOp, ho, resolve, hc, h3, Deferred.ofValue, hargs]
      simpa [invoke] using c1
    rw [this]
    exact ⟨by simp [hF.depth], CallsIn.mono (hF.calls (c2 _)) (post_next hn)⟩
  · rename_i b
    simp only [Rep] at hx
    obtain ⟨loc, h1, h3⟩ := hx
    obtain ⟨f, tmps, assign, body, c1, c2⟩ := hC.yd _ _ _ _ _ h ι w _ loc hH ha h1
    have : (execOp a.eval o).run P w = .ok (.round loc.blk f tmps assign body) w := by
      simp only [execOp, ho, resolve, hc, h3, Deferred.ofValue, hargs]
      simpa [invoke] using c1
    rw [this]
    exact ⟨by simp [hF.depth], RoundIn.mono (hF.round (c2 _)) (post_next hn)⟩
  · cases h

end Go.Ev
end

section
namespace Go.Ev
open Go.RowKit
variable {P : Program} {w : World} {ι : Im} {o : Oper} {a : Act} {d n : Nat} {L : TT AV d} {H : Hp} {call : Call} {F : Fence} {m : Nat} {next : Act → World → Prop} {Q : Exit → Act → World → Prop}

theorem appB_e {args : List Operand} {ts : List TypeId} (ho : o.op = .call { callee := .builtin .append, args := args.toArray, argTypes := ts.toArray }) {f : Call → TT AV d → Hp → R1} (hf : appB P d n args ts = .e f) (hH : HR ι H w) (h : LR ι d n L a.tmps) : VOk P o a.eval ι H w (f call L H) := by
  unfold appB at hf
  split at hf
  · split at hf
    · rename_i e1
      split at hf
      · rename_i e2 e3; cases hf; exact e_appz ho e1 e3 e2 hH h
      · rename_i e2 e3; cases hf; exact e_append ho e1 e3 (.inr ⟨_, rfl⟩) e2 hH h
      · rename_i e2 e3; cases hf; exact e_append ho e1 e3 (.inl rfl) e2 hH h
      · cases hf; trivial
    · cases hf; trivial
  · cases hf; trivial
theorem copyB_e {args : List Operand} {ts : List TypeId} (ho : o.op = .call { callee := .builtin .copy, args := args.toArray, argTypes := ts.toArray }) {f : Call → TT AV d → Hp → R1} (hf : copyB P d n args ts = .e f) (hH : HR ι H w) (h : LR ι d n L a.tmps) : VOk P o a.eval ι H w (f call L H) := by
  unfold copyB at hf
  split at hf
  · split at hf
    · rename_i e1
      split at hf
      · rename_i e2; cases hf; exact e_copy ho e1 e2 hH h
      · cases hf; trivial
    · cases hf; trivial
  · cases hf; trivial
theorem delB_e {args : List Operand} {ts : List TypeId} (ho : o.op = .call { callee := .builtin .delete, args := args.toArray, argTypes := ts.toArray }) {f : Call → TT AV d → Hp → R1} (hf : delB P d n args ts = .e f) (hH : HR ι H w) (h : LR ι d n L a.tmps) : VOk P o a.eval ι H w (f call L H) := by
  unfold delB at hf
  split at hf
  · split at hf
    · rename_i e1
      split at hf
      · rename_i e2; cases hf; exact e_del ho (by simp) e1 e2 hH h
      · cases hf; trivial
    · cases hf; trivial
  · cases hf; trivial
theorem clrB_e {args : List Operand} {ts : List TypeId} (ho : o.op = .call { callee := .builtin .clear, args := args.toArray, argTypes := ts.toArray }) {f : Call → TT AV d → Hp → R1} (hf : clrB P d n args ts = .e f) (hH : HR ι H w) (h : LR ι d n L a.tmps) : VOk P o a.eval ι H w (f call L H) := by
  unfold clrB at hf
  split at hf
  · split at hf
    · rename_i e1
      split at hf
      · rename_i e2; cases hf; exact e_clearSl ho e1 e2 hH h
      · cases hf; trivial
    · rename_i e1; cases hf; exact e_clearM ho e1 hH h
    · cases hf; trivial
  · cases hf; trivial
theorem lenB_e {args : List Operand} {ts : List TypeId} {f : Call → TT AV d → Hp → R1} (hf : lenB P d n args ts = .e f) : f call L H = .bad := by
  unfold lenB at hf
  split at hf
  · split at hf
    · cases hf
    · split at hf <;> cases hf; rfl
    · cases hf
    · cases hf
    · cases hf
    · cases hf; rfl
  · cases hf; rfl
theorem capB_e {args : List Operand} {ts : List TypeId} {f : Call → TT AV d → Hp → R1} (hf : capB P d n args ts = .e f) : f call L H = .bad := by
  unfold capB at hf
  split at hf
  · split at hf
    · cases hf
    · cases hf
    · cases hf; rfl
  · cases hf; rfl
theorem minB_e {args : List Operand} {f : Call → TT AV d → Hp → R1} (hf : minB d n args = .e f) : f call L H = .bad := by
  unfold minB at hf
  split at hf
  · cases hf
  · cases hf; rfl
theorem maxB_e {args : List Operand} {f : Call → TT AV d → Hp → R1} (hf : maxB d n args = .e f) : f call L H = .bad := by
  unfold maxB at hf
  split at hf
  · cases hf
  · cases hf; rfl

theorem builtinS_e {b : Builtin} {args : Array Operand} {ts : Array TypeId} (ho : o.op = .call { callee := .builtin b, args, argTypes := ts }) {f : Call → TT AV d → Hp → R1} (hf : builtinS P d n b args.toList ts.toList = .e f) (hH : HR ι H w) (h : LR ι d n L a.tmps) :
    VOk P o a.eval ι H w (f call L H) := by
  unfold builtinS at hf
  split at hf
  · rw [lenB_e hf]; trivial
  · rw [capB_e hf]; trivial
  · rw [minB_e hf]; trivial
  · rw [maxB_e hf]; trivial
  · exact appB_e (by simpa using ho) hf hH h
  · exact copyB_e (by simpa using ho) hf hH h
  · exact delB_e (by simpa using ho) hf hH h
  · exact clrB_e (by simpa using ho) hf hH h
  · cases hf; trivial

/-- an operation with effects -/
theorem opS_e {f : Call → TT AV d → Hp → R1} (hf : opS P d n o = .e f) (hC : CallOk P call) (hF : Fence.IsWide F) (hH : HR ι H w) (h : LR ι d n L a.tmps) {v : AV} {H' : Hp} (he : f call L H = .ok v H') (hn : Nx ι H w a o v H' next) :
    o.wpIn F m P a w next Q := by
  have bad : badOp d = .e f → False := fun e => by cases e; cases he
  unfold opS at hf
  split at hf
  · cases hf
  · cases hf
  · cases hf
  · unfold sAlloc at hf; split at hf
    · cases hf
    · exact (bad hf).elim
  · unfold sBox at hf; split at hf
    · cases hf
    · cases hf
    · exact (bad hf).elim
  · unfold sBuild at hf
    split at hf
    · split at hf
      · split at hf
        · cases hf
        · exact (bad hf).elim
      · exact (bad hf).elim
    · split at hf
      · split at hf
        · cases hf
        · exact (bad hf).elim
      · exact (bad hf).elim
    · exact (bad hf).elim
  · unfold sBuildSlice at hf
    split at hf
    · split at hf
      · rename_i s z e2 e3
        cases hc : (Nat.ble (_ * s) 65536 && Nat.beq z.length s) with
        | false => rw [hc] at hf; exact (bad hf).elim
        | true =>
          rw [hc] at hf; simp only [cond_true] at hf
          split at hf
          · cases hf
          · exact (bad hf).elim
      · exact (bad hf).elim
    · exact (bad hf).elim
  · unfold sLoad at hf; split at hf
    · cases hf
    · cases hf
    · exact (bad hf).elim
  · rename_i ho
    refine wp_of_VOk hF (by intro c; rw [ho]; exact fun h => by cases h) ?_ hn
    unfold sStore at hf
    split at hf
    · rename_i e1 e2 e3 e4; cases hf
      have := e_storeA (P := P) ho e2 hH h
      rw [e3, e4] at this; rw [← he]; exact this
    · rename_i e1 e2 e3 e4; cases hf
      have := e_store1 (P := P) ho e2 hH h
      rw [e3, e4] at this; rw [← he]; exact this
    · exact (bad hf).elim
  · cases hf
  · cases hf
  · cases hf
  · unfold sConvert at hf
    split at hf
    · cases hf
    · cases hf
    · split at hf
      · cases hf
      · exact (bad hf).elim
    · split at hf
      · split at hf
        · cases hf
        · exact (bad hf).elim
      · exact (bad hf).elim
    · exact (bad hf).elim
  · unfold sMakeInterface at hf
    split at hf
    · exact (bad hf).elim
    · cases hf
    · exact (bad hf).elim
  · cases hf
  · cases hf
  · unfold sMakeSlice at hf
    split at hf
    · split at hf
      · rename_i z w' s e4 e5 e6
        cases hc : Nat.beq z.length s with
        | false => rw [hc] at hf; exact (bad hf).elim
        | true => rw [hc] at hf; cases hf
      · exact (bad hf).elim
    · exact (bad hf).elim
  · unfold sSlice at hf
    split at hf
    · split at hf
      · cases hf
      · exact (bad hf).elim
    · split at hf
      · cases hf
      · exact (bad hf).elim
    · split at hf
      · cases hf
      · exact (bad hf).elim
    · split at hf
      · split at hf
        · cases hf
        · exact (bad hf).elim
      · exact (bad hf).elim
    · exact (bad hf).elim
  · unfold sFieldAddr at hf
    split at hf
    · split at hf
      · split at hf
        · cases hf
        · exact (bad hf).elim
      · exact (bad hf).elim
    · exact (bad hf).elim
  · unfold sField at hf
    split at hf
    · split at hf
      · cases hf
      · exact (bad hf).elim
    · exact (bad hf).elim
  · unfold sIndexAddr at hf
    split at hf
    · split at hf
      · cases hf
      · exact (bad hf).elim
    · split at hf
      · cases hf
      · exact (bad hf).elim
    · exact (bad hf).elim
  · unfold sIndex at hf
    split at hf
    · cases hf
    · split at hf
      · cases hf
      · exact (bad hf).elim
    · exact (bad hf).elim
  · unfold sLookup at hf
    split at hf
    · split at hf
      · cases hf
      · exact (bad hf).elim
    · exact (bad hf).elim
  · rename_i ho
    refine wp_of_VOk hF (by intro c; rw [ho]; exact fun h => by cases h) ?_ hn
    unfold sMapUpdate at hf
    split at hf
    · rename_i e1 e2 e3 e4
      split at hf
      · rename_i e5; cases hf
        have := e_upd (P := P) (.inl ho) e1 e5 hH h
        rw [e2, e3, e4] at this; rw [← he]; exact this
      · exact (bad hf).elim
    · exact (bad hf).elim
  · rename_i ho
    refine wp_of_VOk hF (by intro c; rw [ho]; exact fun h => by cases h) ?_ hn
    unfold sMapUpdate at hf
    split at hf
    · rename_i e1 e2 e3 e4
      split at hf
      · rename_i e5; cases hf
        have := e_upd (P := P) (.inr ho) e1 e5 hH h
        rw [e2, e3, e4] at this; rw [← he]; exact this
      · exact (bad hf).elim
    · exact (bad hf).elim
  · rename_i ho
    refine wp_of_VOk hF (by intro c; rw [ho]; exact fun h => by cases h) ?_ hn
    unfold sMapEntry at hf
    split at hf
    · rename_i e1 e2 e3
      split at hf
      · rename_i e5 e6; cases hf
        have := e_entry (P := P) ho e1 e5 e6 hH h
        rw [e2, e3] at this; rw [← he]; exact this
      · exact (bad hf).elim
    · exact (bad hf).elim
  · rename_i ho
    refine wp_of_VOk hF (by intro c; rw [ho]; exact fun h => by cases h) ?_ hn
    cases hf
    rw [← he]; exact e_entrySt ho hH h
  · cases hf
  · rename_i ho
    refine wp_of_VOk hF (by intro c; rw [ho]; exact fun h => by cases h) ?_ hn
    unfold sRange at hf
    split at hf
    · rename_i e1 e2; cases hf
      have := e_range (P := P) ho e1 hH h
      rw [e2] at this; rw [← he]; exact this
    · exact (bad hf).elim
  · rename_i ho
    refine wp_of_VOk hF (by intro c; rw [ho]; exact fun h => by cases h) ?_ hn
    unfold sNext at hf
    split at hf
    · rename_i e2; cases hf
      have := e_next (P := P) ho hH h
      rw [e2] at this; rw [← he]; exact this
    · exact (bad hf).elim
  · cases hf
  · rename_i ho
    refine wp_of_VOk hF (by intro c; rw [ho]; exact fun h => by cases h) ?_ hn
    rw [← he]; exact builtinS_e ho hf hH h
  · rename_i g args ts ho
    unfold sCallF at hf
    split at hf
    · cases hf
    · rename_i gg e1 e2
      cases hf
      have ha := opnds_rep h args.toList
      rw [e1] at ha
      refine wp_call hF ho rfl hC hH (fv := .fn g [] []) ?_ ha ?_ hn
      · simp only [Rep, RepL]; exact ⟨[], [], rfl, rfl, rfl⟩
      · simpa [callV] using he
  · rename_i x args ts _ ho
    cases hf
    exact wp_call hF ho rfl hC hH (opnd_rep h x) (opnds_rep h _) he hn
  · exact (bad hf).elim

end Go.Ev
end

section
namespace Go.Ev
open Go.RowKit
variable {P : Program} {w : World} {ι : Im} {o : Oper} {a : Act} {d n : Nat} {L : TT AV d} {H : Hp} {call : Call} {F : Fence} {m : Nat} {K : Act → World → Prop} {Q : Exit → Act → World → Prop} {ops : Array Oper}

theorem putS_ok (h : LR ι d n L a.tmps) (t : Option Tmp) {v : AV} {V : Value} (hv : Rep ι v V) : LR ι d n ((putS d n t).f L v) (a.put t V).tmps := by
  cases t with
  | none => exact h
  | some t =>
    unfold putS
    simp only [Act.put]
    cases hb : Nat.blt t n with
    | true => simp only [cond_true]; exact h.set (blt_t hb) hv
    | false =>
      simp only [cond_false]
      rw [Array.setIfInBounds_eq_of_size_le (by rw [h.size]; exact Nat.le_of_not_lt (blt_f hb))]
      exact h
theorem put_defers (a : Act) (t : Option Tmp) (V : Value) : (a.put t V).defers = a.defers := by cases t <;> rfl

theorem wantS_ok (h : LR ι d n L a.tmps) {b : Bool} (hw : (wantS d n ops o).f L = some b) : Region.wanted o (yielded ops a.tmps) = b := by
  unfold wantS at hw
  unfold Region.wanted
  split at hw
  · rename_i hg; rw [hg]; simpa using hw
  · rename_i j want hg
    rw [hg]
    simp only
    split at hw
    · rename_i t ht
      cases hb : Nat.blt t n with
      | false => rw [hb] at hw; cases hw
      | true =>
        rw [hb] at hw; simp only [cond_true] at hw
        have hlt := blt_t hb
        have hr := h.get t hlt
        have hy : yielded ops a.tmps j = (match a.tmps[t]? with | some (.bool b) => some b | _ => none) := by
          unfold yielded; rw [ht]; rfl
        have hsz : t < a.tmps.size := by rw [h.size]; exact hlt
        rw [hy]
        rw [Array.getD_eq_getD_getElem?, Array.getElem?_eq_getElem hsz] at hr
        rw [Array.getElem?_eq_getElem hsz]
        simp only [Option.getD_some] at hr
        split at hw
        · rename_i b' hb'
          rw [hb'] at hr
          simp only [Rep] at hr
          rw [hr]
          simp only [Option.some.injEq] at hw
          rw [← hw]; cases b' <;> cases want <;> rfl
        · rename_i hb'
          rw [hb'] at hr
          simp only [Rep] at hr
          rw [hr]
          simp only [Option.some.injEq] at hw
          rw [← hw]; cases want <;> rfl
        · cases hw
    · cases hw

/-- what comes behind a step -/
def Then (ι : Im) (H : Hp) (w : World) (a : Act) (d n : Nat) (L' : TT AV d) (H' : Hp) (K : Act → World → Prop) : Prop :=
  ∀ a' w' ι', LR ι' d n L' a'.tmps → a'.defers = a.defers → HR ι' H' w' → Fr ι ι' H H' w w' → K a' w'

theorem q_wp {lk : Bool} {f : Nat → TT AV d → Hp → R0} (hf : opS P d n o = .q lk f) (hF : Fence.IsWide F) (hH : HR ι H w) (h : LR ι d n L a.tmps) {put : TT AV d → AV → TT AV d} (hp : putS d n o.dst = ⟨put⟩) {L' : TT AV d} {H' : Hp}
    (he : doQ put L H (f H.nx L H) = .ok L' H') (hK : Then ι H w a d n L' H' K) : o.wpIn F m P a w K Q := by
  have hq := opS_q (nm := H.nx) hf hH h
  have hnd : ∀ c, o.op ≠ .defer c := fun c hc => by unfold opS at hf; rw [hc] at hf; cases hf
  have hput : ∀ {ι' : Im} (_ : ι.le ι') {v : AV} {V : Value}, Rep ι' v V → LR ι' d n (put L v) (a.put o.dst V).tmps := fun hle v V hv => by
    have := putS_ok (a := a) (h.mono hle) o.dst hv
    rw [hp] at this; exact this
  refine ⟨fun f _ => hF.fn f, ?_⟩
  rw [semAt_exec hnd]
  unfold doQ at he
  split at he
  · cases he
  · rename_i v hr
    rw [hr] at hq
    obtain ⟨V, h1, h2⟩ := hq
    rw [h1]
    cases he
    exact hK _ _ ι (hput (Im.le_refl _) h2) (put_defers ..) hH (Fr.refl ..)
  · rename_i v b hr
    rw [hr] at hq
    ·
      cases he
      obtain ⟨V, w', l, h1, h2, h3⟩ := hq
      rw [h1]
      have hnx : InH (H.nx) := inH
      obtain ⟨h4, h5⟩ := h3 (ι.set H.nx l) (Im.le_set l (hH.fresh _ (Nat.le_refl _))) (Im.set_same ..)
      obtain ⟨k1, k2⟩ := hH.push hnx l b h2.os h2.tape h2.output (by rw [h2.size]; exact Nat.lt_succ_self _) h2.keep h2.blk h5
      exact hK _ _ _ (hput (Im.le_set l (hH.fresh _ (Nat.le_refl _))) h4) (put_defers ..) k1 k2

theorem stepS_ok (hC : CallOk P call) (hF : Fence.IsWide F) (hH : HR ι H w) (h : LR ι d n L a.tmps) {L' : TT AV d} {H' : Hp} (he : (stepS P d n ops o).f call L H = .ok L' H') (hK : Then ι H w a d n L' H' K) :
    if Region.wanted o (yielded ops a.tmps) then o.wpIn F m P a w K Q else (∀ f, o.about P w a.eval = some f → F.fn f) ∧ K (a.put o.dst Go.undef) w := by
  have hput : ∀ {put : TT AV d → AV → TT AV d} (_ : putS d n o.dst = ⟨put⟩) {ι' : Im} (_ : ι.le ι') {v : AV} {V : Value}, Rep ι' v V → LR ι' d n (put L v) (a.put o.dst V).tmps := fun hp ι' hle v V hv => by
    have := putS_ok (a := a) (h.mono hle) o.dst hv
    rw [hp] at this; exact this
  have hskip : ∀ {put : TT AV d → AV → TT AV d} (_ : putS d n o.dst = ⟨put⟩), L' = put L .undef → H' = H → K (a.put o.dst Go.undef) w := fun hp h1 h2 => by
    subst h1; subst h2
    exact hK _ _ ι (hput hp (Im.le_refl _) (by simp only [Rep]; rfl)) (put_defers ..) hH (Fr.refl ..)
  have heff : ∀ {put : TT AV d → AV → TT AV d} (_ : putS d n o.dst = ⟨put⟩) {f : Call → TT AV d → Hp → R1} (_ : opS P d n o = .e f), doE put L (f call L H) = .ok L' H' → o.wpIn F m P a w K Q := fun hp f hf hd => by
    unfold doE at hd
    split at hd
    · cases hd
    · rename_i v H1 hr
      cases hd
      exact opS_e hf hC hF hH h hr fun V w' ι' r1 r2 r3 => hK _ _ ι' (hput hp r3.le r1) (put_defers ..) r2 r3
  unfold stepS at he
  split at he
  · rename_i f put hf hg hp
    simp only [Region.wanted, hg, if_true]
    exact q_wp hf hF hH h hp he hK
  · rename_i f put hf hg hp
    simp only [Region.wanted, hg, if_true]
    exact heff hp hf he
  · rename_i f _ wf put hf hg hw hp
    simp only [ifW] at he
    split at he
    · rename_i hwt
      rw [wantS_ok (o := o) (ops := ops) h (by rw [hw]; exact hwt), if_pos rfl]
      exact q_wp hf hF hH h hp he hK
    · rename_i hwt
      rw [wantS_ok (o := o) (ops := ops) h (by rw [hw]; exact hwt)]
      cases he
      exact ⟨fun f _ => hF.fn f, hskip hp rfl rfl⟩
    · cases he
  · rename_i f _ wf put hf hg hw hp
    simp only [ifW] at he
    split at he
    · rename_i hwt
      rw [wantS_ok (o := o) (ops := ops) h (by rw [hw]; exact hwt), if_pos rfl]
      exact heff hp hf he
    · rename_i hwt
      rw [wantS_ok (o := o) (ops := ops) h (by rw [hw]; exact hwt)]
      cases he
      exact ⟨fun f _ => hF.fn f, hskip hp rfl rfl⟩
    · cases he

end Go.Ev
end

section
namespace Go.Ev
open Go.RowKit

/- bits -/
theorem hasB_test (m i : Nat) : hasB m i = m.testBit i := by
  unfold hasB Nat.testBit
  rw [show Nat.land (Nat.shiftRight m i) 1 = (m >>> i) &&& 1 from rfl, Nat.and_comm 1, Nat.and_one_is_mod]
  rcases Nat.mod_two_eq_zero_or_one (m >>> i) with h | h <;> rw [h] <;> rfl
theorem hasB_lor (a b i : Nat) : hasB (Nat.lor a b) i = (hasB a i || hasB b i) := by
  simp only [hasB_test]; exact Nat.testBit_or a b i
theorem hasB_addB (m j i : Nat) : hasB (addB m j) i = (hasB m i || decide (j = i)) := by
  unfold addB; rw [hasB_lor]; congr 1
  rw [hasB_test, show Nat.shiftLeft 1 j = 1 <<< j from rfl, Nat.one_shiftLeft, Nat.testBit_two_pow]
theorem hasB_zero (i : Nat) : hasB 0 i = false := by rw [hasB_test]; exact Nat.zero_testBit i
theorem subB_has {m k : Nat} (h : subB m k = true) {i : Nat} (hi : hasB m i = true) : hasB k i = true := by
  have := Nat.eq_of_beq_eq_true h
  rw [← this, hasB_lor, hi]; rfl

/- masks -/
theorem masksFrom_length (l : List Oper) : ∀ ms, (masksFrom ms l).length = ms.length + l.length := by
  induction l with
  | nil => intro ms; simp [masksFrom]
  | cons o r ih => intro ms; rw [masksFrom, ih]; simp; omega
theorem masksFrom_lt (l : List Oper) : ∀ ms i, i < ms.length → (masksFrom ms l).getD i 0 = ms.getD i 0 := by
  induction l with
  | nil => intro ms i _; rfl
  | cons o r ih =>
    intro ms i hi
    rw [masksFrom, ih _ _ (by simp; omega), List.getD_eq_getElem?_getD, List.getD_eq_getElem?_getD, List.getElem?_append_left hi]
theorem foldMask_congr {ms ms' : List Nat} : ∀ (l : List Nat) (s : Nat), (∀ j ∈ l, ms.getD j 0 = ms'.getD j 0) →
    l.foldl (fun s j => Nat.lor (addB s j) (ms.getD j 0)) s = l.foldl (fun s j => Nat.lor (addB s j) (ms'.getD j 0)) s
  | [], _, _ => rfl
  | j :: l, s, h => by
    simp only [List.foldl_cons]
    rw [h j (by simp)]
    exact foldMask_congr l _ fun x hx => h x (by simp [hx])
theorem masksFrom_at (l : List Oper) : ∀ ms i o, l[i]? = some o → (∀ j ∈ edgesOn o, j < ms.length + i) → (masksFrom ms l).getD (ms.length + i) 0 = maskOf (masksFrom ms l) o := by
  induction l with
  | nil => intro ms i o h; simp at h
  | cons o' r ih =>
    intro ms i o h hj
    rw [masksFrom]
    cases i with
    | zero =>
      simp at h; subst h
      rw [Nat.add_zero, masksFrom_lt _ _ _ (by simp)]
      simp only [List.getD_eq_getElem?_getD, List.getElem?_concat_length, Option.getD_some]
      unfold maskOf
      refine foldMask_congr _ _ fun j hj' => ?_
      have := hj j hj'
      rw [Nat.add_zero] at this
      rw [masksFrom_lt _ _ _ (by simp; omega), List.getD_eq_getElem?_getD, List.getD_eq_getElem?_getD, List.getElem?_append_left this]
    | succ i =>
      simp at h
      have := ih (ms ++ [maskOf ms o']) i o h (fun j hj' => by have := hj j hj'; simp; omega)
      rw [show (ms ++ [maskOf ms o']).length + i = ms.length + (i + 1) by simp; omega] at this
      exact this
theorem hasB_fold (ms : List Nat) (k : Nat) : ∀ (l : List Nat) (s : Nat), hasB (l.foldl (fun s j => Nat.lor (addB s j) (ms.getD j 0)) s) k = true ↔ hasB s k = true ∨ ∃ j ∈ l, k = j ∨ hasB (ms.getD j 0) k = true
  | [], s => by simp
  | j :: l, s => by
    rw [List.foldl_cons, hasB_fold ms k l, hasB_lor, hasB_addB]
    simp only [Bool.or_eq_true, decide_eq_true_eq, List.mem_cons, exists_eq_or_imp]
    constructor
    · rintro (((h | h) | h) | h)
      · exact .inl h
      · exact .inr (.inl (.inl h.symm))
      · exact .inr (.inl (.inr h))
      · exact .inr (.inr h)
    · rintro (h | (h | h) | h)
      · exact .inl (.inl (.inl h))
      · exact .inl (.inl (.inr h.symm))
      · exact .inl (.inr h)
      · exact .inr h
theorem hasB_maskOf (ms : List Nat) (o : Oper) (k : Nat) : hasB (maskOf ms o) k = true ↔ ∃ j ∈ edgesOn o, k = j ∨ hasB (ms.getD j 0) k = true := by
  unfold maskOf; rw [hasB_fold, hasB_zero]; simp
theorem backOk_at : ∀ (l : List Oper) (k : Nat), backOk k l = true → ∀ i o, l[i]? = some o → ∀ j ∈ edgesOn o, j < k + i
  | [], _, _, i, o, h, j, hj => by simp at h
  | o' :: r, k, hb, i, o, h, j, hj => by
    simp only [backOk, Bool.and_eq_true, List.all_eq_true] at hb
    cases i with
    | zero => simp at h; subst h; exact Nat.le_of_ble_eq_true (hb.1 j hj)
    | succ i => simp at h; have := backOk_at r (k + 1) hb.2 i o h j hj; omega

/-- what is known of a region's edges -/
structure Edg (ops : Array Oper) (ms : List Nat) : Prop where
  back : ∀ i o, ops[i]? = some o → ∀ j ∈ edgesOn o, j < i
  mask : ∀ i o k, ops[i]? = some o → (hasB (ms.getD i 0) k = true ↔ ∃ j ∈ edgesOn o, k = j ∨ hasB (ms.getD j 0) k = true)
  tmps : ∀ i k o' o t, ops[i]? = some o' → ops[k]? = some o → o'.dst = some t → i = k ∨ hasB (ms.getD k 0) i = true ∨ hasB (ms.getD i 0) k = true ∨ (t ∉ rdTmps ops o ∧ o.dst ≠ some t)
theorem Edg.of {ops : Array Oper} (h1 : backOk 0 ops.toList = true) (h2 : tmpsOk ops (masksFrom [] ops.toList) = true) : Edg ops (masksFrom [] ops.toList) := by
  have hb : ∀ i o, ops[i]? = some o → ∀ j ∈ edgesOn o, j < i := fun i o h j hj => by
    have := backOk_at ops.toList 0 h1 i o (by simpa using h) j hj
    omega
  refine ⟨hb, fun i o k h => ?_, fun i k o' o t hi hk ht => ?_⟩
  · have := masksFrom_at ops.toList [] i o (by simpa using h) (fun j hj => by have := hb i o h j hj; simpa using this)
    simp only [List.length_nil, Nat.zero_add] at this
    rw [this, hasB_maskOf]
  · unfold tmpsOk at h2
    rw [List.all_eq_true] at h2
    have hlk : k < ops.size := (Array.getElem?_eq_some_iff.1 hk).1
    have hli : i < ops.size := (Array.getElem?_eq_some_iff.1 hi).1
    have h3 := h2 k (List.mem_range.2 hlk)
    rw [hk] at h3
    simp only [List.all_eq_true] at h3
    have h4 := h3 i (List.mem_range.2 hli)
    rw [hi] at h4
    simp only [ht, Bool.or_eq_true, Bool.not_eq_true', Bool.or_eq_false_iff] at h4
    rcases h4 with ((h4 | h4) | h4) | h4
    · exact .inl (Nat.eq_of_beq_eq_true h4)
    · exact .inr (.inl h4)
    · exact .inr (.inr (.inl h4))
    · refine .inr (.inr (.inr ⟨fun hm => ?_, fun he => ?_⟩))
      · have := h4.1; rw [List.contains_iff_mem.2 hm] at this; cases this
      · have := h4.2; rw [he] at this; simp at this

variable {ops : Array Oper} {ms : List Nat}
theorem Edg.ex (h : Edg ops ms) {i j : Nat} {o : Oper} (ho : ops[i]? = some o) (hj : j ∈ edgesOn o) : ∃ o', ops[j]? = some o' := by
  have h1 := h.back i o ho j hj
  have h2 : i < ops.size := (Array.getElem?_eq_some_iff.1 ho).1
  exact ⟨ops[j]'(by omega), Array.getElem?_eq_getElem (by omega)⟩
theorem Edg.anc_lt (h : Edg ops ms) : ∀ i o k, ops[i]? = some o → hasB (ms.getD i 0) k = true → k < i := by
  intro i
  induction i using Nat.strongRecOn with
  | ind i ih =>
    intro o k ho hk
    obtain ⟨j, hj, h1⟩ := (h.mask i o k ho).1 hk
    have hlt := h.back i o ho j hj
    rcases h1 with rfl | h1
    · exact hlt
    · obtain ⟨o', ho'⟩ := h.ex ho hj
      exact Nat.lt_trans (ih j hlt o' k ho' h1) hlt

/-- closed under the edges -/
def Shut (ops : Array Oper) (S : Nat → Prop) : Prop := ∀ i o, ops[i]? = some o → S i → ∀ j ∈ edgesOn o, S j
theorem Edg.anc_in (h : Edg ops ms) {S : Nat → Prop} (hS : Shut ops S) : ∀ i o k, ops[i]? = some o → (∀ j ∈ edgesOn o, S j) → hasB (ms.getD i 0) k = true → S k := by
  intro i
  induction i using Nat.strongRecOn with
  | ind i ih =>
    intro o k ho hc hk
    obtain ⟨j, hj, h1⟩ := (h.mask i o k ho).1 hk
    have hlt := h.back i o ho j hj
    rcases h1 with rfl | h1
    · exact hc _ hj
    · obtain ⟨o', ho'⟩ := h.ex ho hj
      exact ih j hlt o' k ho' (hS j o' ho' (hc j hj)) h1
theorem Edg.anc_of (h : Edg ops ms) {S : Nat → Prop} (hS : Shut ops S) {i : Nat} {o : Oper} {k : Nat} (ho : ops[i]? = some o) (hi : S i) (hk : hasB (ms.getD i 0) k = true) : S k :=
  h.anc_in hS i o k ho (hS i o ho hi) hk

/- projections -/
theorem projS_congr {d n : Nat} {L L' : TT AV d} : ∀ (ts : List Tmp), (∀ t ∈ ts, t < n → (getter d t).f L = (getter d t).f L') → (projS d n ts).f L = (projS d n ts).f L'
  | [], _ => rfl
  | t :: r, h => by
    unfold projS
    have ih := projS_congr r fun x hx => h x (by simp [hx])
    cases hb : Nat.blt t n with
    | true =>
      simp only [cond_true]
      show (setter d t).f ((projS d n r).f L) ((getter d t).f L) = (setter d t).f ((projS d n r).f L') ((getter d t).f L')
      rw [ih, h t (by simp) (blt_t hb)]
    | false => simp only [cond_false]; exact ih
theorem projS_get {d n : Nat} (hn : n ≤ 8 ^ d) {L : TT AV d} {i : Nat} (hi : i < 8 ^ d) : ∀ (ts : List Tmp), (getter d i).f ((projS d n ts).f L) = if i ∈ ts ∧ i < n then (getter d i).f L else .undef
  | [] => by simp [projS, get_same]
  | t :: r => by
    unfold projS
    have ih := projS_get (n := n) hn (L := L) hi r
    cases hb : Nat.blt t n with
    | true =>
      simp only [cond_true]
      show (getter d i).f ((setter d t).f ((projS d n r).f L) ((getter d t).f L)) = _
      rw [get_set _ _ _ _ _ hi (by have := blt_t hb; omega)]
      by_cases e : i = t
      · subst e; simp [blt_t hb]
      · rw [if_neg e, ih]; simp [e]
    | false =>
      simp only [cond_false]
      rw [ih]
      have hb := blt_f hb
      by_cases e : i = t
      · subst e; simp [hb]
      · simp [e]
def projT (ts : List Tmp) (tmps : Array Value) : Array Value := Array.ofFn (n := tmps.size) fun i => if i.1 ∈ ts then tmps[i] else Go.undef
theorem projT_size (ts : List Tmp) (tmps : Array Value) : (projT ts tmps).size = tmps.size := by simp [projT]
theorem projT_get (ts : List Tmp) (tmps : Array Value) (i : Nat) : (projT ts tmps).getD i Go.undef = if i ∈ ts then tmps.getD i Go.undef else Go.undef := by
  simp only [projT, Array.getD_eq_getD_getElem?, Array.getElem?_ofFn]
  by_cases h : i < tmps.size
  · rw [dif_pos h]; simp [h]
  · rw [dif_neg h]; simp [Array.getElem?_eq_none (Nat.le_of_not_lt h)]
theorem LR.proj {ι : Im} {d n : Nat} {L : TT AV d} {tmps : Array Value} (h : LR ι d n L tmps) (ts : List Tmp) : LR ι d n ((projS d n ts).f L) (projT ts tmps) := by
  refine ⟨by rw [projT_size, h.size], h.fits, fun i hi => ?_⟩
  rw [projS_get h.fit (Nat.lt_of_lt_of_le hi h.fit), projT_get]
  have hr := h.get i hi
  by_cases h1 : i ∈ ts
  · by_cases h2 : i < n
    · rw [if_pos ⟨h1, h2⟩, if_pos h1]; exact hr
    · rw [if_neg (by simp [h2]), if_pos h1]
      have : tmps.getD i Go.undef = Go.undef := by rw [Array.getD_eq_getD_getElem?, Array.getElem?_eq_none (by rw [h.size]; omega)]; rfl
      rw [this]; simp only [Rep]; rfl
  · rw [if_neg (by simp [h1]), if_neg h1]; simp only [Rep]; rfl

theorem eval_proj (a : Act) (ts : List Tmp) (x : Operand) (hx : ∀ t, tmpOf x = some t → t ∈ ts) : ({ a with tmps := projT ts a.tmps } : Act).eval x = a.eval x := by
  cases x with
  | tmp t =>
    have := hx t rfl
    show (projT ts a.tmps).getD t Go.undef = a.tmps.getD t Go.undef
    rw [projT_get, if_pos this]
  | _ => rfl
theorem yielded_proj (a : Act) (o : Oper) : Region.wanted o (yielded ops (projT (rdTmps ops o) a.tmps)) = Region.wanted o (yielded ops a.tmps) := by
  unfold Region.wanted
  cases hg : o.guard with
  | none => rfl
  | some gw =>
    obtain ⟨g, want⟩ := gw
    have hy : yielded ops (projT (rdTmps ops o) a.tmps) g = yielded ops a.tmps g := by
      unfold yielded
      cases ht : (ops[g]?).bind (·.dst) with
      | none => rfl
      | some t =>
        have hm : t ∈ rdTmps ops o := by simp [rdTmps, hg, ht]
        show (match (projT (rdTmps ops o) a.tmps)[t]? with | some (.bool b) => some b | _ => none) = (match a.tmps[t]? with | some (.bool b) => some b | _ => none)
        have h1 := projT_get (rdTmps ops o) a.tmps t
        rw [if_pos hm] at h1
        rw [Array.getD_eq_getD_getElem?, Array.getD_eq_getD_getElem?] at h1
        by_cases hl : t < a.tmps.size
        · rw [Array.getElem?_eq_getElem (by rw [projT_size]; exact hl), Array.getElem?_eq_getElem hl] at h1 ⊢
          simp only [Option.getD_some] at h1
          rw [h1]
        · rw [Array.getElem?_eq_none (by rw [projT_size]; exact Nat.le_of_not_lt hl), Array.getElem?_eq_none (Nat.le_of_not_lt hl)]
    simp only [hy]
theorem exec_proj (a : Act) (o : Oper) (hs : ∀ cs b, o.op ≠ .select cs b) : execOp ({ a with tmps := projT (rdTmps ops o) a.tmps } : Act).eval o = execOp a.eval o :=
  execOp_congr o hs fun x hx => eval_proj a _ x fun t ht => by
    unfold rdTmps
    exact List.mem_append_left _ (List.mem_filterMap.2 ⟨x, by simpa using hx, ht⟩)

/- a quiet operation that does not look -/
theorem lenB_nolook {P : Program} {d n : Nat} {args : List Operand} {ts : List TypeId} {f : Nat → TT AV d → Hp → R0} (hf : lenB P d n args ts = .q false f) (nm : Nat) (L : TT AV d) (H H' : Hp) : f nm L H = f nm L H' := by
  unfold lenB at hf
  split at hf
  · split at hf
    · cases hf; rfl
    · split at hf <;> cases hf; rfl
    · cases hf; rfl
    · cases hf; rfl
    · cases hf
    · cases hf
  · cases hf
theorem opS_nolook {P : Program} {d n : Nat} {o : Oper} {f : Nat → TT AV d → Hp → R0} (hf : opS P d n o = .q false f) (nm : Nat) (L : TT AV d) (H H' : Hp) : f nm L H = f nm L H' := by
  unfold opS at hf
  split at hf
  all_goals first
    | (cases hf; done)
    | (cases hf; rfl)
    | (unfold sRange at hf; split at hf <;> (cases hf; done))
    | (unfold sNext at hf; split at hf <;> (cases hf; done))
    | (unfold sEntry at hf; cases hf; done)
    | ((first | unfold sMove at hf | unfold sPick at hf | unfold sAlloc at hf | unfold sBox at hf | unfold sBuild at hf | unfold sLoad at hf | unfold sStore at hf | unfold sNilCheck at hf | unfold sBinOp at hf | unfold sUnOp at hf | unfold sConvert at hf | unfold sMakeInterface at hf | unfold sMakeFunc at hf | unfold sMakeMap at hf | unfold sSlice at hf | unfold sFieldAddr at hf | unfold sField at hf | unfold sIndexAddr at hf | unfold sIndex at hf | unfold sLookup at hf | unfold sMapUpdate at hf | unfold sMapEntry at hf | unfold sEntryStore at hf | unfold sExtract at hf | unfold capB at hf | unfold minB at hf | unfold maxB at hf | unfold appB at hf | unfold copyB at hf | unfold delB at hf | unfold clrB at hf | unfold sCallF at hf); (repeat' split at hf) <;> first | (cases hf; done) | (cases hf; rfl))
    | (unfold sBuildSlice at hf; simp only [Bool.cond_eq_ite] at hf; (repeat' split at hf) <;> first | (cases hf; done) | (cases hf; rfl))
    | (unfold sMakeSlice at hf; simp only [Bool.cond_eq_ite] at hf; (repeat' split at hf) <;> first | (cases hf; done) | (cases hf; rfl))
    | skip
  unfold builtinS at hf
  split at hf
  · exact lenB_nolook hf nm L H H'
  all_goals first
    | (cases hf; done)
    | ((first | unfold capB at hf | unfold minB at hf | unfold maxB at hf | unfold appB at hf | unfold copyB at hf | unfold delB at hf | unfold clrB at hf); (repeat' split at hf) <;> first | (cases hf; done) | (cases hf; rfl))

end Go.Ev
end

section
namespace Go.Ev
open Go.RowKit

structure CS (d : Nat) where
  L : TT AV d
  H : Hp
  pend : List Pd
  wts : List Wt

variable {P : Program} {d n : Nat} {call : Call} {base : Nat} {ops : Array Oper} {ms : List Nat}

theorem opsX_trace : ∀ (ord : List Nat) (s : CS d) {L' : TT AV d} {H' : Hp} {p' : List Pd} {w' : List Wt}, (opsX P d n ops ms ord).f call base s.L s.H s.pend s.wts = .ok L' H' p' w' →
    ∃ st : Nat → CS d, st 0 = s ∧ st ord.length = ⟨L', H', p', w'⟩ ∧ ∀ q i, ord[q]? = some i → ∃ o, ops[i]? = some o ∧
      (stepX P d n ops i (ms.getD i 0) o).f call base (st q).L (st q).H (st q).pend (st q).wts = .ok (st (q + 1)).L (st (q + 1)).H (st (q + 1)).pend (st (q + 1)).wts
  | [], s, L', H', p', w', h => by
    cases h
    exact ⟨fun _ => s, rfl, rfl, fun q i hq => by simp at hq⟩
  | i :: r, s, L', H', p', w', h => by
    unfold opsX at h
    split at h
    · rename_i o ho
      simp only [bindX] at h
      split at h
      · cases h
      · rename_i L1 H1 p1 w1 h1
        obtain ⟨st, a1, a2, a3⟩ := opsX_trace r ⟨L1, H1, p1, w1⟩ h
        refine ⟨fun q => match q with | 0 => s | q + 1 => st q, rfl, a2, fun q j hq => ?_⟩
        cases q with
        | zero =>
          simp at hq; subst hq
          refine ⟨o, ho, ?_⟩
          show _ = Rx.ok (st 0).L (st 0).H (st 0).pend (st 0).wts
          rw [a1]; exact h1
        | succ q => simp at hq; exact a3 q j hq
    · cases h

inductive StepC (P : Program) (d n : Nat) (call : Call) (base : Nat) (ops : Array Oper) (i A : Nat) (o : Oper) (s s' : CS d) : AV → Option Blk → Bool → Prop
  | skip : (wantS d n ops o).f ((projS d n (rdTmps ops o)).f s.L) = some false → s' = ⟨(putS d n o.dst).f s.L .undef, s.H, s.pend, s.wts⟩ → StepC P d n call base ops i A o s s' .undef none false
  | val (lk : Bool) (f : Nat → TT AV d → Hp → R0) (v : AV) : opS P d n o = .q lk f → (wantS d n ops o).f ((projS d n (rdTmps ops o)).f s.L) = some true →
      f (base + i) ((projS d n (rdTmps ops o)).f s.L) (viewH A s.pend s.H) = .val v →
      s' = ⟨(putS d n o.dst).f s.L v, s.H, s.pend, bif lk then ⟨i, A, f (base + i) ((projS d n (rdTmps ops o)).f s.L), v⟩ :: s.wts else s.wts⟩ → StepC P d n call base ops i A o s s' v none false
  | new (f : Nat → TT AV d → Hp → R0) (v : AV) (b : Blk) : opS P d n o = .q false f → allocs o.op = true → b.wr = true → (wantS d n ops o).f ((projS d n (rdTmps ops o)).f s.L) = some true →
      f (base + i) ((projS d n (rdTmps ops o)).f s.L) (viewH A s.pend s.H) = .new v b →
      s' = ⟨(putS d n o.dst).f s.L v, s.H, ⟨i, base + i, b⟩ :: s.pend, s.wts⟩ → StepC P d n call base ops i A o s s' v (some b) false
  | eff (f : Call → TT AV d → Hp → R1) (v : AV) (H' : Hp) : opS P d n o = .e f → (wantS d n ops o).f ((projS d n (rdTmps ops o)).f s.L) = some true →
      f call ((projS d n (rdTmps ops o)).f s.L) (viewH A s.pend s.H) = .ok v H' → wtsOk (dropP A s.pend) H' (dropW A s.wts) = true →
      s' = ⟨(putS d n o.dst).f s.L v, H', dropP A s.pend, dropW A s.wts⟩ → StepC P d n call base ops i A o s s' v none true

theorem stepC_of {i A : Nat} {o : Oper} {s s' : CS d} (h : (stepX P d n ops i A o).f call base s.L s.H s.pend s.wts = .ok s'.L s'.H s'.pend s'.wts) :
    ∃ v b k, StepC P d n call base ops i A o s s' v b k := by
  unfold stepX at h
  split at h
  · rename_i lk f pj w put h1 h2 h3 h4
    simp only at h
    unfold qX at h
    have e2 : (projS d n (rdTmps ops o)).f = pj := by rw [h2]
    have e3 : (wantS d n ops o).f = w := by rw [h3]
    have e4 : (putS d n o.dst).f = put := by rw [h4]
    split at h
    · cases h
    · rename_i hw
      obtain ⟨L', H', p', w'⟩ := s'
      cases h
      exact ⟨_, _, _, .skip (by rw [e2, e3]; exact hw) (by rw [e4])⟩
    · rename_i hw
      split at h
      · cases h
      · rename_i v hv
        obtain ⟨L', H', p', w'⟩ := s'
        cases h
        exact ⟨_, _, _, .val lk f v h1 (by rw [e2, e3]; exact hw) (by rw [e2]; exact hv) (by rw [e4, e2]; rfl)⟩
      · rename_i v b hv
        cases hb : (allocs o.op && !lk && b.wr) with
        | false => rw [hb] at h; cases h
        | true =>
          rw [hb] at h
          simp only [cond_true] at h
          simp only [Bool.and_eq_true, Bool.not_eq_true'] at hb
          obtain ⟨⟨b1, b2⟩, b3⟩ := hb
          subst b2
          obtain ⟨L', H', p', w'⟩ := s'
          cases h
          exact ⟨_, _, _, .new f v b h1 b1 b3 (by rw [e2, e3]; exact hw) (by rw [e2]; exact hv) (by rw [e4])⟩
  · rename_i f pj w put h1 h2 h3 h4
    simp only at h
    unfold eX at h
    have e2 : (projS d n (rdTmps ops o)).f = pj := by rw [h2]
    have e3 : (wantS d n ops o).f = w := by rw [h3]
    have e4 : (putS d n o.dst).f = put := by rw [h4]
    split at h
    · cases h
    · rename_i hw
      obtain ⟨L', H', p', w'⟩ := s'
      cases h
      exact ⟨_, _, _, .skip (by rw [e2, e3]; exact hw) (by rw [e4])⟩
    · rename_i hw
      split at h
      · cases h
      · rename_i v H1 hv
        cases hb : wtsOk (dropP A s.pend) H1 (dropW A s.wts) with
        | false => rw [hb] at h; cases h
        | true =>
          rw [hb] at h
          simp only [cond_true] at h
          obtain ⟨L', H', p', w'⟩ := s'
          simp only [Rx.ok.injEq] at h
          obtain ⟨g1, g2, g3, g4⟩ := h
          subst g1; subst g2; subst g3; subst g4
          exact ⟨_, _, _, .eff f v _ h1 (by rw [e2, e3]; exact hw) (by rw [e2]; exact hv) hb (by rw [e4])⟩

theorem kindsS_at (l : List Oper) : ∀ (k i : Nat) (o : Oper), l[i]? = some o → (kindsS P d n ms k l)[i]? = some (Kd.mk (k + i) (ms.getD (k + i) 0) (isE (opS P d n o)) (isLk (opS P d n o))) := by
  induction l with
  | nil => intro k i o h; simp at h
  | cons o' r ih =>
    intro k i o h
    cases i with
    | zero => simp at h; subst h; simp [kindsS]
    | succ i =>
      simp at h
      simp only [kindsS, List.getElem?_cons_succ]
      rw [ih (k + 1) i o h, show k + 1 + i = k + (i + 1) by omega]

theorem planOk_at {ks : List Kd} : ∀ (l : List Nat) (D E : Nat), planOk ops ks D E l = true → ∀ q i, l[q]? = some i → ∃ o k, ops[i]? = some o ∧ ks[i]? = some k ∧
    (∀ j ∈ edgesOn o, hasB D j = true ∨ j ∈ l.take q) ∧ hasB D i = false ∧ i ∉ l.take q ∧
    ((k.eff = true ∨ k.lk = true) → ∀ e, (hasB E e = true ∨ (e ∈ l.take q ∧ ∃ ke, ks[e]? = some ke ∧ ke.eff = true)) → hasB k.A e = true)
  | [], D, E, h, q, i, hq => by simp at hq
  | i' :: r, D, E, h, q, i, hq => by
    unfold planOk at h
    split at h
    · rename_i o k ho hk
      simp only [Bool.and_eq_true, List.all_eq_true, Bool.not_eq_true', Bool.or_eq_true] at h
      obtain ⟨⟨⟨h1, h2⟩, h3⟩, h4⟩ := h
      cases q with
      | zero =>
        simp at hq; subst hq
        refine ⟨o, k, ho, hk, fun j hj => .inl (h1 j hj), h2, by simp, fun he e hE => ?_⟩
        have hs : subB E k.A = true := by
          rcases h3 with h3 | h3
          · rcases he with he | he <;> rw [he] at h3 <;> simp at h3
          · exact h3
        rcases hE with hE | hE
        · exact subB_has hs hE
        · simp at hE
      | succ q =>
        simp at hq
        obtain ⟨o1, k1, a1, a2, a3, a4, a5, a6⟩ := planOk_at r _ _ h4 q i hq
        rw [hasB_addB] at a4
        simp only [Bool.or_eq_false_iff, decide_eq_false_iff_not] at a4
        refine ⟨o1, k1, a1, a2, fun j hj => ?_, a4.1, ?_, fun he e hE => a6 he e ?_⟩
        · rcases a3 j hj with b | b
          · rw [hasB_addB] at b
            simp only [Bool.or_eq_true, decide_eq_true_eq] at b
            rcases b with b | b
            · exact .inl b
            · subst b; exact .inr (by simp)
          · exact .inr (by simp [b])
        · simp only [List.take_succ_cons, List.mem_cons, not_or]
          exact ⟨fun e => a4.2 e.symm, a5⟩
        · rcases hE with hE | ⟨hE, ke, hE1, hE2⟩
          · left
            cases k.eff with
            | true => simp only [cond_true]; rw [hasB_addB, hE]; rfl
            | false => exact hE
          · simp only [List.take_succ_cons, List.mem_cons] at hE
            rcases hE with rfl | hE
            · left
              rw [hk] at hE1; cases hE1
              rw [hE2]; simp only [cond_true]; rw [hasB_addB]; simp
            · exact .inr ⟨hE, ke, hE1, hE2⟩
    · cases h

theorem nodup_le : ∀ (m : Nat) (l : List Nat), l.Nodup → (∀ x ∈ l, x < m) → l.length ≤ m
  | 0, l, _, h => by
    cases l with
    | nil => simp
    | cons a l => have := h a (by simp); omega
  | m + 1, l, hn, h => by
    by_cases hm : m ∈ l
    · have h1 := nodup_le m (l.erase m) (hn.erase m) fun x hx => by
        have := (hn.mem_erase_iff).1 hx
        have := h x this.2
        omega
      rw [List.length_erase_of_mem hm] at h1
      omega
    · have := nodup_le m l hn fun x hx => by
        have h1 := h x hx
        have : x ≠ m := fun e => hm (e ▸ hx)
        omega
      omega

/-- the run in the plan's order, and what it found -/
structure Can (P : Program) (d n : Nat) (call : Call) (base : Nat) (ops : Array Oper) (ms : List Nat) (st : Nat → CS d) (pos : Nat → Nat) (V : Nat → AV) (B : Nat → Option Blk) (K : Nat → Bool) : Prop where
  edg : Edg ops ms
  plt : ∀ i, i < ops.size → pos i < ops.size
  inj : ∀ i j, i < ops.size → j < ops.size → pos i = pos j → i = j
  surj : ∀ q, q < ops.size → ∃ i, i < ops.size ∧ pos i = q
  step : ∀ i o, ops[i]? = some o → StepC P d n call base ops i (ms.getD i 0) o (st (pos i)) (st (pos i + 1)) (V i) (B i) (K i)
  edge : ∀ i o, ops[i]? = some o → ∀ j ∈ edgesOn o, pos j < pos i
  eff : ∀ i o e oe, ops[i]? = some o → ops[e]? = some oe → isE (opS P d n oe) = true → (isE (opS P d n o) = true ∨ isLk (opS P d n o) = true) → pos e < pos i → hasB (ms.getD i 0) e = true

theorem Can.of {pl : Pln} (hp : planS P d n ops = some pl) {s : CS d} {L' : TT AV d} {H' : Hp} {p' : List Pd} {w' : List Wt} (h : (opsX P d n ops pl.ms pl.ord).f call base s.L s.H s.pend s.wts = .ok L' H' p' w') :
    ∃ st pos V B K, Can P d n call base ops pl.ms st pos V B K ∧ st 0 = s ∧ st ops.size = ⟨L', H', p', w'⟩ ∧ pl.up = (bif ops.toList.any (fun o => allocs o.op) then ops.size else 0) := by
  unfold planS at hp
  simp only at hp
  generalize hks : kindsS P d n (masksFrom [] ops.toList) 0 ops.toList = ks at hp
  generalize planGo (effMask ks) ks.length 0 ks = ord at hp
  cases hc : (backOk 0 ops.toList && tmpsOk ops (masksFrom [] ops.toList) && Nat.beq ord.length ops.size && planOk ops ks 0 0 ord) with
  | false => rw [hc] at hp; cases hp
  | true =>
    rw [hc] at hp
    simp only [cond_true, Option.some.injEq] at hp
    subst hp
    dsimp only at h
    simp only [Bool.and_eq_true] at hc
    obtain ⟨⟨⟨c1, c2⟩, c3⟩, c4⟩ := hc
    have c3 := Nat.eq_of_beq_eq_true c3
    obtain ⟨st, a1, a2, a3⟩ := opsX_trace ord s h
    have hpl := planOk_at ord 0 0 c4
    have hnd : ord.Nodup := by
      refine List.pairwise_iff_getElem.2 fun i j hi hj hij e => ?_
      obtain ⟨o, k, _, _, _, _, b5, _⟩ := hpl j ord[j] (List.getElem?_eq_getElem hj)
      apply b5
      rw [← e, List.mem_take_iff_getElem]
      exact ⟨i, by omega, rfl⟩
    have hlt : ∀ x ∈ ord, x < ops.size := fun x hx => by
      obtain ⟨q, hq, e⟩ := List.getElem_of_mem hx
      obtain ⟨o, k, b1, _⟩ := hpl q x (by rw [List.getElem?_eq_getElem hq, e])
      exact (Array.getElem?_eq_some_iff.1 b1).1
    have hall : ∀ i, i < ops.size → i ∈ ord := fun i hi => Classical.byContradiction fun hni => by
      have := nodup_le ops.size (i :: ord) (List.nodup_cons.2 ⟨hni, hnd⟩) fun x hx => by
        rcases List.mem_cons.1 hx with rfl | hx
        · exact hi
        · exact hlt x hx
      simp at this; omega
    have hex : ∀ i, ∃ q v b k, i < ops.size → ord[q]? = some i ∧ ∀ o, ops[i]? = some o → StepC P d n call base ops i ((masksFrom [] ops.toList).getD i 0) o (st q) (st (q + 1)) v b k := fun i => by
      by_cases hi : i < ops.size
      · obtain ⟨q, hq, e⟩ := List.getElem_of_mem (hall i hi)
        have hq' : ord[q]? = some i := by rw [List.getElem?_eq_getElem hq, e]
        obtain ⟨o, ho, hs⟩ := a3 q i hq'
        obtain ⟨v, b, k, hk⟩ := stepC_of hs
        exact ⟨q, v, b, k, fun _ => ⟨hq', fun o' ho' => by rw [ho] at ho'; cases ho'; exact hk⟩⟩
      · exact ⟨0, .undef, none, false, fun h => absurd h hi⟩
    let pos := fun i => Classical.choose (hex i)
    let V := fun i => Classical.choose (Classical.choose_spec (hex i))
    let B := fun i => Classical.choose (Classical.choose_spec (Classical.choose_spec (hex i)))
    let K := fun i => Classical.choose (Classical.choose_spec (Classical.choose_spec (Classical.choose_spec (hex i))))
    have spec : ∀ i, i < ops.size → ord[pos i]? = some i ∧ ∀ o, ops[i]? = some o → StepC P d n call base ops i ((masksFrom [] ops.toList).getD i 0) o (st (pos i)) (st (pos i + 1)) (V i) (B i) (K i) := fun i =>
      Classical.choose_spec (Classical.choose_spec (Classical.choose_spec (Classical.choose_spec (hex i))))
    have hsz : ∀ {i o}, ops[i]? = some o → i < ops.size := fun h => (Array.getElem?_eq_some_iff.1 h).1
    have mem_take : ∀ j q, j < ops.size → j ∈ ord.take q → pos j < q := fun j q hj hm => by
      rw [List.mem_take_iff_getElem] at hm
      obtain ⟨x, hx, e⟩ := hm
      have h1 := (spec j hj).1
      have h2 : ord[x]? = some j := by rw [List.getElem?_eq_getElem (by omega), e]
      have hpj : pos j < ord.length := (List.getElem?_eq_some_iff.1 h1).1
      have : pos j = x := (List.getElem?_inj hpj hnd).1 (h1.trans h2.symm)
      omega
    have take_mem : ∀ j q, j < ops.size → pos j < q → j ∈ ord.take q := fun j q hj hq => by
      have h1 := (spec j hj).1
      obtain ⟨hl, e⟩ := List.getElem?_eq_some_iff.1 h1
      rw [List.mem_take_iff_getElem]
      exact ⟨pos j, by omega, e⟩
    refine ⟨st, pos, V, B, K, ⟨Edg.of c1 c2, fun i hi => ?_, fun i j hi hj e => ?_, fun q hq => ?_, fun i o ho => (spec i (hsz ho)).2 o ho, fun i o ho j hj => ?_, fun i o e oe ho hoe he hio hlt' => ?_⟩, a1, by rw [← c3]; exact a2, rfl⟩
    · have := (List.getElem?_eq_some_iff.1 (spec i hi).1).1; omega
    · have h1 := (spec i hi).1; have h2 := (spec j hj).1; rw [e, h2] at h1; cases h1; rfl
    · have hq' : q < ord.length := by omega
      have hm : ord[q] ∈ ord := List.getElem_mem hq'
      refine ⟨ord[q], hlt _ hm, ?_⟩
      have h1 := (spec _ (hlt _ hm)).1
      have hpj := (List.getElem?_eq_some_iff.1 h1).1
      exact (List.getElem?_inj hpj hnd).1 (h1.trans (List.getElem?_eq_getElem hq').symm)
    · obtain ⟨o', k, b1, b2, b3, _⟩ := hpl (pos i) i (spec i (hsz ho)).1
      rw [ho] at b1; cases b1
      have hlj : j < ops.size := Nat.lt_trans ((Edg.of c1 c2).back i o ho j hj) (hsz ho)
      rcases b3 j hj with b | b
      · rw [hasB_zero] at b; cases b
      · exact mem_take j _ hlj b
    · obtain ⟨o', k, b1, b2, b3, b4, b5, b6⟩ := hpl (pos i) i (spec i (hsz ho)).1
      rw [ho] at b1; cases b1
      have k1 := kindsS_at (P := P) (d := d) (n := n) (ms := masksFrom [] ops.toList) ops.toList 0 i o (by simpa using ho)
      have k2 := kindsS_at (P := P) (d := d) (n := n) (ms := masksFrom [] ops.toList) ops.toList 0 e oe (by simpa using hoe)
      rw [hks] at k1 k2
      rw [b2] at k1
      simp only [Nat.zero_add, Option.some.injEq] at k1 k2
      subst k1
      exact b6 hio e (.inr ⟨take_mem e _ (hsz hoe) hlt', _, k2, he⟩)

end Go.Ev
end

section
namespace Go.Ev
open Go.RowKit
variable {P : Program} {d n : Nat} {call : Call} {base : Nat} {ops : Array Oper} {ms : List Nat} {st : Nat → CS d} {pos : Nat → Nat} {V : Nat → AV} {B : Nat → Option Blk} {K : Nat → Bool}

/- locals -/
def dstOf (ops : Array Oper) (j : Nat) : Option Tmp := (ops[j]?).bind (·.dst)
open Classical in
noncomputable def tv (ops : Array Oper) (n : Nat) (V : Nat → AV) (L0 : TT AV d) (S : Nat → Prop) : Nat → Nat → AV
  | 0, t => (getter d t).f L0
  | j + 1, t => if S j ∧ dstOf ops j = some t ∧ t < n then V j else tv ops n V L0 S j t
theorem tv_congr {L0 : TT AV d} {S S' : Nat → Prop} {t : Nat} : ∀ m, (∀ j, j < m → dstOf ops j = some t → (S j ↔ S' j)) → tv ops n V L0 S m t = tv ops n V L0 S' m t
  | 0, _ => rfl
  | m + 1, h => by
    unfold tv
    rw [tv_congr m fun j hj => h j (by omega)]
    by_cases hd : dstOf ops m = some t
    · have := h m (by omega) hd
      by_cases hs : S m
      · simp [hs, this.1 hs, hd]
      · have : ¬ S' m := fun x => hs (this.2 x)
        simp [hs, this]
    · simp [hd]
theorem tv_last {L0 : TT AV d} {S : Nat → Prop} {t i : Nat} (hi : S i) (hd : dstOf ops i = some t) (ht : t < n) : ∀ m, i < m → (∀ j, i < j → j < m → S j → dstOf ops j ≠ some t) → tv ops n V L0 S m t = V i
  | 0, h, _ => by omega
  | m + 1, h, k => by
    unfold tv
    by_cases e : i = m
    · subst e; rw [if_pos ⟨hi, hd, ht⟩]
    · rw [if_neg (fun x => k m (by omega) (by omega) x.1 x.2.1)]
      exact tv_last hi hd ht m (by omega) fun j h1 h2 => k j h1 (by omega)
theorem size_of {i : Nat} {o : Oper} (h : ops[i]? = some o) : i < ops.size := (Array.getElem?_eq_some_iff.1 h).1
theorem op_of {i : Nat} (h : i < ops.size) : ∃ o, ops[i]? = some o := ⟨_, Array.getElem?_eq_getElem h⟩
theorem tv_add {L0 : TT AV d} {S : Nat → Prop} (h : Edg ops ms) (hS : Shut ops S) {i : Nat} {o : Oper} (ho : ops[i]? = some o) (hni : ¬ S i) (t : Nat) :
    tv ops n V L0 (fun j => S j ∨ j = i) ops.size t = if o.dst = some t ∧ t < n then V i else tv ops n V L0 S ops.size t := by
  have hdi : dstOf ops i = o.dst := by simp [dstOf, ho]
  by_cases hd : o.dst = some t
  · by_cases ht : t < n
    · rw [if_pos ⟨hd, ht⟩]
      refine tv_last (.inr rfl) (hdi.trans hd) ht _ (size_of ho) fun j h1 h2 h3 h4 => ?_
      obtain ⟨oj, hoj⟩ := op_of h2
      have hdj : oj.dst = some t := by simpa [dstOf, hoj] using h4
      rcases h3 with h3 | h3
      · rcases h.tmps i j o oj t ho hoj hd with e | e | e | e
        · omega
        · exact hni (h.anc_of hS hoj h3 e)
        · have := h.anc_lt i o j ho e; omega
        · exact e.2 hdj
      · omega
    · rw [if_neg (by simp [ht])]
      generalize ops.size = m
      induction m with
      | zero => rfl
      | succ m ih => unfold tv; rw [if_neg (by simp [ht]), if_neg (by simp [ht]), ih]
  · rw [if_neg (by simp [hd])]
    refine tv_congr _ fun j hj hdj => ?_
    constructor
    · rintro (h1 | rfl)
      · exact h1
      · rw [hdi] at hdj; exact absurd hdj hd
    · exact .inl
theorem putS_in {L : TT AV d} {v : AV} {u : Nat} (h : Nat.blt u n = true) : (putS d n (some u)).f L v = (setter d u).f L v := by
  unfold putS
  simp only
  rw [h]; rfl
theorem putS_out {L : TT AV d} {v : AV} {u : Nat} (h : Nat.blt u n = false) : (putS d n (some u)).f L v = L := by
  unfold putS
  simp only
  rw [h]; rfl
theorem putS_get (hn : n ≤ 8 ^ d) {L : TT AV d} {v : AV} {t : Nat} (ht : t < 8 ^ d) (dst : Option Tmp) : (getter d t).f ((putS d n dst).f L v) = if dst = some t ∧ t < n then v else (getter d t).f L := by
  cases dst with
  | none => simp [putS]
  | some u =>
    cases hb : Nat.blt u n with
    | true =>
      have hu := blt_t hb
      rw [putS_in hb, get_set _ _ _ _ _ ht (Nat.lt_of_lt_of_le hu hn)]
      by_cases e : t = u
      · subst e; simp [hu]
      · rw [if_neg e, if_neg (by simp; intro h; exact absurd h.symm e)]
    | false =>
      have hu := blt_f hb
      rw [putS_out hb, if_neg]
      rintro ⟨h1, h2⟩
      cases h1; exact hu h2
theorem StepC.L_eq {i A : Nat} {o : Oper} {s s' : CS d} {v : AV} {b : Option Blk} {k : Bool} (h : StepC P d n call base ops i A o s s' v b k) : s'.L = (putS d n o.dst).f s.L v := by
  cases h <;> (rename_i e; rw [e])
theorem StepC.H_eq {i A : Nat} {o : Oper} {s s' : CS d} {v : AV} {b : Option Blk} (h : StepC P d n call base ops i A o s s' v b false) : s'.H = s.H := by
  cases h <;> (rename_i e; rw [e])
theorem Can.shut (C : Can P d n call base ops ms st pos V B K) (q : Nat) : Shut ops (fun j => pos j < q) := fun i o ho hi j hj => by
  have := C.edge i o ho j hj; simp only at hi; omega
theorem Can.anc_pos (C : Can P d n call base ops ms st pos V B K) {i k : Nat} {o : Oper} (ho : ops[i]? = some o) (hk : hasB (ms.getD i 0) k = true) : pos k < pos i :=
  C.edg.anc_in (C.shut (pos i)) i o k ho (fun j hj => C.edge i o ho j hj) hk
theorem Can.at (C : Can P d n call base ops ms st pos V B K) {q : Nat} (hq : q < ops.size) : ∃ i o, ops[i]? = some o ∧ pos i = q ∧ StepC P d n call base ops i (ms.getD i 0) o (st q) (st (q + 1)) (V i) (B i) (K i) := by
  obtain ⟨i, hi, rfl⟩ := C.surj q hq
  obtain ⟨o, ho⟩ := op_of hi
  exact ⟨i, o, ho, rfl, C.step i o ho⟩
theorem Can.lt_succ (C : Can P d n call base ops ms st pos V B K) {i j : Nat} (hi : i < ops.size) (hj : j < ops.size) : pos j < pos i + 1 ↔ pos j < pos i ∨ j = i := by
  constructor
  · intro h
    by_cases e : pos j = pos i
    · exact .inr (C.inj j i hj hi e)
    · exact .inl (by omega)
  · rintro (h | rfl) <;> omega
theorem Can.locals (C : Can P d n call base ops ms st pos V B K) (hn : n ≤ 8 ^ d) : ∀ q, q ≤ ops.size → ∀ t, t < 8 ^ d → (getter d t).f (st q).L = tv ops n V (st 0).L (fun j => pos j < q) ops.size t
  | 0, _, t, _ => by
    generalize ops.size = m
    induction m with
    | zero => rfl
    | succ m ih => unfold tv; rw [if_neg (by omega)]; exact ih
  | q + 1, hq, t, ht => by
    obtain ⟨i, o, ho, hp, hs⟩ := C.at hq
    subst hp
    rw [hs.L_eq, putS_get hn ht, C.locals hn (pos i) (by omega) t ht]
    rw [← tv_add C.edg (C.shut (pos i)) ho (Nat.lt_irrefl _) t]
    exact tv_congr _ fun j hj _ => (C.lt_succ (size_of ho) hj).symm

/-- what an operation that is ready sees of the locals -/
theorem Can.proj (C : Can P d n call base ops ms st pos V B K) (hn : n ≤ 8 ^ d) {S : Nat → Prop} (hS : Shut ops S) {L : TT AV d} (hL : ∀ t, t < 8 ^ d → (getter d t).f L = tv ops n V (st 0).L S ops.size t)
    {k : Nat} {o : Oper} (ho : ops[k]? = some o) (hk : ¬ S k) (hr : ∀ j ∈ edgesOn o, S j) : (projS d n (rdTmps ops o)).f L = (projS d n (rdTmps ops o)).f (st (pos k)).L := by
  refine projS_congr _ fun t ht hlt => ?_
  have hpk := C.plt k (size_of ho)
  rw [hL t (Nat.lt_of_lt_of_le hlt hn), C.locals hn (pos k) (by omega) t (Nat.lt_of_lt_of_le hlt hn)]
  refine tv_congr _ fun j hj hd => ?_
  obtain ⟨oj, hoj⟩ := op_of hj
  have hdj : oj.dst = some t := by simpa [dstOf, hoj] using hd
  rcases C.edg.tmps j k oj o t hoj ho hdj with e | e | e | e
  · subst e; exact ⟨fun h => absurd h hk, fun h => absurd h (Nat.lt_irrefl _)⟩
  · exact ⟨fun _ => C.anc_pos ho e, fun _ => C.edg.anc_in hS k o j ho hr e⟩
  · exact ⟨fun h => absurd (C.edg.anc_of hS hoj h e) hk, fun h => absurd (C.anc_pos hoj e) (by omega)⟩
  · exact absurd ht e.1

/- heaps -/
noncomputable def viewP (c : Pd → Bool) (pend : List Pd) (H : Hp) : Hp :=
  List.rec (motive := fun _ => Hp) H (fun p _ ih => bif c p then ih.put p.nm p.b else ih) pend
theorem viewH_eq (A : Nat) (pend : List Pd) (H : Hp) : viewH A pend H = viewP (fun p => hasB A p.i) pend H := rfl
theorem allH_eq (pend : List Pd) (H : Hp) : allH pend H = viewP (fun _ => true) pend H := rfl
theorem viewP_nil (c : Pd → Bool) (H : Hp) : viewP c [] H = H := rfl
theorem viewP_cons (c : Pd → Bool) (p : Pd) (l : List Pd) (H : Hp) : viewP c (p :: l) H = if c p = true then (viewP c l H).put p.nm p.b else viewP c l H := by
  show (bif c p then _ else _) = _
  cases c p <;> rfl
theorem viewP_nx (c : Pd → Bool) (H : Hp) : ∀ pend, (viewP c pend H).nx = H.nx
  | [] => rfl
  | p :: l => by
    rw [viewP_cons]
    split
    · exact viewP_nx c H l
    · exact viewP_nx c H l
theorem viewP_miss {c : Pd → Bool} {H : Hp} {b : Nat} (hb : InH (b)) : ∀ pend, (∀ p ∈ pend, InH (p.nm)) → (∀ p ∈ pend, c p = true → p.nm ≠ b) → (viewP c pend H).get b = H.get b
  | [], _, _ => rfl
  | p :: l, h1, h => by
    rw [viewP_cons]
    have ih := viewP_miss (c := c) (H := H) hb l (fun x hx => h1 x (by simp [hx])) (fun x hx => h x (by simp [hx]))
    split
    · rename_i hc
      rw [Hp.get_put _ _ _ _ (h1 p (by simp)) hb, if_neg (fun e => h p (by simp) hc e.symm)]; exact ih
    · exact ih
theorem viewP_hit {c : Pd → Bool} {H : Hp} : ∀ pend, (∀ p ∈ pend, InH (p.nm)) → (∀ p ∈ pend, ∀ p' ∈ pend, p.nm = p'.nm → p.b = p'.b) → ∀ p ∈ pend, c p = true → (viewP c pend H).get p.nm = p.b
  | [], _, _, p, hp, _ => by cases hp
  | x :: l, h1, h2, p, hp, hc => by
    rw [viewP_cons]
    have hpn := h1 p hp
    by_cases hx : c x = true
    · rw [if_pos hx, Hp.get_put _ _ _ _ (h1 x (by simp)) hpn]
      by_cases e : p.nm = x.nm
      · rw [if_pos e]; exact h2 x (by simp) p hp e.symm
      · rw [if_neg e]
        have hpl : p ∈ l := by
          rcases List.mem_cons.1 hp with rfl | h
          · exact absurd rfl e
          · exact h
        exact viewP_hit l (fun y hy => h1 y (by simp [hy])) (fun y hy z hz => h2 y (by simp [hy]) z (by simp [hz])) p hpl hc
    · rw [if_neg hx]
      have hpl : p ∈ l := by
        rcases List.mem_cons.1 hp with rfl | h
        · exact absurd hc hx
        · exact h
      exact viewP_hit l (fun y hy => h1 y (by simp [hy])) (fun y hy z hz => h2 y (by simp [hy]) z (by simp [hz])) p hpl hc

/-- merged by an effect before q -/
def Mg (ops : Array Oper) (ms : List Nat) (pos : Nat → Nat) (K : Nat → Bool) (q i : Nat) : Prop := ∃ e, e < ops.size ∧ pos e < q ∧ K e = true ∧ hasB (ms.getD e 0) i = true
theorem mem_dropP {A : Nat} {p : Pd} : ∀ {l : List Pd}, p ∈ dropP A l ↔ p ∈ l ∧ hasB A p.i = false
  | [] => by simp [dropP]
  | x :: l => by
    have ih := mem_dropP (A := A) (p := p) (l := l)
    show p ∈ (bif hasB A x.i then dropP A l else x :: dropP A l) ↔ _
    cases hx : hasB A x.i with
    | true =>
      simp only [cond_true, List.mem_cons]
      rw [ih]
      constructor
      · rintro ⟨a, b⟩; exact ⟨.inr a, b⟩
      · rintro ⟨rfl | a, b⟩
        · rw [hx] at b; cases b
        · exact ⟨a, b⟩
    | false =>
      simp only [cond_false, List.mem_cons]
      rw [ih]
      constructor
      · rintro (rfl | ⟨a, b⟩)
        · exact ⟨.inl rfl, hx⟩
        · exact ⟨.inr a, b⟩
      · rintro ⟨rfl | a, b⟩
        · exact .inl rfl
        · exact .inr ⟨a, b⟩
theorem mem_dropW {A : Nat} {p : Wt} : ∀ {l : List Wt}, p ∈ dropW A l ↔ p ∈ l ∧ hasB A p.i = false
  | [] => by simp [dropW]
  | x :: l => by
    have ih := mem_dropW (A := A) (p := p) (l := l)
    show p ∈ (bif hasB A x.i then dropW A l else x :: dropW A l) ↔ _
    cases hx : hasB A x.i with
    | true =>
      simp only [cond_true, List.mem_cons]
      rw [ih]
      constructor
      · rintro ⟨a, b⟩; exact ⟨.inr a, b⟩
      · rintro ⟨rfl | a, b⟩
        · rw [hx] at b; cases b
        · exact ⟨a, b⟩
    | false =>
      simp only [cond_false, List.mem_cons]
      rw [ih]
      constructor
      · rintro (rfl | ⟨a, b⟩)
        · exact ⟨.inl rfl, hx⟩
        · exact ⟨.inr a, b⟩
      · rintro ⟨rfl | a, b⟩
        · exact .inl rfl
        · exact .inr ⟨a, b⟩
theorem Can.mg_succ (C : Can P d n call base ops ms st pos V B K) {i j : Nat} (hi : i < ops.size) : Mg ops ms pos K (pos i + 1) j ↔ Mg ops ms pos K (pos i) j ∨ (K i = true ∧ hasB (ms.getD i 0) j = true) := by
  constructor
  · rintro ⟨e, h1, h2, h3, h4⟩
    rcases (C.lt_succ hi h1).1 h2 with h | rfl
    · exact .inl ⟨e, h1, h, h3, h4⟩
    · exact .inr ⟨h3, h4⟩
  · rintro (⟨e, h1, h2, h3, h4⟩ | ⟨h3, h4⟩)
    · exact ⟨e, h1, by omega, h3, h4⟩
    · exact ⟨i, hi, by omega, h3, h4⟩
theorem Can.pend (C : Can P d n call base ops ms st pos V B K) (h0 : (st 0).pend = []) : ∀ q, q ≤ ops.size →
    (∀ p ∈ (st q).pend, p.i < ops.size ∧ p.nm = base + p.i ∧ B p.i = some p.b ∧ pos p.i < q ∧ ¬ Mg ops ms pos K q p.i) ∧
    (∀ i b, i < ops.size → B i = some b → pos i < q → ¬ Mg ops ms pos K q i → ⟨i, base + i, b⟩ ∈ (st q).pend)
  | 0, _ => ⟨(fun p hp => by rw [h0] at hp; cases hp), (fun i b _ _ h => by omega)⟩
  | q + 1, hq => by
    obtain ⟨i, o, ho, hp, hs⟩ := C.at hq
    obtain ⟨ih1, ih2⟩ := C.pend h0 q (by omega)
    subst hp
    have hsi := size_of ho
    have quiet : K i = false → B i = none → (st (pos i + 1)).pend = (st (pos i)).pend →
        (∀ p ∈ (st (pos i + 1)).pend, p.i < ops.size ∧ p.nm = base + p.i ∧ B p.i = some p.b ∧ pos p.i < pos i + 1 ∧ ¬ Mg ops ms pos K (pos i + 1) p.i) ∧
        (∀ j b, j < ops.size → B j = some b → pos j < pos i + 1 → ¬ Mg ops ms pos K (pos i + 1) j → ⟨j, base + j, b⟩ ∈ (st (pos i + 1)).pend) := fun hk hb he => by
      have hm : ∀ j, Mg ops ms pos K (pos i + 1) j ↔ Mg ops ms pos K (pos i) j := fun j => by rw [C.mg_succ hsi, hk]; simp
      rw [he]
      refine ⟨fun p hp => ?_, fun j b hj hjb hjp hjm => ?_⟩
      · obtain ⟨a1, a2, a3, a4, a5⟩ := ih1 p hp
        exact ⟨a1, a2, a3, by omega, fun h => a5 ((hm _).1 h)⟩
      · rcases (C.lt_succ hsi hj).1 hjp with h | rfl
        · exact ih2 j b hj hjb h fun h => hjm ((hm _).2 h)
        · rw [hb] at hjb; cases hjb
    generalize hB : B i = b at hs
    generalize V i = v at hs
    generalize hK : K i = k at hs
    cases hs with
    | skip _ e => exact quiet hK hB (by rw [e])
    | val _ _ _ _ _ _ e => exact quiet hK hB (by rw [e])
    | new f _ b' _ _ _ _ _ e =>
      have hm : ∀ j, Mg ops ms pos K (pos i + 1) j ↔ Mg ops ms pos K (pos i) j := fun j => by rw [C.mg_succ hsi, hK]; simp
      rw [e]
      simp only [List.mem_cons]
      refine ⟨fun p hp => ?_, fun j b hj hjb hjp hjm => ?_⟩
      · rcases hp with rfl | hp
        · refine ⟨hsi, rfl, hB, by simp, fun h => ?_⟩
          obtain ⟨e, e1, e2, e3, e4⟩ := (hm i).1 h
          obtain ⟨oe, hoe⟩ := op_of e1
          have := C.anc_pos hoe e4
          omega
        · obtain ⟨a1, a2, a3, a4, a5⟩ := ih1 p hp
          exact ⟨a1, a2, a3, by omega, fun h => a5 ((hm _).1 h)⟩
      · rcases (C.lt_succ hsi hj).1 hjp with h | rfl
        · exact .inr (ih2 j b hj hjb h fun h => hjm ((hm _).2 h))
        · rw [hB] at hjb; cases hjb; exact .inl rfl
    | eff f _ H' _ _ _ _ e =>
      have hm : ∀ j, Mg ops ms pos K (pos i + 1) j ↔ Mg ops ms pos K (pos i) j ∨ hasB (ms.getD i 0) j = true := fun j => by rw [C.mg_succ hsi, hK]; simp
      rw [e]
      simp only [mem_dropP]
      refine ⟨fun p hp => ?_, fun j b hj hjb hjp hjm => ?_⟩
      · obtain ⟨a1, a2, a3, a4, a5⟩ := ih1 p hp.1
        refine ⟨a1, a2, a3, by omega, fun h => ?_⟩
        rcases (hm _).1 h with h | h
        · exact a5 h
        · rw [hp.2] at h; cases h
      · have hni : hasB (ms.getD i 0) j = false := Bool.eq_false_iff.2 fun h => hjm ((hm j).2 (.inr h))
        rcases (C.lt_succ hsi hj).1 hjp with h | rfl
        · exact ⟨ih2 j b hj hjb h fun h => hjm ((hm _).2 (.inl h)), hni⟩
        · rw [hB] at hjb; cases hjb

theorem Can.heap_eq (C : Can P d n call base ops ms st pos V B K) {q : Nat} : ∀ q', q ≤ q' → q' ≤ ops.size → (∀ e, e < ops.size → K e = true → q ≤ pos e → ¬ pos e < q') → (st q').H = (st q).H
  | 0, h, _, _ => by
    have : q = 0 := by omega
    subst this; rfl
  | q' + 1, h, hs, hk => by
    by_cases e : q = q' + 1
    · subst e; rfl
    · obtain ⟨i, o, ho, hp, hst⟩ := C.at (q := q') hs
      have hKi : K i = false := Bool.eq_false_iff.2 fun h' => hk i (size_of ho) h' (by omega) (by omega)
      rw [hKi] at hst
      rw [hst.H_eq]
      exact C.heap_eq q' (by omega) (by omega) fun e he h1 h2 h3 => hk e he h1 h2 (by omega)

/-- a heap that holds, at stage q, the blocks of X that are not merged yet -/
structure HS (base : Nat) (ops : Array Oper) (ms : List Nat) (st : Nat → CS d) (pos : Nat → Nat) (B : Nat → Option Blk) (K : Nat → Bool) (q : Nat) (X : Nat → Prop) (G : Hp) : Prop where
  nx : G.nx = (st q).H.nx
  hit : ∀ i b, i < ops.size → X i → B i = some b → ¬ Mg ops ms pos K q i → G.get (base + i) = b
  miss : ∀ c, InH (c) → (∀ i, i < ops.size → X i → B i ≠ none → ¬ Mg ops ms pos K q i → c ≠ base + i) → G.get c = (st q).H.get c
theorem Can.view (C : Can P d n call base ops ms st pos V B K) (h0 : (st 0).pend = []) (hb : ∀ i, i < ops.size → B i ≠ none → InH (base + i)) {q : Nat} (hq : q ≤ ops.size) (c : Nat → Bool) (hc : ∀ i, i < ops.size → c i = true → pos i < q) :
    HS base ops ms st pos B K q (fun i => c i = true) (viewP (fun p => c p.i) (st q).pend (st q).H) := by
  obtain ⟨h1, h2⟩ := C.pend h0 q hq
  have hnm : ∀ p ∈ (st q).pend, InH (p.nm) := fun p hp => by
    obtain ⟨a1, a2, a3, _⟩ := h1 p hp
    rw [a2]; exact hb _ a1 (by simp [a3])
  refine ⟨viewP_nx _ _ _, fun i b hi hx hB hm => ?_, fun x hx hn => ?_⟩
  · have hp := h2 i b hi hB (hc i hi hx) hm
    have h3 := viewP_hit (c := fun p => c p.i) (H := (st q).H) (st q).pend hnm (fun p hp p' hp' e => by
      obtain ⟨a1, a2, a3, _⟩ := h1 p hp
      obtain ⟨b1, b2, b3, _⟩ := h1 p' hp'
      have : p.i = p'.i := by omega
      rw [this, b3] at a3; exact (Option.some.inj a3).symm) ⟨i, base + i, b⟩ hp hx
    dsimp only at h3
    exact h3
  · refine viewP_miss hx _ hnm fun p hp hcp e => ?_
    obtain ⟨a1, a2, a3, a4, a5⟩ := h1 p hp
    exact hn p.i a1 hcp (by simp [a3]) a5 (by omega)

end Go.Ev
end
