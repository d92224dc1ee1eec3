/-
 For TablesEval: the evaluator and its soundness, part 2 of 4: what a run of the abstract evaluator answers, the model's run answers, in every world and on every schedule. No conditions beyond those that each theorem states.
-/
import Derived.Test.YtoknlffemngkbaaGreatEv1
import Derived.Laws.NewFold
import Derived.Lib.Bytealg
import Derived.KernelRfl
import Derived.CallsIn
import Derived.OrdersIn
import Derived.TacticsIn
import Derived.RangeFuncLeaves
section
namespace Go.Ev
open Go.RowKit
variable {P : Program} {w : World} {ι : Im} {o : Oper} {a : Act} {nm : Nat} {d n : Nat} {L : TT AV d} {H : Hp}
/- aggregates: parts laid in -/
theorem qzc {v : AV} {V : Value} (h : Rep ι v V) {l : List AV} (hl : qh2 v = some l) : RepL ι l V.cells.toList ∧ ∀ x ∈ V.cells.toList, x.oneCell = true := by
 unfold qh2 at hl
 split at hl
 ·simp only [Option.some.injEq] at hl; subst hl
  obtain ⟨vs, h1, rfl, h3⟩ := qk5 h
  simpa [Value.cells] using ⟨h1, h3⟩
 ·cases hl
 ·cases hl
 ·cases hl
 ·rename_i hn1 hn2 hn3 hn4
  simp only [Option.some.injEq] at hl; subst hl
  have hp : v.plain = true := by
   unfold AV.plain; split
   ·rename_i e; exact absurd rfl (hn1 _)
   ·rename_i e; exact absurd rfl (hn2 _)
   ·rename_i e; exact absurd rfl hn3
   ·rename_i e; exact absurd rfl (hn4 _)
   ·rfl
  obtain ⟨h1, h2⟩ := h.one hp
  rw [h2]
  exact ⟨RepL.singleton h, by simpa using h1⟩
theorem q4e : ∀ (l : List Value) (C : Array Value) (off k : Nat), off + k + l.length ≤ C.size →
  ((l.zipIdx k).foldl (fun cs (x : Value × Nat) => cs.setIfInBounds (off + x.2) x.1) C).toList = C.toList.take (off + k) ++ l ++ C.toList.drop (off + k + l.length) := by
 intro l
 induction l with
 | nil => intro C off k h; simp
 | cons v l ih =>
  intro C off k h
  rw [List.length_cons] at h
  rw [List.zipIdx_cons, List.foldl_cons, ih _ _ _ (by simp; omega)]
  simp only [Array.toList_setIfInBounds, List.length_cons]
  have hlt : off + k < C.toList.length := by simp; omega
  rw [List.drop_set_of_lt (by omega), show off + (k + 1) = (off + k) + 1 by omega, List.take_succ_eq_append_getElem (by simpa using hlt)]
  rw [List.take_set_of_le (Nat.le_refl _)]
  simp only [List.getElem_set_self, List.append_assoc, List.cons_append, List.nil_append]
  rw [show off + k + 1 + l.length = off + k + (l.length + 1) by omega]
theorem qyf {c : List AV} {C : Array Value} (hc : RepL ι c C.toList) (h1 : ∀ v ∈ C.toList, v.oneCell = true) {v : AV} {V : Value} (hv : Rep ι v V) {l c' : List AV} (hl : qh2 v = some l) {off size : Nat} (h : qq5 c off size l = some c') :
  V.cells.size = size ∧ off + V.cells.size ≤ C.size ∧ RepL ι c' (V.cells.zipIdx.foldl (fun cs (x : Value × Nat) => cs.setIfInBounds (off + x.2) x.1) C).toList ∧
   (∀ x ∈ (V.cells.zipIdx.foldl (fun cs (x : Value × Nat) => cs.setIfInBounds (off + x.2) x.1) C).toList, x.oneCell = true) := by
 obtain ⟨v1, v2⟩ := qzc hv hl
 unfold qq5 at h
 cases hb : (Nat.beq l.length size && Nat.ble (off + size) c.length) with
 | false => rw [hb] at h; cases h
 | true =>
  rw [hb] at h; simp only [cond_true, Option.some.injEq] at h; subst h
  simp only [Bool.and_eq_true] at hb
  have b1 := qmn hb.1
  have b2 := qk7 hb.2
  have e1 : V.cells.size = size := by have := v1.length; simpa [b1] using this
  have e2 : C.size = c.length := by simpa using hc.length
  have hf : (V.cells.zipIdx.foldl (fun cs (x : Value × Nat) => cs.setIfInBounds (off + x.2) x.1) C).toList = C.toList.take off ++ V.cells.toList ++ C.toList.drop (off + size) := by
   rw [← Array.foldl_toList, Array.toList_zipIdx, q4e _ _ _ _ (by simp; omega)]
   simp [e1]
  rw [hf]
  refine ⟨e1, by omega, (((hc.take off).append v1).append (hc.drop (off + size))), fun x hx => ?_⟩
  simp only [List.mem_append] at hx
  rcases hx with (hx | hx) | hx
  ·exact h1 x (List.mem_of_mem_take hx)
  ·exact v2 x hx
  ·exact h1 x (List.mem_of_mem_drop hx)
def RepP (ι : Im) (place : Nat → Option (Nat × Nat)) : List (Nat × Nat × AV) → List (Nat × Value) → Prop
 | [], ps => ps = []
 | (off, size, v) :: l, ps => ∃ i V r, ps = (i, V) :: r ∧ place i = some (off, size) ∧ Rep ι v V ∧ RepP ι place l r
theorem qpj (h : LR ι d n L a.tmps) (place : Nat → Option (Nat × Nat)) : ∀ (ps : List (Nat × Operand)) (r : RdP d), qsj d n place ps = some r → RepP ι place (r.f L) (ps.map fun (i, x) => (i, a.eval x))
 | [], r, hr => by simp only [qsj, Option.some.injEq] at hr; subst hr; simp [RepP]
 | (i, x) :: ps, r, hr => by
  simp only [qsj] at hr
  split at hr
  ·rename_i off size g h' e1 e2 e3
   simp only [Option.some.injEq] at hr; subst hr
   simp only [List.map_cons, RepP]
   refine ⟨i, a.eval x, _, rfl, e1, ?_, ?_⟩
   ·have := qah h x; rw [e2] at this; exact this
   ·exact qpj h place ps _ e3
  ·cases hr
theorem qmp {place : Nat → Option (Nat × Nat)} : ∀ {l : List (Nat × Nat × AV)} {ps : List (Nat × Value)} {c c' : List AV} {C : Array Value}, RepP ι place l ps → RepL ι c C.toList → (∀ v ∈ C.toList, v.oneCell = true) → qal c l = some c' →
  ∃ C', Instr.fill place C ps = some C' ∧ RepL ι c' C'.toList ∧ ∀ v ∈ C'.toList, v.oneCell = true
 | [], ps, c, c', C, hp, hc, h1, h => by
  simp only [RepP] at hp; subst hp
  simp only [qal, Option.some.injEq] at h; subst h
  exact ⟨C, rfl, hc, h1⟩
 | (off, size, v) :: l, ps, c, c', C, hp, hc, h1, h => by
  simp only [RepP] at hp
  obtain ⟨i, V, r, rfl, hpl, hv, hr⟩ := hp
  simp only [qal] at h
  split at h
  ·rename_i lv hlv
   split at h
   ·rename_i c1 hc1
    obtain ⟨a1, a2, a3, a4⟩ := qyf hc h1 hv hlv hc1
    obtain ⟨C', b1, b2, b3⟩ := qmp hr a3 a4 h
    refine ⟨C', ?_, b2, b3⟩
    simp only [Instr.fill, hpl]
    rw [if_neg (by simp [a1]; omega)]
    exact b1
   ·cases h
  ·cases h
theorem q3q {t e : TypeId} {ps : Array (Nat × Operand)} (ho : o.op = .build t ps) {len : Nat} (ht : P.underlying t = some (.array len e)) {z : List AV} (hz : qpw P t = some z) {s : Nat} (hs : qcl P e = some s) {r : RdP d} (hr : qsj d n (fun i => some (i * s, s)) ps.toList = some r) (h : LR ι d n L a.tmps) :
  QOk P o a.eval ι w nm (aggN (qal z (r.f L))) := by
 obtain ⟨zv, z1, z2, z3⟩ := qhm (ι := ι) hz
 cases hp : qal z (r.f L) with
 | none => trivial
 | some c =>
  obtain ⟨C', b1, b2, b3⟩ := qmp (qpj h _ _ _ hr) z2 z3 hp
  refine ⟨.agg C', ?_, by simp only [Rep]; exact ⟨_, b2, by simp, b3⟩⟩
  simp only [execOp, ho, Instr.build, Sem.run_bind, qh9 z1, Result.andThen_ok, qaf ht, qeg hs, Array.toList_map, b1]
  rfl
theorem qra (fs : List Field) (h : ∀ f ∈ fs, (qcl P f.type).isSome = true) : ∀ (acc : Array (Nat × Nat)),
  (List.foldlM (fun (bs : Array (Nat × Nat)) (f : Field) => do let y ← (do pure (f.offset, ← sizeOf f.type) : Sem (Nat × Nat)); pure (bs.push y)) acc fs).run P w =
   .ok (acc ++ (fs.map fun f => (f.offset, (qcl P f.type).getD 0)).toArray) w := by
 induction fs with
 | nil => intro acc; simp
 | cons f fs ih =>
  intro acc
  obtain ⟨s, hs⟩ := Option.isSome_iff_exists.1 (h f (by simp))
  rw [List.foldlM_cons]
  simp only [Sem.run_bind, qeg hs, Result.andThen_ok, Sem.run_pure]
  rw [ih (fun g hg => h g (by simp [hg]))]
  simp [hs]
theorem q3p {t : TypeId} {ps : Array (Nat × Operand)} (ho : o.op = .build t ps) {fs : Array Field} (ht : P.underlying t = some (.struct fs)) {z : List AV} (hz : qpw P t = some z) (hfs : fs.toList.all (fun f => (qcl P f.type).isSome) = true) {r : RdP d} (hr : qsj d n (qm5 P fs) ps.toList = some r) (h : LR ι d n L a.tmps) :
  QOk P o a.eval ι w nm (aggN (qal z (r.f L))) := by
 obtain ⟨zv, z1, z2, z3⟩ := qhm (ι := ι) hz
 cases hp : qal z (r.f L) with
 | none => trivial
 | some c =>
  have hall : ∀ f ∈ fs.toList, (qcl P f.type).isSome = true := fun f hf => List.all_eq_true.1 hfs f hf
  obtain ⟨C', b1, b2, b3⟩ := qmp (qpj h _ _ _ hr) z2 z3 hp
  refine ⟨.agg C', ?_, by simp only [Rep]; exact ⟨_, b2, by simp, b3⟩⟩
  have hpl : (fun i => (fs.map fun f => (f.offset, (qcl P f.type).getD 0))[i]?) = qm5 P fs := by
   funext i
   unfold qm5
   rw [Array.getElem?_map]
   cases hf : fs[i]? with
   | none => rfl
   | some f =>
    have hm : f ∈ fs.toList := by simpa using Array.mem_of_getElem? hf
    obtain ⟨s, hs⟩ := Option.isSome_iff_exists.1 (hall f hm)
    simp [hs]
  have hmap : (fs.mapM fun f => (do pure (f.offset, ← sizeOf f.type) : Sem (Nat × Nat))).run P w = .ok (fs.map fun f => (f.offset, (qcl P f.type).getD 0)) w := by
   rw [Array.mapM_eq_foldlM, ← Array.foldlM_toList]
   have := qra (P := P) (w := w) fs.toList hall #[]
   simp only [bind_pure_comp] at this ⊢
   rw [this]
   congr 1
   apply Array.ext'
   simp
  simp only [execOp, ho, Instr.build, Sem.run_bind, qh9 z1, Result.andThen_ok, qaf ht, hmap, Array.toList_map]
  rw [hpl, b1]
  rfl
end Go.Ev
end
section
namespace Go.Ev
open Go.RowKit
variable {P : Program} {w : World} {ι : Im} {o : Oper} {a : Act} {nm : Nat} {d n : Nat} {L : TT AV d} {H : Hp}
theorem qup {t e : TypeId} {len : Nat} {ps : Array (Nat × Operand)} (ho : o.op = .buildSlice t len ps) (ht : P.underlying t = some (.slice e)) {z : List AV} (hz : qpw P e = some z) {s : Nat} (hs : qcl P e = some s) (hzs : z.length = s) (hls : len * s ≤ 65536)
  {r : RdP d} (hr : qsj d n (fun i => some (i * s, s)) ps.toList = some r) (h : LR ι d n L a.tmps) :
  QOk P o a.eval ι w nm (qis len nm (qal (reps z len) (r.f L))) := by
 obtain ⟨zv, z1, z2, z3⟩ := qhm (ι := ι) hz
 have hzl : zv.cells.toList.length = s := by rw [z2.length, hzs]
 cases hp : qal (reps z len) (r.f L) with
 | none => trivial
 | some c =>
  obtain ⟨C', b1, b2, b3⟩ := qmp (C := (repV zv.cells.toList len).toArray) (qpj h _ _ _ hr) (by simpa using qpg z2 len) (fun v hv => z3 v (qof (by simpa using hv))) hp
  refine ⟨.slice (some ⟨w.heap.size, 0, none⟩) len len, w.alloc (.cells C'.toList.toArray e), ⟨w.heap.size, 0, 0, 0⟩, ?_, New.alloc w _ 0 0, fun ι' hle hi => ⟨?_, qnz b2 b3 e nm 0 ι' hle hi⟩⟩
  ·have hbig : ¬ (len * s > 2 ^ 24) := by omega
   simp only [execOp, ho, Instr.buildSlice, Sem.run_bind, qaf ht, Result.andThen_ok, qeg hs, if_neg hbig, Sem.run_pure, Array.toList_map, Sem.run_ite]
   by_cases h0 : len * s = 0
   ·have hr0 : (repV zv.cells.toList len) = [] := List.length_eq_zero_iff.1 (by rw [qf4, hzl, h0])
    rw [hr0] at b1
    have e0 : Array.map (fun x => (#[] : Array Value)[x % (#[] : Array Value).size]!) (Array.range 0) = #[] := by apply Array.ext'; simp
    simp only [h0, if_true]
    rw [e0, b1]
    simp [newRow]
   ·simp only [h0, if_false, qh9 z1, Result.andThen_ok]
    rw [range_zero zv.cells len s (by simpa using hzl), b1]
    simp [newRow]
  ·simp only [Rep]; exact ⟨Nat.le_refl _, _, hi, by simp⟩
theorem q6q {t : TypeId} {x : Operand} {f : Nat} (ho : o.op = .field t x f) {fs : Array Field} (ht : P.underlying t = some (.struct fs)) {fl : Field} (hf : fs[f]? = some fl) (h : LR ι d n L a.tmps) :
  QOk P o a.eval ι w nm (qxu (qpi P fl.type) fl.offset ((opnd d n x).f L)) := by
 have hx := qah h x
 unfold qxu
 split
 ·rename_i l e
  rw [e] at hx
  obtain ⟨vs, h1, h2, h3⟩ := qk5 hx
  split
  ·rename_i v hv
   obtain ⟨V, r, hV⟩ := qp7 h1 h3 hv
   exact ⟨V, by simp [execOp, ho, Instr.field, qaf ht, hf, h2, asAgg, r], hV⟩
  ·trivial
 ·trivial
theorem q9l {t e : TypeId} {x y : Operand} (ho : o.op = .index t x y) {len : Nat} (ht : P.underlying t = some (.array len e)) {z : Nat} (hz : qcl P e = some z) (h : LR ι d n L a.tmps) :
  QOk P o a.eval ι w nm (idxV (qpi P e) len z ((opnd d n x).f L) ((opnd d n y).f L)) := by
 have hx := qah h x
 have hy := qah h y
 unfold idxV
 split
 ·rename_i l k i e1 e2
  rw [e1] at hx; rw [e2] at hy; simp only [Rep] at hy
  obtain ⟨vs, h1, h2, h3⟩ := qk5 hx
  cases hi : Nat.blt i len with
  | false => trivial
  | true =>
   have hi' := qmf hi
   simp only [cond_true]
   split
   ·rename_i v hv
    obtain ⟨V, r, hV⟩ := qp7 h1 h3 hv
    refine ⟨V, ?_, hV⟩
    have r' : ∀ w, (part e vs.toArray (i * z)).run P w = .ok V w := r
    simp [execOp, ho, Instr.index, qaf ht, h2, hy, asIntOf, qeg hz, hi', r']
   ·trivial
 ·trivial
/- len, cap, min, max -/
theorem qss {x : Operand} {t : TypeId} {m : Nat} (ho : o.op = .call { callee := .builtin .len, args := #[x], argTypes := #[t] })
  (ht : (∃ e, P.underlying t = some (.array m e)) ∨ ∃ arr e, P.underlying t = some (.pointer arr) ∧ P.underlying arr = some (.array m e)) : QOk P o a.eval ι w nm (.val (i64 m)) := by
 refine ⟨_, ?_, qfe _ _⟩
 rcases ht with ⟨e, ht⟩ | ⟨arr, e, ht, ha⟩
 ·simp [execOp, ho, resolve, invoke, builtin, Builtin.len_, qaf ht, goInt]
 ·simp [execOp, ho, resolve, invoke, builtin, Builtin.len_, qaf ht, qaf ha, goInt]
theorem qyo {x : Operand} {t : TypeId} {m : Nat} (ho : o.op = .call { callee := .builtin .cap, args := #[x], argTypes := #[t] })
  (ht : ∃ e, P.underlying t = some (.array m e)) : QOk P o a.eval ι w nm (.val (i64 m)) := by
 refine ⟨_, ?_, qfe _ _⟩
 obtain ⟨e, ht⟩ := ht
 simp [execOp, ho, resolve, invoke, builtin, Builtin.cap_, qaf ht, goInt]
theorem q3n {x : Operand} {t : TypeId} (ho : o.op = .call { callee := .builtin .len, args := #[x], argTypes := #[t] }) (ht : P.underlying t = some .string) (h : LR ι d n L a.tmps) :
  QOk P o a.eval ι w nm (lenS ((opnd d n x).f L)) := by
 have hx := qah h x
 unfold lenS
 split
 ·rename_i e; rw [e] at hx; simp only [Rep] at hx
  obtain ⟨s, h1, h2, _⟩ := hx
  refine ⟨_, ?_, qfe _ _⟩
  have : s.size = _ := h2
  simp [execOp, ho, resolve, invoke, builtin, Builtin.len_, qaf ht, goInt, h1, this]
 ·trivial
theorem q6p {x : Operand} {t e : TypeId} (ho : o.op = .call { callee := .builtin .len, args := #[x], argTypes := #[t] }) (ht : P.underlying t = some (.slice e)) (h : LR ι d n L a.tmps) :
  QOk P o a.eval ι w nm (lenSl ((opnd d n x).f L)) := by
 have hx := qah h x
 unfold lenSl
 split
 ·rename_i e; rw [e] at hx; simp only [Rep] at hx
  obtain ⟨_, l, _, h1⟩ := hx
  exact ⟨_, by simp [execOp, ho, resolve, invoke, builtin, Builtin.len_, qaf ht, goInt, h1], qfe _ _⟩
 ·rename_i e; rw [e] at hx; simp only [Rep] at hx
  exact ⟨_, by simp [execOp, ho, resolve, invoke, builtin, Builtin.len_, qaf ht, goInt, hx], qfe _ _⟩
 ·rename_i e; rw [e] at hx; simp only [Rep] at hx
  obtain ⟨_, _, h1⟩ := hx
  exact ⟨_, by simp [execOp, ho, resolve, invoke, builtin, Builtin.len_, qaf ht, goInt, h1], qfe _ _⟩
 ·trivial
theorem RepE.length : ∀ {es : List Ent} {ES : List MapEntry}, RepE ι es ES → ES.length = es.length
 | [], ES, h => by simp only [RepE] at h; subst h; rfl
 | x :: es, ES, h => by
  simp only [RepE] at h
  obtain ⟨e, r, rfl, _, _, _, h5⟩ := h
  simp [RepE.length h5]
theorem q9k {x : Operand} {t k e : TypeId} (ho : o.op = .call { callee := .builtin .len, args := #[x], argTypes := #[t] }) (ht : P.underlying t = some (.map k e)) (hH : HR ι H w) (h : LR ι d n L a.tmps) :
  QOk P o a.eval ι w nm (lenM H ((opnd d n x).f L)) := by
 have hx := qah h x
 unfold lenM
 split
 ·rename_i e; rw [e] at hx; simp only [Rep] at hx
  exact ⟨_, by simp [execOp, ho, resolve, invoke, builtin, Builtin.len_, qaf ht, goInt, hx], qfe _ _⟩
 ·rename_i m e; rw [e] at hx; simp only [Rep] at hx
  obtain ⟨l, h1, h2⟩ := hx
  have hb := hH.blk m (hH.lt h1)
  split
  ·rename_i es clock hg
   rw [hg] at hb
   obtain ⟨l', ES, h3, h4, h5⟩ := hb
   rw [h1] at h3; cases h3
   have hl := h5.length
   refine ⟨_, ?_, qfe _ _⟩
   simp [execOp, ho, resolve, invoke, builtin, Builtin.len_, qaf ht, goInt, h2, getObj, Sem.run, h4, hl]
  ·trivial
 ·trivial
theorem q6u {x : Operand} {t e : TypeId} (ho : o.op = .call { callee := .builtin .cap, args := #[x], argTypes := #[t] }) (ht : P.underlying t = some (.slice e)) (h : LR ι d n L a.tmps) :
  QOk P o a.eval ι w nm (capV ((opnd d n x).f L)) := by
 have hx := qah h x
 unfold capV
 split
 ·rename_i e; rw [e] at hx; simp only [Rep] at hx
  obtain ⟨_, l, _, h1⟩ := hx
  exact ⟨_, by simp [execOp, ho, resolve, invoke, builtin, Builtin.cap_, qaf ht, goInt, h1], qfe _ _⟩
 ·rename_i e; rw [e] at hx; simp only [Rep] at hx
  exact ⟨_, by simp [execOp, ho, resolve, invoke, builtin, Builtin.cap_, qaf ht, goInt, hx], qfe _ _⟩
 ·trivial
theorem qxo : ∀ (l : List AV) (ls : List Value) (x : AV) (X : Value) (v : AV), RepL ι l ls → Rep ι x X → qo0 minV x l = .val v → ∃ V, (ls.foldlM Builtin.min2 X).run P w = .ok V w ∧ Rep ι v V
 | [], ls, x, X, v, hl, hx, h => by
  simp only [RepL] at hl; subst hl
  have h : R0.val x = .val v := h
  cases h; exact ⟨X, by simp, hx⟩
 | y :: l, ls, x, X, v, hl, hx, h => by
  simp only [RepL] at hl
  obtain ⟨Y, r, rfl, hy, hr⟩ := hl
  have h : (match minV x y with | .val z => qo0 minV z l | _ => .bad) = .val v := h
  split at h
  ·rename_i z hz
   have hm : ∃ Z, (Builtin.min2 X Y).run P w = .ok Z w ∧ Rep ι z Z := by
    unfold minV at hz
    split at hz
    ·simp only [R0.val.injEq] at hz; subst hz
     simp only [Rep] at hx hy; subst hx hy
     refine ⟨_, rfl, ?_⟩
     simp only [Rep, qnb]
     split <;> rename_i hlt <;> simp [hlt]
    ·cases hz
   obtain ⟨Z, z1, z2⟩ := hm
   obtain ⟨V, v1, v2⟩ := qxo l r z Z v hr z2 h
   exact ⟨V, by rw [List.foldlM_cons, Sem.run_bind, z1]; exact v1, v2⟩
  ·cases h
theorem qxp : ∀ (l : List AV) (ls : List Value) (x : AV) (X : Value) (v : AV), RepL ι l ls → Rep ι x X → qo0 maxV x l = .val v → ∃ V, (ls.foldlM Builtin.max2 X).run P w = .ok V w ∧ Rep ι v V
 | [], ls, x, X, v, hl, hx, h => by
  simp only [RepL] at hl; subst hl
  have h : R0.val x = .val v := h
  cases h; exact ⟨X, by simp, hx⟩
 | y :: l, ls, x, X, v, hl, hx, h => by
  simp only [RepL] at hl
  obtain ⟨Y, r, rfl, hy, hr⟩ := hl
  have h : (match maxV x y with | .val z => qo0 maxV z l | _ => .bad) = .val v := h
  split at h
  ·rename_i z hz
   have hm : ∃ Z, (Builtin.max2 X Y).run P w = .ok Z w ∧ Rep ι z Z := by
    unfold maxV at hz
    split at hz
    ·simp only [R0.val.injEq] at hz; subst hz
     simp only [Rep] at hx hy; subst hx hy
     refine ⟨_, rfl, ?_⟩
     simp only [Rep, qnb]
     split <;> rename_i hlt <;> simp [hlt]
    ·cases hz
   obtain ⟨Z, z1, z2⟩ := hm
   obtain ⟨V, v1, v2⟩ := qxp l r z Z v hr z2 h
   exact ⟨V, by rw [List.foldlM_cons, Sem.run_bind, z1]; exact v1, v2⟩
  ·cases h
theorem qqb (g : AV → AV → R0) : ∀ (l : List AV) (x : AV), qo0 g x l = .bad ∨ ∃ v, qo0 g x l = .val v
 | [], x => .inr ⟨x, rfl⟩
 | y :: l, x => by
  show (match g x y with | .val z => qo0 g z l | _ => .bad) = .bad ∨ ∃ v, (match g x y with | .val z => qo0 g z l | _ => .bad) = .val v
  split
  ·exact qqb g l _
  ·exact .inl rfl
theorem q_min {x : Operand} {r : List Operand} {ts : Array TypeId} (ho : o.op = .call { callee := .builtin .min, args := (x :: r).toArray, argTypes := ts }) (h : LR ι d n L a.tmps) :
  QOk P o a.eval ι w nm (qo0 minV ((opnd d n x).f L) ((ql8 d n r).f L)) := by
 rcases qqb minV ((ql8 d n r).f L) ((opnd d n x).f L) with hf | ⟨v, hf⟩
 ·rw [hf]; trivial
 ·obtain ⟨V, v1, v2⟩ := qxo (P := P) (w := w) _ _ _ _ v (qhx h r) (qah h x) hf
  rw [hf]
  refine ⟨V, ?_, v2⟩
  simp [execOp, ho, resolve, invoke, builtin, Builtin.min_, v1]
theorem q_max {x : Operand} {r : List Operand} {ts : Array TypeId} (ho : o.op = .call { callee := .builtin .max, args := (x :: r).toArray, argTypes := ts }) (h : LR ι d n L a.tmps) :
  QOk P o a.eval ι w nm (qo0 maxV ((opnd d n x).f L) ((ql8 d n r).f L)) := by
 rcases qqb maxV ((ql8 d n r).f L) ((opnd d n x).f L) with hf | ⟨v, hf⟩
 ·rw [hf]; trivial
 ·obtain ⟨V, v1, v2⟩ := qxp (P := P) (w := w) _ _ _ _ v (qhx h r) (qah h x) hf
  rw [hf]
  refine ⟨V, ?_, v2⟩
  simp [execOp, ho, resolve, invoke, builtin, Builtin.max_, v1]
end Go.Ev
end
section
namespace Go.Ev
open Go.RowKit
variable {P : Program} {w : World} {ι : Im} {o : Oper} {a : Act} {nm : Nat} {d n : Nat} {L : TT AV d} {H : Hp}
/- keys -/
theorem qsd (em : Bool) : ∀ (D : Nat) (t : TypeId), qtx P D t = true → ∀ (D' : Nat), D ≤ D' → ∀ (K : Value), (qfo P t = some true → ∃ vs : List Value, K = .agg vs.toArray ∧ qcl P t = some vs.length) → ∀ w, (Instr.checkKey em D' t K).run P w = .ok () w := by
 intro D
 induction D with
 | zero => intro t h; simp [qtx] at h
 | succ D ih =>
  intro t h D' hD K hK w
  obtain ⟨E, rfl⟩ : ∃ E, D' = E + 1 := ⟨D' - 1, by omega⟩
  have pk : ∀ (u : TypeId) (m : Nat), qcl P u = some m → 0 < m → qtx P D u = true → ∀ (vs : List Value) (off : Nat), off + m ≤ vs.length → ∀ w, ((do let p ← part u vs.toArray off; Instr.checkKey em E u p) : Sem Unit).run P w = .ok () w := by
   intro u m hu h0 hk vs off hle w
   rw [Sem.run_bind]
   cases ha : qfo P u with
   | none =>
    unfold qfo at ha
    cases hun : P.underlying u with
    | none => cases D <;> simp [qtx, hun] at hk
    | some _ => rw [hun] at ha; cases ha
   | some b =>
    cases b with
    | true =>
     have : (part u vs.toArray off).run P w = .ok (.agg ((vs.drop off).take m).toArray) w := by
      simp [part, qnw ha, qeg hu]
     rw [this, Result.andThen_ok]
     refine ih u hk E (by omega) _ (fun _ => ⟨_, rfl, ?_⟩) w
     rw [hu]; simp; omega
    | false =>
     have hlt : off < vs.length := by omega
     have : (part u vs.toArray off).run P w = .ok vs[off] w := by simp [part, qnw ha, hlt]
     rw [this, Result.andThen_ok]
     exact ih u hk E (by omega) _ (fun h' => by rw [ha] at h'; cases h') w
  rw [qtx] at h
  split at h
  ·rename_i ht _
   unfold Instr.checkKey
   simp [qaf ht]
  ·rename_i ht _
   unfold Instr.checkKey
   simp [qaf ht]
  ·rename_i ht _
   unfold Instr.checkKey
   simp [qaf ht]
  ·rename_i fs N ht hN
   obtain ⟨vs, rfl, hvs⟩ := hK (by simp [qfo, ht])
   have hN' : N = vs.length := by rw [hN] at hvs; simpa using hvs
   unfold Instr.checkKey
   simp only [Sem.run_bind, qaf ht, Result.andThen_ok]
   rw [← Array.forIn_toList]
   have hall := List.all_eq_true.1 h
   have loop : ∀ (l : List Field), (∀ f ∈ l, f ∈ fs.toList) → ∀ w, (forIn l () fun f _ => (do
     if f.name ≠ "_" then (do let p ← part f.type vs.toArray f.offset; Instr.checkKey em E f.type p; pure (ForInStep.yield ())) else pure (ForInStep.yield ()) : Sem (ForInStep Unit))).run P w = .ok () w := by
    intro l
    induction l with
    | nil => intro _ w; simp
    | cons f l ihl =>
     intro hl w
     have hf := hall f (hl f (by simp))
     rw [List.forIn_cons]
     split at hf
     ·rename_i m hm
      simp only [Bool.and_eq_true] at hf
      obtain ⟨⟨f1, f2⟩, f3⟩ := hf
      have r := pk f.type m hm (qmf f3) f2 vs f.offset (by have := qk7 f1; omega)
      by_cases hn : f.name = "_"
      ·simp only [hn, ne_eq, not_true_eq_false, if_false, pure_bind]
       exact ihl (fun g hg => hl g (by simp [hg])) w
      ·simp only [ne_eq, hn, not_false_eq_true, if_true, bind_assoc, pure_bind]
       rw [← bind_assoc, Sem.run_bind, r w, Result.andThen_ok]
       exact ihl (fun g hg => hl g (by simp [hg])) w
     ·cases hf
   have := loop fs.toList (fun f hf => hf) w
   simp at this ⊢
   erw [this]
   rfl
  ·rename_i len e N ht hN
   obtain ⟨vs, rfl, hvs⟩ := hK (by simp [qfo, ht])
   have hN' : N = vs.length := by rw [hN] at hvs; simpa using hvs
   split at h
   ·rename_i m hm
    simp only [Bool.and_eq_true] at h
    obtain ⟨⟨f1, f2⟩, f3⟩ := h
    have f1 := qk7 f1
    unfold Instr.checkKey
    simp only [Sem.run_bind, qaf ht, Result.andThen_ok, Std.Legacy.Range.forIn_eq_forIn_range', Std.Legacy.Range.size, Nat.sub_zero, Nat.add_sub_cancel, Nat.div_one]
    have loop : ∀ (k i : Nat), i + k ≤ len → ∀ w, (forIn (List.range' i k) () fun i _ => (do
      let s ← sizeOf e; let p ← part e vs.toArray (i * s); Instr.checkKey em E e p; pure (ForInStep.yield ()) : Sem (ForInStep Unit))).run P w = .ok () w := by
     intro k
     induction k with
     | zero => intro i _ w; simp
     | succ k ihk =>
      intro i hi w
      have hle : i * m + m ≤ vs.length := by
       have h1 : (i + 1) * m ≤ len * m := Nat.mul_le_mul_right m (by omega)
       rw [Nat.add_mul, Nat.one_mul] at h1
       omega
      have r := pk e m hm (qmf f3) f2 vs (i * m) hle
      rw [List.range'_succ, List.forIn_cons]
      simp only [bind_assoc, pure_bind]
      rw [Sem.run_bind, qeg hm, Result.andThen_ok, ← bind_assoc, Sem.run_bind, r w, Result.andThen_ok]
      exact ihk (i + 1) (by omega) w
    have := loop len 0 (by omega) w
    simp at this ⊢
    erw [this]
    rfl
   ·cases h
  ·cases h
theorem RepE.get : ∀ {es : List Ent} {ES : List MapEntry}, RepE ι es ES → ∀ (i : Nat) (x : Ent), es[i]? = some x → ∃ e, ES[i]? = some e ∧ Rep ι x.key e.key ∧ Rep ι x.val e.val ∧ e.born = x.born
 | [], ES, h, i, x, hi => by simp at hi
 | y :: es, ES, h, i, x, hi => by
  simp only [RepE] at h
  obtain ⟨e, r, rfl, h1, h2, h3, h4⟩ := h
  cases i with
  | zero => simp at hi; subst hi; exact ⟨e, rfl, h1, h2, h3⟩
  | succ i => simp at hi; obtain ⟨e', a1, a2⟩ := RepE.get h4 i x hi; exact ⟨e', by simpa using a1, a2⟩
def qwn (ι : Im) (es : List Ent) (ES : List MapEntry) : Option Hit → Option (Nat × Value) → Prop
 | none, R => R = none
 | some h, R => ∃ V E, R = some (h.i, V) ∧ es[h.i]? = some h.x ∧ ES[h.i]? = some E ∧ Rep ι h.x.key E.key ∧ Rep ι h.x.val V ∧ E.val = V ∧ E.born = h.x.born
theorem qm4 {e : AV → AV → Option Bool} {k : AV} : ∀ (es : List Ent) (i : Nat) (r : Option Hit), qwe e k es i = some r → ∀ h, r = some h → i ≤ h.i ∧ es[h.i - i]? = some h.x
 | [], i, r, hr, h, hh => by
  have hr : (some none : Option (Option Hit)) = some r := hr
  cases hr; cases hh
 | x :: es, i, r, hr, h, hh => by
  have hr : (match e k x.key with | some true => some (some ⟨i, x⟩) | some false => qwe e k es (i + 1) | none => none) = some r := hr
  split at hr
  ·simp only [Option.some.injEq] at hr; subst hr; cases hh; exact ⟨Nat.le_refl _, by simp⟩
  ·obtain ⟨h1, h2⟩ := qm4 es (i + 1) r hr h hh
   refine ⟨by omega, ?_⟩
   rw [show h.i - i = (h.i - (i + 1)) + 1 by omega, List.getElem?_cons_succ]; exact h2
  ·cases hr
theorem qs0 {td : TypeDesc} {e : AV → AV → Option Bool} {k : AV} {K : Value} (hs : ∀ x X b, e k x = some b → Rep ι x X → Instr.sameNow td K X = some b) :
  ∀ (es : List Ent) (ES : List MapEntry) (i : Nat) (r : Option Hit), RepE ι es ES → qwe e k es i = some r →
  ∃ R, Instr.findNow td K ES i = some R ∧ (r = none → R = none) ∧ ∀ h, r = some h → ∃ E, ES[h.i - i]? = some E ∧ R = some (h.i, E.val)
 | [], ES, i, r, hE, hr => by
  have hr : (some none : Option (Option Hit)) = some r := hr
  cases hr
  simp only [RepE] at hE; subst hE
  exact ⟨none, rfl, fun _ => rfl, fun h hh => by cases hh⟩
 | x :: es, ES, i, r, hE, hr => by
  simp only [RepE] at hE
  obtain ⟨E, rr, rfl, h1, h2, h3, h4⟩ := hE
  have hr : (match e k x.key with | some true => some (some ⟨i, x⟩) | some false => qwe e k es (i + 1) | none => none) = some r := hr
  split at hr
  ·rename_i hb
   simp only [Option.some.injEq] at hr; subst hr
   refine ⟨some (i, E.val), by simp [Instr.findNow, hs _ _ _ hb h1], (fun h => by cases h), fun h hh => ?_⟩
   cases hh; exact ⟨E, by simp, rfl⟩
  ·rename_i hb
   obtain ⟨R, r1, r2, r3⟩ := qs0 hs es rr (i + 1) r h4 hr
   refine ⟨R, by simp [Instr.findNow, hs _ _ _ hb h1, r1], r2, fun h hh => ?_⟩
   obtain ⟨E', e1, e2⟩ := r3 h hh
   obtain ⟨g1, _⟩ := qm4 es (i + 1) r hr h hh
   exact ⟨E', by rw [show h.i - i = (h.i - (i + 1)) + 1 by omega, List.getElem?_cons_succ]; exact e1, e2⟩
  ·cases hr
theorem qs1 {kt : TypeId} {e : AV → AV → Option Bool} {k : AV} {K : Value} (hs : ∀ x X b, e k x = some b → Rep ι x X → ∀ w, (Op.equal kt K X).run P w = .ok b w) :
  ∀ (es : List Ent) (ES : List MapEntry) (i : Nat) (r : Option Hit), RepE ι es ES → qwe e k es i = some r →
  ∃ R, (∀ w, (Instr.findAsking kt K ES i).run P w = .ok R w) ∧ (r = none → R = none) ∧ ∀ h, r = some h → ∃ E, ES[h.i - i]? = some E ∧ R = some (h.i, E.val)
 | [], ES, i, r, hE, hr => by
  have hr : (some none : Option (Option Hit)) = some r := hr
  cases hr
  simp only [RepE] at hE; subst hE
  exact ⟨none, fun _ => rfl, fun _ => rfl, fun h hh => by cases hh⟩
 | x :: es, ES, i, r, hE, hr => by
  simp only [RepE] at hE
  obtain ⟨E, rr, rfl, h1, h2, h3, h4⟩ := hE
  have hr : (match e k x.key with | some true => some (some ⟨i, x⟩) | some false => qwe e k es (i + 1) | none => none) = some r := hr
  split at hr
  ·rename_i hb
   simp only [Option.some.injEq] at hr; subst hr
   refine ⟨some (i, E.val), fun w => by simp [Instr.findAsking, hs _ _ _ hb h1], (fun h => by cases h), fun h hh => ?_⟩
   cases hh; exact ⟨E, by simp, rfl⟩
  ·rename_i hb
   obtain ⟨R, r1, r2, r3⟩ := qs1 hs es rr (i + 1) r h4 hr
   refine ⟨R, fun w => by simp [Instr.findAsking, hs _ _ _ hb h1, r1], r2, fun h hh => ?_⟩
   obtain ⟨E', e1, e2⟩ := r3 h hh
   obtain ⟨g1, _⟩ := qm4 es (i + 1) r hr h hh
   exact ⟨E', by rw [show h.i - i = (h.i - (i + 1)) + 1 by omega, List.getElem?_cons_succ]; exact e1, e2⟩
  ·cases hr
theorem qm3 {kt : TypeId} {ky : Ky} (hky : keyS P kt = some ky) {k : AV} {K : Value} (hK : Rep ι k K) {es : List Ent} {ES : List MapEntry} (hE : RepE ι es ES) {r : Option Hit} (h : qva ky k es = some r) :
  (∀ em w, (Instr.checkKey em 10000 kt K).run P w = .ok () w) ∧ ∃ R, (∀ w, (Instr.findKey kt K ES).run P w = .ok R w) ∧ qwn ι es ES r R := by
 unfold qva at h
 cases hf : qv8 ky.s k with
 | false => rw [hf] at h; cases h
 | true =>
  rw [hf] at h; simp only [cond_true] at h
  have hq := q5t (P := P) (ι := ι) qid kt
  have fin : ∀ R : Option (Nat × Value), (r = none → R = none) → (∀ h, r = some h → ∃ E, ES[h.i - 0]? = some E ∧ R = some (h.i, E.val)) → qwn ι es ES r R := by
   intro R h1 h2
   cases r with
   | none => exact h1 rfl
   | some hh =>
    obtain ⟨E, e1, e2⟩ := h2 hh rfl
    rw [Nat.sub_zero] at e1
    obtain ⟨_, g2⟩ := qm4 es 0 _ h hh rfl
    rw [Nat.sub_zero] at g2
    obtain ⟨E', a1, a2, a3, a4⟩ := hE.get _ _ g2
    rw [e1] at a1; cases a1
    exact ⟨E.val, E, e2, g2, e1, a2, a3, rfl, a4⟩
  unfold keyS at hky
  have ask : ∀ (e : AV → AV → Option Bool), eqT P qid kt = ⟨e⟩ → ky.e = e → ∀ x X b, ky.e k x = some b → Rep ι x X → ∀ w, (Op.equal kt K X).run P w = .ok b w := by
   intro e he hke x X b hb hx w
   rw [hke] at hb
   rw [he] at hq
   exact hq k x K X b hb hK hx Op.maxDepth (by decide) w
  split at hky
  ·rename_i e N ho he ha hN
   simp only [Option.some.injEq] at hky; subst hky
   obtain ⟨l, rfl⟩ : ∃ l, k = .agg l := by cases k <;> first | exact ⟨_, rfl⟩ | (simp [qv8] at hf; done)
   obtain ⟨vs, v1, v2, v3⟩ := qk5 hK
   have hl : l.length = N := qmn hf
   refine ⟨fun em w => qsd em qid kt ho 10000 (by decide) K (fun _ => ⟨vs, v2, by rw [hN, v1.length, hl]⟩) w, ?_⟩
   obtain ⟨R, r1, r2, r3⟩ := qs1 (ask e he rfl) es ES 0 r hE h
   refine ⟨R, fun w => ?_, fin R r2 r3⟩
   have hu : ∃ td, P.underlying kt = some td := by
    unfold qfo at ha
    cases hun : P.underlying kt with
    | none => rw [hun] at ha; cases ha
    | some td => exact ⟨td, rfl⟩
   obtain ⟨td, hu⟩ := hu
   unfold Instr.findKey
   rw [Sem.run_bind, qaf hu, Result.andThen_ok]
   cases ES with
   | nil =>
    have : R = none := by
     cases r with
     | none => exact r2 rfl
     | some hh => obtain ⟨E, e1, _⟩ := r3 hh rfl; simp at e1
    subst this
    simp [Instr.findNow]
   | cons E rest =>
    have : Instr.findNow td K (E :: rest) 0 = none := by
     have htd : (∃ fs, td = .struct fs) ∨ ∃ n t, td = .array n t := by
      unfold qfo at ha
      rw [hu] at ha
      cases td <;> simp at ha
      ·exact .inr ⟨_, _, rfl⟩
      ·exact .inl ⟨_, rfl⟩
     rcases htd with ⟨fs, rfl⟩ | ⟨n, t, rfl⟩ <;> simp [Instr.findNow, Instr.sameNow]
    rw [this]
    exact r1 w
  ·rename_i e N ho he ha hN
   simp only [Option.some.injEq] at hky; subst hky
   have hchk : ∀ em w, (Instr.checkKey em 10000 kt K).run P w = .ok () w := fun em w => qsd em qid kt ho 10000 (by decide) K (fun h' => by rw [ha] at h'; cases h') w
   refine ⟨hchk, ?_⟩
   have now : ∀ td, P.underlying kt = some td → (∀ x X b, e k x = some b → Rep ι x X → Instr.sameNow td K X = some b) → ∃ R, (∀ w, (Instr.findKey kt K ES).run P w = .ok R w) ∧ qwn ι es ES r R := by
    intro td hu hs
    obtain ⟨R, r1, r2, r3⟩ := qs0 hs es ES 0 r hE h
    refine ⟨R, fun w => ?_, fin R r2 r3⟩
    unfold Instr.findKey
    rw [Sem.run_bind, qaf hu, Result.andThen_ok, r1]
    rfl
   have ho' := ho
   unfold qid at ho' he
   rw [show (20 : Nat) = 19 + 1 from rfl, qtx] at ho'
   rw [show (20 : Nat) = 19 + 1 from rfl, eqT] at he
   split at ho'
   ·rename_i ht _
    rw [ht] at he; simp only [E2.mk.injEq] at he; subst he
    refine now _ ht fun x X b hb hx => ?_
    unfold q4l at hb
    split at hb
    ·rename_i kk m k' p
     simp only [Rep] at hK hx; subst hK hx
     cases hk : eqK kk k' with
     | false => rw [hk] at hb; cases hb
     | true =>
      rw [hk] at hb; simp only [cond_true, Option.some.injEq] at hb; subst hb
      have := q4k hk; subst this
      simp [Instr.sameNow, qnc]
    ·cases hb
   ·rename_i ht _
    rw [ht] at he; simp only [E2.mk.injEq] at he; subst he
    refine now _ ht fun x X b hb hx => ?_
    unfold qjy at hb
    split at hb
    ·simp only [Rep] at hK hx
     obtain ⟨s, rfl, h1⟩ := hK
     obtain ⟨u, rfl, h2⟩ := hx
     simp only [Option.some.injEq] at hb; subst hb
     simp [Instr.sameNow, beq_toListBytes, qoc, h1.eq h2]
    ·cases hb
   ·rename_i ht _
    rw [ht] at he; simp only [E2.mk.injEq] at he; subst he
    refine now _ ht fun x X b hb hx => ?_
    unfold qml at hb
    split at hb
    ·simp only [Rep] at hK hx; subst hK hx
     simp only [Option.some.injEq] at hb; subst hb
     simp [Instr.sameNow]
    ·cases hb
   ·rename_i ht _
    unfold qfo at ha; rw [ht] at ha; simp at ha
   ·rename_i ht _
    unfold qfo at ha; rw [ht] at ha; simp at ha
   ·cases ho'
  ·cases hky
theorem q3m {t kt et : TypeId} {x y : Operand} {ok : Bool} (ho : o.op = .lookup t x y ok) (ht : P.underlying t = some (.map kt et)) {ky : Ky} (hky : keyS P kt = some ky) {z : Value} (hz : (P.info? et).bind (·.zero) = some z) (hH : HR ι H w) (h : LR ι d n L a.tmps) :
  QOk P o a.eval ι w nm (q7a ky (qtq z) ok H ((opnd d n x).f L) ((opnd d n y).f L)) := by
 have hx := qah h x
 have hy := qah h y
 have key : ∀ (es : List Ent) (ES : List MapEntry), RepE ι es ES → (∀ f : Array MapEntry → Sem Value, (execOp a.eval o).run P w = ((do
    Instr.checkKey ES.toArray.isEmpty 10000 kt (a.eval y)
    let (v, b) ← match ← Instr.findKey kt (a.eval y) ES with
     | some (_, v) => pure (v, true)
     | none => pure (← zeroValue et, false)
    pure (if ok then .tuple #[v, .bool b] else v) : Sem Value).run P w).andThen fun v w => .ok (.value v) w) →
   QOk P o a.eval ι w nm (q99 ok (qtq z) (qva ky ((opnd d n y).f L) es)) := by
  intro es ES hE hrun
  have hrun := hrun fun _ => pure .nilFunc
  cases hf : qva ky ((opnd d n y).f L) es with
  | none => trivial
  | some r =>
   obtain ⟨c1, R, c2, c3⟩ := qm3 hky hy hE hf
   cases r with
   | none =>
    simp only [qwn] at c3; subst c3
    refine ⟨if ok then .tuple #[z, .bool false] else z, ?_, ?_⟩
    ·rw [hrun]; simp [c1, c2, qh9 hz]
    ·cases ok
     ·exact qny z
     ·simp only [cond_true, if_true, Rep, RepL]
      exact ⟨[z, .bool false], ⟨z, _, rfl, qny z, _, _, rfl, rfl, rfl⟩, rfl⟩
   | some hit =>
    obtain ⟨V, E, rfl, a1, a2, a3, a4, a5, a6⟩ := c3
    refine ⟨if ok then .tuple #[V, .bool true] else V, ?_, ?_⟩
    ·rw [hrun]; simp [c1, c2]
    ·cases ok
     ·exact a4
     ·simp only [cond_true, if_true, Rep, RepL]
      exact ⟨[V, .bool true], ⟨V, _, rfl, a4, _, _, rfl, rfl, rfl⟩, rfl⟩
 unfold q7a q5u
 split
 ·rename_i es he
  split at he
  ·rename_i e1
   simp only [Option.some.injEq] at he; subst he
   rw [e1] at hx; simp only [Rep] at hx
   refine key [] [] (by simp [RepE]) fun _ => ?_
   simp [execOp, ho, Instr.lookup, qaf ht, hx]
   rfl
  ·rename_i m e1
   rw [e1] at hx; simp only [Rep] at hx
   obtain ⟨l, h1, h2⟩ := hx
   have hb := hH.blk m (hH.lt h1)
   split at he
   ·rename_i es' clock hg
    simp only [Option.some.injEq] at he; subst he
    rw [hg] at hb
    obtain ⟨l', ES, h3, h4, h5⟩ := hb
    rw [h1] at h3; cases h3
    refine key es' ES h5 fun _ => ?_
    simp [execOp, ho, Instr.lookup, qaf ht, h2, getObj, Sem.run, h4]
    rfl
   ·cases he
  ·cases he
 ·trivial
end Go.Ev
end
section
namespace Go.Ev
open Go.RowKit
variable {P : Program} {w : World} {ι : Im} {o : Oper} {a : Act} {nm : Nat} {d n : Nat} {L : TT AV d} {H : Hp}
theorem q_eq {op : BinOp} {t ty : TypeId} {x y : Operand} (ho : o.op = .binOp op t x y ty) (neg : Bool) (hop : op = if neg then .neq else .eql) {e : AV → AV → Option Bool} (he : eqT P qid t = ⟨e⟩)
  (hk : ∀ td, P.underlying t = some td → match td with | .bool | .pointer _ | .slice _ | .map .. | .func .. | .interface _ => True | .struct _ | .array .. => P.eqGuardType P.depth t = false | _ => False) (hu : ∃ td, P.underlying t = some td) (h : LR ι d n L a.tmps) :
  QOk P o a.eval ι w nm (qjn neg (e ((opnd d n x).f L) ((opnd d n y).f L))) := by
 have hx := qah h x
 have hy := qah h y
 unfold qjn
 split
 ·rename_i b hb
  have hq := q5t (P := P) (ι := ι) qid t
  rw [he] at hq
  have hr := hq _ _ _ _ _ hb hx hy Op.maxDepth (by decide) w
  refine ⟨.bool (if neg then !b else b), ?_, by simp only [Rep]; cases neg <;> rfl⟩
  obtain ⟨td, hu⟩ := hu
  have hk := hk td hu
  generalize hX : a.eval x = X at *
  generalize hY : a.eval y = Y at *
  have run : (∃ g, (eqGuard op t x y X Y).run P w = .ok g w) ∧ (binOp op t X Y).run P w = .ok (.bool (if neg then !b else b)) w := by
   unfold qid at he
   rw [show (20 : Nat) = 19 + 1 from rfl, eqT, hu] at he
   cases td <;> first | (exact hk.elim) | skip
   case bool =>
    simp only [E2.mk.injEq] at he; subst he
    unfold qml at hb
    split at hb
    ·rename_i e1 e2; rw [e1] at hx; rw [e2] at hy; simp only [Rep] at hx hy; subst hx hy
     cases neg <;> subst hop <;> simp [eqGuard, binOp, Op.equal, hr]
    ·cases hb
   case pointer =>
    simp only [E2.mk.injEq] at he; subst he
    unfold q4i at hb
    split at hb <;> first | (cases hb; done) | skip
    all_goals (rename_i e1 e2; rw [e1] at hx; rw [e2] at hy; simp only [Rep] at hx hy)
    ·subst hx hy; cases neg <;> subst hop <;> simp [eqGuard, binOp, Op.equal, hr]
    ·obtain ⟨l, _, rfl⟩ := hy; subst hx; cases neg <;> subst hop <;> simp [eqGuard, binOp, Op.equal, hr]
    ·obtain ⟨l, _, rfl⟩ := hx; subst hy; cases neg <;> subst hop <;> simp [eqGuard, binOp, Op.equal, hr]
   case slice =>
    simp only [E2.mk.injEq] at he; subst he
    unfold eqSl at hb
    split at hb <;> first | (cases hb; done) | skip
    all_goals (rename_i e1 e2; rw [e1] at hx; rw [e2] at hy; simp only [Rep] at hx hy)
    ·subst hx hy; cases neg <;> subst hop <;> simp [eqGuard, binOp, Op.equal, hr]
    ·obtain ⟨_, l, _, rfl⟩ := hy; subst hx; cases neg <;> subst hop <;> simp [eqGuard, binOp, Op.equal, hr]
    ·obtain ⟨_, l, rfl⟩ := hy; subst hx; cases neg <;> subst hop <;> simp [eqGuard, binOp, Op.equal, hr]
    ·obtain ⟨_, l, _, rfl⟩ := hx; subst hy; cases neg <;> subst hop <;> simp [eqGuard, binOp, Op.equal, hr]
    ·obtain ⟨_, l, rfl⟩ := hx; subst hy; cases neg <;> subst hop <;> simp [eqGuard, binOp, Op.equal, hr]
   case map =>
    simp only [E2.mk.injEq] at he; subst he
    unfold q4j at hb
    split at hb <;> first | (cases hb; done) | skip
    all_goals (rename_i e1 e2; rw [e1] at hx; rw [e2] at hy; simp only [Rep] at hx hy)
    ·subst hx hy; cases neg <;> subst hop <;> simp [eqGuard, binOp, Op.equal, hr]
    ·obtain ⟨l, _, rfl⟩ := hy; subst hx; cases neg <;> subst hop <;> simp [eqGuard, binOp, Op.equal, hr]
    ·obtain ⟨l, _, rfl⟩ := hx; subst hy; cases neg <;> subst hop <;> simp [eqGuard, binOp, Op.equal, hr]
   case func =>
    simp only [E2.mk.injEq] at he; subst he
    unfold eqFn at hb
    split at hb <;> first | (cases hb; done) | skip
    all_goals (rename_i e1 e2; rw [e1] at hx; rw [e2] at hy; simp only [Rep] at hx hy)
    ·subst hx hy; cases neg <;> subst hop <;> simp [eqGuard, binOp, Op.equal, hr]
    ·obtain ⟨_, _, _, _, rfl⟩ := hy; subst hx; cases neg <;> subst hop <;> simp [eqGuard, binOp, Op.equal, hr]
    ·obtain ⟨_, _, _, _, rfl⟩ := hx; subst hy; cases neg <;> subst hop <;> simp [eqGuard, binOp, Op.equal, hr]
   case interface =>
    simp only [E2.mk.injEq] at he; subst he
    unfold eqIf at hb
    split at hb <;> first | (cases hb; done) | skip
    all_goals (rename_i e1 e2; rw [e1] at hx; rw [e2] at hy; simp only [Rep] at hx hy)
    ·obtain ⟨_, _, rfl⟩ := hy; subst hx; cases neg <;> subst hop <;> simp [eqGuard, binOp, Op.equal, hr]
    ·obtain ⟨_, _, rfl⟩ := hx; subst hy; cases neg <;> subst hop <;> simp [eqGuard, binOp, Op.equal, hr]
   case array len e =>
    simp only at he
    split at he
    ·simp only [E2.mk.injEq] at he; subst he
     unfold qol at hb
     split at hb
     ·rename_i e1 e2; rw [e1] at hx; rw [e2] at hy
      obtain ⟨_, _, rfl, _⟩ := qk5 hx
      obtain ⟨_, _, rfl, _⟩ := qk5 hy
      refine ⟨⟨(), run_eqGuard_agg w op t x y _ _ hk⟩, ?_⟩
      cases neg <;> subst hop
      ·rw [if_neg (by simp), run_eql_struct, show (10000 : Nat) = Op.maxDepth from rfl, hr]; rfl
      ·rw [if_pos rfl, run_neq_struct, show (10000 : Nat) = Op.maxDepth from rfl, hr]; rfl
     ·cases hb
    ·simp only [E2.mk.injEq] at he; subst he; cases hb
   case struct fs =>
    simp only at he
    split at he
    ·simp only [E2.mk.injEq] at he; subst he; cases hb
    ·simp only [E2.mk.injEq] at he; subst he
     unfold qol at hb
     split at hb
     ·rename_i e1 e2; rw [e1] at hx; rw [e2] at hy
      obtain ⟨_, _, rfl, _⟩ := qk5 hx
      obtain ⟨_, _, rfl, _⟩ := qk5 hy
      refine ⟨⟨(), run_eqGuard_agg w op t x y _ _ hk⟩, ?_⟩
      cases neg <;> subst hop
      ·rw [if_neg (by simp), run_eql_struct, show (10000 : Nat) = Op.maxDepth from rfl, hr]; rfl
      ·rw [if_pos rfl, run_neq_struct, show (10000 : Nat) = Op.maxDepth from rfl, hr]; rfl
     ·cases hb
  obtain ⟨⟨g, r1⟩, r2⟩ := run
  simp [execOp, ho, hX, hY, r1, r2]
 ·trivial
theorem qyq (k : IntKind) (b : Nat) (l : List AV) : q00 (.int k (.ofNat b) :: l) = Nat.land b 255 + 256 * q00 l := rfl
theorem qs6 : ∀ (l : List AV) (vs : List Value) (r : Src) (acc : ByteArray), RepL ι l vs → q6y l = some r →
  ∃ bs : List UInt8, bs.length = l.length ∧ qa0 bs = q00 l ∧ (forIn vs acc fun c (s : ByteArray) => (match c with
   | .int .u8 n => pure (ForInStep.yield (s.push (UInt8.ofNat n.toNat)))
   | _ => do stuck "bytesToString: byte expected"; pure (ForInStep.yield s) : Sem (ForInStep ByteArray))).run P w = .ok ⟨acc.data ++ bs.toArray⟩ w
 | [], vs, r, acc, h, _ => by
  simp only [RepL] at h; subst h
  exact ⟨[], rfl, rfl, by simp⟩
 | x :: l, vs, r, acc, h, hp => by
  simp only [RepL] at h
  obtain ⟨v, rr, rfl, hv, hr⟩ := h
  have hp : q60 x (q6y l) = some r := hp
  unfold q60 at hp
  split at hp
  ·rename_i b s hs _
   simp only [Rep] at hv; subst hv
   obtain ⟨bs, b1, b2, b3⟩ := qs6 l rr s (acc.push (UInt8.ofNat b)) hr hs
   refine ⟨UInt8.ofNat b :: bs, by simp [b1], ?_, ?_⟩
   ·rw [qe6, qyq, b2, qtv, UInt8.toNat_ofNat']; omega
   ·rw [List.forIn_cons]
    simp only [Int.ofNat_eq_natCast, Int.toNat_natCast, pure_bind]
    rw [b3]
    congr 2
    simp [ByteArray.push]
  ·cases hp
theorem q6m {s t e : TypeId} {x : Operand} (ho : o.op = .convert s t x) (hs : P.underlying s = some (.slice e)) (ht : P.underlying t = some .string) (he : P.underlying e = some (.int .u8)) (hH : HR ι H w) (h : LR ι d n L a.tmps) :
  QOk P o a.eval ι w nm (q6a H ((opnd d n x).f L)) := by
 have hx := qah h x
 unfold q6a
 split
 ·rename_i e1; rw [e1] at hx; simp only [Rep] at hx
  refine ⟨.string .empty, ?_, qrf ⟨rfl, rfl⟩⟩
  simp [execOp, ho, convert, qaf hs, qaf ht, qaf he, hx, Conv.bytesToString]
 ·rename_i e1; rw [e1] at hx; simp only [Rep] at hx
  obtain ⟨ad, c, hx⟩ := hx
  refine ⟨.string .empty, ?_, qrf ⟨rfl, rfl⟩⟩
  simp [execOp, ho, convert, qaf hs, qaf ht, qaf he, hx, Conv.bytesToString, loadCells, loadCellsFrom]
 ·rename_i b i m cap ex e1
  rw [e1] at hx; simp only [Rep] at hx
  obtain ⟨_, l, h1, h2⟩ := hx
  split
  ·rename_i cs hcs
   split
   ·rename_i r hr
    obtain ⟨c1, c2⟩ := qkv (hH.blk b (hH.lt h1)) hcs
    have fin : ∀ vs : List Value, vs.length = m → RepL ι cs vs → (∀ (j : Nat) (v : Value), vs[j]? = some v → w.cell? ⟨l.blk, l.base + i + j, none⟩ = some v) → QOk P o a.eval ι w nm (.val (.str m (q00 cs))) := by
     intro vs v1 v2 v3
     obtain ⟨bs, b1, b2, b3⟩ := qs6 (P := P) (w := w) cs vs r .empty v2 hr
     have e0 : (ByteArray.empty.data ++ bs.toArray).toList = bs := by show (#[] ++ bs.toArray).toList = bs; simp
     refine ⟨.string ⟨(ByteArray.empty.data ++ bs.toArray)⟩, ?_, qrf ⟨by rw [e0, b1, c1], by rw [e0, b2]⟩⟩
     have hl := run_loadCells P w l.blk (l.base + i) vs v3
     rw [v1] at hl
     simp only [execOp, ho, convert, Sem.run_bind, qaf hs, qaf ht, qaf he, h2, Result.andThen_ok, Conv.bytesToString, hl]
     rw [List.forIn_toArray]
     exact Eq.trans (congrArg (fun r : Result ByteArray => (r.andThen fun a w' => Sem.run P (pure (Value.string a)) w').andThen fun a w' => Sem.run P (pure (Next.value a)) w') b3) rfl
    rcases c2 with rfl | ⟨loc, vs, g1, g2, g3, g4, g5⟩
    ·have : cs = [] := List.length_eq_zero_iff.1 c1
     subst this
     exact fin [] rfl (by simp [RepL]) (by simp)
    ·rw [h1] at g1; cases g1
     exact fin vs g3 g2 g5
   ·trivial
  ·trivial
 ·trivial
theorem qvh (a : Nat) : ∀ (n i : Nat), Nat.rec (motive := fun _ => Nat → List AV) (fun _ => []) (fun _ ih i => .int .u8 (.ofNat (qse a i)) :: ih (Nat.succ i)) n i = (List.range' i n).map fun j => .int .u8 (.ofNat (qse a j))
 | 0, i => rfl
 | n + 1, i => by
  rw [List.range'_succ, List.map_cons, ← qvh a n (i + 1)]
theorem qqd {m bits : Nat} {s : ByteArray} (h : qk6 m bits s) : RepL ι (qvi bits m) (s.data.toList.map fun b => Value.int .u8 (b.toNat : Int)) := by
 obtain ⟨rfl, rfl⟩ := h
 unfold qvi
 rw [qvh, ← List.range_eq_range']
 refine RepL.of_get (by simp) fun i v hv => ?_
 have hi : i < s.data.toList.length := by
  rcases Nat.lt_or_ge i s.data.toList.length with h | h
  ·exact h
  ·rw [List.getElem?_eq_none (by simpa using h)] at hv; cases hv
 rw [List.getElem?_map, List.getElem?_range hi] at hv
 simp only [Option.map_some, Option.some.injEq] at hv; subst hv
 refine ⟨_, by rw [List.getElem?_map, List.getElem?_eq_getElem hi]; rfl, ?_⟩
 rw [qvj _ _ hi]
 simp only [Rep]; rfl
theorem q0r {s t e : TypeId} {x : Operand} (ho : o.op = .convert s t x) (hs : P.underlying s = some .string) (ht : P.underlying t = some (.slice e)) (he : P.underlying e = some (.int .u8)) (h : LR ι d n L a.tmps) :
  QOk P o a.eval ι w nm (qvx nm ((opnd d n x).f L)) := by
 have hx := qah h x
 unfold qvx
 split
 ·rename_i m bits e1
  rw [e1] at hx; simp only [Rep] at hx
  obtain ⟨u, hu, h1⟩ := hx
  have hsz : u.size = m := h1.1
  obtain ⟨c, hc⟩ : ∃ c, (Question.appendCap u.size 0 e).cut (w.tape w.drawn (.appendCap u.size 0 e)) = u.size + c := ⟨_, rfl⟩
  let C : Array Value := (u.data.map fun b => Value.int .u8 (b.toNat : Int)) ++ Array.replicate c (.int .u8 0)
  have hC : C.size = m + c := by simp [C, ← hsz]
  let w1 : World := (w.drew).alloc (.cells C e)
  have hsh : w1.shape? w.heap.size = some (e, m + c) := by
   show (match (w.heap.push _)[w.heap.size]? with | some (.cells c elem _) => some (elem, c.size) | _ => none) = _
   simp [hC]
  let w2 : World := w1.freeze ⟨w.heap.size, m + c, none⟩ 1
  have hh : w2.heap[w.heap.size]? = some (.cells C e (m + c, m + c + 1)) := by
   show ((if (1 : Nat) = 0 then w1 else _ : World)).heap[w.heap.size]? = _
   rw [if_neg (by decide)]
   show ((w.heap.push _).modify _ _)[w.heap.size]? = _
   rw [Array.getElem?_modify, if_pos rfl, Array.getElem?_push, if_pos rfl]
   rfl
  refine ⟨.slice (some ⟨w.heap.size, 0, none⟩) m (m + c), w2, ⟨w.heap.size, 0, c, 1⟩, ?_, ⟨rfl, rfl, rfl, ?_, fun k hk => ?_, rfl⟩, fun ι' hle hi => ⟨?_, ?_⟩⟩
  ·have hcap : u.size + c - u.size = c := by omega
   simp only [execOp, ho, convert, Sem.run_bind, qaf hs, qaf ht, qaf he, hu, Result.andThen_ok, Conv.stringToBytes, run_choose_drew, Question.forced, Bool.false_eq_true, if_false, hc, hcap, newRow, run_newObj_alloc, Sem.run_pure, markStringish, run_shape]
   rw [show (w.drew.alloc (.cells C e)).shape? w.drew.heap.size = some (e, m + c) from hsh]
   simp only [run_freeze, Result.andThen_ok, hsz]
   rfl
  ·show (if (1 : Nat) = 0 then w1 else _ : World).heap.size = _
   rw [if_neg (by decide)]
   show ((w.heap.push _).modify _ _).size = _
   simp
  ·show ((if (1 : Nat) = 0 then w1 else _ : World)).heap[k]? = _
   rw [if_neg (by decide)]
   show ((w.heap.push _).modify _ _)[k]? = _
   rw [Array.getElem?_modify, if_neg (show ¬ w.heap.size = k by omega), Array.getElem?_push, if_neg (show ¬ k = w.heap.size by omega)]
  ·simp only [Rep]; exact ⟨Nat.le_refl _, _, hi, by simp⟩
  ·have cell : ∀ i, w2.cell? ⟨w.heap.size, i, none⟩ = C[i]? := fun i => by simp [World.cell?, hh]
   have froz : ∀ i, i < m + c → w2.frozen? ⟨w.heap.size, i, none⟩ = false := fun i hi => by
    simp [World.frozen?, hh]; omega
   have hl : (qvi bits m).length = m := by rw [← (qqd (ι := ι') h1).length]; simp; exact h1.1
   refine qpk (loc := ⟨w.heap.size, 0, c, 1⟩) hi (qqd h1) (fun v hv => ?_) (fun i v hv => ?_) (fun j hj => ?_)
   ·simp at hv; obtain ⟨_, _, rfl⟩ := hv; rfl
   ·have hi' : i < m := by
     rcases Nat.lt_or_ge i m with h | h
     ·exact h
     ·rw [List.getElem?_eq_none (by simp; rw [← hsz] at h; exact h)] at hv; cases hv
    simp only [Nat.zero_add]
    refine ⟨?_, froz i (by omega)⟩
    rw [cell, Array.getElem?_append_left (by simp; rw [← hsz] at hi'; exact hi')]
    simpa using hv
   ·simp only [Nat.mul_one] at hj
    simp only [Nat.zero_add, hl]
    refine ⟨.int .u8 0, ?_, froz _ (by omega), rfl⟩
    rw [cell, Array.getElem?_append_right (by simp; rw [← hsz]; exact Nat.le_add_right _ _)]
    have e2 : (u.data.map fun b => Value.int .u8 (b.toNat : Int)).size = m := by simp; exact hsz
    rw [e2, show m + j - m = j by omega]
    simp [hj]
 ·trivial
end Go.Ev
end
section
namespace Go.Ev
open Go.RowKit
variable {P : Program} {w : World} {ι : Im} {o : Oper} {a : Act} {nm : Nat} {d n : Nat} {L : TT AV d} {H : Hp}
theorem q8f {op : BinOp} {t ty : TypeId} {x y : Operand} (ho : o.op = .binOp op t x y ty) (h : LR ι d n L a.tmps) :
  QOk P o a.eval ι w nm ((binS P op t).f ((opnd d n x).f L) ((opnd d n y).f L)) := by
 have eqs : ∀ td, P.underlying t = some td → (match td with | .bool | .pointer _ | .slice _ | .map .. | .func .. | .interface _ => True | .struct _ | .array .. => P.eqGuardType P.depth t = false | _ => False) →
   QOk P o a.eval ι w nm ((match op, eqT P qid t with
    | .eql, ⟨e⟩ => (⟨fun x y => qjn false (e x y)⟩ : V2)
    | .neq, ⟨e⟩ => ⟨fun x y => qjn true (e x y)⟩
    | _, _ => ⟨fun _ _ => .bad⟩).f ((opnd d n x).f L) ((opnd d n y).f L)) := by
  intro td hu hk
  have hk' : ∀ td', P.underlying t = some td' → match td' with | .bool | .pointer _ | .slice _ | .map .. | .func .. | .interface _ => True | .struct _ | .array .. => P.eqGuardType P.depth t = false | _ => False := fun td' h' => by
   rw [hu] at h'; cases h'; exact hk
  split
  ·rename_i e he; exact q_eq ho false rfl he hk' ⟨td, hu⟩ h
  ·rename_i e he; exact q_eq ho true rfl he hk' ⟨td, hu⟩ h
  ·trivial
 unfold binS
 split
 ·split
  ·exact q0t ho (.inl rfl) h
  ·exact q0t ho (.inr rfl) h
  ·rename_i h1 h2; exact q_int ho ⟨fun e => h1 e, fun e => h2 e⟩ h
 ·exact q3k ho h
 ·rename_i hu; exact eqs _ hu trivial
 ·rename_i hu; exact eqs _ hu trivial
 ·rename_i hu; exact eqs _ hu trivial
 ·rename_i hu; exact eqs _ hu trivial
 ·rename_i hu; exact eqs _ hu trivial
 ·rename_i hu; exact eqs _ hu trivial
 ·rename_i hu
  split
  ·trivial
  ·rename_i hg; exact eqs _ hu (by simpa using hg)
 ·rename_i hu
  split
  ·trivial
  ·rename_i hg; exact eqs _ hu (by simpa using hg)
 ·trivial
theorem zac {args : List Operand} {ts : List TypeId} (ho : o.op = .call { callee := .builtin .len, args := args.toArray, argTypes := ts.toArray }) {lk : Bool} {f : Nat → TT AV d → Hp → R0} (hf : lenB P d n args ts = .q lk f) (hH : HR ι H w) (h : LR ι d n L a.tmps) :
  QOk P o a.eval ι w nm (f nm L H) := by
 unfold lenB at hf
 split at hf
 ·rename_i x t
  split at hf
  ·rename_i hu; cases hf; exact qss ho (.inl ⟨_, hu⟩)
  ·rename_i hu
   split at hf
   ·rename_i ha; cases hf; exact qss ho (.inr ⟨_, _, hu, ha⟩)
   ·cases hf
  ·rename_i hu; cases hf; exact q3n ho hu h
  ·rename_i hu; cases hf; exact q6p ho hu h
  ·rename_i hu; cases hf; exact q9k ho hu hH h
  ·cases hf
 ·cases hf
theorem za5 {args : List Operand} {ts : List TypeId} (ho : o.op = .call { callee := .builtin .cap, args := args.toArray, argTypes := ts.toArray }) {lk : Bool} {f : Nat → TT AV d → Hp → R0} (hf : capB P d n args ts = .q lk f) (h : LR ι d n L a.tmps) :
  QOk P o a.eval ι w nm (f nm L H) := by
 unfold capB at hf
 split at hf
 ·rename_i x t
  split at hf
  ·rename_i hu; cases hf; exact qyo ho ⟨_, hu⟩
  ·rename_i hu; cases hf; exact q6u ho hu h
  ·cases hf
 ·cases hf
theorem q93 {args : List Operand} {ts : Array TypeId} (ho : o.op = .call { callee := .builtin .min, args := args.toArray, argTypes := ts }) {lk : Bool} {f : Nat → TT AV d → Hp → R0} (hf : minB d n args = .q lk f) (h : LR ι d n L a.tmps) :
  QOk P o a.eval ι w nm (f nm L H) := by
 unfold minB at hf
 split at hf
 ·cases hf; exact q_min ho h
 ·cases hf
theorem q95 {args : List Operand} {ts : Array TypeId} (ho : o.op = .call { callee := .builtin .max, args := args.toArray, argTypes := ts }) {lk : Bool} {f : Nat → TT AV d → Hp → R0} (hf : maxB d n args = .q lk f) (h : LR ι d n L a.tmps) :
  QOk P o a.eval ι w nm (f nm L H) := by
 unfold maxB at hf
 split at hf
 ·cases hf; exact q_max ho h
 ·cases hf
theorem zba {args : List Operand} {ts : List TypeId} {lk : Bool} {f : Nat → TT AV d → Hp → R0} (hf : appB P d n args ts = .q lk f) : False := by
 unfold appB at hf
 split at hf
 ·split at hf
  ·split at hf <;> cases hf
  ·cases hf
 ·cases hf
theorem q76 {args : List Operand} {ts : List TypeId} {lk : Bool} {f : Nat → TT AV d → Hp → R0} (hf : qwi P d n args ts = .q lk f) : False := by
 unfold qwi at hf
 split at hf
 ·split at hf
  ·split at hf <;> cases hf
  ·cases hf
 ·cases hf
theorem za0 {args : List Operand} {ts : List TypeId} {lk : Bool} {f : Nat → TT AV d → Hp → R0} (hf : delB P d n args ts = .q lk f) : False := by
 unfold delB at hf
 split at hf
 ·split at hf
  ·split at hf <;> cases hf
  ·cases hf
 ·cases hf
theorem za2 {args : List Operand} {ts : List TypeId} {lk : Bool} {f : Nat → TT AV d → Hp → R0} (hf : clrB P d n args ts = .q lk f) : False := by
 unfold clrB at hf
 split at hf
 ·split at hf
  ·split at hf <;> cases hf
  ·cases hf
  ·cases hf
 ·cases hf
theorem qzg {b : Builtin} {args : Array Operand} {ts : Array TypeId} (ho : o.op = .call { callee := .builtin b, args, argTypes := ts }) {lk : Bool} {f : Nat → TT AV d → Hp → R0} (hf : qld P d n b args.toList ts.toList = .q lk f) (hH : HR ι H w) (h : LR ι d n L a.tmps) :
  QOk P o a.eval ι w nm (f nm L H) := by
 unfold qld at hf
 split at hf
 ·exact zac (by simpa using ho) hf hH h
 ·exact za5 (by simpa using ho) hf h
 ·exact q93 (ts := ts) (by simpa using ho) hf h
 ·exact q95 (ts := ts) (by simpa using ho) hf h
 ·exact (zba hf).elim
 ·exact (q76 hf).elim
 ·exact (za0 hf).elim
 ·exact (za2 hf).elim
 ·cases hf
theorem qsa : ∀ x y : List UInt8, Lib.compareBytes x y = bif Op.bytesLess x y then -1 else bif decide (x = y) then 0 else 1
 | [], [] => by simp [Lib.compareBytes, Op.bytesLess]
 | [], _ :: _ => by simp [Lib.compareBytes, Op.bytesLess]
 | _ :: _, [] => by simp [Lib.compareBytes, Op.bytesLess]
 | a :: x, b :: y => by
  have ih := qsa x y
  simp only [Lib.compareBytes, Op.bytesLess]
  by_cases h1 : a < b
  ·simp [h1]
  ·by_cases h2 : b < a
   ·have hne : a ≠ b := fun e => by subst e; exact absurd h2 h1
    have hb : (a == b) = false := by simpa using hne
    simp [h1, h2, hne, hb]
   ·have he : a = b := UInt8.le_antisymm (UInt8.not_lt.1 h2) (UInt8.not_lt.1 h1)
    subst he
    simp [h1, ih]
theorem q1l {f : FuncId} (h : q37 P f = true) (s t : ByteArray) (w : World) : (callFunc f #[.string s, .string t]).run P w = .ok (.value (.int .i64 (Lib.compareBytes s.data.toList t.data.toList))) w := by
 unfold q37 at h
 split at h
 ·rename_i fn hfn
  simp only [Bool.and_eq_true, beq_iff_eq, Option.isNone_iff_eq_none] at h
  obtain ⟨⟨h1, h2⟩, h3⟩ := h
  have hnx : Extern.findNext fn = none := by
   unfold Extern.findNext
   rw [h2, h3]
   have e1 : Extern.allNextRows.lookup qr9 = none := by decide +kernel
   have e2 : Extern.allNextRows.lookup "" = none := by decide +kernel
   simp only [e1, e2]; rfl
  have hfd : Extern.find fn = some Extern.BytealgCompare.compare := by
   unfold Extern.find
   rw [h2]
   have e1 : (Extern.allGenericRows.lookup qr9) = none := by decide +kernel
   have e2 : (Extern.allTypedRows.lookup qr9) = none := by decide +kernel
   have e3 : Extern.allRows.lookup qr9 = some Extern.BytealgCompare.compare := by kernel_rfl
   simp only [e1, e2, e3]; rfl
  have hname : ¬ fn.name = "runtime.NumGoroutine" := by rw [h2]; decide +kernel
  have hr := Lib.run_compareString (P := P) s t w
  simp [callFunc, hfn, hname, h1, hnx, hfd, hr, mark, Sem.run]
 ·cases h
theorem q_cmp {f : FuncId} {args : Array Operand} {ts : Array TypeId} (ho : o.op = .call { callee := .value (.func f), args, argTypes := ts }) (hc : q37 P f = true) (h : LR ι d n L a.tmps) : QOk P o a.eval ι w nm (cmpV ((ql8 d n args.toList).f L)) := by
 have ha := qhx h args.toList
 unfold cmpV
 split
 ·rename_i n1 a1 m1 b1 e
  rw [e] at ha
  simp only [RepL, Rep] at ha
  obtain ⟨v1, r1, e1, ⟨s, rfl, hs⟩, v2, r2, rfl, ⟨t, rfl, ht⟩, rfl⟩ := ha
  refine ⟨.int .i64 (Lib.compareBytes s.data.toList t.data.toList), ?_, ?_⟩
  ·have hargs : args.map a.eval = #[.string s, .string t] := by
    have : args.map a.eval = (args.toList.map a.eval).toArray := by rw [← Array.toList_map]
    rw [this, e1]
   have hr := q1l hc s t w
   have hev : a.eval (.func f) = .func (.func f) #[] #[] := rfl
   simp only [execOp, ho, resolve, hev, Deferred.ofValue, hargs]
   simpa [invoke] using hr
  ·have hl := qk6.less hs ht
   have he : eqS n1 a1 m1 b1 = decide (s.data.toList = t.data.toList) := by
    rw [qk6.eq hs ht, Bool.eq_iff_iff]; simp
   simp only [Rep]
   rw [hl, he, qsa]
   cases Op.bytesLess s.data.toList t.data.toList <;> cases decide (s.data.toList = t.data.toList) <;> rfl
 ·trivial
theorem q6r {x : Operand} (ho : o.op = .entry x) (hH : HR ι H w) (h : LR ι d n L a.tmps) : QOk P o a.eval ι w nm (entR H ((opnd d n x).f L)) := by
 have hx := qah h x
 unfold entR
 split
 ·rename_i b off e1
  rw [e1] at hx; simp only [Rep] at hx
  obtain ⟨loc, h1, h2⟩ := hx
  have hb := hH.blk b (hH.lt h1)
  cases ho0 : Nat.beq off 0 with
  | false => trivial
  | true =>
   obtain rfl := Nat.eq_of_beq_eq_true ho0
   simp only [cond_true]
   split
   ·rename_i m since pos hg
    rw [hg] at hb
    obtain ⟨l', r, g1, g0, g2, g3⟩ := hb
    rw [h1] at g1; cases g1
    rw [g0, Nat.add_zero] at h2
    split
    ·rename_i m p
     obtain ⟨lm, k1, rfl⟩ := g3
     have hm := hH.blk m (hH.lt k1)
     split
     ·rename_i es clock hgm
      rw [hgm] at hm
      obtain ⟨l2, ES, j1, j2, j3⟩ := hm
      rw [k1] at j1; cases j1
      cases hcs : Nat.beq clock since with
      | false => trivial
      | true =>
       obtain rfl := Nat.eq_of_beq_eq_true hcs
       simp only [cond_true]
       split
       ·rename_i e
        simp only [RepE] at j3
        obtain ⟨E, _, rfl, q1, q2, q3, rfl⟩ := j3
        cases hp : Nat.beq e.born p with
        | false => trivial
        | true =>
         have hp := Nat.eq_of_beq_eq_true hp
         have hp : p = E.born := by omega
         subst hp
         simp only [cond_true]
         refine ⟨.tuple #[E.key, E.val], ?_, ?_⟩
         ·simp [execOp, ho, h2, Instr.entry, getObj, Sem.run, g2, j2]
         ·simp only [Rep, RepL]; exact ⟨_, ⟨_, _, rfl, q1, _, _, rfl, q2, rfl⟩, rfl⟩
       ·trivial
     ·trivial
    ·trivial
   ·trivial
 ·trivial
theorem q61 {lk : Bool} {f : Nat → TT AV d → Hp → R0} (hf : opS P d n o = .q lk f) (hH : HR ι H w) (h : LR ι d n L a.tmps) : QOk P o a.eval ι w nm (f nm L H) := by
 unfold opS at hf
 split at hf
 ·rename_i x ho; cases hf; exact q5k (.inl ho) h
 ·rename_i x ho; cases hf; exact q5k (.inr ho) h
 ·rename_i ho; cases hf; exact q9j ho h
 ·rename_i ho
  unfold qw7 at hf
  split at hf
  ·rename_i hz; cases hf; exact q6v ho hz
  ·cases hf
 ·rename_i ho
  unfold sBox at hf
  split at hf
  ·rename_i k g e1 e2 e3; cases hf
   have := q9o (P := P) (w := w) (nm := nm) ho k h
   rw [e3] at this; exact this
  ·rename_i e1 e2 e3; cases hf
   have := q9p (P := P) (w := w) (nm := nm) ho h
   rw [e3] at this; exact this
  ·cases hf
 ·rename_i ho
  unfold qw6 at hf
  split at hf
  ·rename_i e1 e2
   split at hf
   ·rename_i e3
    split at hf
    ·rename_i e4; cases hf; exact q3p ho e1 e2 e3 e4 h
    ·cases hf
   ·cases hf
  ·rename_i e1 e2
   split at hf
   ·rename_i e3
    split at hf
    ·rename_i e4; cases hf; exact q3q ho e1 e2 e3 e4 h
    ·cases hf
   ·cases hf
  ·cases hf
 ·rename_i ho
  unfold qmq at hf
  split at hf
  ·rename_i e1
   split at hf
   ·rename_i s z e2 e3
    cases hc : (Nat.ble (_ * s) 65536 && Nat.beq z.length s) with
    | false => rw [hc] at hf; cases hf
    | true =>
     rw [hc] at hf; simp only [cond_true] at hf
     simp only [Bool.and_eq_true] at hc
     split at hf
     ·rename_i e4; cases hf; exact qup ho e1 e3 e2 (qmn hc.2) (qk7 hc.1) e4 h
     ·cases hf
   ·cases hf
  ·cases hf
 ·rename_i ho
  unfold q0i at hf
  split at hf
  ·rename_i e1 e2 e3; cases hf
   have := q6n (P := P) (nm := nm) ho e1 e2 hH h
   rw [e3] at this; exact this
  ·rename_i e1 e2 e3; cases hf
   have := q6o (P := P) (nm := nm) ho e1 hH h
   rw [e3] at this; exact this
  ·cases hf
 ·unfold quh at hf; split at hf <;> cases hf
 ·rename_i ho; cases hf; exact qym ho h
 ·rename_i ho; cases hf; exact q8f ho h
 ·rename_i ho; cases hf; exact q_un ho h
 ·rename_i ho
  unfold qqy at hf
  split at hf
  ·rename_i e1 e2 e3; cases hf
   have := q6t (P := P) (w := w) (nm := nm) ho e1 e2 h
   rw [e3] at this; exact this
  ·rename_i e1 e2 e3; cases hf
   have := q6s (P := P) (w := w) (nm := nm) ho e1 e2 h
   rw [e3] at this; exact this
  ·rename_i e1 e2 e3
   split at hf
   ·rename_i e4; cases hf
    have := q0r (P := P) (w := w) (nm := nm) ho e1 e2 e4 h
    rw [e3] at this; exact this
   ·cases hf
  ·rename_i e1 e2 e3
   split at hf
   ·rename_i e4
    split at hf
    ·cases hf
     have := q6m (P := P) (nm := nm) ho e1 e2 e4 hH h
     rw [e3] at this; exact this
    ·cases hf
   ·cases hf
  ·cases hf
 ·rename_i ho
  unfold qii at hf
  split at hf
  ·cases hf
  ·rename_i hn e1 e2; cases hf
   have := qrk (P := P) (w := w) (nm := nm) ho e1 (fun ms e => hn ms (by rw [e])) h
   rw [e2] at this; exact this
  ·cases hf
 ·rename_i ho; cases hf; exact qyn ho h
 ·rename_i ho; cases hf; exact q0u ho
 ·rename_i ho
  unfold qoe at hf
  split at hf
  ·rename_i e1 e2 e3
   split at hf
   ·rename_i z w' s e4 e5 e6
    cases hc : Nat.beq z.length s with
    | false => rw [hc] at hf; cases hf
    | true =>
     rw [hc] at hf; cases hf
     have := q3l (P := P) (w := w) (nm := nm) ho e1 e4 e5 e6 (qmn hc) h
     rw [e2, e3] at this; exact this
   ·cases hf
  ·cases hf
 ·rename_i ho
  unfold qw2 at hf
  split at hf
  ·rename_i e1 e2 e3 e4
   split at hf
   ·cases hf
    have := qyl (P := P) (w := w) (nm := nm) ho e1 h
    rw [e2, e3, e4] at this; exact this
   ·cases hf
  ·rename_i e1 e2 e3 e4 e5
   split at hf
   ·rename_i e6; cases hf
    have := q0s (P := P) (w := w) (nm := nm) ho e1 e6 h
    rw [e2, e3, e4, e5] at this; exact this
   ·cases hf
  ·rename_i e1 e2 e3 e4 e5
   split at hf
   ·rename_i e6; cases hf
    have := qsr (P := P) (w := w) (nm := nm) ho (.inl e1) e6 h
    rw [e2, e3, e4, e5] at this; exact this
   ·cases hf
  ·rename_i e1 e2 e3 e4 e5
   split at hf
   ·rename_i e7
    split at hf
    ·rename_i e6; cases hf
     have := qsr (P := P) (w := w) (nm := nm) ho (.inr ⟨_, e1, e7⟩) e6 h
     rw [e2, e3, e4, e5] at this; exact this
    ·cases hf
   ·cases hf
  ·cases hf
 ·rename_i ho
  unfold qmi at hf
  split at hf
  ·rename_i e1 e2
   split at hf
   ·rename_i e3
    split at hf
    ·rename_i e4; cases hf
     have := qv2 (P := P) (w := w) (nm := nm) ho e1 e3 e4 h
     rw [e2] at this; exact this
    ·cases hf
   ·cases hf
  ·cases hf
 ·rename_i ho
  unfold quk at hf
  split at hf
  ·rename_i e1 e2
   split at hf
   ·rename_i e3; cases hf
    have := q6q (P := P) (w := w) (nm := nm) ho e1 e3 h
    rw [e2] at this; exact this
   ·cases hf
  ·cases hf
 ·rename_i ho
  unfold qmh at hf
  split at hf
  ·rename_i e1 e2 e3
   split at hf
   ·rename_i e4; cases hf
    have := q9m (P := P) (w := w) (nm := nm) ho e1 e4 h
    rw [e2, e3] at this; exact this
   ·cases hf
  ·rename_i e1 e2 e3
   split at hf
   ·rename_i e4; cases hf
    have := q9n (P := P) (w := w) (nm := nm) ho e1 e4 h
    rw [e2, e3] at this; exact this
   ·cases hf
  ·cases hf
 ·rename_i ho
  unfold quj at hf
  split at hf
  ·rename_i e1 e2 e3; cases hf
   have := q3o (P := P) (w := w) (nm := nm) ho e1 h
   rw [e2, e3] at this; exact this
  ·rename_i e1 e2 e3
   split at hf
   ·rename_i e4; cases hf
    have := q9l (P := P) (w := w) (nm := nm) ho e1 e4 h
    rw [e2, e3] at this; exact this
   ·cases hf
  ·cases hf
 ·rename_i ho
  unfold qti at hf
  split at hf
  ·rename_i e1 e2 e3
   split at hf
   ·rename_i e4 e5; cases hf
    have := q3m (P := P) (nm := nm) ho e1 e4 e5 hH h
    rw [e2, e3] at this; exact this
   ·cases hf
  ·cases hf
 ·unfold qj2 at hf; split at hf <;> first | (cases hf; done) | (split at hf <;> cases hf)
 ·unfold qj2 at hf; split at hf <;> first | (cases hf; done) | (split at hf <;> cases hf)
 ·unfold qpf at hf; split at hf <;> first | (cases hf; done) | (split at hf <;> cases hf)
 ·cases hf
 ·rename_i ho; cases hf; exact q0v ho h
 ·unfold qw3 at hf; split at hf <;> cases hf
 ·unfold q3h at hf; split at hf <;> cases hf
 ·rename_i ho; cases hf; exact q6r ho hH h
 ·rename_i ho; exact qzg ho hf hH h
 ·rename_i ho
  unfold qw5 at hf
  split at hf
  ·rename_i g e1 e2; cases hf
   have := q_cmp (P := P) (w := w) (nm := nm) ho e2 h
   rw [e1] at this; exact this
  ·cases hf
 ·cases hf
 ·cases hf
end Go.Ev
end
section
namespace Go.Ev
open Go.RowKit
variable {P : Program} {w : World} {ι : Im} {o : Oper} {a : Act} {d n : Nat} {L : TT AV d} {H : Hp}
def VOk (P : Program) (o : Oper) (ρ : Operand → Value) (ι : Im) (H : Hp) (w : World) : R1 → Prop
 | .bad => True
 | .ok v H' => ∃ N V w' ι', (execOp ρ o).run P w = .ok N w' ∧ (N = .value V ∨ (N = .skip ∧ V = Go.undef)) ∧ Rep ι' v V ∧ HR ι' H' w' ∧ Fr ι ι' H H' w w'
theorem qj1 (P : Program) {b i : Nat} {l : List AV} {vs : List Value} {loc : Loc} (hH : HR ι H w) (hb : ι b = some loc) (hr : RepL ι l vs) (h1 : ∀ v ∈ vs, v.oneCell = true) {v u : AV} {H' : Hp} (h : storeAt H b i l v = .ok u H') :
  u = v ∧ ∃ w', (storeCells ⟨loc.blk, loc.base + i, none⟩ vs).run P w = .ok () w' ∧ HR ι H' w' ∧ Fr ι ι H H' w w' := by
 have hlt := hH.lt hb
 have hB := hH.blk b hlt
 unfold storeAt at h
 split at h
 ·rename_i blk hblk
  simp only [R1.ok.injEq] at h
  obtain ⟨rfl, rfl⟩ := h
  refine ⟨rfl, ?_⟩
  unfold qzs at hblk
  split at hblk
  ·rename_i dd nn c zz hg
   cases hle : Nat.ble (i + l.length) nn with
   | false => rw [hle] at hblk; cases hblk
   | true =>
    rw [hle] at hblk; simp only [cond_true, Option.some.injEq] at hblk; subst hblk
    have hle := qk7 hle
    rw [hg] at hB
    obtain ⟨l', b1, b2, b3, b4⟩ := hB
    rw [hb] at b1; cases b1
    have hlen := hr.length
    obtain ⟨w', r1, r2⟩ := qon P loc.blk vs w (loc.base + i) 0 (fun j hj => by
     obtain ⟨V, c1, c2, c3, c4⟩ := b3 (i + j) (by omega)
     refine ⟨V, ?_, ?_⟩
     ·rw [show loc.base + i + 0 + j = loc.base + (i + j) by omega]; exact c1
     ·rw [show loc.base + i + 0 + j = loc.base + (i + j) by omega]; exact c4 rfl) h1
    rw [Nat.add_zero] at r2
    refine ⟨w', r1, hH.put hlt (by rw [hg]; rfl) hb _ r2.os r2.tape r2.output r2.size r2.keep ?_⟩
    refine ⟨loc, hb, b2, fun j hj => ?_, fun _ j hj => ?_⟩
    ·rw [qpx _ _ _ _ (by omega) (by omega), r2.cell, r2.frozen]
     obtain ⟨V, c1, c2, c3, c4⟩ := b3 j hj
     by_cases hin : i ≤ j ∧ j < i + l.length
     ·rw [if_pos hin, if_pos (by omega)]
      have hg' : l[j - i]? = some (l.getD (j - i) .undef) := by
       have : j - i < l.length := by omega
       simp [this]
      obtain ⟨V', d1, d2⟩ := hr.get _ _ hg'
      refine ⟨V', ?_, d2, h1 V' (List.mem_of_getElem? d1), c4⟩
      rw [show loc.base + j - (loc.base + i) = j - i by omega, List.getD_eq_getElem?_getD, d1]; rfl
     ·rw [if_neg hin, if_neg (by omega)]
      exact ⟨V, c1, c2, c3, c4⟩
    ·rw [r2.cell, r2.frozen, if_neg (by omega)]
     exact b4 rfl j hj
  ·cases hblk
 ·cases h
theorem q4o {t : TypeId} {x y : Operand} (ho : o.op = .store t x y) (hz : qcl P t = some 1) (hH : HR ι H w) (h : LR ι d n L a.tmps) :
  VOk P o a.eval ι H w (qcr H ((opnd d n x).f L) ((opnd d n y).f L)) := by
 have hx := qah h x
 have hy := qah h y
 unfold qcr
 split <;> first | trivial | skip
 rename_i b i e1 hn1 hn2 hn3 hn4
 rw [e1] at hx; simp only [Rep] at hx
 obtain ⟨loc, h1, h2⟩ := hx
 have hp : ((opnd d n y).f L).plain = true := by
  unfold AV.plain; split
  ·rename_i e; exact absurd e (hn1 _)
  ·rename_i e; exact absurd e (hn2 _)
  ·rename_i e; exact absurd e hn3
  ·rename_i e; exact absurd e (hn4 _)
  ·rfl
 obtain ⟨o1, o2⟩ := hy.one hp
 cases hs : storeAt H b i [(opnd d n y).f L] .undef with
 | bad => trivial
 | ok u H' =>
  obtain ⟨rfl, w', r1, r2, r3⟩ := qj1 P hH h1 (RepL.singleton hy) (by simpa using o1) hs
  refine ⟨.skip, Go.undef, w', ι, ?_, .inr ⟨rfl, rfl⟩, by simp [Rep, Go.undef], r2, r3⟩
  simp [execOp, ho, Instr.storeAt, h2, Instr.sureAddr, storeVar, o2, qeg hz, r1]
theorem q4n {t : TypeId} {x y : Operand} (ho : o.op = .store t x y) {k : Nat} (hz : qcl P t = some k) (hH : HR ι H w) (h : LR ι d n L a.tmps) :
  VOk P o a.eval ι H w (qb5 k H ((opnd d n x).f L) ((opnd d n y).f L)) := by
 have hx := qah h x
 have hy := qah h y
 unfold qb5
 split
 ·rename_i b i l e1 e2
  rw [e1] at hx; simp only [Rep] at hx
  obtain ⟨loc, h1, h2⟩ := hx
  rw [e2] at hy
  obtain ⟨vs, v1, v2, v3⟩ := qk5 hy
  cases hk : Nat.beq l.length k with
  | false => trivial
  | true =>
   have hk := qmn hk
   simp only [cond_true]
   cases hs : storeAt H b i l .undef with
   | bad => trivial
   | ok u H' =>
    obtain ⟨rfl, w', r1, r2, r3⟩ := qj1 P hH h1 v1 v3 hs
    refine ⟨.skip, Go.undef, w', ι, ?_, .inr ⟨rfl, rfl⟩, by simp [Rep, Go.undef], r2, r3⟩
    have hl : vs.length = k := by rw [v1.length, hk]
    simp [execOp, ho, Instr.storeAt, h2, Instr.sureAddr, storeVar, v2, Value.cells, qeg hz, hl, r1]
 ·trivial
end Go.Ev
end
section
namespace Go.Ev
open Go.RowKit
variable {P : Program} {w : World} {ι : Im} {o : Oper} {a : Act} {d n : Nat} {L : TT AV d} {H : Hp}
theorem qu8 (need : Nat) : ∀ (r c X : Nat), c ≤ X → need + (need + 768) / 4 ≤ X → Builtin.growBy need r c ≤ X
 | 0, c, X, h, _ => h
 | r + 1, c, X, h, k => by
  unfold Builtin.growBy
  split
  ·exact h
  ·exact qu8 need r _ X (by omega) k
theorem qsx {need old : Nat} (h : old < need) : Builtin.nextslicecap need old ≤ 3 * need := by
 unfold Builtin.nextslicecap
 split
 ·omega
 ·split
  ·omega
  ·exact qu8 need 4 old _ (by omega) (by omega)
theorem qwx {z : Nat} {x : AV} {X : Value} (hx : Rep ι x X) (hH : HR ι H w) {s : Src} (h : q3b z H x = some s) (hz1 : (∃ m b, x = .str m b) → z = 1) :
  ∃ vs : List Value, RepL ι s.l vs ∧ (∀ v ∈ vs, v.oneCell = true) ∧ vs.length = s.n * z ∧ (Builtin.lenOf X).run P w = .ok s.n w ∧
   ∀ k, k ≤ s.n → (Builtin.firstCells z k X).run P w = .ok (vs.take (k * z)).toArray w := by
 unfold q3b at h
 split at h
 ·simp only [Option.some.injEq] at h; subst h
  simp only [Rep] at hx; subst hx
  exact ⟨[], by simp [RepL], by simp, by simp, by simp [Builtin.lenOf], fun k _ => by simp [Builtin.firstCells]⟩
 ·simp only [Option.some.injEq] at h; subst h
  simp only [Rep] at hx; obtain ⟨ad, c, rfl⟩ := hx
  refine ⟨[], by simp [RepL], by simp, by simp, by simp [Builtin.lenOf], fun k hk => ?_⟩
  have : k = 0 := by simpa using hk
  subst this
  simp [Builtin.firstCells, loadCells, loadCellsFrom]
 ·rename_i b i m cap ex
  simp only [Rep] at hx
  obtain ⟨_, loc, h1, rfl⟩ := hx
  split at h
  ·rename_i cs hcs
   simp only [Option.some.injEq] at h; subst h
   obtain ⟨c1, c2⟩ := qkv (hH.blk b (hH.lt h1)) hcs
   have fin : ∀ vs : List Value, vs.length = m * z → RepL ι cs vs → (∀ v ∈ vs, v.oneCell = true) → (∀ (j : Nat) (v : Value), vs[j]? = some v → w.cell? ⟨loc.blk, loc.base + i + j, none⟩ = some v) →
     ∃ vs : List Value, RepL ι cs vs ∧ (∀ v ∈ vs, v.oneCell = true) ∧ vs.length = m * z ∧ (Builtin.lenOf (.slice (some ⟨loc.blk, loc.base + i, none⟩) m (if ex then cap else cap + loc.ext))).run P w = .ok m w ∧
      ∀ k, k ≤ m → (Builtin.firstCells z k (.slice (some ⟨loc.blk, loc.base + i, none⟩) m (if ex then cap else cap + loc.ext))).run P w = .ok (vs.take (k * z)).toArray w := by
    intro vs v1 v2 v3 v4
    refine ⟨vs, v2, v3, v1, by simp [Builtin.lenOf], fun k hk => ?_⟩
    have hkz : k * z ≤ m * z := Nat.mul_le_mul_right z hk
    have hlen : (vs.take (k * z)).length = k * z := by rw [List.length_take]; omega
    have := run_loadCells P w loc.blk (loc.base + i) (vs.take (k * z)) (fun j v hv => v4 j v (by
     rw [List.getElem?_take] at hv; split at hv
     ·exact hv
     ·cases hv))
    rw [hlen] at this
    simp only [Builtin.firstCells]; exact this
   rcases c2 with c2 | ⟨loc', vs, g1, g2, g3, g4, g5⟩
   ·have c2 : m * z = 0 := c2
    have : cs = [] := List.length_eq_zero_iff.1 (by rw [c1]; exact c2)
    subst this
    exact fin [] (by simp [c2]) (by simp [RepL]) (by simp) (by simp)
   ·rw [h1] at g1; cases g1
    exact fin vs g3 g2 g4 g5
  ·cases h
 ·rename_i m bits
  simp only [Option.some.injEq] at h; subst h
  have hz : z = 1 := hz1 ⟨_, _, rfl⟩
  subst hz
  simp only [Rep] at hx
  obtain ⟨s, rfl, hs⟩ := hx
  have hsz : s.size = m := hs.1
  refine ⟨_, qqd hs, fun v hv => ?_, ?_, by simp [Builtin.lenOf, hsz], fun k hk => ?_⟩
  ·simp at hv; obtain ⟨_, _, rfl⟩ := hv; rfl
  ·simp; exact hsz
  ·simp only [Builtin.firstCells, Sem.run_pure]
   congr 1
   apply Array.ext'
   simp
 ·cases h
theorem qtz {e : TypeId} {ap : Ap} (hap : apS P e = some ap) (hH : HR ι H w) {old : List AV} {ovs : List Value} (ho : RepL ι old ovs) (ho1 : ∀ v ∈ ovs, v.oneCell = true) {x : Src} {xvs : List Value} (hx : RepL ι x.l xvs) (hx1 : ∀ v ∈ xvs, v.oneCell = true)
  {need : Nat} (hn : ovs.length + xvs.length = need * ap.z) {v : AV} {H' : Hp} (h : grow ap.z H old x need = .ok v H') (newCap : Nat) (hc : need ≤ newCap) {zv : Value} (hzv : (P.info? e).bind (·.zero) = some zv) (w1 : World) (hw1 : w1 = w.drew) :
  ∃ ι', Rep ι' v (.slice (some ⟨w.heap.size, 0, none⟩) need newCap) ∧ HR ι' H' (w1.alloc (.cells (ovs.toArray ++ xvs.toArray ++ Builtin.zeroCells zv.cells (newCap - need)) e)) ∧
   Fr ι ι' H H' w (w1.alloc (.cells (ovs.toArray ++ xvs.toArray ++ Builtin.zeroCells zv.cells (newCap - need)) e)) := by
 subst hw1
 unfold grow at h
 ·
  simp only [R1.ok.injEq] at h
  obtain ⟨rfl, rfl⟩ := h
  have hlt : InH (H.nx) := inH
  unfold apS at hap
  split at hap
  ·rename_i z ww zl e1 e2 e3
   cases hb : Nat.beq zl.length z with
   | false => rw [hb] at hap; cases hap
   | true =>
    rw [hb] at hap; simp only [cond_true, Option.some.injEq] at hap; subst hap
    have hb := qmn hb
    obtain ⟨zv', z1, z2, z3⟩ := qhm (ι := ι) e3
    rw [hzv] at z1; cases z1
    have hzl : zv.cells.size = z := by have := z2.length; simp at this; omega
    have hzc : Builtin.zeroCells zv.cells (newCap - need) = (repV zv.cells.toList (newCap - need)).toArray := by
     have := range_zero zv.cells (newCap - need) z hzl
     unfold Builtin.zeroCells; rw [hzl] at this ⊢; exact this
    rw [hzc]
    let loc : Loc := ⟨w.heap.size, 0, newCap - need, z⟩
    let W : World := w.drew.alloc (.cells (ovs.toArray ++ xvs.toArray ++ (repV zv.cells.toList (newCap - need)).toArray) e)
    have hlen : (old ++ x.l).length = need * z := by
     rw [List.length_append, ← ho.length, ← hx.length]; exact hn
    have cell : ∀ i, W.cell? ⟨w.heap.size, i, none⟩ = (ovs ++ xvs ++ repV zv.cells.toList (newCap - need))[i]? := fun i => by
     show (w.drew.alloc _).cell? ⟨w.drew.heap.size, i, none⟩ = _
     rw [World.cell?_alloc_new]; simp
    have froz : ∀ i, W.frozen? ⟨w.heap.size, i, none⟩ = false := fun i => by
     show (w.drew.alloc _).frozen? ⟨w.drew.heap.size, i, none⟩ = _
     rw [World.frozen?_alloc_new]
    have key := hH.push (w' := W) hlt loc (qac z (old ++ x.l)) rfl rfl rfl (by show w.heap.size < (w.drew.alloc _).heap.size; simp) (fun c hc' => Below.heap_alloc w.drew _ c hc') rfl
     (qpk (vs := ovs ++ xvs) (loc := loc) (Im.set_same _ _ _) (RepL.mono (Im.le_set loc (hH.fresh _ (Nat.le_refl _))) _ _ (ho.append hx)) (fun v hv => by
      rcases List.mem_append.1 hv with hv | hv
      ·exact ho1 v hv
      ·exact hx1 v hv) (fun i v hv => by
      show W.cell? ⟨w.heap.size, 0 + i, none⟩ = some v ∧ W.frozen? ⟨w.heap.size, 0 + i, none⟩ = false
      rw [Nat.zero_add]
      refine ⟨?_, froz i⟩
      rw [cell]
      have hi : i < (ovs ++ xvs).length := by
       rcases Nat.lt_or_ge i (ovs ++ xvs).length with h | h
       ·exact h
       ·rw [List.getElem?_eq_none h] at hv; cases hv
      rw [List.getElem?_append_left hi]; exact hv) (fun j hj => by
      show ∃ V, W.cell? ⟨w.heap.size, 0 + ((old ++ x.l).length + j), none⟩ = some V ∧ W.frozen? ⟨w.heap.size, 0 + ((old ++ x.l).length + j), none⟩ = false ∧ V.oneCell = true
      have hj : j < (newCap - need) * z := hj
      rw [Nat.zero_add, cell]
      have hl2 : (ovs ++ xvs).length = (old ++ x.l).length := by rw [List.length_append, List.length_append, ho.length, hx.length]
      rw [List.getElem?_append_right (by omega), hl2, Nat.add_sub_cancel_left]
      have : j < (repV zv.cells.toList (newCap - need)).length := by rw [qf4]; simpa [hzl] using hj
      exact ⟨_, List.getElem?_eq_getElem this, froz _, z3 _ (qof (List.getElem_mem this))⟩))
    refine ⟨ι.set H.nx loc, ?_, key.1, key.2⟩
    simp only [Rep]
    refine ⟨Nat.le_refl _, loc, Im.set_same _ _ _, ?_⟩
    simp [loc]; omega
  ·cases hap
theorem qmr {t u e ty : TypeId} (ht : P.underlying t = some (.slice e)) {td : TypeDesc} (hu : P.underlying u = some td) (htd : td = .string ∨ ∃ e', td = .slice e') {z : Nat} (hz : qcl P e = some z) (base : Option Addr) (len C : Nat) (X : Value) {m : Nat} {vs : List Value}
  (hl : (Builtin.lenOf X).run P w = .ok m w) (hf : (Builtin.firstCells z m X).run P w = .ok vs.toArray w) (hle : len + m ≤ C) {w' : World}
  (hst : ∀ ad, base = some ad → (storeCells (ad.add (len * z)) vs).run P w = .ok () w') (hno : base = none → w' = w) :
  (Builtin.append_ #[t, u] ty #[.slice base len C, X]).run P w = .ok (.slice base (len + m) C) w' := by
 cases base with
 | none =>
  rw [hno rfl]
  rcases htd with rfl | ⟨e', rfl⟩
  all_goals simp [Builtin.append_, qaf ht, qaf hu, qeg hz, hl, hf, hle]
 | some ad =>
  have hst := hst ad rfl
  rcases htd with rfl | ⟨e', rfl⟩
  all_goals simp [Builtin.append_, qaf ht, qaf hu, qeg hz, hl, hf, hle, hst]
set_option maxHeartbeats 1000000 in
theorem qoo {t u e ty : TypeId} (ht : P.underlying t = some (.slice e)) {td : TypeDesc} (hu : P.underlying u = some td) (htd : td = .string ∨ ∃ e', td = .slice e') {z b : Nat} (hz : qcl P e = some z) (hb : qpr P e = some b) {zv : Value} (hzv : (P.info? e).bind (·.zero) = some zv) (base : Option Addr) (len C : Nat) (X : Value) {m : Nat} {vs ovs : List Value}
  (hl : (Builtin.lenOf X).run P w = .ok m w) (hf : (Builtin.firstCells z m X).run P w.drew = .ok vs.toArray w.drew) (hof : (Builtin.firstCells z len (.slice base len C)).run P w.drew = .ok ovs.toArray w.drew) (hgt : ¬ len + m ≤ C) (hbig : (len + m) * b ≤ 1099511627776) (hbig2 : len + m ≤ 1099511627776) :
  ∃ newCap, len + m ≤ newCap ∧ (Builtin.append_ #[t, u] ty #[.slice base len C, X]).run P w = .ok (.slice (some ⟨w.heap.size, 0, none⟩) (len + m) newCap) (w.drew.alloc (.cells (ovs.toArray ++ vs.toArray ++ Builtin.zeroCells zv.cells (newCap - (len + m))) e)) := by
 obtain ⟨ti, ti1, ti2⟩ := qtn (P := P) hb
 have hnc := qsx (need := len + m) (old := C) (by omega)
 have h2 : ¬ (2 ^ 48 < Builtin.nextslicecap (len + m) C * ti.bytes) := by
  have hm : Builtin.nextslicecap (len + m) C * ti.bytes ≤ 3 * (len + m) * ti.bytes := Nat.mul_le_mul_right _ hnc
  rw [ti2] at hm ⊢
  have : 3 * (len + m) * b = 3 * ((len + m) * b) := Nat.mul_assoc _ _ _
  omega
 refine ⟨(Question.appendCap (len + m) C e).cut (w.tape w.drawn (.appendCap (len + m) C e)), by simp only [Question.cut]; omega, ?_⟩
 generalize hcap : (Question.appendCap (len + m) C e).cut (w.tape w.drawn (.appendCap (len + m) C e)) = cap
 rcases htd with rfl | ⟨e', rfl⟩
 all_goals
  simp [Builtin.append_, qaf ht, qaf hu, qeg hz, hl, hgt, ti1, h2, Question.forced, hcap, hof, hf, qh9 hzv, newRow]
  rw [if_neg (by omega), ← Array.append_assoc]
  simp
end Go.Ev
end
section
namespace Go.Ev
open Go.RowKit
variable {P : Program} {w : World} {ι : Im} {o : Oper} {a : Act} {d n : Nat} {L : TT AV d} {H : Hp}
theorem qsf {e : TypeId} {ap : Ap} (h : apS P e = some ap) : qcl P e = some ap.z ∧ qpr P e = some ap.w ∧ qpw P e = some ap.zl ∧ ap.zl.length = ap.z ∧ ∃ zv, (P.info? e).bind (·.zero) = some zv := by
 unfold apS at h
 split at h
 ·rename_i z ww zl e1 e2 e3
  cases hb : Nat.beq zl.length z with
  | false => rw [hb] at h; cases h
  | true =>
   rw [hb] at h; simp only [cond_true, Option.some.injEq] at h; subst h
   obtain ⟨zv, z1, _⟩ := qhm (ι := fun _ => none) e3
   exact ⟨e1, e2, e3, qmn hb, zv, z1⟩
 ·cases h
theorem HR.drew (h : HR ι H w) : HR ι H w.drew :=
 ⟨h.top, fun b hb => (h.blk b hb).keep fun _ _ _ => rfl, h.low, h.inj, h.fresh, h.free⟩
theorem q02 {b i len cap : Nat} {loc : Loc} {z : Nat} (hH : HR ι H w) (hb : ι b = some loc) (hend : qoq (H.get b) (i + cap * z) z = true) {old : List AV} (hold : qd6 (H.get b) i (len * z) = some old) {x : Src} {xvs : List Value} (hx : RepL ι x.l xvs) (hx1 : ∀ v ∈ xvs, v.oneCell = true) (hxn : xvs.length = x.n * z)
  (hlc : len ≤ cap) (hgt : ¬ len + x.n ≤ cap) (hfit : len + x.n ≤ cap + loc.ext) {v : AV} {H' : Hp} (h : grow z (H.put b .dead) old x (len + x.n) = .ok v H') :
  ∃ w' ι', (storeCells ⟨loc.blk, loc.base + i + len * z, none⟩ xvs).run P w = .ok () w' ∧ Rep ι' v (.slice (some ⟨loc.blk, loc.base + i, none⟩) (len + x.n) (cap + loc.ext)) ∧ HR ι' H' w' ∧ Fr ι ι' H H' w w' := by
 have hlt := hH.lt hb
 have hB := hH.blk b hlt
 unfold qoq at hend
 split at hend
 ·rename_i dd nn c z' hg
  simp only [Bool.and_eq_true] at hend
  have e1 := qmn hend.1
  have e2 := qmn hend.2
  have hwr : (H.get b).wr = true := by rw [hg]; rfl
  obtain ⟨ol, ov⟩ := qkv hB hold
  rw [hg] at hB
  obtain ⟨l', b1, ⟨b2, b2'⟩, b3, b4⟩ := hB
  rw [hb] at b1; cases b1
  have hz : loc.z = z := by rw [b2', e2]
  have hmul1 : len * z ≤ cap * z := Nat.mul_le_mul_right z hlc
  have hmul2 : (len + x.n) * z = len * z + x.n * z := Nat.add_mul _ _ _
  have hmul3 : (cap + loc.ext) * z = cap * z + loc.ext * z := Nat.add_mul _ _ _
  have hmul4 : (len + x.n) * z ≤ (cap + loc.ext) * z := Nat.mul_le_mul_right z hfit
  have hmul5 : cap * z ≤ (len + x.n) * z := Nat.mul_le_mul_right z (by omega)
  -- every cell up to the end of the room is there
  have there : ∀ j, j < nn + loc.ext * z → ∃ u, w.cell? ⟨loc.blk, loc.base + j, none⟩ = some u ∧ w.frozen? ⟨loc.blk, loc.base + j, none⟩ = false ∧ u.oneCell = true := by
   intro j hj
   by_cases hjn : j < nn
   ·obtain ⟨V, c1, _, c3, c4⟩ := b3 j hjn; exact ⟨V, c1, c4 rfl, c3⟩
   ·obtain ⟨V, c1, c2⟩ := b4 rfl (j - nn) (by rw [hz]; omega)
    rw [show nn + (j - nn) = j by omega] at c1 c2
    exact ⟨V, c1, c2⟩
  obtain ⟨w', r1, r2⟩ := qon P loc.blk xvs w (loc.base + i + len * z) 0 (fun j hj => by
   obtain ⟨u, c1, c2, _⟩ := there (i + len * z + j) (by omega)
   rw [show loc.base + i + len * z + 0 + j = loc.base + (i + len * z + j) by omega]
   exact ⟨u, c1, c2⟩) hx1
  rw [Nat.add_zero] at r2
  unfold grow at h
  ·
   simp only [R1.ok.injEq] at h
   obtain ⟨rfl, rfl⟩ := h
   have hnx : InH (H.nx) := inH
   obtain ⟨k1, k2⟩ := hH.kill hlt hwr
   have hnone := hH.fresh H.nx (Nat.le_refl _)
   let loc' : Loc := ⟨loc.blk, loc.base + i, cap + loc.ext - (len + x.n), z⟩
   have hle : ι.le (ι.set H.nx loc') := Im.le_set loc' hnone
   have hdead : (H.put b .dead).get H.nx = .dead := k1.free _ (Nat.le_refl _) hnx
   -- the cells that were there
   obtain ⟨ovs, o1, o2, o3, o4⟩ : ∃ ovs, RepL ι old ovs ∧ ovs.length = len * z ∧ (∀ v ∈ ovs, v.oneCell = true) ∧ ∀ (j : Nat) (v : Value), ovs[j]? = some v → w.cell? ⟨loc.blk, loc.base + i + j, none⟩ = some v := by
    rcases ov with ov | ⟨l2, ovs, g1, g2, g3, g4, g5⟩
    ·have : old = [] := List.length_eq_zero_iff.1 (by rw [ol]; exact ov)
     subst this
     exact ⟨[], by simp [RepL], by simpa using ov.symm, by simp, by simp⟩
    ·rw [hb] at g1; cases g1; exact ⟨ovs, g2, g3, g4, g5⟩
   have hlen : (old ++ x.l).length = (len + x.n) * z := by rw [List.length_append, ol, ← hx.length, hxn, hmul2]
   have cell : ∀ j, w'.cell? ⟨loc.blk, loc.base + i + j, none⟩ = if len * z ≤ j ∧ j < len * z + xvs.length then some (xvs.getD (j - len * z) Go.undef) else w.cell? ⟨loc.blk, loc.base + i + j, none⟩ := fun j => by
    rw [r2.cell]
    by_cases hc : len * z ≤ j ∧ j < len * z + xvs.length
    ·rw [if_pos hc, if_pos (by omega), show loc.base + i + j - (loc.base + i + len * z) = j - len * z by omega]
    ·rw [if_neg hc, if_neg (by omega)]
   have hbr : BR (ι.set H.nx loc') w' H.nx (qac z (old ++ x.l)) := by
    refine qpk (vs := ovs ++ xvs) (loc := loc') (Im.set_same _ _ _) (RepL.mono hle _ _ (o1.append hx)) (fun v hv => by
     rcases List.mem_append.1 hv with hv | hv
     ·exact o3 v hv
     ·exact hx1 v hv) (fun j v hv => ?_) (fun j hj => ?_)
    ·show w'.cell? ⟨loc.blk, loc.base + i + j, none⟩ = some v ∧ w'.frozen? ⟨loc.blk, loc.base + i + j, none⟩ = false
     have hj : j < (ovs ++ xvs).length := by
      rcases Nat.lt_or_ge j (ovs ++ xvs).length with h | h
      ·exact h
      ·rw [List.getElem?_eq_none h] at hv; cases hv
     rw [List.length_append, o2, hxn] at hj
     refine ⟨?_, ?_⟩
     ·rw [cell]
      by_cases hc : j < len * z
      ·rw [if_neg (by omega)]
       rw [List.getElem?_append_left (by omega)] at hv
       exact o4 j v hv
      ·rw [if_pos (by omega)]
       rw [List.getElem?_append_right (by omega), o2] at hv
       rw [List.getD_eq_getElem?_getD, hv]; rfl
     ·rw [r2.frozen]
      obtain ⟨_, _, c2, _⟩ := there (i + j) (by omega)
      rw [Nat.add_assoc]; exact c2
    ·show ∃ V, w'.cell? ⟨loc.blk, loc.base + i + ((old ++ x.l).length + j), none⟩ = some V ∧ w'.frozen? ⟨loc.blk, loc.base + i + ((old ++ x.l).length + j), none⟩ = false ∧ V.oneCell = true
     have hj : j < (cap + loc.ext - (len + x.n)) * z := hj
     have hmul6 : (cap + loc.ext - (len + x.n)) * z = (cap + loc.ext) * z - (len + x.n) * z := Nat.sub_mul _ _ _
     rw [cell, r2.frozen, if_neg (by omega), hlen]
     obtain ⟨u, c1, c2⟩ := there (i + ((len + x.n) * z + j)) (by omega)
     rw [Nat.add_assoc]
     exact ⟨u, c1, c2⟩
   have hadd := k1.add (w' := w') hnx hnone hdead (Nat.le_succ _) hnx (Nat.lt_succ_self _) loc' (qac z (old ++ x.l)) (by rw [r2.size]; exact Nat.le_refl _)
    (fun c m hc h1 h2 => r2.keep _ fun he => by
     rw [Hp.get_put _ _ _ _ hlt hc] at h1
     by_cases ecb : c = b
     ·subst ecb; simp [Blk.isDead] at h1
     ·rw [if_neg ecb] at h1
      exact ecb (hH.inj b c loc m hlt hc hwr h1 hb h2 he.symm).symm)
    (fun _ => by rw [r2.size]; exact hH.low b loc hlt (Blk.live_of_wr hwr) hb)
    (fun c m hc h1 h2 he => by
     rw [Hp.get_put _ _ _ _ hlt hc] at h1
     by_cases ecb : c = b
     ·subst ecb; simp [Blk.isDead] at h1
     ·rw [if_neg ecb] at h1
      exact ecb (hH.inj b c loc m hlt hc hwr h1 hb h2 he.symm).symm) hbr
   refine ⟨w', ι.set H.nx loc', r1, ?_, hadd, ⟨hle, Nat.le_succ _, fun c h1 h2 => ?_, r2.os, r2.tape, r2.output, by rw [r2.size]; exact Nat.le_refl _, fun c hc h1 => r2.keep c fun he => h1 b loc hlt hwr hb he.symm, fun c m hc h1 h2 => ?_, fun c m hc h1 h2 => ?_⟩⟩
   ·simp only [Rep]
    refine ⟨Nat.le_refl _, loc', Im.set_same _ _ _, ?_⟩
    simp [loc']; omega
   ·by_cases e : c = H.nx
    ·omega
    ·rw [Im.set_ne _ _ e] at h2; exact absurd h1 h2
   ·have hgc : (qaq (H.put b .dead) (qac z (old ++ x.l))).get c = if c = H.nx then qac z (old ++ x.l) else (H.put b .dead).get c := by exact Mem.get_put _ _ _ _
    by_cases e : c = H.nx
    ·subst e; rw [Im.set_same] at h2; cases h2; exact .inr ⟨b, loc, hlt, hwr, hb, rfl⟩
    ·rw [hgc, if_neg e, Hp.get_put _ _ _ _ hlt hc] at h1; rw [Im.set_ne _ _ e] at h2
     by_cases ecb : c = b
     ·subst ecb; simp [Blk.wr] at h1
     ·rw [if_neg ecb] at h1; exact .inr ⟨c, m, hc, h1, h2, rfl⟩
   ·have hgc : (qaq (H.put b .dead) (qac z (old ++ x.l))).get c = if c = H.nx then qac z (old ++ x.l) else (H.put b .dead).get c := by exact Mem.get_put _ _ _ _
    by_cases e : c = H.nx
    ·subst e; rw [Im.set_same] at h2; cases h2; exact .inr ⟨b, loc, hlt, Blk.live_of_wr hwr, hb, rfl⟩
    ·rw [hgc, if_neg e, Hp.get_put _ _ _ _ hlt hc] at h1; rw [Im.set_ne _ _ e] at h2
     by_cases ecb : c = b
     ·subst ecb; simp [Blk.isDead] at h1
     ·rw [if_neg ecb] at h1; exact .inr ⟨c, m, hc, h1, h2, rfl⟩
 ·cases hend
theorem qq4 {z : Nat} {x : AV} {X : Value} (hx : Rep ι x X) (hH : HR ι H w) {s : Src} (h : qd3 z H x = some s) :
  ∃ vs : List Value, RepL ι s.l vs ∧ (∀ v ∈ vs, v.oneCell = true) ∧ vs.length = s.n * z ∧ (Builtin.lenOf X).run P w = .ok s.n w ∧
   ∀ k, k ≤ s.n → (Builtin.firstCells z k X).run P w = .ok (vs.take (k * z)).toArray w := by
 unfold qd3 at h
 split at h
 ·cases hz : Nat.beq z 1 with
  | false => rw [hz] at h; cases h
  | true => rw [hz] at h; exact qwx hx hH h (fun _ => qmn hz)
 ·rename_i hn
  exact qwx hx hH h (fun ⟨m, b, e⟩ => absurd e (hn m b))
theorem q5m {b i len : Nat} {z : Nat} {loc : Loc} {C : Nat} (hH : HR ι H w) (hb : ι b = some loc) {old : List AV} (h : qd6 (H.get b) i (len * z) = some old) :
  ∃ ovs, RepL ι old ovs ∧ (∀ v ∈ ovs, v.oneCell = true) ∧ ovs.length = len * z ∧ (Builtin.firstCells z len (.slice (some ⟨loc.blk, loc.base + i, none⟩) len C)).run P w = .ok ovs.toArray w := by
 obtain ⟨ol, ov⟩ := qkv (hH.blk b (hH.lt hb)) h
 have fin : ∀ ovs : List Value, ovs.length = len * z → (∀ (j : Nat) (v : Value), ovs[j]? = some v → w.cell? ⟨loc.blk, loc.base + i + j, none⟩ = some v) → (Builtin.firstCells z len (.slice (some ⟨loc.blk, loc.base + i, none⟩) len C)).run P w = .ok ovs.toArray w := fun ovs h1 h2 => by
  have := run_loadCells P w loc.blk (loc.base + i) ovs h2
  rw [h1] at this
  simp only [Builtin.firstCells]; exact this
 rcases ov with ov | ⟨l2, ovs, g1, g2, g3, g4, g5⟩
 ·have : old = [] := List.length_eq_zero_iff.1 (by rw [ol]; exact ov)
  subst this
  exact ⟨[], by simp [RepL], by simp, by simpa using ov.symm, fin [] (by simpa using ov.symm) (by simp)⟩
 ·rw [hb] at g1; cases g1; exact ⟨ovs, g2, g4, g3, fin ovs g3 g5⟩
theorem qxx {t u e : TypeId} {x y : Operand} (ho : o.op = .call { callee := .builtin .append, args := #[x, y], argTypes := #[t, u] }) (ht : P.underlying t = some (.slice e)) {td : TypeDesc} (hu : P.underlying u = some td) (htd : td = .string ∨ ∃ e', td = .slice e') {ap : Ap} (hap : apS P e = some ap) (hH : HR ι H w) (h : LR ι d n L a.tmps) :
  VOk P o a.eval ι H w (qbb ap.z ap.w H ((opnd d n x).f L) (qd3 ap.z H ((opnd d n y).f L))) := by
 have hx := qah h x
 have hy := qah h y
 obtain ⟨a1, a2, a3, a4, zv, a5⟩ := qsf hap
 have run : ∀ S V w', a.eval x = S → (Builtin.append_ #[t, u] o.type #[S, a.eval y]).run P w = .ok V w' → (execOp a.eval o).run P w = .ok (.value V) w' := fun S V w' h1 h2 => by
  simp [execOp, ho, resolve, invoke, builtin, h1, h2]
 cases hs : qd3 ap.z H ((opnd d n y).f L) with
 | none => trivial
 | some s =>
  obtain ⟨xvs, x1, x2, x3, x4, x5⟩ := qq4 (P := P) hy hH hs
  obtain ⟨xvs', x1', x2', x3', x4', x5'⟩ := qq4 (P := P) hy hH.drew hs
  have x5 := x5 s.n (Nat.le_refl _)
  have x5' := x5' s.n (Nat.le_refl _)
  rw [← x3, List.take_length] at x5
  rw [← x3', List.take_length] at x5'
  cases hv : qbb ap.z ap.w H ((opnd d n x).f L) (some s) with
  | bad => trivial
  | ok v H' =>
   unfold qbb at hv
   simp only at hv
   split at hv
   ·rename_i e1
    rw [e1] at hx; simp only [Rep] at hx
    cases hn : Nat.beq s.n 0 with
    | true =>
     have hn := qmn hn
     rw [hn] at hv
     simp only [show Nat.beq 0 0 = true from rfl, cond_true, R1.ok.injEq] at hv
     obtain ⟨rfl, rfl⟩ := hv
     have r := qmr (ty := o.type) ht hu htd a1 none 0 0 (a.eval y) x4 x5 (by omega) (w' := w) (fun _ h => by cases h) (fun _ => rfl)
     rw [hn] at r
     exact ⟨_, .slice none 0 0, w, ι, run _ _ _ hx r, .inl rfl, by simp only [Rep], hH, Fr.refl _ _ _⟩
    | false =>
     rw [hn] at hv; simp only [cond_false] at hv
     have hn := qt5 hn
     cases hbg : (Nat.ble (Nat.mul s.n ap.w) bigB && Nat.ble s.n bigB) with
     | false => rw [hbg] at hv; cases hv
     | true =>
      rw [hbg] at hv; simp only [cond_true] at hv
      simp only [Bool.and_eq_true] at hbg
      have g1 : s.n * ap.w ≤ 1099511627776 := qk7 hbg.1
      have g2 : s.n ≤ 1099511627776 := qk7 hbg.2
      obtain ⟨nc, c1, c2⟩ := qoo (ty := o.type) (ovs := []) ht hu htd a1 a2 a5 none 0 0 (a.eval y) x4 x5' (by simp [Builtin.firstCells]) (by omega) (by rw [Nat.zero_add]; exact g1) (by omega)
      rw [Nat.zero_add] at c1 c2
      obtain ⟨ι', d1, d2, d3⟩ := qtz hap hH (ovs := []) (show RepL ι [] [] by simp [RepL]) (by simp) x1' x2' (by simp [x3']) hv nc c1 a5 w.drew rfl
      exact ⟨_, _, _, ι', run _ _ _ hx c2, .inl rfl, d1, d2, d3⟩
   ·rename_i b i len cap ex e1
    rw [e1] at hx; simp only [Rep] at hx
    obtain ⟨hlc, loc, h1, h2⟩ := hx
    cases hin : Nat.ble (len + s.n) cap with
    | true =>
     rw [hin] at hv; simp only [cond_true] at hv
     have hin := qk7 hin
     obtain ⟨rfl, w', r1, r2, r3⟩ := qj1 P hH h1 x1 x2 hv
     have r := qmr (ty := o.type) ht hu htd a1 (some ⟨loc.blk, loc.base + i, none⟩) len (if ex then cap else cap + loc.ext) (a.eval y) x4 x5 (by split <;> omega) (w' := w')
      (fun ad h => by cases h; rw [addr_add, Nat.add_assoc]; exact r1) (fun h => by cases h)
     refine ⟨_, _, w', ι, run _ _ _ h2 r, .inl rfl, ?_, r2, r3⟩
     simp only [Rep]; exact ⟨hin, loc, h1, rfl⟩
    | false =>
     rw [hin] at hv; simp only [cond_false] at hv
     have hin := za9 hin
     cases hbg : (Nat.ble (Nat.mul (len + s.n) ap.w) bigB && Nat.ble (len + s.n) bigB) with
     | false => rw [hbg] at hv; cases hv
     | true =>
      rw [hbg] at hv; simp only [cond_true] at hv
      simp only [Bool.and_eq_true] at hbg
      have g1 : (len + s.n) * ap.w ≤ 1099511627776 := qk7 hbg.1
      have g2 : len + s.n ≤ 1099511627776 := qk7 hbg.2
      split at hv
      ·cases hv
      ·rename_i old hold
       have grown : ∀ C, ¬ len + s.n ≤ C → a.eval x = .slice (some ⟨loc.blk, loc.base + i, none⟩) len C → ∀ (H1 : Hp), HR ι H1 w → Fr ι ι H H1 w w → grow ap.z H1 old s (len + s.n) = .ok v H' → VOk P o a.eval ι H w (.ok v H') := by
        intro C hC hxC H1 hH1 hF1 hg
        obtain ⟨ovs, o1, o2, o3, o4⟩ := q5m (P := P) (w := w.drew) (C := C) hH.drew h1 hold
        obtain ⟨nc, c1, c2⟩ := qoo (ty := o.type) ht hu htd a1 a2 a5 (some ⟨loc.blk, loc.base + i, none⟩) len C (a.eval y) x4 x5' o4 hC g1 g2
        obtain ⟨ι', d1, d2, d3⟩ := qtz hap hH1 o1 o2 x1' x2' (by rw [o3, x3', Nat.add_mul]) hg nc c1 a5 w.drew rfl
        exact ⟨_, _, _, ι', run _ _ _ hxC c2, .inl rfl, d1, d2, hF1.trans d3⟩
       cases ex with
       | true =>
        simp only [cond_true] at hv
        exact grown cap hin (by simpa using h2) H hH (Fr.refl _ _ _) hv
       | false =>
        simp only [cond_false] at hv
        cases hend : qoq (H.get b) (i + cap * ap.z) ap.z with
        | false => rw [hend] at hv; cases hv
        | true =>
         rw [hend] at hv; simp only [cond_true] at hv
         simp only [Bool.false_eq_true, if_false] at h2
         by_cases hfit : len + s.n ≤ cap + loc.ext
         ·obtain ⟨w', ι', q1, q2, q3, q4⟩ := q02 (P := P) hH h1 hend hold x1 x2 x3 hlc hin hfit hv
          have r := qmr (ty := o.type) ht hu htd a1 (some ⟨loc.blk, loc.base + i, none⟩) len (cap + loc.ext) (a.eval y) x4 x5 hfit (w' := w')
           (fun ad h => by cases h; rw [addr_add]; exact q1) (fun h => by cases h)
          exact ⟨_, _, w', ι', run _ _ _ h2 r, .inl rfl, q2, q3, q4⟩
         ·have hwr : (H.get b).wr = true := by
           unfold qoq at hend
           split at hend
           ·rename_i hg; rw [hg]; rfl
           ·cases hend
          obtain ⟨k1, k2⟩ := hH.kill (hH.lt h1) hwr
          exact grown _ hfit h2 _ k1 k2 hv
   ·cases hv
end Go.Ev
end
section
namespace Go.Ev
open Go.RowKit
variable {P : Program} {w : World} {ι : Im} {o : Oper} {a : Act} {d n : Nat} {L : TT AV d} {H : Hp}
theorem zaw {t u e : TypeId} {x y : Operand} (ho : o.op = .call { callee := .builtin .copy, args := #[x, y], argTypes := #[t, u] }) (ht : P.underlying t = some (.slice e)) {z : Nat} (hz : qcl P e = some z) (hH : HR ι H w) (h : LR ι d n L a.tmps) :
  VOk P o a.eval ι H w (copyV z H ((opnd d n x).f L) (qd3 z H ((opnd d n y).f L))) := by
 have hx := qah h x
 have hy := qah h y
 cases hs : qd3 z H ((opnd d n y).f L) with
 | none => cases (opnd d n x).f L <;> trivial
 | some s =>
  obtain ⟨xvs, x1, x2, x3, x4, x5⟩ := qq4 (P := P) hy hH hs
  unfold copyV
  split
  ·rename_i s' b i m cap ex e0 e1
   cases e0
   rw [e1] at hx; simp only [Rep] at hx
   obtain ⟨_, loc, h1, h2⟩ := hx
   cases hst : storeAt H b i (s.l.take (Nat.mul (min s.n m) z)) (i64 (min s.n m)) with
   | bad => trivial
   | ok v H' =>
    obtain ⟨rfl, w', r1, r2, r3⟩ := qj1 P hH h1 (x1.take _) (fun v hv => x2 v (List.mem_of_mem_take hv)) hst
    refine ⟨.value (.int .i64 ((min s.n m : Nat) : Int)), _, w', ι, ?_, .inl rfl, qfe _ _, r2, r3⟩
    have x5 := x5 (min s.n m) (Nat.min_le_left _ _)
    have r1 : (storeCells ⟨loc.blk, loc.base + i, none⟩ (xvs.take (min s.n m * z))).run P w = .ok () w' := r1
    simp only [execOp, ho, resolve, invoke, builtin, Sem.run_bind, Sem.run_pure, Result.andThen_ok, List.map_toArray, List.map_cons, List.map_nil, Builtin.copy_, h2]
    simp only [List.getElem?_toArray, List.getElem?_cons_zero, List.getElem?_cons_succ, Sem.run_bind, qaf ht, x4, qeg hz, Result.andThen_ok]
    rw [show s.n.min m = min s.n m from rfl, x5]
    simp [r1, goInt]
  ·rename_i s' e0 e1
   rw [e1] at hx; simp only [Rep] at hx
   refine ⟨.value (.int .i64 0), _, w, ι, ?_, .inl rfl, qfe _ _, hH, Fr.refl _ _ _⟩
   have x5 := x5 0 (Nat.zero_le _)
   simp only [execOp, ho, resolve, invoke, builtin, Sem.run_bind, Sem.run_pure, Result.andThen_ok, List.map_toArray, List.map_cons, List.map_nil, Builtin.copy_, hx]
   simp only [List.getElem?_toArray, List.getElem?_cons_zero, List.getElem?_cons_succ, Sem.run_bind, qaf ht, x4, qeg hz, Result.andThen_ok]
   rw [show s.n.min 0 = 0 from Nat.min_zero _, x5]
   simp [goInt]
  ·rename_i s' e0 e1
   rw [e1] at hx; simp only [Rep] at hx
   obtain ⟨ad, c, hx⟩ := hx
   refine ⟨.value (.int .i64 0), _, w, ι, ?_, .inl rfl, qfe _ _, hH, Fr.refl _ _ _⟩
   have x5 := x5 0 (Nat.zero_le _)
   simp only [execOp, ho, resolve, invoke, builtin, Sem.run_bind, Sem.run_pure, Result.andThen_ok, List.map_toArray, List.map_cons, List.map_nil, Builtin.copy_, hx]
   simp only [List.getElem?_toArray, List.getElem?_cons_zero, List.getElem?_cons_succ, Sem.run_bind, qaf ht, x4, qeg hz, Result.andThen_ok]
   rw [show s.n.min 0 = 0 from Nat.min_zero _, x5]
   simp [goInt, storeCells]
  ·trivial
/- maps -/
theorem qin {b : Nat} {es : List Ent} {clock : Nat} {loc : Loc} (hH : HR ι H w) (hb : ι b = some loc) (hg : H.get b = .map es clock) (es' : List Ent) (clock' : Nat) {ES' : List MapEntry} (hE : RepE ι es' ES') :
  HR ι (H.put b (.map es' clock')) { w with heap := w.heap.setIfInBounds loc.blk (.map ES'.toArray clock') } ∧ Fr ι ι H (H.put b (.map es' clock')) w { w with heap := w.heap.setIfInBounds loc.blk (.map ES'.toArray clock') } := by
 have hlt := hH.lt hb
 have hwr : (H.get b).wr = true := by rw [hg]; rfl
 have hlow := hH.low b loc hlt (Blk.live_of_wr hwr) hb
 refine hH.put hlt hwr hb _ rfl rfl rfl (by simp) (fun c hc => ?_) ⟨loc, ES', hb, ?_, hE⟩
 ·show (w.heap.setIfInBounds loc.blk _)[c]? = _
  rw [Array.getElem?_setIfInBounds_ne (Ne.symm hc)]
 ·show (w.heap.setIfInBounds loc.blk _)[loc.blk]? = _
  simp [hlow]
theorem RepE.set : ∀ {es : List Ent} {ES : List MapEntry}, RepE ι es ES → ∀ (i : Nat) (x : Ent) (e : MapEntry), Rep ι x.key e.key → Rep ι x.val e.val → e.born = x.born → RepE ι (es.set i x) (ES.set i e)
 | [], ES, h, i, x, e, _, _, _ => by simp only [RepE] at h; subst h; simp [RepE]
 | y :: es, ES, h, i, x, e, h1, h2, h3 => by
  simp only [RepE] at h
  obtain ⟨e0, r, rfl, g1, g2, g3, g4⟩ := h
  cases i with
  | zero => simp only [List.set_cons_zero, RepE]; exact ⟨e, r, rfl, h1, h2, h3, g4⟩
  | succ i => simp only [List.set_cons_succ, RepE]; exact ⟨e0, r.set i e, rfl, g1, g2, g3, RepE.set g4 i x e h1 h2 h3⟩
theorem RepE.snoc : ∀ {es : List Ent} {ES : List MapEntry}, RepE ι es ES → ∀ (x : Ent) (e : MapEntry), Rep ι x.key e.key → Rep ι x.val e.val → e.born = x.born → RepE ι (es ++ [x]) (ES ++ [e])
 | [], ES, h, x, e, h1, h2, h3 => by
  simp only [RepE] at h; subst h
  simp only [List.nil_append, RepE]; exact ⟨e, [], rfl, h1, h2, h3, rfl⟩
 | y :: es, ES, h, x, e, h1, h2, h3 => by
  simp only [RepE] at h
  obtain ⟨e0, r, rfl, g1, g2, g3, g4⟩ := h
  simp only [List.cons_append, RepE]; exact ⟨e0, r ++ [e], rfl, g1, g2, g3, RepE.snoc g4 x e h1 h2 h3⟩
theorem RepE.erase : ∀ {es : List Ent} {ES : List MapEntry}, RepE ι es ES → ∀ (i : Nat), RepE ι (es.eraseIdx i) (ES.eraseIdx i)
 | [], ES, h, i => by simp only [RepE] at h; subst h; simp [RepE]
 | y :: es, ES, h, i => by
  simp only [RepE] at h
  obtain ⟨e0, r, rfl, g1, g2, g3, g4⟩ := h
  cases i with
  | zero => simpa using g4
  | succ i => simp only [List.eraseIdx_cons_succ, RepE]; exact ⟨e0, r.eraseIdx i, rfl, g1, g2, g3, RepE.erase g4 i⟩
/- keys that are the same -/
theorem qw1 {x y : AV} (h : q3g x y = true) {X Y : Value} (hx : Rep ι x X) (hy : Rep ι y Y) : X = Y ∧ ∀ k, Instr.sameBits k X X = true := by
 unfold q3g at h
 split at h
 ·simp only [Bool.and_eq_true] at h
  have := q4k h.1; subst this
  have h2 := h.2; rw [qnc] at h2
  simp only [Rep] at hx hy; subst hx hy
  obtain rfl := eq_of_beq h2
  exact ⟨rfl, fun k => by cases k <;> simp [Instr.sameBits]⟩
 ·simp only [Rep] at hx hy
  obtain ⟨s, rfl, h1⟩ := hx
  obtain ⟨u, rfl, h2⟩ := hy
  rw [h1.eq h2] at h
  have e : s = u := by
   have : s.data.toList = u.data.toList := by simpa using h
   cases s; cases u; simp at this; rw [this]
  subst e
  exact ⟨rfl, fun k => by cases k <;> simp [Instr.sameBits, beq_toListBytes]⟩
 ·simp only [Rep] at hx hy; subst hx hy
  obtain rfl := eq_of_beq h
  exact ⟨rfl, fun k => by cases k <;> simp [Instr.sameBits]⟩
 ·cases h
theorem qw0 : ∀ {l m : List AV} {vs us : List Value}, qyh l m = true → RepL ι l vs → RepL ι m us → vs = us ∧ ∀ k, (vs.zip vs).all (fun (x, y) => Instr.sameBits k x y) = true
 | [], [], vs, us, _, h1, h2 => by simp only [RepL] at h1 h2; subst h1 h2; exact ⟨rfl, fun _ => rfl⟩
 | [], _ :: _, vs, us, h, _, _ => by simp [qyh] at h
 | _ :: _, [], vs, us, h, _, _ => by simp [qyh] at h
 | x :: l, y :: m, vs, us, h, h1, h2 => by
  simp only [RepL] at h1 h2
  obtain ⟨v, r, rfl, a1, a2⟩ := h1
  obtain ⟨u, r', rfl, b1, b2⟩ := h2
  simp only [qyh, Bool.and_eq_true] at h
  obtain ⟨c1, c2⟩ := qw1 h.1 a1 b1
  obtain ⟨d1, d2⟩ := qw0 h.2 a2 b2
  exact ⟨by rw [c1, d1], fun k => by
   rw [List.zip_cons_cons, List.all_cons, Bool.and_eq_true]
   exact ⟨c2 k, d2 k⟩⟩
theorem qsq {x y : AV} (h : sameKey x y = true) {X Y : Value} (hx : Rep ι x X) (hy : Rep ι y Y) : Instr.sameBits 10000 X Y = true := by
 unfold sameKey at h
 split at h
 ·obtain ⟨vs, a1, rfl, _⟩ := qk5 hx
  obtain ⟨us, b1, rfl, _⟩ := qk5 hy
  obtain ⟨rfl, c⟩ := qw0 h a1 b1
  rw [show (10000 : Nat) = 9999 + 1 from rfl]
  simp only [Instr.sameBits, Bool.and_eq_true]
  exact ⟨by simp, by simpa using c 9999⟩
 ·obtain ⟨rfl, c⟩ := qw1 h hx hy
  exact c 10000
theorem qqa (ES : List MapEntry) (i : Nat) (E : MapEntry) (h : ES[i]? = some E) (f : MapEntry → MapEntry) : ES.modify i f = ES.set i (f E) := by
 apply List.ext_getElem?
 intro j
 rw [List.getElem?_modify, List.getElem?_set]
 by_cases e : i = j
 ·subst e; have hlt := (List.getElem?_eq_some_iff.1 h).1; simp only [if_true, hlt]; rw [h]; rfl
 ·simp [e]
theorem zau {t kt et : TypeId} {x y z : Operand} (ho : o.op = .mapUpdate t x y z ∨ o.op = .insert t x y z) (ht : P.underlying t = some (.map kt et)) {ky : Ky} (hky : keyS P kt = some ky) (hH : HR ι H w) (h : LR ι d n L a.tmps) :
  VOk P o a.eval ι H w (updV ky H ((opnd d n x).f L) ((opnd d n y).f L) ((opnd d n z).f L)) := by
 have hx := qah h x
 have hy := qah h y
 have hz := qah h z
 have hrun : (execOp a.eval o).run P w = ((Instr.mapUpdate t (a.eval x) (a.eval y) (a.eval z)).run P w).andThen fun _ w => .ok .skip w := by
  rcases ho with ho | ho <;> simp [execOp, ho]
 unfold updV
 split
 ·rename_i b e1
  rw [e1] at hx; simp only [Rep] at hx
  obtain ⟨loc, h1, h2⟩ := hx
  have hb := hH.blk b (hH.lt h1)
  split
  ·rename_i es clock hg
   rw [hg] at hb
   obtain ⟨l', ES, g1, g2, g3⟩ := hb
   rw [h1] at g1; cases g1
   split
   ·rename_i hit hf
    obtain ⟨c1, R, c2, c3⟩ := qm3 hky hy g3 hf
    obtain ⟨V, E, rfl, d1, d2, d3, d4, d5, d6⟩ := c3
    cases hsk : sameKey hit.x.key ((opnd d n y).f L) with
    | false => trivial
    | true =>
     have hsb := qsq hsk d3 hy
     obtain ⟨m1, m2⟩ := qin hH h1 hg (es.set hit.i ⟨(opnd d n y).f L, (opnd d n z).f L, hit.x.born⟩) clock (g3.set hit.i _ ⟨a.eval y, a.eval z, E.born⟩ hy hz d6)
     refine ⟨.skip, Go.undef, _, ι, ?_, .inr ⟨rfl, rfl⟩, by simp [Rep, Go.undef], m1, m2⟩
     rw [hrun, h2]
     have hmod := qqa ES hit.i E d2 (fun e => { e with key := a.eval y, val := a.eval z })
     simp [Instr.mapUpdate, qaf ht, getObj, setObj, Sem.run, g2, c1, c2, d2, Instr.keyThatStays, hsb, hmod]
   ·rename_i hf
    obtain ⟨c1, R, c2, c3⟩ := qm3 hky hy g3 hf
    simp only [qwn] at c3; subst c3
    obtain ⟨m1, m2⟩ := qin hH h1 hg (es ++ [⟨(opnd d n y).f L, (opnd d n z).f L, clock⟩]) (clock + 1) (g3.snoc _ ⟨a.eval y, a.eval z, clock⟩ hy hz rfl)
    refine ⟨.skip, Go.undef, _, ι, ?_, .inr ⟨rfl, rfl⟩, by simp [Rep, Go.undef], m1, m2⟩
    rw [hrun, h2]
    simp [Instr.mapUpdate, qaf ht, getObj, setObj, Sem.run, g2, c1, c2]
   ·trivial
  ·trivial
 ·trivial
theorem q7x {t kt et : TypeId} {x : Operand} (ho : o.op = .range t x) (ht : P.underlying t = some (.map kt et)) (hH : HR ι H w) (h : LR ι d n L a.tmps) :
  VOk P o a.eval ι H w (q0o H ((opnd d n x).f L)) := by
 have hx := qah h x
 unfold q0o
 split
 ·rename_i e1
  rw [e1] at hx; simp only [Rep] at hx
  obtain ⟨m1, m2⟩ := hH.push (w' := w.alloc (.mapIter none 0 #[] 0)) inH ⟨w.heap.size, 0, 0, 0⟩ (.strIter 0 0 0) rfl rfl rfl (by simp) (fun c hc => Below.heap_alloc w _ c hc) rfl ⟨_, none, Im.set_same _ _ _, rfl, by show (w.heap.push _)[w.heap.size]? = _; simp, rfl⟩
  refine ⟨.value (.pointer (some ⟨w.heap.size, 0, none⟩)), _, _, _, ?_, .inl rfl, ?_, m1, m2⟩
  ·simp [execOp, ho, hx, Instr.range, qaf ht]
  ·simp only [Rep]
   exact ⟨_, Im.set_same _ _ _, rfl⟩
 ·rename_i b e1
  rw [e1] at hx; simp only [Rep] at hx
  obtain ⟨loc, h1, h2⟩ := hx
  have hb := hH.blk b (hH.lt h1)
  split
  ·rename_i es clock hg
   rw [hg] at hb
   obtain ⟨l', ES, g1, g2, g3⟩ := hb
   rw [h1] at g1; cases g1
   have hne : b ≠ H.nx := fun e => by rw [e, hH.fresh _ (Nat.le_refl _)] at h1; cases h1
   obtain ⟨m1, m2⟩ := hH.push (w' := w.alloc (.mapIter (some loc.blk) clock #[] clock)) inH ⟨w.heap.size, 0, 0, 0⟩ (.strIter (Nat.succ b) clock 0) rfl rfl rfl (by simp) (fun c hc => Below.heap_alloc w _ c hc) rfl ⟨_, some loc.blk, Im.set_same _ _ _, rfl, by show (w.heap.push _)[w.heap.size]? = _; simp, loc, by rw [Im.set_ne _ _ hne]; exact h1, rfl⟩
   refine ⟨.value (.pointer (some ⟨w.heap.size, 0, none⟩)), _, _, _, ?_, .inl rfl, ?_, m1, m2⟩
   ·simp [execOp, ho, h2, Instr.range, qaf ht, Sem.run, getObj, g2]
   ·simp only [Rep]
    exact ⟨_, Im.set_same _ _ _, rfl⟩
  ·trivial
 ·trivial
theorem zav {x : Operand} (ho : o.op = .next x false) (hH : HR ι H w) (h : LR ι d n L a.tmps) :
  VOk P o a.eval ι H w (q67 H ((opnd d n x).f L)) := by
 have hx := qah h x
 unfold q67
 split
 ·rename_i b off e1
  rw [e1] at hx; simp only [Rep] at hx
  obtain ⟨loc, h1, h2⟩ := hx
  have hb := hH.blk b (hH.lt h1)
  cases ho0 : Nat.beq off 0 with
  | false => trivial
  | true =>
   obtain rfl := Nat.eq_of_beq_eq_true ho0
   simp only [cond_true]
   split
   ·rename_i m since pos hg
    rw [hg] at hb
    obtain ⟨l', r, g1, g0, g2, g3⟩ := hb
    rw [h1] at g1; cases g1
    rw [g0, Nat.add_zero] at h2
    cases m with
    | zero =>
     simp only at g3
     subst g3
     refine ⟨.value (.tuple #[.bool false]), _, _, ι, ?_, .inl rfl, ?_, hH, Fr.refl _ _ _⟩
     ·simp [execOp, ho, h2, Instr.next, getObj, Sem.run, g2]
     ·simp only [Rep, RepL]; exact ⟨_, ⟨_, _, rfl, rfl, rfl⟩, rfl⟩
    | succ m =>
     obtain ⟨lm, k1, rfl⟩ := g3
     have hm := hH.blk m (hH.lt k1)
     simp only
     split
     ·rename_i es clock hgm
      rw [hgm] at hm
      obtain ⟨l2, ES, j1, j2, j3⟩ := hm
      rw [k1] at j1; cases j1
      cases hcs : Nat.beq clock since with
      | false => trivial
      | true =>
       obtain rfl := Nat.eq_of_beq_eq_true hcs
       simp only [cond_true]
       unfold q9x
       split
       ·simp only [RepE] at j3
        subst j3
        refine ⟨.value (.tuple #[.bool false]), _, _, ι, ?_, .inl rfl, ?_, hH, Fr.refl _ _ _⟩
        ·simp [execOp, ho, h2, Instr.next, getObj, Sem.run, g2, j2, choose, Question.forced]
        ·simp only [Rep, RepL]; exact ⟨_, ⟨_, _, rfl, rfl, rfl⟩, rfl⟩
       ·rename_i e
        simp only [RepE] at j3
        obtain ⟨E, _, rfl, q1, q2, q3, rfl⟩ := j3
        cases hbl : Nat.blt e.born clock with
        | false => trivial
        | true =>
         have hbl := qk7 hbl
         rw [← q3] at hbl
         simp only [cond_true]
         cases pos with
         | zero =>
          have hwr : (H.get b).wr = true := by rw [hg]; rfl
          have hlow := hH.low b loc (hH.lt h1) (Blk.live_of_wr hwr) h1
          obtain ⟨m1, m2⟩ := hH.put (w' := { w with heap := w.heap.setIfInBounds loc.blk (.mapIter (some lm.blk) clock #[E.born] clock) }) (hH.lt h1) hwr h1 (.strIter (Nat.succ m) clock (Nat.succ e.born)) rfl rfl rfl (by simp) (fun c hc => by
           show (w.heap.setIfInBounds loc.blk _)[c]? = _
           rw [Array.getElem?_setIfInBounds_ne (Ne.symm hc)]) ⟨loc, some lm.blk, h1, g0, by
           show (w.heap.setIfInBounds loc.blk _)[loc.blk]? = _
           rw [Array.getElem?_setIfInBounds_self_of_lt hlow, q3], lm, k1, rfl⟩
          refine ⟨.value (.tuple #[.bool true, E.key, E.val]), _, _, ι, ?_, .inl rfl, ?_, m1, m2⟩
          ·have hnl : ¬ clock ≤ E.born := by omega
           simp [execOp, ho, h2, Instr.next, getObj, setObj, Sem.run, g2, j2, choose, Question.forced, hnl, show E.born < clock from hbl]
          ·simp only [Rep, RepL]; exact ⟨_, ⟨_, _, rfl, rfl, _, _, rfl, q1, _, _, rfl, q2, rfl⟩, rfl⟩
         | succ p =>
          show VOk P o a.eval ι H w (bif Nat.beq (p + 1) (Nat.succ e.born) then .ok (.tup [.bool false]) H else .bad)
          cases hp : Nat.beq (p + 1) (Nat.succ e.born) with
          | false => trivial
          | true =>
           have hp : p + 1 = e.born + 1 := Nat.eq_of_beq_eq_true hp
           have hp : p = E.born := by omega
           subst hp
           refine ⟨.value (.tuple #[.bool false]), _, _, ι, ?_, .inl rfl, ?_, hH, Fr.refl _ _ _⟩
           ·have hnl : ¬ clock ≤ E.born := by omega
            simp [execOp, ho, h2, Instr.next, getObj, Sem.run, g2, j2, choose, Question.forced, hnl]
           ·simp only [Rep, RepL]; exact ⟨_, ⟨_, _, rfl, rfl, rfl⟩, rfl⟩
       ·trivial
     ·trivial
   ·trivial
 ·trivial
theorem q7y {t kt et : TypeId} {x y : Operand} (ho : o.op = .mapEntry t x y) (ht : P.underlying t = some (.map kt et)) {ky : Ky} (hky : keyS P kt = some ky) {z : Value} (hz : (P.info? et).bind (·.zero) = some z) (hH : HR ι H w) (h : LR ι d n L a.tmps) :
  VOk P o a.eval ι H w (q17 ky (qtq z) H ((opnd d n x).f L) ((opnd d n y).f L)) := by
 have hx := qah h x
 have hy := qah h y
 unfold q17
 split
 ·rename_i b e1
  rw [e1] at hx; simp only [Rep] at hx
  obtain ⟨loc, h1, h2⟩ := hx
  have hb := hH.blk b (hH.lt h1)
  split
  ·rename_i es clock hg
   rw [hg] at hb
   obtain ⟨l', ES, g1, g2, g3⟩ := hb
   rw [h1] at g1; cases g1
   split
   ·rename_i hit hf
    obtain ⟨c1, R, c2, c3⟩ := qm3 hky hy g3 hf
    obtain ⟨V, E, rfl, d1, d2, d3, d4, d5, d6⟩ := c3
    cases hsk : sameKey hit.x.key ((opnd d n y).f L) with
    | false => trivial
    | true =>
     have hsb := qsq hsk d3 hy
     obtain ⟨m1, m2⟩ := qin hH h1 hg (es.set hit.i ⟨(opnd d n y).f L, hit.x.val, hit.x.born⟩) clock (g3.set hit.i _ ⟨a.eval y, E.val, E.born⟩ hy (by rw [d5]; exact d4) d6)
     refine ⟨.value (.tuple #[V, .int .i64 (E.born : Int)]), _, _, ι, ?_, .inl rfl, ?_, m1, m2⟩
     ·have hmod := qqa ES hit.i E d2 (fun e => { e with key := a.eval y })
      simp [execOp, ho, h2, Instr.mapEntry, qaf ht, getObj, setObj, Sem.run, g2, c1, c2, d2, Instr.keyThatStays, hsb, hmod, goInt]
     ·simp only [Rep, RepL]
      exact ⟨[V, .int .i64 (E.born : Int)], ⟨V, _, rfl, d4, _, _, rfl, by rw [d6]; rfl, rfl⟩, rfl⟩
   ·rename_i hf
    obtain ⟨c1, R, c2, c3⟩ := qm3 hky hy g3 hf
    simp only [qwn] at c3; subst c3
    obtain ⟨m1, m2⟩ := qin hH h1 hg (es ++ [⟨(opnd d n y).f L, qtq z, clock⟩]) (clock + 1) (g3.snoc _ ⟨a.eval y, z, clock⟩ hy (qny z) rfl)
    refine ⟨.value (.tuple #[z, .int .i64 (clock : Int)]), _, _, ι, ?_, .inl rfl, ?_, m1, m2⟩
    ·simp [execOp, ho, h2, Instr.mapEntry, qaf ht, getObj, setObj, Sem.run, g2, c1, c2, qh9 hz, goInt]
    ·simp only [Rep, RepL]
     exact ⟨[z, .int .i64 (clock : Int)], ⟨z, _, rfl, qny z, _, _, rfl, rfl, rfl⟩, rfl⟩
   ·trivial
  ·trivial
 ·trivial
theorem qub {k : Nat} : ∀ (es : List Ent) (ES : List MapEntry) (i : Nat) (hit : Hit), RepE ι es ES → qz8 k es i = some hit →
  ∃ E j, hit.i = i + j ∧ ES[j]? = some E ∧ ES.findIdx? (fun e => (e.born : Int) == (k : Int)) = some j ∧ Rep ι hit.x.key E.key ∧ E.born = hit.x.born
 | [], ES, i, hit, hE, hs => by
  have hs : (none : Option Hit) = some hit := hs
  cases hs
 | x :: es, ES, i, hit, hE, hs => by
  simp only [RepE] at hE
  obtain ⟨e, r, rfl, h1, h2, h3, h4⟩ := hE
  have hs : (bif Nat.beq x.born k then some ⟨i, x⟩ else qz8 k es (i + 1)) = some hit := hs
  cases hk : Nat.beq x.born k with
  | true =>
   rw [hk] at hs; simp only [cond_true, Option.some.injEq] at hs; subst hs
   have := qmn hk
   exact ⟨e, 0, rfl, rfl, by simp [List.findIdx?_cons, h3, this], h1, h3⟩
  | false =>
   rw [hk] at hs; simp only [cond_false] at hs
   have hne := qt5 hk
   obtain ⟨E, j, a1, a2, a3, a4, a5⟩ := qub es r (i + 1) hit h4 hs
   refine ⟨E, j + 1, by omega, by simpa using a2, ?_, a4, a5⟩
   have hb : (((e.born : Int)) == (k : Int)) = false := by rw [h3]; simp; omega
   rw [List.findIdx?_cons, hb, a3]; rfl
theorem q2a {t : TypeId} {x y z : Operand} (ho : o.op = .entryStore t x y z) (hH : HR ι H w) (h : LR ι d n L a.tmps) :
  VOk P o a.eval ι H w (qt3 H ((opnd d n x).f L) ((opnd d n y).f L) ((opnd d n z).f L)) := by
 have hx := qah h x
 have hy := qah h y
 have hz := qah h z
 unfold qt3
 split
 ·rename_i b kk m e1 e2
  rw [e1] at hx; rw [e2] at hy; simp only [Rep] at hx hy
  obtain ⟨loc, h1, h2⟩ := hx
  have hb := hH.blk b (hH.lt h1)
  split
  ·rename_i es clock hg
   rw [hg] at hb
   obtain ⟨l', ES, g1, g2, g3⟩ := hb
   rw [h1] at g1; cases g1
   split
   ·rename_i hit hf
    obtain ⟨E, j, a1, a2, a3, a4, a5⟩ := qub es ES 0 hit g3 hf
    rw [Nat.zero_add] at a1
    obtain ⟨m1, m2⟩ := qin hH h1 hg (es.set hit.i ⟨hit.x.key, (opnd d n z).f L, hit.x.born⟩) clock (g3.set hit.i _ ⟨E.key, a.eval z, E.born⟩ a4 hz a5)
    refine ⟨.skip, Go.undef, _, ι, ?_, .inr ⟨rfl, rfl⟩, by simp [Rep, Go.undef], m1, m2⟩
    have hmod := qqa ES j E a2 (fun e => { e with val := a.eval z })
    simp [execOp, ho, h2, hy, Instr.entryStore, getObj, setObj, Sem.run, g2, asInt, asIntOf, a3, hmod, a1]
   ·trivial
  ·trivial
 ·trivial
theorem e_del {t kt et : TypeId} {x y : Operand} {ts : Array TypeId} (ho : o.op = .call { callee := .builtin .delete, args := #[x, y], argTypes := ts }) (hts : ts[0]? = some t) (ht : P.underlying t = some (.map kt et)) {ky : Ky} (hky : keyS P kt = some ky) (hH : HR ι H w) (h : LR ι d n L a.tmps) :
  VOk P o a.eval ι H w (delV ky H ((opnd d n x).f L) ((opnd d n y).f L)) := by
 have hx := qah h x
 have hy := qah h y
 unfold delV
 split
 ·rename_i b e1
  rw [e1] at hx; simp only [Rep] at hx
  obtain ⟨loc, h1, h2⟩ := hx
  have hb := hH.blk b (hH.lt h1)
  split
  ·rename_i es clock hg
   rw [hg] at hb
   obtain ⟨l', ES, g1, g2, g3⟩ := hb
   rw [h1] at g1; cases g1
   split
   ·rename_i hit hf
    obtain ⟨c1, R, c2, c3⟩ := qm3 hky hy g3 hf
    obtain ⟨V, E, rfl, d1, d2, d3, d4, d5, d6⟩ := c3
    obtain ⟨m1, m2⟩ := qin hH h1 hg (es.eraseIdx hit.i) clock (g3.erase hit.i)
    refine ⟨.value (.tuple #[]), _, _, ι, ?_, .inl rfl, by simp [Rep], m1, m2⟩
    have hlt := (List.getElem?_eq_some_iff.1 d2).1
    have he : ES.toArray.eraseIdxIfInBounds hit.i = (ES.eraseIdx hit.i).toArray := by simp [Array.eraseIdxIfInBounds, hlt]
    simp [execOp, ho, resolve, invoke, builtin, Builtin.delete_, h2, hts, qaf ht, getObj, setObj, Sem.run, g2, c1, c2]
   ·rename_i hf
    obtain ⟨c1, R, c2, c3⟩ := qm3 hky hy g3 hf
    simp only [qwn] at c3; subst c3
    obtain ⟨m1, m2⟩ := qin hH h1 hg es clock g3
    refine ⟨.value (.tuple #[]), _, _, ι, ?_, .inl rfl, by simp [Rep], m1, m2⟩
    simp [execOp, ho, resolve, invoke, builtin, Builtin.delete_, h2, hts, qaf ht, getObj, setObj, Sem.run, g2, c1, c2]
   ·trivial
  ·trivial
 ·trivial
end Go.Ev
end
section
namespace Go.Ev
open Go.RowKit
variable {P : Program} {w : World} {ι : Im} {o : Oper} {a : Act} {d n : Nat} {L : TT AV d} {H : Hp}
theorem qnd (zv : Value) (k : Nat) : Builtin.zeroCells zv.cells k = (repV zv.cells.toList k).toArray := by
 have := range_zero zv.cells k zv.cells.size rfl
 unfold Builtin.zeroCells; exact this
theorem q4p {t k e : TypeId} {x : Operand} (ho : o.op = .call { callee := .builtin .clear, args := #[x], argTypes := #[t] }) (ht : P.underlying t = some (.map k e)) (hH : HR ι H w) (h : LR ι d n L a.tmps) :
  VOk P o a.eval ι H w (q2j H ((opnd d n x).f L)) := by
 have hx := qah h x
 unfold q2j
 split
 ·rename_i e1; rw [e1] at hx; simp only [Rep] at hx
  refine ⟨.value (.tuple #[]), _, w, ι, ?_, .inl rfl, by simp [Rep], hH, Fr.refl _ _ _⟩
  simp [execOp, ho, resolve, invoke, builtin, Builtin.clear_, hx, qaf ht]
 ·rename_i b e1; rw [e1] at hx; simp only [Rep] at hx
  obtain ⟨loc, h1, h2⟩ := hx
  have hb := hH.blk b (hH.lt h1)
  split
  ·rename_i es clock hg
   rw [hg] at hb
   obtain ⟨l', ES, g1, g2, g3⟩ := hb
   rw [h1] at g1; cases g1
   obtain ⟨m1, m2⟩ := qin hH h1 hg [] clock (ES' := []) (by simp [RepE])
   refine ⟨.value (.tuple #[]), _, _, ι, ?_, .inl rfl, by simp [Rep], m1, m2⟩
   simp [execOp, ho, resolve, invoke, builtin, Builtin.clear_, h2, qaf ht, getObj, setObj, Sem.run, g2]
  ·trivial
 ·trivial
theorem q2b {t e : TypeId} {x : Operand} (ho : o.op = .call { callee := .builtin .clear, args := #[x], argTypes := #[t] }) (ht : P.underlying t = some (.slice e)) {ap : Ap} (hap : apS P e = some ap) (hH : HR ι H w) (h : LR ι d n L a.tmps) :
  VOk P o a.eval ι H w (qwj ap.zl H ((opnd d n x).f L)) := by
 have hx := qah h x
 obtain ⟨a1, a2, a3, a4, _⟩ := qsf hap
 obtain ⟨zv, z1, z2, z3⟩ := qhm (ι := ι) a3
 unfold qwj
 split
 ·rename_i e1; rw [e1] at hx; simp only [Rep] at hx
  refine ⟨.value (.tuple #[]), _, w, ι, ?_, .inl rfl, by simp [Rep], hH, Fr.refl _ _ _⟩
  simp [execOp, ho, resolve, invoke, builtin, Builtin.clear_, hx, qaf ht]
 ·rename_i b i m cap ex e1; rw [e1] at hx; simp only [Rep] at hx
  obtain ⟨_, loc, h1, h2⟩ := hx
  cases hm : Nat.beq m 0 with
  | true =>
   have hm := qmn hm; subst hm
   refine ⟨.value (.tuple #[]), _, w, ι, ?_, .inl rfl, by simp [Rep], hH, Fr.refl _ _ _⟩
   simp [execOp, ho, resolve, invoke, builtin, Builtin.clear_, h2, qaf ht]
  | false =>
   have hm := qt5 hm
   simp only [cond_false]
   cases hst : storeAt H b i (reps ap.zl m) .undef with
   | bad => trivial
   | ok v H' =>
    obtain ⟨rfl, w', r1, r2, r3⟩ := qj1 P hH h1 (qpg z2 m) (fun v hv => z3 v (qof hv)) hst
    refine ⟨.value (.tuple #[]), _, w', ι, ?_, .inl rfl, by simp [Rep], r2, r3⟩
    obtain ⟨m', rfl⟩ : ∃ m', m = m' + 1 := ⟨m - 1, by omega⟩
    simp [execOp, ho, resolve, invoke, builtin, Builtin.clear_, h2, qaf ht, qh9 z1, qnd, r1]
 ·trivial
theorem qov {t u e ty : TypeId} (ht : P.underlying t = some (.slice e)) {kk : IntKind} (hu : P.underlying u = some (.int kk)) {z b : Nat} (hz : qcl P e = some z) (hb : qpr P e = some b) {zv : Value} (hzv : (P.info? e).bind (·.zero) = some zv) {zl : List AV} (hzr : RepL ι zl zv.cells.toList) (hzl : zl.length = z) (base : Option Addr) (len C : Nat) {k2 : IntKind} {m : Nat}
  (hm : m ≤ 1099511627776) (hmb : m * b ≤ 1099511627776) (hle : len + m ≤ C) {w' : World}
  (hst : ∀ ad, base = some ad → (storeCells (ad.add (len * z)) (repV zv.cells.toList m)).run P w = .ok () w') (hno : base = none → w' = w) :
  (Builtin.append_ #[t, u] ty #[.slice base len C, .int k2 (m : Int)]).run P w = .ok (.slice base (len + m) C) w' := by
 obtain ⟨ti, ti1, ti2⟩ := qtn (P := P) hb
 have w1 : IntKind.i64.wrap (m : Int) = m := IntWalk.i64_in _ (by omega)
 have hlt : ¬ ((m : Int) < 0) := by omega
 have hbig : ¬ (281474976710656 < (m : Int) * (ti.bytes : Int)) := by
  rw [ti2]
  have : ((m * b : Nat) : Int) ≤ 281474976710656 := by omega
  have e : ((m * b : Nat) : Int) = (m : Int) * (b : Int) := by simp
  omega
 have hsz : zv.cells.size = z := by have := hzr.length; simp at this; omega
 have hnil : m * z = 0 → repV zv.cells.toList m = [] := fun h0 => List.length_eq_zero_iff.1 (by rw [qf4]; simp [hsz, h0])
 by_cases h0 : m * z = 0
 ·have hr := hnil h0
  cases base with
  | none => rw [hno rfl]; simp [Builtin.append_, qaf ht, qaf hu, qeg hz, asInt, asIntOf, w1, hlt, ti1, hbig, h0, hle]
  | some ad => have hst := hst ad rfl; rw [hr] at hst; simp [Builtin.append_, qaf ht, qaf hu, qeg hz, asInt, asIntOf, w1, hlt, ti1, hbig, h0, hle, hst]
 ·cases base with
  | none => rw [hno rfl]; simp [Builtin.append_, qaf ht, qaf hu, qeg hz, asInt, asIntOf, w1, hlt, ti1, hbig, hle, qh9 hzv]
  | some ad => have hst := hst ad rfl; simp [Builtin.append_, qaf ht, qaf hu, qeg hz, asInt, asIntOf, w1, hlt, ti1, hbig, h0, hle, qh9 hzv, qnd, hst]
set_option maxHeartbeats 1000000 in
theorem qqh {t u e ty : TypeId} (ht : P.underlying t = some (.slice e)) {kk : IntKind} (hu : P.underlying u = some (.int kk)) {z b : Nat} (hz : qcl P e = some z) (hb : qpr P e = some b) {zv : Value} (hzv : (P.info? e).bind (·.zero) = some zv) {zl : List AV} (hzr : RepL ι zl zv.cells.toList) (hzl : zl.length = z) (base : Option Addr) (len C : Nat) {k2 : IntKind} {m : Nat} {ovs : List Value}
  (hm : m ≤ 1099511627776) (hmb : m * b ≤ 1099511627776) (hof : (Builtin.firstCells z len (.slice base len C)).run P w.drew = .ok ovs.toArray w.drew) (hgt : ¬ len + m ≤ C) (hbig : (len + m) * b ≤ 1099511627776) (hbig2 : len + m ≤ 1099511627776) :
  ∃ newCap, len + m ≤ newCap ∧ (Builtin.append_ #[t, u] ty #[.slice base len C, .int k2 (m : Int)]).run P w = .ok (.slice (some ⟨w.heap.size, 0, none⟩) (len + m) newCap) (w.drew.alloc (.cells (ovs.toArray ++ (repV zv.cells.toList m).toArray ++ Builtin.zeroCells zv.cells (newCap - (len + m))) e)) := by
 obtain ⟨ti, ti1, ti2⟩ := qtn (P := P) hb
 have w1 : IntKind.i64.wrap (m : Int) = m := IntWalk.i64_in _ (by omega)
 have hlt : ¬ ((m : Int) < 0) := by omega
 have hb2 : ¬ (281474976710656 < (m : Int) * (ti.bytes : Int)) := by
  rw [ti2]
  have : ((m * b : Nat) : Int) ≤ 281474976710656 := by omega
  have e : ((m * b : Nat) : Int) = (m : Int) * (b : Int) := by simp
  omega
 have hsz : zv.cells.size = z := by have := hzr.length; simp at this; omega
 have hnil : m * z = 0 → repV zv.cells.toList m = [] := fun h0 => List.length_eq_zero_iff.1 (by rw [qf4]; simp [hsz, h0])
 have hnc := qsx (need := len + m) (old := C) (by omega)
 have h2 : ¬ (2 ^ 48 < Builtin.nextslicecap (len + m) C * ti.bytes) := by
  have hm : Builtin.nextslicecap (len + m) C * ti.bytes ≤ 3 * (len + m) * ti.bytes := Nat.mul_le_mul_right _ hnc
  rw [ti2] at hm ⊢
  have : 3 * (len + m) * b = 3 * ((len + m) * b) := Nat.mul_assoc _ _ _
  omega
 refine ⟨(Question.appendCap (len + m) C e).cut (w.tape w.drawn (.appendCap (len + m) C e)), by simp only [Question.cut]; omega, ?_⟩
 generalize hcap : (Question.appendCap (len + m) C e).cut (w.tape w.drawn (.appendCap (len + m) C e)) = cap
 by_cases h0 : m * z = 0
 ·rw [hnil h0]
  simp [Builtin.append_, qaf ht, qaf hu, qeg hz, asInt, asIntOf, w1, hlt, ti1, hb2, hgt, h2, Question.forced, hcap, hof, h0, qh9 hzv, newRow]
  intro hbad; omega
 ·simp [Builtin.append_, qaf ht, qaf hu, qeg hz, asInt, asIntOf, w1, hlt, ti1, hb2, hgt, h2, Question.forced, hcap, hof, h0, qh9 hzv, newRow]
  rw [if_neg (by omega), qnd zv m, ← Array.append_assoc]
  simp
theorem zax {t u e : TypeId} {x y : Operand} (ho : o.op = .call { callee := .builtin .append, args := #[x, y], argTypes := #[t, u] }) (ht : P.underlying t = some (.slice e)) {kk : IntKind} (hu : P.underlying u = some (.int kk)) {ap : Ap} (hap : apS P e = some ap) (hH : HR ι H w) (h : LR ι d n L a.tmps) :
  VOk P o a.eval ι H w (qbb ap.z ap.w H ((opnd d n x).f L) (qta ap.w ap.zl ((opnd d n y).f L))) := by
 have hx := qah h x
 have hy := qah h y
 obtain ⟨a1, a2, a3, a4, _⟩ := qsf hap
 obtain ⟨zv, a5, z2, z3⟩ := qhm (ι := ι) a3
 cases hs : qta ap.w ap.zl ((opnd d n y).f L) with
 | none => trivial
 | some s =>
  unfold qta at hs
  split at hs
  ·rename_i k2 m e2
   rw [e2] at hy; simp only [Rep] at hy
   cases hmm : (Nat.ble m bigB && Nat.ble (Nat.mul m ap.w) bigB) with
   | false => rw [hmm] at hs; cases hs
   | true =>
    rw [hmm] at hs; simp only [cond_true, Option.some.injEq] at hs; subst hs
    simp only [Bool.and_eq_true] at hmm
    have m1 : m ≤ 1099511627776 := qk7 hmm.1
    have m2 : m * ap.w ≤ 1099511627776 := qk7 hmm.2
    have hy : a.eval y = .int k2 (m : Int) := hy
    have run : ∀ S V w', a.eval x = S → (Builtin.append_ #[t, u] o.type #[S, .int k2 (m : Int)]).run P w = .ok V w' → (execOp a.eval o).run P w = .ok (.value V) w' := fun S V w' h1 h2 => by
     simp [execOp, ho, resolve, invoke, builtin, h1, hy, h2]
    have x1 := qpg z2 m
    have x2 : ∀ v ∈ repV zv.cells.toList m, v.oneCell = true := fun v hv => z3 v (qof hv)
    have x3 : (repV zv.cells.toList m).length = m * ap.z := by rw [qf4, z2.length, a4]
    cases hv : qbb ap.z ap.w H ((opnd d n x).f L) (some ⟨m, reps ap.zl m⟩) with
    | bad => trivial
    | ok v H' =>
     unfold qbb at hv
     simp only at hv
     split at hv
     ·rename_i e1
      rw [e1] at hx; simp only [Rep] at hx
      cases hn : Nat.beq m 0 with
      | true =>
       have hn := qmn hn
       subst hn
       simp only [show Nat.beq 0 0 = true from rfl, cond_true, R1.ok.injEq] at hv
       obtain ⟨rfl, rfl⟩ := hv
       have r := qov (P := P) (ty := o.type) (k2 := k2) ht hu a1 a2 a5 z2 a4 none 0 0 m1 m2 (by omega) (w' := w) (fun _ h => by cases h) (fun _ => rfl)
       exact ⟨_, .slice none 0 0, w, ι, run _ _ _ hx r, .inl rfl, by simp only [Rep], hH, Fr.refl _ _ _⟩
      | false =>
       rw [hn] at hv; simp only [cond_false] at hv
       have hn := qt5 hn
       cases hbg : (Nat.ble (Nat.mul m ap.w) bigB && Nat.ble m bigB) with
       | false => rw [hbg] at hv; cases hv
       | true =>
        rw [hbg] at hv; simp only [cond_true] at hv
        obtain ⟨nc, c1, c2⟩ := qqh (P := P) (w := w) (ty := o.type) (k2 := k2) (ovs := []) ht hu a1 a2 a5 z2 a4 none 0 0 m1 m2 (by simp [Builtin.firstCells]) (by omega) (by rw [Nat.zero_add]; exact m2) (by omega)
        rw [Nat.zero_add] at c1 c2
        obtain ⟨ι', d1, d2, d3⟩ := qtz hap hH (ovs := []) (show RepL ι [] [] by simp [RepL]) (by simp) x1 x2 (by simp [x3]) hv nc c1 a5 w.drew rfl
        exact ⟨_, _, _, ι', run _ _ _ hx c2, .inl rfl, d1, d2, d3⟩
     ·rename_i b i len cap ex e1
      rw [e1] at hx; simp only [Rep] at hx
      obtain ⟨hlc, loc, h1, h2⟩ := hx
      cases hin : Nat.ble (len + m) cap with
      | true =>
       rw [hin] at hv; simp only [cond_true] at hv
       have hin := qk7 hin
       obtain ⟨rfl, w', r1, r2, r3⟩ := qj1 P hH h1 x1 x2 hv
       have r := qov (P := P) (ty := o.type) (k2 := k2) ht hu a1 a2 a5 z2 a4 (some ⟨loc.blk, loc.base + i, none⟩) len (if ex then cap else cap + loc.ext) m1 m2 (by split <;> omega) (w' := w')
        (fun ad h => by cases h; rw [addr_add, Nat.add_assoc]; exact r1) (fun h => by cases h)
       refine ⟨_, _, w', ι, run _ _ _ h2 r, .inl rfl, ?_, r2, r3⟩
       simp only [Rep]; exact ⟨hin, loc, h1, rfl⟩
      | false =>
       rw [hin] at hv; simp only [cond_false] at hv
       have hin := za9 hin
       cases hbg : (Nat.ble (Nat.mul (len + m) ap.w) bigB && Nat.ble (len + m) bigB) with
       | false => rw [hbg] at hv; cases hv
       | true =>
        rw [hbg] at hv; simp only [cond_true] at hv
        simp only [Bool.and_eq_true] at hbg
        have g1 : (len + m) * ap.w ≤ 1099511627776 := qk7 hbg.1
        have g2 : len + m ≤ 1099511627776 := qk7 hbg.2
        split at hv
        ·cases hv
        ·rename_i old hold
         have grown : ∀ C, ¬ len + m ≤ C → a.eval x = .slice (some ⟨loc.blk, loc.base + i, none⟩) len C → ∀ (H1 : Hp), HR ι H1 w → Fr ι ι H H1 w w → grow ap.z H1 old ⟨m, reps ap.zl m⟩ (len + m) = .ok v H' → VOk P o a.eval ι H w (.ok v H') := by
          intro C hC hxC H1 hH1 hF1 hg
          obtain ⟨ovs, o1, o2, o3, o4⟩ := q5m (P := P) (w := w.drew) (C := C) hH.drew h1 hold
          obtain ⟨nc, c1, c2⟩ := qqh (P := P) (w := w) (ty := o.type) (k2 := k2) ht hu a1 a2 a5 z2 a4 (some ⟨loc.blk, loc.base + i, none⟩) len C m1 m2 o4 hC g1 g2
          obtain ⟨ι', d1, d2, d3⟩ := qtz hap hH1 o1 o2 x1 x2 (by rw [o3, x3, Nat.add_mul]) hg nc c1 a5 w.drew rfl
          exact ⟨_, _, _, ι', run _ _ _ hxC c2, .inl rfl, d1, d2, hF1.trans d3⟩
         cases ex with
         | true =>
          simp only [cond_true] at hv
          exact grown cap hin (by simpa using h2) H hH (Fr.refl _ _ _) hv
         | false =>
          simp only [cond_false] at hv
          cases hend : qoq (H.get b) (i + cap * ap.z) ap.z with
          | false => rw [hend] at hv; cases hv
          | true =>
           rw [hend] at hv; simp only [cond_true] at hv
           simp only [Bool.false_eq_true, if_false] at h2
           by_cases hfit : len + m ≤ cap + loc.ext
           ·obtain ⟨w', ι', q1, q2, q3, q4⟩ := q02 (P := P) (x := ⟨m, reps ap.zl m⟩) hH h1 hend hold x1 x2 x3 hlc hin hfit hv
            have r := qov (P := P) (ty := o.type) (k2 := k2) ht hu a1 a2 a5 z2 a4 (some ⟨loc.blk, loc.base + i, none⟩) len (cap + loc.ext) m1 m2 hfit (w' := w')
             (fun ad h => by cases h; rw [addr_add]; exact q1) (fun h => by cases h)
            exact ⟨_, _, w', ι', run _ _ _ h2 r, .inl rfl, q2, q3, q4⟩
           ·have hwr : (H.get b).wr = true := by
             unfold qoq at hend
             split at hend
             ·rename_i hg; rw [hg]; rfl
             ·cases hend
            obtain ⟨k1, k2⟩ := hH.kill (hH.lt h1) hwr
            exact grown _ hfit h2 _ k1 k2 hv
     ·cases hv
  ·cases hs
end Go.Ev
end
section
namespace Go.Ev
open Go.RowKit
variable {P : Program} {w : World} {ι : Im} {o : Oper} {a : Act} {d n : Nat} {L : TT AV d} {H : Hp}
def Post (ι : Im) (H : Hp) (w : World) (v : AV) (H' : Hp) : Ending → World → Prop
 | .returned V, w' => ∃ ι', Rep ι' v V ∧ HR ι' H' w' ∧ Fr ι ι' H H' w w'
 | _, _ => False
structure qjo (P : Program) (call : Call) : Prop where
 fn : ∀ f args H v H', call (.f f) args H = .ok v H' → ∀ ι w ARGS, HR ι H w → RepL ι args ARGS →
  (callFunc f ARGS.toArray).run P w = .ok (.enter f ARGS.toArray) w ∧ ∀ m, CallsIn Fence.wide m P f ARGS.toArray w (Post ι H w v H')
 yd : ∀ b args H v H', call (.y b) args H = .ok v H' → ∀ ι w ARGS loc, HR ι H w → RepL ι args ARGS → ι b = some loc →
  ∃ f tmps assign body, (Instr.yield loc.blk ARGS.toArray).run P w = .ok (.round loc.blk f tmps assign body) w ∧
   ∀ m, RoundIn Fence.wide m P loc.blk f tmps assign body w (Post ι H w v H')
 df : ∀ f args H v H', call (.d f) args H = .ok v H' → ∀ ι w ARGS, HR ι H w → RepL ι args ARGS →
  (callFunc f ARGS.toArray).run P w = .ok (.enter f ARGS.toArray) w ∧ ∀ m, CallsDIn Fence.wide m P f ARGS.toArray .returning w (fun e u' w' => u' = .returning ∧ Post ι H w v H' e w')
structure Fence.IsWide (F : Fence) : Prop where
 eq : ∃ r, F = { Fence.wide with round := r }
theorem Fence.isWide : Fence.IsWide Fence.wide := ⟨none, rfl⟩
theorem Fence.isWide_round (l : Nat) : Fence.IsWide (Fence.wide.inRound l) := ⟨some l, rfl⟩
theorem Fence.IsWide.fn {F : Fence} (h : Fence.IsWide F) (f : FuncId) : F.fn f := by obtain ⟨r, rfl⟩ := h; trivial
theorem Fence.IsWide.depth {F : Fence} (h : Fence.IsWide F) : F.depth = none := by obtain ⟨r, rfl⟩ := h; rfl
theorem Fence.IsWide.calls {F : Fence} (h : Fence.IsWide F) {m : Nat} {f : FuncId} {args : Array Value} {R : Ending → World → Prop} (k : CallsIn Fence.wide m P f args w R) : CallsIn F m P f args w R := by
 obtain ⟨r, rfl⟩ := h; exact k
theorem Fence.IsWide.round {F : Fence} (h : Fence.IsWide F) {m l : Nat} {f : FuncId} {tmps : Array Value} {assign body : Code} {R : Ending → World → Prop} (k : RoundIn Fence.wide m P l f tmps assign body w R) : RoundIn F m P l f tmps assign body w R := by
 obtain ⟨r, rfl⟩ := h; exact k
theorem qh8 {F : Fence} {ρ : Operand → Value} (h : ∀ c, o.op ≠ .defer c) : o.semAt F.round ρ = execOp ρ o := by
 cases F.round with
 | none => exact Oper.semAt_none ..
 | some l => exact Oper.semAt_some l ρ o h
def Nx (ι : Im) (H : Hp) (w : World) (a : Act) (o : Oper) (v : AV) (H' : Hp) (next : Act → World → Prop) : Prop :=
 ∀ V w' ι', Rep ι' v V → HR ι' H' w' → Fr ι ι' H H' w w' → next (a.put o.dst V) w'
theorem qim {F : Fence} (hF : Fence.IsWide F) (hd : ∀ c, o.op ≠ .defer c) {v : AV} {H' : Hp} (h : VOk P o a.eval ι H w (.ok v H')) {m : Nat} {next : Act → World → Prop} {Q : Exit → Act → World → Prop} (hn : Nx ι H w a o v H' next) :
  o.wpIn F m P a w next Q := by
 obtain ⟨N, V, w', ι', h1, h2, h3, h4, h5⟩ := h
 refine ⟨fun f _ => hF.fn f, ?_⟩
 rw [qh8 hd, h1]
 rcases h2 with rfl | ⟨rfl, rfl⟩
 ·exact hn _ _ _ h3 h4 h5
 ·exact hn _ _ _ h3 h4 h5
theorem qus {v : AV} {H' : Hp} {next : Act → World → Prop} {Q : Exit → Act → World → Prop} (hn : Nx ι H w a o v H' next) :
  ∀ e w', Post ι H w v H' e w' → (match e, w' with
   | .returned v, w'' => next (a.put o.dst v) w''
   | .panicked chain, w'' => Q (.panic chain) a w''
   | .outgrown, _ => LetsOut Q) := by
 intro e w' h
 cases e with
 | returned V => obtain ⟨ι', h1, h2, h3⟩ := h; exact hn _ _ _ h1 h2 h3
 | panicked => exact h.elim
 | outgrown => exact h.elim
theorem qzt {F : Fence} (hF : Fence.IsWide F) {c : Go.Call} (ho : o.op = .call c) {x : Operand} (hc : c.callee = .value x) {call : Call} (hC : qjo P call) (hH : HR ι H w) {fv : AV} (hx : Rep ι fv (a.eval x)) {args : List AV} (ha : RepL ι args (c.args.toList.map a.eval))
  {v : AV} {H' : Hp} (h : qom call fv args H = .ok v H') {m : Nat} {next : Act → World → Prop} {Q : Exit → Act → World → Prop} (hn : Nx ι H w a o v H' next) : o.wpIn F m P a w next Q := by
 refine ⟨fun f _ => hF.fn f, ?_⟩
 rw [qh8 (by intro c'; rw [ho]; exact fun h => by cases h)]
 have hargs : c.args.map a.eval = (c.args.toList.map a.eval).toArray := by rw [← Array.toList_map]
 unfold qom at h
 split at h
 ·rename_i g first cap
  simp only [Rep] at hx
  obtain ⟨A, C, h1, h2, h3⟩ := hx
  obtain ⟨c1, c2⟩ := hC.fn _ _ _ _ _ h ι w (A ++ c.args.toList.map a.eval ++ C) hH ((h1.append ha).append h2)
  have : (execOp a.eval o).run P w = .ok (.enter g (A ++ c.args.toList.map a.eval ++ C).toArray) w := by
   simp only [execOp, ho, resolve, hc, h3, Deferred.ofValue, hargs]
   simpa [invoke] using c1
  rw [this]
  exact ⟨by simp [hF.depth], CallsIn.mono (hF.calls (c2 _)) (qus hn)⟩
 ·rename_i b
  simp only [Rep] at hx
  obtain ⟨loc, h1, h3⟩ := hx
  obtain ⟨f, tmps, assign, body, c1, c2⟩ := hC.yd _ _ _ _ _ h ι w _ loc hH ha h1
  have : (execOp a.eval o).run P w = .ok (.round loc.blk f tmps assign body) w := by
   simp only [execOp, ho, resolve, hc, h3, Deferred.ofValue, hargs]
   simpa [invoke] using c1
  rw [this]
  exact ⟨by simp [hF.depth], RoundIn.mono (hF.round (c2 _)) (qus hn)⟩
 ·cases h
end Go.Ev
end
section
namespace Go.Ev
open Go.RowKit
variable {P : Program} {w : World} {ι : Im} {o : Oper} {a : Act} {d n : Nat} {L : TT AV d} {H : Hp} {call : Call} {F : Fence} {m : Nat} {next : Act → World → Prop} {Q : Exit → Act → World → Prop}
theorem zbb {args : List Operand} {ts : List TypeId} (ho : o.op = .call { callee := .builtin .append, args := args.toArray, argTypes := ts.toArray }) {f : Call → TT AV d → Hp → R1} (hf : appB P d n args ts = .e f) (hH : HR ι H w) (h : LR ι d n L a.tmps) : VOk P o a.eval ι H w (f call L H) := by
 unfold appB at hf
 split at hf
 ·split at hf
  ·rename_i e1
   split at hf
   ·rename_i e2 e3; cases hf; exact zax ho e1 e3 e2 hH h
   ·rename_i e2 e3; cases hf; exact qxx ho e1 e3 (.inr ⟨_, rfl⟩) e2 hH h
   ·rename_i e2 e3; cases hf; exact qxx ho e1 e3 (.inl rfl) e2 hH h
   ·cases hf; trivial
  ·cases hf; trivial
 ·cases hf; trivial
theorem q77 {args : List Operand} {ts : List TypeId} (ho : o.op = .call { callee := .builtin .copy, args := args.toArray, argTypes := ts.toArray }) {f : Call → TT AV d → Hp → R1} (hf : qwi P d n args ts = .e f) (hH : HR ι H w) (h : LR ι d n L a.tmps) : VOk P o a.eval ι H w (f call L H) := by
 unfold qwi at hf
 split at hf
 ·split at hf
  ·rename_i e1
   split at hf
   ·rename_i e2; cases hf; exact zaw ho e1 e2 hH h
   ·cases hf; trivial
  ·cases hf; trivial
 ·cases hf; trivial
theorem za1 {args : List Operand} {ts : List TypeId} (ho : o.op = .call { callee := .builtin .delete, args := args.toArray, argTypes := ts.toArray }) {f : Call → TT AV d → Hp → R1} (hf : delB P d n args ts = .e f) (hH : HR ι H w) (h : LR ι d n L a.tmps) : VOk P o a.eval ι H w (f call L H) := by
 unfold delB at hf
 split at hf
 ·split at hf
  ·rename_i e1
   split at hf
   ·rename_i e2; cases hf; exact e_del ho (by simp) e1 e2 hH h
   ·cases hf; trivial
  ·cases hf; trivial
 ·cases hf; trivial
theorem za3 {args : List Operand} {ts : List TypeId} (ho : o.op = .call { callee := .builtin .clear, args := args.toArray, argTypes := ts.toArray }) {f : Call → TT AV d → Hp → R1} (hf : clrB P d n args ts = .e f) (hH : HR ι H w) (h : LR ι d n L a.tmps) : VOk P o a.eval ι H w (f call L H) := by
 unfold clrB at hf
 split at hf
 ·split at hf
  ·rename_i e1
   split at hf
   ·rename_i e2; cases hf; exact q2b ho e1 e2 hH h
   ·cases hf; trivial
  ·rename_i e1; cases hf; exact q4p ho e1 hH h
  ·cases hf; trivial
 ·cases hf; trivial
theorem zad {args : List Operand} {ts : List TypeId} {f : Call → TT AV d → Hp → R1} (hf : lenB P d n args ts = .e f) : f call L H = .bad := by
 unfold lenB at hf
 split at hf
 ·split at hf
  ·cases hf
  ·split at hf <;> cases hf; rfl
  ·cases hf
  ·cases hf
  ·cases hf
  ·cases hf; rfl
 ·cases hf; rfl
theorem za6 {args : List Operand} {ts : List TypeId} {f : Call → TT AV d → Hp → R1} (hf : capB P d n args ts = .e f) : f call L H = .bad := by
 unfold capB at hf
 split at hf
 ·split at hf
  ·cases hf
  ·cases hf
  ·cases hf; rfl
 ·cases hf; rfl
theorem q94 {args : List Operand} {f : Call → TT AV d → Hp → R1} (hf : minB d n args = .e f) : f call L H = .bad := by
 unfold minB at hf
 split at hf
 ·cases hf
 ·cases hf; rfl
theorem q96 {args : List Operand} {f : Call → TT AV d → Hp → R1} (hf : maxB d n args = .e f) : f call L H = .bad := by
 unfold maxB at hf
 split at hf
 ·cases hf
 ·cases hf; rfl
theorem qzh {b : Builtin} {args : Array Operand} {ts : Array TypeId} (ho : o.op = .call { callee := .builtin b, args, argTypes := ts }) {f : Call → TT AV d → Hp → R1} (hf : qld P d n b args.toList ts.toList = .e f) (hH : HR ι H w) (h : LR ι d n L a.tmps) :
  VOk P o a.eval ι H w (f call L H) := by
 unfold qld at hf
 split at hf
 ·rw [zad hf]; trivial
 ·rw [za6 hf]; trivial
 ·rw [q94 hf]; trivial
 ·rw [q96 hf]; trivial
 ·exact zbb (by simpa using ho) hf hH h
 ·exact q77 (by simpa using ho) hf hH h
 ·exact za1 (by simpa using ho) hf hH h
 ·exact za3 (by simpa using ho) hf hH h
 ·cases hf; trivial
theorem q9t {f : Call → TT AV d → Hp → R1} (hf : opS P d n o = .e f) (hC : qjo P call) (hF : Fence.IsWide F) (hH : HR ι H w) (h : LR ι d n L a.tmps) {v : AV} {H' : Hp} (he : f call L H = .ok v H') (hn : Nx ι H w a o v H' next) :
  o.wpIn F m P a w next Q := by
 have bad : qbm d = .e f → False := fun e => by cases e; cases he
 unfold opS at hf
 split at hf
 ·cases hf
 ·cases hf
 ·cases hf
 ·unfold qw7 at hf; split at hf
  ·cases hf
  ·exact (bad hf).elim
 ·unfold sBox at hf; split at hf
  ·cases hf
  ·cases hf
  ·exact (bad hf).elim
 ·unfold qw6 at hf
  split at hf
  ·split at hf
   ·split at hf
    ·cases hf
    ·exact (bad hf).elim
   ·exact (bad hf).elim
  ·split at hf
   ·split at hf
    ·cases hf
    ·exact (bad hf).elim
   ·exact (bad hf).elim
  ·exact (bad hf).elim
 ·unfold qmq at hf
  split at hf
  ·split at hf
   ·rename_i s z e2 e3
    cases hc : (Nat.ble (_ * s) 65536 && Nat.beq z.length s) with
    | false => rw [hc] at hf; exact (bad hf).elim
    | true =>
     rw [hc] at hf; simp only [cond_true] at hf
     split at hf
     ·cases hf
     ·exact (bad hf).elim
   ·exact (bad hf).elim
  ·exact (bad hf).elim
 ·unfold q0i at hf; split at hf
  ·cases hf
  ·cases hf
  ·exact (bad hf).elim
 ·rename_i ho
  refine qim hF (by intro c; rw [ho]; exact fun h => by cases h) ?_ hn
  unfold quh at hf
  split at hf
  ·rename_i e1 e2 e3 e4; cases hf
   have := q4n (P := P) ho e2 hH h
   rw [e3, e4] at this; rw [← he]; exact this
  ·rename_i e1 e2 e3 e4; cases hf
   have := q4o (P := P) ho e2 hH h
   rw [e3, e4] at this; rw [← he]; exact this
  ·exact (bad hf).elim
 ·cases hf
 ·cases hf
 ·cases hf
 ·unfold qqy at hf
  split at hf
  ·cases hf
  ·cases hf
  ·split at hf
   ·cases hf
   ·exact (bad hf).elim
  ·split at hf
   ·split at hf
    ·cases hf
    ·exact (bad hf).elim
   ·exact (bad hf).elim
  ·exact (bad hf).elim
 ·unfold qii at hf
  split at hf
  ·exact (bad hf).elim
  ·cases hf
  ·exact (bad hf).elim
 ·cases hf
 ·cases hf
 ·unfold qoe at hf
  split at hf
  ·split at hf
   ·rename_i z w' s e4 e5 e6
    cases hc : Nat.beq z.length s with
    | false => rw [hc] at hf; exact (bad hf).elim
    | true => rw [hc] at hf; cases hf
   ·exact (bad hf).elim
  ·exact (bad hf).elim
 ·unfold qw2 at hf
  split at hf
  ·split at hf
   ·cases hf
   ·exact (bad hf).elim
  ·split at hf
   ·cases hf
   ·exact (bad hf).elim
  ·split at hf
   ·cases hf
   ·exact (bad hf).elim
  ·split at hf
   ·split at hf
    ·cases hf
    ·exact (bad hf).elim
   ·exact (bad hf).elim
  ·exact (bad hf).elim
 ·unfold qmi at hf
  split at hf
  ·split at hf
   ·split at hf
    ·cases hf
    ·exact (bad hf).elim
   ·exact (bad hf).elim
  ·exact (bad hf).elim
 ·unfold quk at hf
  split at hf
  ·split at hf
   ·cases hf
   ·exact (bad hf).elim
  ·exact (bad hf).elim
 ·unfold qmh at hf
  split at hf
  ·split at hf
   ·cases hf
   ·exact (bad hf).elim
  ·split at hf
   ·cases hf
   ·exact (bad hf).elim
  ·exact (bad hf).elim
 ·unfold quj at hf
  split at hf
  ·cases hf
  ·split at hf
   ·cases hf
   ·exact (bad hf).elim
  ·exact (bad hf).elim
 ·unfold qti at hf
  split at hf
  ·split at hf
   ·cases hf
   ·exact (bad hf).elim
  ·exact (bad hf).elim
 ·rename_i ho
  refine qim hF (by intro c; rw [ho]; exact fun h => by cases h) ?_ hn
  unfold qj2 at hf
  split at hf
  ·rename_i e1 e2 e3 e4
   split at hf
   ·rename_i e5; cases hf
    have := zau (P := P) (.inl ho) e1 e5 hH h
    rw [e2, e3, e4] at this; rw [← he]; exact this
   ·exact (bad hf).elim
  ·exact (bad hf).elim
 ·rename_i ho
  refine qim hF (by intro c; rw [ho]; exact fun h => by cases h) ?_ hn
  unfold qj2 at hf
  split at hf
  ·rename_i e1 e2 e3 e4
   split at hf
   ·rename_i e5; cases hf
    have := zau (P := P) (.inr ho) e1 e5 hH h
    rw [e2, e3, e4] at this; rw [← he]; exact this
   ·exact (bad hf).elim
  ·exact (bad hf).elim
 ·rename_i ho
  refine qim hF (by intro c; rw [ho]; exact fun h => by cases h) ?_ hn
  unfold qpf at hf
  split at hf
  ·rename_i e1 e2 e3
   split at hf
   ·rename_i e5 e6; cases hf
    have := q7y (P := P) ho e1 e5 e6 hH h
    rw [e2, e3] at this; rw [← he]; exact this
   ·exact (bad hf).elim
  ·exact (bad hf).elim
 ·rename_i ho
  refine qim hF (by intro c; rw [ho]; exact fun h => by cases h) ?_ hn
  cases hf
  rw [← he]; exact q2a ho hH h
 ·cases hf
 ·rename_i ho
  refine qim hF (by intro c; rw [ho]; exact fun h => by cases h) ?_ hn
  unfold qw3 at hf
  split at hf
  ·rename_i e1 e2; cases hf
   have := q7x (P := P) ho e1 hH h
   rw [e2] at this; rw [← he]; exact this
  ·exact (bad hf).elim
 ·rename_i ho
  refine qim hF (by intro c; rw [ho]; exact fun h => by cases h) ?_ hn
  unfold q3h at hf
  split at hf
  ·rename_i e2; cases hf
   have := zav (P := P) ho hH h
   rw [e2] at this; rw [← he]; exact this
  ·exact (bad hf).elim
 ·cases hf
 ·rename_i ho
  refine qim hF (by intro c; rw [ho]; exact fun h => by cases h) ?_ hn
  rw [← he]; exact qzh ho hf hH h
 ·rename_i g args ts ho
  unfold qw5 at hf
  split at hf
  ·cases hf
  ·rename_i gg e1 e2
   cases hf
   have ha := qhx h args.toList
   rw [e1] at ha
   refine qzt hF ho rfl hC hH (fv := .fn g [] []) ?_ ha ?_ hn
   ·simp only [Rep, RepL]; exact ⟨[], [], rfl, rfl, rfl⟩
   ·simpa [qom] using he
 ·rename_i x args ts _ ho
  cases hf
  exact qzt hF ho rfl hC hH (qah h x) (qhx h _) he hn
 ·exact (bad hf).elim
end Go.Ev
end
section
namespace Go.Ev
open Go.RowKit
variable {P : Program} {w : World} {ι : Im} {o : Oper} {a : Act} {d n : Nat} {L : TT AV d} {H : Hp} {call : Call} {F : Fence} {m : Nat} {K : Act → World → Prop} {Q : Exit → Act → World → Prop} {ops : Array Oper}
theorem qoy (h : LR ι d n L a.tmps) (t : Option Tmp) {v : AV} {V : Value} (hv : Rep ι v V) : LR ι d n ((putS d n t).f L v) (a.put t V).tmps := by
 cases t with
 | none => exact h
 | some t =>
  unfold putS
  simp only [Act.put]
  cases hb : Nat.blt t n with
  | true => simp only [cond_true]; exact h.set (qmf hb) hv
  | false =>
   simp only [cond_false]
   rw [Array.setIfInBounds_eq_of_size_le (by rw [h.size]; exact Nat.le_of_not_lt (qzj hb))]
   exact h
theorem put_defers (a : Act) (t : Option Tmp) (V : Value) : (a.put t V).defers = a.defers := by cases t <;> rfl
theorem qo3 (h : LR ι d n L a.tmps) {b : Bool} (hw : (qlf d n ops o).f L = some b) : Region.wanted o (yielded ops a.tmps) = b := by
 unfold qlf at hw
 unfold Region.wanted
 split at hw
 ·rename_i hg; rw [hg]; simpa using hw
 ·rename_i j want hg
  rw [hg]
  simp only
  split at hw
  ·rename_i t ht
   cases hb : Nat.blt t n with
   | false => rw [hb] at hw; cases hw
   | true =>
    rw [hb] at hw; simp only [cond_true] at hw
    have hlt := qmf hb
    have hr := h.get t hlt
    have hy : yielded ops a.tmps j = (match a.tmps[t]? with | some (.bool b) => some b | _ => none) := by
     unfold yielded; rw [ht]; rfl
    have hsz : t < a.tmps.size := by rw [h.size]; exact hlt
    rw [hy]
    rw [Array.getD_eq_getD_getElem?, Array.getElem?_eq_getElem hsz] at hr
    rw [Array.getElem?_eq_getElem hsz]
    simp only [Option.getD_some] at hr
    split at hw
    ·rename_i b' hb'
     rw [hb'] at hr
     simp only [Rep] at hr
     rw [hr]
     simp only [Option.some.injEq] at hw
     rw [← hw]; cases b' <;> cases want <;> rfl
    ·rename_i hb'
     rw [hb'] at hr
     simp only [Rep] at hr
     rw [hr]
     simp only [Option.some.injEq] at hw
     rw [← hw]; cases want <;> rfl
    ·cases hw
  ·cases hw
def Then (ι : Im) (H : Hp) (w : World) (a : Act) (d n : Nat) (L' : TT AV d) (H' : Hp) (K : Act → World → Prop) : Prop :=
 ∀ a' w' ι', LR ι' d n L' a'.tmps → a'.defers = a.defers → HR ι' H' w' → Fr ι ι' H H' w w' → K a' w'
theorem q_wp {lk : Bool} {f : Nat → TT AV d → Hp → R0} (hf : opS P d n o = .q lk f) (hF : Fence.IsWide F) (hH : HR ι H w) (h : LR ι d n L a.tmps) {put : TT AV d → AV → TT AV d} (hp : putS d n o.dst = ⟨put⟩) {L' : TT AV d} {H' : Hp}
  (he : doQ put L H (f H.nx L H) = .ok L' H') (hK : Then ι H w a d n L' H' K) : o.wpIn F m P a w K Q := by
 have hq := q61 (nm := H.nx) hf hH h
 have hnd : ∀ c, o.op ≠ .defer c := fun c hc => by unfold opS at hf; rw [hc] at hf; cases hf
 have hput : ∀ {ι' : Im} (_ : ι.le ι') {v : AV} {V : Value}, Rep ι' v V → LR ι' d n (put L v) (a.put o.dst V).tmps := fun hle v V hv => by
  have := qoy (a := a) (h.mono hle) o.dst hv
  rw [hp] at this; exact this
 refine ⟨fun f _ => hF.fn f, ?_⟩
 rw [qh8 hnd]
 unfold doQ at he
 split at he
 ·cases he
 ·rename_i v hr
  rw [hr] at hq
  obtain ⟨V, h1, h2⟩ := hq
  rw [h1]
  cases he
  exact hK _ _ ι (hput (Im.le_refl _) h2) (put_defers ..) hH (Fr.refl ..)
 ·rename_i v b hr
  rw [hr] at hq
  ·
   cases he
   obtain ⟨V, w', l, h1, h2, h3⟩ := hq
   rw [h1]
   have hnx : InH (H.nx) := inH
   obtain ⟨h4, h5⟩ := h3 (ι.set H.nx l) (Im.le_set l (hH.fresh _ (Nat.le_refl _))) (Im.set_same ..)
   obtain ⟨k1, k2⟩ := hH.push hnx l b h2.os h2.tape h2.output (by rw [h2.size]; exact Nat.lt_succ_self _) h2.keep h2.blk h5
   exact hK _ _ _ (hput (Im.le_set l (hH.fresh _ (Nat.le_refl _))) h4) (put_defers ..) k1 k2
theorem q28 (hC : qjo P call) (hF : Fence.IsWide F) (hH : HR ι H w) (h : LR ι d n L a.tmps) {L' : TT AV d} {H' : Hp} (he : (qok P d n ops o).f call L H = .ok L' H') (hK : Then ι H w a d n L' H' K) :
  if Region.wanted o (yielded ops a.tmps) then o.wpIn F m P a w K Q else (∀ f, o.about P w a.eval = some f → F.fn f) ∧ K (a.put o.dst Go.undef) w := by
 have hput : ∀ {put : TT AV d → AV → TT AV d} (_ : putS d n o.dst = ⟨put⟩) {ι' : Im} (_ : ι.le ι') {v : AV} {V : Value}, Rep ι' v V → LR ι' d n (put L v) (a.put o.dst V).tmps := fun hp ι' hle v V hv => by
  have := qoy (a := a) (h.mono hle) o.dst hv
  rw [hp] at this; exact this
 have hskip : ∀ {put : TT AV d → AV → TT AV d} (_ : putS d n o.dst = ⟨put⟩), L' = put L .undef → H' = H → K (a.put o.dst Go.undef) w := fun hp h1 h2 => by
  subst h1; subst h2
  exact hK _ _ ι (hput hp (Im.le_refl _) (by simp only [Rep]; rfl)) (put_defers ..) hH (Fr.refl ..)
 have heff : ∀ {put : TT AV d → AV → TT AV d} (_ : putS d n o.dst = ⟨put⟩) {f : Call → TT AV d → Hp → R1} (_ : opS P d n o = .e f), doE put L (f call L H) = .ok L' H' → o.wpIn F m P a w K Q := fun hp f hf hd => by
  unfold doE at hd
  split at hd
  ·cases hd
  ·rename_i v H1 hr
   cases hd
   exact q9t hf hC hF hH h hr fun V w' ι' r1 r2 r3 => hK _ _ ι' (hput hp r3.le r1) (put_defers ..) r2 r3
 unfold qok at he
 split at he
 ·rename_i f put hf hg hp
  simp only [Region.wanted, hg, if_true]
  exact q_wp hf hF hH h hp he hK
 ·rename_i f put hf hg hp
  simp only [Region.wanted, hg, if_true]
  exact heff hp hf he
 ·rename_i f _ wf put hf hg hw hp
  simp only [ifW] at he
  split at he
  ·rename_i hwt
   rw [qo3 (o := o) (ops := ops) h (by rw [hw]; exact hwt), if_pos rfl]
   exact q_wp hf hF hH h hp he hK
  ·rename_i hwt
   rw [qo3 (o := o) (ops := ops) h (by rw [hw]; exact hwt)]
   cases he
   exact ⟨fun f _ => hF.fn f, hskip hp rfl rfl⟩
  ·cases he
 ·rename_i f _ wf put hf hg hw hp
  simp only [ifW] at he
  split at he
  ·rename_i hwt
   rw [qo3 (o := o) (ops := ops) h (by rw [hw]; exact hwt), if_pos rfl]
   exact heff hp hf he
  ·rename_i hwt
   rw [qo3 (o := o) (ops := ops) h (by rw [hw]; exact hwt)]
   cases he
   exact ⟨fun f _ => hF.fn f, hskip hp rfl rfl⟩
  ·cases he
end Go.Ev
end
