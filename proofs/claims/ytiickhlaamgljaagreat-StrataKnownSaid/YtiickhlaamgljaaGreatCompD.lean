/-
 For countersignlaw18.StrataKnown: components in order. No conditions beyond those that each theorem states.
-/
import Derived.Test.YtiickhlaamgljaaGreatCompC
import Derived.Test.YtiickhlaamgljaaGreatCompA
set_option linter.unusedSimpArgs false
set_option linter.unusedVariables false
open Nat (reduceAdd reduceMul reduceSub reduceLeDiff reduceEqDiff reduceShiftRight reduceAnd)
noncomputable section
/-
 Contracts: comps.Of.
-/
namespace Go.Di
open Go.Ev Go.Di.T Go.Sort
variable {C : Nat → Ev.Call} {LA LO : LP}
theorem IsE.eqG {H : Hp} {v : AV} {es : List Edge} (h : IsE H v es) (n : Int) : Ev.eqF 64 (.agg [.int .i64 n, v]) (.agg [.int .i64 n, v]) = true :=
 q14 [.int .i64 n, v] (by unfold Tr; rw [List.all_cons, List.all_cons, h.flat]; rfl)
theorem q6f (hC : qbe C) {k : Nat} (hk : 1 ≤ k) {n : Nat} {H : Hp} {v : AV} {l : List AV} (h : Gl 1 H v n l) :
  ∃ w, C k (.f qhu) [v] H = .ok w H ∧ Gl 1 H w n l ∧ capV w = .val (.int .i64 (.ofNat n)) ∧ (∀ b, In w b → In v b) := by
 obtain ⟨j, rfl⟩ : ∃ j, k = j + 1 := ⟨k - 1, by omega⟩
 obtain ⟨w, e, h1, h2, h3⟩ := h.clip
 refine ⟨w, ?_, h1, h2, h3⟩
 rw [(hC j).sClpS]
 unfold sClpS qs4
 simp (disch := first | omega | exact ti rfl | (simp only [np, nq]; first | done | omega)) only [go_sem, reduceAdd, reduceMul, reduceSub, reduceLeDiff, reduceEqDiff, reduceShiftRight, reduceAnd, h.lenV, e]
theorem qjs {es : List Edge} {ins : List Nat} {m : Nat} : ∀ (k : Nat) (dn : List Bool) (i : Nat), i ∈ rnds es ins m k dn → i < m ∧ dn.getD i true = false
 | 0, _, _, h => by cases h
 | k + 1, dn, i, h => by
  rw [rnds] at h
  cases hp : qhm dn (waits es ins dn (List.replicate m false)) m with
  | none => rw [hp] at h; exact qjs k dn i h
  | some p =>
   rw [hp] at h
   obtain ⟨p1, p2, _⟩ := qee hp
   rcases List.mem_cons.1 h with rfl | h
   ·refine ⟨p1, ?_⟩
    unfold okP at p2
    simp only [Bool.and_eq_true, Bool.not_eq_true'] at p2
    exact p2.1
   ·obtain ⟨h1, h2⟩ := qjs k _ i h
    refine ⟨h1, ?_⟩
    rw [List.getD_eq_getElem?_getD, List.getElem?_set] at h2
    by_cases e : p = i
    ·subst e
     by_cases hl : p < dn.length
     ·simp [hl] at h2
     ·simp [hl] at h2
    ·rw [if_neg e] at h2
     rw [List.getD_eq_getElem?_getD]; exact h2
theorem qid {es : List Edge} {ins : List Nat} {m : Nat} : ∀ (k : Nat) (dn : List Bool), dn.length = m → (rnds es ins m k dn).Nodup
 | 0, _, _ => List.nodup_nil
 | k + 1, dn, hd => by
  rw [rnds]
  cases hp : qhm dn (waits es ins dn (List.replicate m false)) m with
  | none => exact qid k dn hd
  | some p =>
   obtain ⟨p1, p2, _⟩ := qee hp
   refine List.nodup_cons.2 ⟨fun h => ?_, qid k _ (by rw [List.length_set]; exact hd)⟩
   have := (qjs k _ p h).2
   rw [List.getD_eq_getElem?_getD, List.getElem?_set, if_pos rfl, if_pos (by omega)] at this
   cases this
structure CR (HB H : Hp) (n : Nat) (lv iv : AV) (os : List AV) (res : List (List Nat)) (ins : List Nat) : Prop where
 gl : Gl 1 H lv os.length os
 cap : capV lv = .val (.int .i64 (.ofNat os.length))
 len : os.length = res.length
 at' : ∀ (j : Nat) (w : AV) (o : List Nat), os[j]? = some w → res[j]? = some o → Gl 1 H w o.length (nats o) ∧ capV w = .val (.int .i64 (.ofNat o.length)) ∧ ∀ b, In w b → HB.nx ≤ b
 gi : Gl 1 H iv n (nats ins)
 capi : capV iv = .val (.int .i64 (.ofNat n))
 ins : ∀ (j : Nat) (o : List Nat) (x : Nat), res[j]? = some o → x ∈ o → ins[x]? = some j
 new : ∀ b, In lv b ∨ In iv b → HB.nx ≤ b
structure qja (n : Nat) (es : List Edge) (out : List (List Nat)) (ins : List Nat) (res : List (List Nat)) : Prop where
 parts : qc7 n (qa6 es) out
 asc : out.Pairwise fun a b => a.headD 0 < b.headD 0
 il : ins.length = n
 ix : ∀ (i : Nat) (o : List Nat) (x : Nat), out[i]? = some o → x ∈ o → ins[x]? = some i
 res : res = (rnds es ins out.length out.length (List.replicate out.length false)).map fun i => out.getD i []
theorem qc7.perm {n : Nat} {adj : Nat → List Nat} {out out' : List (List Nat)} (h : qc7 n adj out) (p : out'.Perm out) : qc7 n adj out' :=
 ⟨fun c hc => h.scc c (p.mem_iff.1 hc), p.flatten.nodup_iff.2 h.nd, fun x => p.flatten.mem_iff.trans (h.all x)⟩
theorem qvp : ∀ (out : List (List Nat)) (i j : Nat) (a b : List Nat) (x : Nat), out.flatten.Nodup → out[i]? = some a → out[j]? = some b → x ∈ a → x ∈ b → i = j
 | [], _, _, _, _, _, _, h, _, _, _ => by simp at h
 | o :: r, 0, 0, _, _, _, _, _, _, _, _ => rfl
 | o :: r, 0, j + 1, a, b, x, hn, h1, h2, h3, h4 => by
  rw [List.flatten_cons, List.nodup_append] at hn
  simp at h1; subst h1
  exact absurd rfl (hn.2.2 x h3 x (List.mem_flatten.2 ⟨b, List.mem_of_getElem? (by simpa using h2), h4⟩))
 | o :: r, i + 1, 0, a, b, x, hn, h1, h2, h3, h4 => by
  rw [List.flatten_cons, List.nodup_append] at hn
  simp at h2; subst h2
  exact absurd rfl (hn.2.2 x h4 x (List.mem_flatten.2 ⟨a, List.mem_of_getElem? (by simpa using h1), h3⟩))
 | o :: r, i + 1, j + 1, a, b, x, hn, h1, h2, h3, h4 => by
  rw [List.flatten_cons, List.nodup_append] at hn
  rw [qvp r i j a b x hn.2.1 (by simpa using h1) (by simpa using h2) h3 h4]
theorem qc7.sizes {n : Nat} {adj : Nat → List Nat} {out : List (List Nat)} (h : qc7 n adj out) (hn : n ≤ 256) : out.length ≤ 256 ∧ ∀ o ∈ out, o ≠ [] ∧ o.length ≤ 256 ∧ ∀ x ∈ o, x < n := by
 have hfl : out.flatten.length ≤ n := by
  have := h.nd.length_le_of_subset (l₂ := List.range n) fun x hx => List.mem_range.2 ((h.all x).1 hx)
  rwa [List.length_range] at this
 have hne : ∀ o ∈ out, o ≠ [] := fun o ho e => by obtain ⟨_, r, hr, _⟩ := h.scc o ho; rw [e] at hr; cases hr
 have hle : ∀ (o : List (List Nat)), (∀ c ∈ o, c ≠ []) → o.length ≤ o.flatten.length := fun o => by
  induction o with
  | nil => intro _; exact Nat.le_refl _
  | cons c o ih =>
   intro h
   have h1 := ih fun c hc => h c (List.mem_cons_of_mem _ hc)
   have h2 : 0 < c.length := List.length_pos_iff.2 (h c List.mem_cons_self)
   rw [List.flatten_cons, List.length_append, List.length_cons]; omega
 have := hle out hne
 refine ⟨by omega, fun o ho => ⟨hne o ho, ?_, fun x hx => (h.all x).1 (List.mem_flatten.2 ⟨o, ho, hx⟩)⟩⟩
 have : o.length ≤ out.flatten.length := (List.sublist_flatten_of_mem ho).length_le
 omega
end Go.Di
end
noncomputable section
/-
 Contracts: comps.Of, whole.
-/
namespace Go.Di
open Go.Ev Go.Di.T Go.Sort
variable {C : Nat → Ev.Call} {LA LO : LP}
theorem q6b (hC : qbe C) (hR : qcc LA LO C) {j : Nat} (hj : 10 ≤ j) {HB : Hp} {n : Nat} {es : List Edge} (hE : ∀ e ∈ es, e.f < n ∧ e.t < n) (hn : n ≤ 256) (hlen : es.length < 200000) {gv v : AV} (hg : IsE HB gv es) {H0 H : Hp} {cs : List AV} {out : List (List Nat)} {ins : List Nat} {lb gb ib wb ob x2 nb : Nat} {iv : AV} {L : TT AV 2}
  (hg5 : G L 5 = .ptr ob 0) (hg2 : G L 2 = .ptr x2 0) (hS : RdyS H0 H n gv v cs out ins lb gb ib wb) (hout : qja n es out ins ((rnds es ins out.length out.length (List.replicate out.length false)).map fun i => out.getD i []))
  (hnew : H0.nx ≤ lb ∧ H0.nx ≤ gb ∧ H0.nx ≤ ib ∧ H0.nx ≤ wb) (hcb : ∀ (i : Nat) (c : AV) (b : Nat), cs[i]? = some c → In c b → b ≠ lb ∧ b ≠ gb ∧ b ≠ ib ∧ b ≠ wb) (hf : Fm No HB H) (hob : HB.nx ≤ ob ∧ ob < H0.nx) (hx2 : HB.nx ≤ x2 ∧ x2 < H0.nx ∧ x2 ≠ ob) (hgo : H.get ob = qaa 0 [.nilsl, iv]) (hgx : H.get x2 = qaa 0 [.nilsl, .nilsl])
  (hiv : (n = 0 ∧ iv = .nilsl ∧ nb = ob) ∨ (0 < n ∧ iv = .sl nb 0 n n true ∧ H.get nb = qaa 0 (nats (List.replicate n 0)) ∧ HB.nx ≤ nb ∧ nb < H0.nx ∧ nb ≠ ob ∧ nb ≠ x2)) (h0 : H0.nx ≤ H.nx) :
  Ok (q51 LO (C j) L (.fn qft [] [.ptr lb 0, .ptr gb 0, .ptr ib 0]) H) fun r H' => ∃ lv iv os ins2, r = .tup [.agg [lv, iv], .int .i64 (.ofNat 0)] ∧
   CR HB H' n lv iv os ((rnds es ins out.length out.length (List.replicate out.length false)).map fun i => out.getD i []) ins2 ∧ Fm No HB H' := by
 unfold q51
 have hls := hS.ls
 have hlen2 := hls.len
 obtain ⟨l1, l2, l3, l4⟩ := hS.lt
 obtain ⟨z1, z2⟩ := hout.parts.sizes hn
 have hnd := hout.parts.nd
 generalize hord : rnds es ins out.length out.length (List.replicate out.length false) = ord
 have hom : ∀ i ∈ ord, i < out.length := fun i hi => (qjs _ _ i (by rw [hord]; exact hi)).1
 have hon : ord.Nodup := by rw [← hord]; exact qid _ _ (by simp)
 have hol : ord.length ≤ out.length := by
  have := hon.length_le_of_subset (l₂ := List.range out.length) fun x hx => List.mem_range.2 (hom x hx)
  rwa [List.length_range] at this
 have hgl := hS.ls.gl
 have hgH : IsE H gv es := hg.fm hf
 have hgold : ∀ b, In gv b → b < HB.nx := fun b hb => hg.lt hb
 have hvold : ∀ b, In v b → H0.nx ≤ b ∧ b < H.nx := fun b hb => ⟨hls.new b hb, hgl.lt hb⟩
 have fH : Fm No H (qan H (LO.blk true L)) := (Fm.refl _ _).push _
 have hRS : RS (RB gv v lb gb ib wb) (qan H (LO.blk true L)) n gv es v cs ins lb gb ib wb := by
  refine ⟨(fH.keep l1).trans hS.l, (fH.keep l2).trans hS.g, (fH.keep l3).trans hS.i, (fH.keep l4).trans hS.w, hgl.no fH, hgH.fm fH, ⟨by rw [np]; omega, by rw [np]; omega, by rw [np]; omega, by rw [np]; omega⟩, Or.inl rfl, Or.inr (Or.inl rfl), Or.inr (Or.inr (Or.inl rfl)), Or.inr (Or.inr (Or.inr (Or.inl rfl))), fun b h => Or.inr (Or.inr (Or.inr (Or.inr (Or.inl h)))), fun b h => Or.inr (Or.inr (Or.inr (Or.inr (Or.inr h))))⟩
 have hRBlt : ∀ b, RB gv v lb gb ib wb b → b < H.nx ∧ (b < HB.nx ∨ H0.nx ≤ b) := fun b hb => by
  have := hf.nx
  rcases hb with rfl | rfl | rfl | rfl | h | h
  ·exact ⟨l1, Or.inr hnew.1⟩
  ·exact ⟨l2, Or.inr hnew.2.1⟩
  ·exact ⟨l3, Or.inr hnew.2.2.1⟩
  ·exact ⟨l4, Or.inr hnew.2.2.2⟩
  ·exact ⟨(hvold b h).2, Or.inr (hvold b h).1⟩
  ·have := hgold b h
   exact ⟨by omega, Or.inl this⟩
 have hmid : ∀ b, HB.nx ≤ b → b < H0.nx → ¬ RB gv v lb gb ib wb b := fun b h1 h2 h => by have := (hRBlt b h).2; omega
 have hI0 : OI LO HB L H.nx ob nb x2 n iv cs out ord 0 (RB gv v lb gb ib wb) (qan H (LO.blk true L)) := by
  refine ⟨hf.trans fH, fun b hb => by have := (hRBlt b hb).1; rw [np]; omega, qak _ _, ⟨hf.nx, Nat.lt_succ_self _, fun h => by have := (hRBlt _ h).1; omega⟩, ⟨hob.1, by omega, hmid ob hob.1 hob.2⟩, ⟨(fH.keep (by omega)).trans hgx, by omega, hmid x2 hx2.1 hx2.2.1, hx2.2.2, ?_⟩, ⟨List.replicate n 0, by simp, ?_, fun j i o x hj => absurd hj (Nat.not_lt_zero _)⟩, ⟨.nilsl, [], (fH.keep (by omega)).trans hgo, Gl.nil _ _, fun b hb => (by obtain ⟨_, _, _, _, h⟩ := hb; cases h), fun j w h => (by simp at h)⟩, fun i c o h1 h2 => ?_⟩
  ·rcases hiv with ⟨_, _, e⟩ | ⟨_, _, _, _, _, _, a6⟩
   ·rw [e]; exact hx2.2.2
   ·exact Ne.symm a6
  ·rcases hiv with ⟨a1, a2, _⟩ | ⟨_, a1, a2, a3, a4, a5, a6⟩
   ·exact Or.inl ⟨a1, a2⟩
   ·exact Or.inr ⟨a1, (fH.keep (by omega)).trans a2, a3, by omega, hmid nb a3 a4, a5⟩
  ·obtain ⟨c1, c2, c3⟩ := hls.at' i c o h1 h2
   refine ⟨c2.no fH, fun b hb => ?_⟩
   obtain ⟨d1, d2⟩ := c3 b hb
   have d3 := c2.lt hb
   have hh := hf.nx
   refine ⟨by omega, ?_, d3, by omega, ?_⟩
   ·rintro (e | e | e | e | e | e)
    ·exact (hcb i c b h1 hb).1 e
    ·exact (hcb i c b h1 hb).2.1 e
    ·exact (hcb i c b h1 hb).2.2.1 e
    ·exact (hcb i c b h1 hb).2.2.2 e
    ·exact d2 e
    ·have := hgold b e; omega
   ·rcases hiv with ⟨_, _, e⟩ | ⟨_, _, _, _, a4, _, _⟩
    ·exact ⟨by omega, by omega⟩
    ·exact ⟨by omega, by omega⟩
 have hY : YI (C (j - 1)) H.nx HB.nx cs ord (OI LO HB L H.nx ob nb x2 n iv cs out ord) := by
  refine ⟨fun t D D' H1 H2 h f hD => h.ext f hD, fun t i c D H1 h1 h2 h => ?_⟩
  have hit : t < ord.length := (List.getElem?_eq_some_iff.1 h1).1
  refine q9l hC hR (by omega) hg5 h h1 h2 hlen2 hn (by omega) z2 (fun i' o' o x e1 e2 e3 e4 => qvp out i' i o' o x hnd e1 e2 e4 e3) fun j' hj' e => ?_
  have := (List.getElem?_inj (by omega) hon).1 (e.trans h1.symm)
  omega
 have hin : ∀ x < n, ins.getD x 0 < cs.length := fun x hx => by
  obtain ⟨o, ho, hxo⟩ := List.mem_flatten.1 ((hout.parts.all x).2 hx)
  obtain ⟨i, hi⟩ := List.mem_iff_getElem?.1 ho
  have h1 := hout.ix i o x hi hxo
  rw [List.getD_eq_getElem?_getD, h1]
  have := (List.getElem?_eq_some_iff.1 hi).1
  show i < cs.length
  omega
 have call : qhz (C j) (.fn qft [] [.ptr lb 0, .ptr gb 0, .ptr ib 0]) [.yield H.nx] (qan H (LO.blk true L)) = C j (.f qft) [.yield H.nx, .ptr lb 0, .ptr gb 0, .ptr ib 0] (qan H (LO.blk true L)) := rfl
 rw [call]
 refine Ok.bindR (qzx hC (k := j) (by omega) hY (by omega) hRS (by rw [np]; have := hf.nx; omega) hlen hout.il hE hin (by rw [hlen2, hord]) hI0) ?_
 rintro r H1 ⟨rfl, D', hI⟩
 rw [q92 hI.lp, hg5, hg2]
 unfold quf
 obtain ⟨ins2, i1, i2, i3⟩ := hI.ins
 obtain ⟨lv, os, v1, v2, v3, v4⟩ := hI.lv
 obtain ⟨k1, k2, k3⟩ := hI.hl
 obtain ⟨x1', x3, x4, x5, x6⟩ := hI.rc
 have hobl : ob < H.nx := by omega
 have fd : Fm (fun b => b = H.nx) H1 (H1.put H.nx .dead) := (Fm.refl _ _).put _ _ fun _ => rfl
 have go : (H1.put H.nx .dead).get ob = qaa 0 [lv, iv] := (fd.get ob (by omega) (by omega)).trans v1
 have gx : (H1.put H.nx .dead).get x2 = qaa 0 [.nilsl, .nilsl] := (fd.get x2 (by omega) (by omega)).trans x1'
 have gv2 : Gl 1 (H1.put H.nx .dead) lv ord.length os := v2.fm fd fun b hb => by have := (v3 b hb).1; omega
 obtain ⟨w, w1, w2, w3, w4⟩ := q6f hC (k := j) (by omega) gv2
 have hosl : os.length = ord.length := by have := v2.len; omega
 generalize hH2 : H1.put H.nx .dead = H2 at *
 have n2 : H2.nx = H1.nx := by rw [← hH2]; rfl
 have wsl : (w = .nilsl) ∨ ∃ b o n m e, w = .sl b o n m e := by
  rcases w2.is with ⟨h, _⟩ | ⟨b, o, e, q, L, h, _⟩
  ·exact Or.inl h
  ·exact Or.inr ⟨_, _, _, _, _, h⟩
 have ivsl : (iv = .nilsl) ∨ ∃ b o n m e, iv = .sl b o n m e := by
  rcases hiv with ⟨_, h, _⟩ | ⟨_, h, _⟩
  ·exact Or.inl h
  ·exact Or.inr ⟨_, _, _, _, _, h⟩
 have run : ∃ H3, (vq (qaf 0 (.ptr ob 0)) H2 fun a3 H => vq (qag H a3) H fun a4 H => ve (C j (.f qhu) [a4] H) fun a5 H => vq (qaf 0 (.ptr ob 0)) H fun a6 H => ve (qa3 H a6 a5) fun _ H => vq (qbi 2 H (.ptr ob 0)) H fun a8 H => ve (qb3 2 H (.ptr x2 0) a8) fun _ H =>
   finR (tupO (qrz (rV (qbi 2 H (.ptr x2 0))) (qrz (some (.int .i64 (.ofNat 0))) (some [])))) H) = .ok (.tup [.agg [w, iv], .int .i64 (.ofNat 0)]) H3 ∧ Fm (fun b => b = ob ∨ b = x2) H2 H3 := by
  have f3 : ∀ B1 B2, Fm (fun b => b = ob ∨ b = x2) H2 ((H2.put ob B1).put x2 B2) := fun B1 B2 => ((Fm.refl _ _).put _ _ fun _ => Or.inl rfl).put _ _ fun _ => Or.inr rfl
  have es2 : ∀ x : AV, setL [lv, iv] 0 [x] = [x, iv] := fun _ => rfl
  have es3 : ∀ x : AV, setL [AV.nilsl, AV.nilsl] 0 [x, iv] = [x, iv] := fun _ => rfl
  have es4 : ∀ x : AV, List.take 2 [x, iv] = [x, iv] := fun _ => rfl
  rcases wsl with rfl | ⟨b, o, n, m, e, rfl⟩
  ·simp (disch := first | omega | exact ti rfl | (simp only [np, nq]; first | done | omega)) only [go_sem, reduceAdd, reduceMul, reduceSub, reduceLeDiff, reduceEqDiff, reduceShiftRight, reduceAnd, go, w1, gx, es2, es3, es4, List.length_cons, List.length_nil, Nat.le_refl, if_true, List.drop_zero]
   exact ⟨_, rfl, f3 _ _⟩
  ·simp (disch := first | omega | exact ti rfl | (simp only [np, nq]; first | done | omega)) only [go_sem, reduceAdd, reduceMul, reduceSub, reduceLeDiff, reduceEqDiff, reduceShiftRight, reduceAnd, go, w1, gx, es2, es3, es4, List.length_cons, List.length_nil, Nat.le_refl, if_true, List.drop_zero]
   exact ⟨_, rfl, f3 _ _⟩
 obtain ⟨H3, e3, f3⟩ := run
 rw [e3]
 have n3 := f3.nx
 have old : ∀ {x : AV} {m : Nat} {y : List AV}, Gl 1 H1 x m y → (∀ b, In x b → b ≠ H.nx ∧ b ≠ ob ∧ b ≠ x2) → Gl 1 H3 x m y := fun {x m y} hx hb => (hx.fm fd fun b hb' => (hb b hb').1).fm f3 fun b hb' => by
  have := hb b hb'
  rintro (h | h)
  ·exact this.2.1 h
  ·exact this.2.2 h
 have hnx2 := hx2.2.1
 refine Ok.ret ⟨w, iv, os, ins2, rfl, ⟨?_, ?_, ?_, fun j' w' o' h1 h2 => ?_, ?_, ?_, fun j' o' x h1 h2 => ?_, fun b hb => ?_⟩, ?_⟩
 ·-- the list
  have h5 : Gl 1 H3 w ord.length os := w2.fm f3 fun b hb h => by
   have h6 := (v3 b (w4 b hb)).1
   rcases h with h | h
   ·omega
   ·omega
  rw [hosl]; exact h5
 ·rw [hosl]; exact w3
 ·rw [hosl, List.length_map]
 ·obtain ⟨i, o, a1, a2, a3, a4, a5⟩ := v4 j' w' h1
  rw [List.getElem?_map, a1] at h2
  have h2 : out.getD i [] = o' := Option.some.inj h2
  rw [List.getD_eq_getElem?_getD, a2] at h2
  have h2 : o = o' := h2
  subst h2
  exact ⟨old a3 fun b hb => by have := a5 b hb; exact ⟨by omega, by omega, by omega⟩, a4, fun b hb => (a5 b hb).1⟩
 ·rcases i2 with ⟨b1, b2⟩ | ⟨b1, b2, b3, b4, b5, b6⟩
  ·have : ins2 = [] := List.length_eq_zero_iff.1 (by omega)
   rw [b1, b2, this]
   exact Gl.nil _ _
  ·rcases hiv with ⟨_, h, _⟩ | ⟨_, _, _, _, _, _, a6⟩
   ·rw [b1] at h; cases h
   ·rw [b1]
    have g3 : H3.get nb = qaa 0 (nats ins2) := (f3.get nb (by omega) (by rintro (h | h); exact b6 h; exact a6 h)).trans ((fd.get nb (by omega) (by omega)).trans b2)
    exact ⟨by rw [qaw, i1, Nat.mul_one], .inr ⟨nb, 0, true, 0, _, rfl, g3, Nat.zero_le _, List.drop_zero, Or.inl rfl, by omega⟩⟩
 ·rcases i2 with ⟨b1, b2⟩ | ⟨b1, _⟩
  ·rw [b1, b2]; rfl
  ·rw [b1]; rfl
 ·rw [List.getElem?_map] at h1
  cases ho : ord[j']? with
  | none => rw [ho] at h1; cases h1
  | some i =>
   rw [ho] at h1
   have h1 : out.getD i [] = o' := Option.some.inj h1
   have hi : i < out.length := hom i (List.mem_of_getElem? ho)
   rw [List.getD_eq_getElem?_getD, List.getElem?_eq_getElem hi] at h1
   have h1 : out[i] = o' := h1
   exact i3 j' i o' x (List.getElem?_eq_some_iff.1 ho).1 ho (by rw [List.getElem?_eq_getElem hi, h1]) h2
 ·have hh := hf.nx
  rcases hb with hb | hb
  ·have := (v3 b (w4 b hb)).1; omega
  ·rcases i2 with ⟨_, b2⟩ | ⟨b1, _, b3, _⟩
   ·rw [b2] at hb; obtain ⟨_, _, _, _, h⟩ := hb; cases h
   ·rw [b1] at hb; obtain ⟨_, _, _, _, h⟩ := hb; cases h; exact b3
 ·refine hI.fm.then ((fd.mono (T := fun b => b = H.nx ∨ b = ob ∨ b = x2) fun _ _ h => Or.inl h).trans (f3.mono fun _ _ h => Or.inr h)) fun c hc h => ?_
  have hh := hf.nx
  omega
end Go.Di
end
noncomputable section
/-
 Contracts: comps.Of at a right graph.
-/
namespace Go.Di
open Go.Ev Go.Di.T Go.Sort
variable {C : Nat → Ev.Call} {LA LO : LP}
theorem zcl (hC : qbe C) (hO : qc0 C) (hS : qcb C) (hR : qcc LA LO C) {j : Nat} (hj : 920 ≤ j) {HB : Hp} {n : Nat} {es : List Edge} (hE : qb2 n es) (hn : n ≤ 256) (hlen : es.length < 200000) {gv : AV} (hg : IsE HB gv es) {H : Hp} {g0 ob x2 nb : Nat} {iv : AV} {L : TT AV 2}
  (hg5 : ∀ a12 a13 a14 a15, G (pu L [(22, a12), (23, a13), (24, a14), (25, a15)]) 5 = .ptr ob 0) (hg2 : ∀ a12 a13 a14 a15, G (pu L [(22, a12), (23, a13), (24, a14), (25, a15)]) 2 = .ptr x2 0)
  (hf : Fm No HB H) (hg0 : H.get g0 = qaa 0 [.int .i64 (.ofNat n), gv]) (hg0l : g0 < H.nx) (hob : HB.nx ≤ ob ∧ ob < H.nx) (hx2 : HB.nx ≤ x2 ∧ x2 < H.nx ∧ x2 ≠ ob) (hgo : H.get ob = qaa 0 [.nilsl, iv]) (hgx : H.get x2 = qaa 0 [.nilsl, .nilsl])
  (hiv : (n = 0 ∧ iv = .nilsl ∧ nb = ob) ∨ (0 < n ∧ iv = .sl nb 0 n n true ∧ H.get nb = qaa 0 (nats (List.replicate n 0)) ∧ HB.nx ≤ nb ∧ nb < H.nx ∧ nb ≠ ob ∧ nb ≠ x2)) :
  Ok (qma LO (C j) L (.ptr g0 0) H) fun r H' => ∃ lv iv os ins2 out ins res, r = .tup [.agg [lv, iv], .int .i64 (.ofNat 0)] ∧ qja n es out ins res ∧ CR HB H' n lv iv os res ins2 ∧ Fm No HB H' := by
 unfold qma
 have hgH : IsE H gv es := hg.fm hf
 have hq := hgH.eqG (.ofNat n)
 simp (disch := first | omega | exact ti rfl | (simp only [np, nq]; first | done | omega)) only [go_sem, reduceAdd, reduceMul, reduceSub, reduceLeDiff, reduceEqDiff, reduceShiftRight, reduceAnd, hg0]
 refine Ok.deO (q4p hC hO hS hR (k := j) (by omega) hn hlen hE.rng hgH) ?_
 rintro v H1 ⟨cs, out, hP, hL, f1⟩
 have hL : LsOk H H1 v cs out := hL
 have f1 : Fm No H H1 := f1
 have hg1 : H1.get g0 = qaa 0 [.int .i64 (.ofNat n), gv] := (f1.keep hg0l).trans hg0
 simp (disch := first | omega | exact ti rfl | (simp only [np, nq]; first | done | omega)) only [go_sem, reduceAdd, reduceMul, reduceSub, reduceLeDiff, reduceEqDiff, reduceShiftRight, reduceAnd, hg1, hq]
 obtain ⟨z1, z2⟩ := hP.sizes hn
 refine Ok.deO (q4e hC hS (k := j) hj hL f1.nx hn z1 z2 hP.nd) ?_
 rintro r H2 ⟨lb, gb, ib, wb, cs', out', ins, rfl, hp, ha, hRd, hcc, f2, hnew⟩
 have f2 : Fm (In v) H1 H2 := f2
 have hnew : H1.nx ≤ lb ∧ H1.nx ≤ gb ∧ H1.nx ≤ ib ∧ H1.nx ≤ wb := hnew
 have hg2' : H2.get g0 = qaa 0 [.int .i64 (.ofNat n), gv] := (f2.get _ (Nat.lt_of_lt_of_le hg0l f1.nx) fun h => by have := hL.new _ h; omega).trans hg1
 simp (disch := first | omega | exact ti rfl | (simp only [np, nq]; first | done | omega)) only [go_sem, reduceAdd, reduceMul, reduceSub, reduceLeDiff, reduceEqDiff, reduceShiftRight, reduceAnd, hg2', hq]
 have hP' := hP.perm hp
 have n1 := f1.nx
 have n2 := f2.nx
 have fB1 : Fm No HB H1 := hf.trans f1
 have fB2 : Fm No HB H2 := fB1.then f2 fun c hc h => by have := hL.new c h; have := hf.nx; omega
 have keep2 : ∀ {b : Nat} {k : Blk}, b < H.nx → H.get b = k → H2.get b = k := fun {b k} hb h => (f2.get b (by omega) fun h => by have := hL.new b h; omega).trans ((f1.keep hb).trans h)
 have hO' : qja n es out' ins ((rnds es ins out'.length out'.length (List.replicate out'.length false)).map fun i => out'.getD i []) := ⟨hP', ha, hRd.il, hRd.ix, rfl⟩
 have hRd' : RdyS H H2 n gv v cs' out' ins lb gb ib wb := hRd
 refine (q6b hC hR (j := j) (by omega) hE.rng hn hlen hg (hg5 _ _ _ _) (hg2 _ _ _ _) hRd' hO' ⟨by omega, by omega, by omega, by omega⟩ (fun i c b h1 h2 => ?_) fB2 hob hx2 (keep2 hob.2 hgo) (keep2 hx2.2.1 hgx) (nb := nb) (iv := iv) ?_ (by omega)).mono ?_
 ·-- the components' blocks are older than the closure's
  have hm := hcc c (List.mem_of_getElem? h1)
  obtain ⟨i', hi', rfl⟩ := List.getElem_of_mem hm
  obtain ⟨_, h3, _⟩ := hL.at' i' cs[i'] (out[i']'(by rw [← hL.len]; exact hi')) (by simp) (by simp)
  have := h3.lt h2
  omega
 ·rcases hiv with h | ⟨h1, h2, h3, h4, h5, h6, h7⟩
  ·exact Or.inl h
  ·exact Or.inr ⟨h1, h2, keep2 h5 h3, h4, h5, h6, h7⟩
 ·rintro r H3 ⟨lv, iv, os, ins2, h1, h2, h3⟩
  exact ⟨lv, iv, os, ins2, out', ins, _, h1, hO', h2, h3⟩
theorem q9m (hC : qbe C) (hO : qc0 C) (hS : qcb C) (hR : qcc LA LO C) {k : Nat} (hk : 921 ≤ k) {n : Nat} {es : List Edge} (hE : qb2 n es) (hn : n ≤ 256) (hlen : es.length < 200000) {gv : AV} {H : Hp} (hg : IsE H gv es) :
  Ok (C k (.f qm4) [.agg [.int .i64 (.ofNat n), gv]] H) fun r H' => ∃ lv iv os ins2 out ins res, r = .tup [.agg [lv, iv], .int .i64 (.ofNat 0)] ∧ qja n es out ins res ∧ CR H H' n lv iv os res ins2 ∧ Fm No H H' := by
 obtain ⟨j, rfl⟩ : ∃ j, k = j + 1 := ⟨k - 1, by omega⟩
 rw [(hR j).cOf]
 unfold cOf q9c
 simp (disch := first | omega | exact ti rfl | (simp only [np, nq]; first | done | omega)) only [go_sem, reduceAdd, reduceMul, reduceSub, reduceLeDiff, reduceEqDiff, reduceShiftRight, reduceAnd]
 generalize hH1 : qan (qan H (qaa 0 [.int .i64 (.ofNat n), gv])) (qaa 0 [.nilsl, .nilsl]) = H1
 have n1 : H1.nx = H.nx + 2 := by rw [← hH1]; rfl
 have f1 : Fm No H H1 := by rw [← hH1]; exact ((Fm.refl _ _).push _).push _
 have g1 : H1.get H.nx = qaa 0 [.int .i64 (.ofNat n), gv] := by rw [← hH1, qbd _ _ _ (by rw [np]; omega), qak]
 have x1 : H1.get (H.nx + 1) = qaa 0 [.nilsl, .nilsl] := by rw [← hH1]; exact qak _ _
 refine Ok.ve (qwk hC (k := j) (by omega) hE hn (by omega) (hg.fm f1)) ?_
 rintro r H2 ⟨rfl, f2⟩
 have n2 := f2.nx
 simp (disch := first | omega | exact ti rfl | (simp only [np, nq]; first | done | omega)) only [go_sem, reduceAdd, reduceMul, reduceSub, reduceLeDiff, reduceEqDiff, reduceShiftRight, reduceAnd]
 generalize wrL [AV.agg [AV.int IntKind.i64 (Int.ofNat n), gv]] 0 (same AV.undef 2) = L0
 unfold quc
 have g2 : H2.get H.nx = qaa 0 [.int .i64 (.ofNat n), gv] := (f2.keep (by omega)).trans g1
 have x2 : H2.get (H.nx + 1) = qaa 0 [.nilsl, .nilsl] := (f2.keep (by omega)).trans x1
 have f12 := f1.trans f2
 by_cases h0 : 0 < n
 ·have mk := qfp [.int .i64 (.ofNat 0)] 8 (H2.nx + 1) n (by omega) (by omega)
  rw [qds, qoo] at mk
  simp (disch := first | omega | exact ti rfl | (simp only [np, nq]; first | done | omega)) only [go_sem, reduceAdd, reduceMul, reduceSub, reduceLeDiff, reduceEqDiff, reduceShiftRight, reduceAnd, g2, h0, mk]
  have es1 : setL [AV.nilsl, AV.nilsl] 1 [.sl (H2.nx + 1) 0 n n true] = [.nilsl, .sl (H2.nx + 1) 0 n n true] := rfl
  rw [es1]
  generalize hX : (qan (qan H2 (qaa 0 [AV.nilsl, AV.nilsl])) (qaa 0 (nats (List.replicate n 0)))).put H2.nx (qaa 0 [AV.nilsl, AV.sl (H2.nx + 1) 0 n n true]) = HX
  have nX : HX.nx = H2.nx + 2 := by rw [← hX]; rfl
  have fX : Fm No H2 HX := by rw [← hX]; exact (((Fm.refl _ _).push _).push _).put_new _ _ (by omega)
  refine zcl hC hO hS hR (j := j) (by omega) hE hn hlen hg (ob := H2.nx) (x2 := H.nx + 1) (nb := H2.nx + 1) (iv := .sl (H2.nx + 1) 0 n n true) (g0 := H.nx) (fun _ _ _ _ => by kernel_rfl) (fun _ _ _ _ => by kernel_rfl) ?_ ?_ ?_ ?_ ?_ ?_ ?_ ?_
  ·exact f12.trans fX
  ·exact (fX.keep (by omega)).trans g2
  ·omega
  ·omega
  ·omega
  ·rw [← hX, qac]
  ·exact (fX.keep (by omega)).trans x2
  ·refine Or.inr ⟨h0, rfl, ?_, by omega, by omega, by omega, by omega⟩
   rw [← hX, qai _ _ _ _ (by omega)]
   exact qak (qan H2 _) _
 ·simp (disch := first | omega | exact ti rfl | (simp only [np, nq]; first | done | omega)) only [go_sem, reduceAdd, reduceMul, reduceSub, reduceLeDiff, reduceEqDiff, reduceShiftRight, reduceAnd, g2, h0]
  generalize hX : qan H2 (qaa 0 [AV.nilsl, AV.nilsl]) = HX
  have nX : HX.nx = H2.nx + 1 := by rw [← hX]; rfl
  have fX : Fm No H2 HX := by rw [← hX]; exact (Fm.refl _ _).push _
  refine zcl hC hO hS hR (j := j) (by omega) hE hn hlen hg (ob := H2.nx) (x2 := H.nx + 1) (nb := H2.nx) (iv := .nilsl) (g0 := H.nx) (fun _ _ _ _ => by kernel_rfl) (fun _ _ _ _ => by kernel_rfl) ?_ ?_ ?_ ?_ ?_ ?_ ?_ ?_
  ·exact f12.trans fX
  ·exact (fX.keep (by omega)).trans g2
  ·omega
  ·omega
  ·omega
  ·rw [← hX, qak]
  ·exact (fX.keep (by omega)).trans x2
  ·exact Or.inl ⟨by omega, rfl, rfl⟩
end Go.Di
end
noncomputable section
/-
 The order of the components (no program here): there is one next component, and always one.
-/
namespace Go.Di.T
open Classical
variable {n : Nat} {adj : Nat → List Nat}
def Rdy (n : Nat) (adj : Nat → List Nat) (pre : List (List Nat)) (i : Nat) : Prop := ∀ k, k < n → Rc adj i k → k ∈ pre.flatten ∨ Rc adj k i
structure NextC (n : Nat) (adj : Nat → List Nat) (pre : List (List Nat)) (i : Nat) : Prop where
 lt : i < n
 new : i ∉ pre.flatten
 rdy : Rdy n adj pre i
 least : ∀ j, j < i → j ∉ pre.flatten → ¬ Rdy n adj pre j
def q7c (n : Nat) (adj : Nat → List Nat) (i : Nat) (c : List Nat) : Prop := c.Pairwise (· < ·) ∧ ∀ x, x ∈ c ↔ x < n ∧ Rc adj i x ∧ Rc adj x i
def OrdF (n : Nat) (adj : Nat → List Nat) : List (List Nat) → List (List Nat) → Prop
 | pre, [] => ∀ x, x < n → x ∈ pre.flatten
 | pre, c :: R => (∃ i, NextC n adj pre i ∧ q7c n adj i c) ∧ OrdF n adj (pre ++ [c]) R
theorem qwf : ∀ {l l' : List Nat}, l.Pairwise (· < ·) → l'.Pairwise (· < ·) → (∀ x, x ∈ l ↔ x ∈ l') → l = l'
 | [], [], _, _, _ => rfl
 | [], y :: _, _, _, h => absurd ((h y).2 List.mem_cons_self) (by simp)
 | x :: _, [], _, _, h => absurd ((h x).1 List.mem_cons_self) (by simp)
 | x :: l, y :: l', h1, h2, h => by
  rw [List.pairwise_cons] at h1 h2
  have exy : x = y := by
   rcases List.mem_cons.1 ((h x).1 List.mem_cons_self) with e | hx
   ·exact e
   ·rcases List.mem_cons.1 ((h y).2 List.mem_cons_self) with e | hy
    ·exact e.symm
    ·have := h1.1 y hy; have := h2.1 x hx; omega
  subst exy
  rw [qwf h1.2 h2.2 fun z => ⟨fun hz => ?_, fun hz => ?_⟩]
  ·rcases List.mem_cons.1 ((h z).1 (List.mem_cons_of_mem _ hz)) with e | g
   ·have := h1.1 z hz; omega
   ·exact g
  ·rcases List.mem_cons.1 ((h z).2 (List.mem_cons_of_mem _ hz)) with e | g
   ·have := h2.1 z hz; omega
   ·exact g
theorem OrdF.uniq : ∀ {R R' pre : List (List Nat)}, OrdF n adj pre R → OrdF n adj pre R' → R = R'
 | [], [], _, _, _ => rfl
 | [], c :: R', pre, h, h' => by
  obtain ⟨⟨i, hi, _⟩, _⟩ := h'
  exact absurd (h i hi.lt) hi.new
 | c :: R, [], pre, h, h' => by
  obtain ⟨⟨i, hi, _⟩, _⟩ := h
  exact absurd (h' i hi.lt) hi.new
 | c :: R, c' :: R', pre, h, h' => by
  obtain ⟨⟨i, hi, hc⟩, h2⟩ := h
  obtain ⟨⟨i', hi', hc'⟩, h2'⟩ := h'
  have e : i = i' := by
   rcases Nat.lt_trichotomy i i' with g | g | g
   ·exact absurd hi.rdy (hi'.least i g hi.new)
   ·exact g
   ·exact absurd hi'.rdy (hi.least i' g hi'.new)
  subst e
  have ec : c = c' := qwf hc.1 hc'.1 fun x => (hc.2 x).trans (hc'.2 x).symm
  subst ec
  rw [OrdF.uniq h2 h2']
def cnt (n : Nat) (adj : Nat → List Nat) (i : Nat) : Nat := ((List.range n).filter fun k => decide (Rc adj i k)).length
theorem cnt_lt {i k : Nat} (hi : i < n) (h : Rc adj i k) (hn : ¬ Rc adj k i) : cnt n adj k < cnt n adj i := by
 unfold cnt
 have hsub : ∀ (l : List Nat), (l.filter fun x => decide (Rc adj k x)).length ≤ (l.filter fun x => decide (Rc adj i x)).length := fun l => by
  induction l with
  | nil => exact Nat.le_refl _
  | cons x l ih =>
   rw [List.filter_cons, List.filter_cons]
   by_cases h1 : Rc adj k x
   ·rw [if_pos (by simpa using h1), if_pos (by simpa using h.trans h1)]
    simpa using ih
   ·rw [if_neg (by simpa using h1)]
    split
    ·simp only [List.length_cons]; omega
    ·exact ih
 have hlt : ∀ (l : List Nat), i ∈ l → (l.filter fun x => decide (Rc adj k x)).length < (l.filter fun x => decide (Rc adj i x)).length := fun l => by
  induction l with
  | nil => intro h; cases h
  | cons x l ih =>
   intro hm
   rw [List.filter_cons, List.filter_cons]
   by_cases e : x = i
   ·subst e
    rw [if_neg (by simpa using hn), if_pos (by simpa using Rc.refl x)]
    have := hsub l
    simp only [List.length_cons]; omega
   ·have hm' : i ∈ l := (List.mem_cons.1 hm).resolve_left fun h => e h.symm
    have := ih hm'
    by_cases h1 : Rc adj k x
    ·rw [if_pos (by simpa using h1), if_pos (by simpa using h.trans h1)]
     simpa using this
    ·rw [if_neg (by simpa using h1)]
     split
     ·simp only [List.length_cons]; omega
     ·exact this
 exact hlt _ (List.mem_range.2 hi)
theorem q99 {pre : List (List Nat)} (hadj : ∀ u, ∀ k ∈ adj u, k < n) {x : Nat} (hx : x < n) (hn : x ∉ pre.flatten) : ∃ i, i < n ∧ i ∉ pre.flatten ∧ Rdy n adj pre i := by
 have key : ∀ m x, cnt n adj x = m → x < n → x ∉ pre.flatten → ∃ i, i < n ∧ i ∉ pre.flatten ∧ Rdy n adj pre i := fun m => by
  induction m using Nat.strongRecOn with
  | _ m ih =>
   intro x hm hx hn
   by_cases hr : Rdy n adj pre x
   ·exact ⟨x, hx, hn, hr⟩
   ·unfold Rdy at hr
    simp only [not_forall] at hr
    obtain ⟨k, hk, hr1, hr2⟩ := hr
    rw [not_or] at hr2
    exact ih (cnt n adj k) (by rw [← hm]; exact cnt_lt hx hr1 hr2.2) k rfl hk hr2.1
 exact key _ x rfl hx hn
theorem qmw : ∀ {R pre : List (List Nat)}, OrdF n adj pre R → (∀ x ∈ pre.flatten, x < n) → pre.flatten.Nodup → (∀ x ∈ pre.flatten, ∀ y, y < n → Rc adj x y → Rc adj y x → y ∈ pre.flatten) →
  (pre ++ R).flatten.Nodup ∧ (∀ x ∈ (pre ++ R).flatten, x < n) ∧ (∀ x, x < n → x ∈ (pre ++ R).flatten) ∧ ∀ o ∈ R, o ≠ []
 | [], pre, h, h1, h2, _ => by rw [List.append_nil]; exact ⟨h2, h1, h, fun o ho => by cases ho⟩
 | c :: R, pre, ⟨⟨i, hi, hc⟩, h⟩, h1, h2, h3 => by
  have hfl : (pre ++ [c]).flatten = pre.flatten ++ c := by rw [List.flatten_append]; simp
  have hii : i ∈ c := (hc.2 i).2 ⟨hi.lt, Rc.refl _, Rc.refl _⟩
  have ih := qmw h (fun x hx => ?_) ?_ fun x hx y hy r1 r2 => ?_
  ·rw [List.append_assoc] at ih
   obtain ⟨a1, a2, a3, a4⟩ := ih
   exact ⟨a1, a2, a3, fun o ho => by
    rcases List.mem_cons.1 ho with rfl | ho
    ·intro e; rw [e] at hii; cases hii
    ·exact a4 o ho⟩
  ·rw [hfl, List.mem_append] at hx
   exact hx.elim (h1 x) fun g => ((hc.2 x).1 g).1
  ·rw [hfl, List.nodup_append]
   refine ⟨h2, hc.1.imp fun g => Nat.ne_of_lt g, fun x hx y hy e => ?_⟩
   subst e
   have g := (hc.2 x).1 hy
   exact hi.new (h3 x hx i hi.lt g.2.2 g.2.1)
  ·rw [hfl, List.mem_append] at hx ⊢
   rcases hx with hx | hx
   ·exact Or.inl (h3 x hx y hy r1 r2)
   ·have g := (hc.2 x).1 hx
    exact Or.inr ((hc.2 y).2 ⟨hy, g.2.1.trans r1, r2.trans g.2.2⟩)
theorem OrdF.all {res : List (List Nat)} (h : OrdF n adj [] res) : res.flatten.Nodup ∧ (∀ x ∈ res.flatten, x < n) ∧ (∀ x, x < n → x ∈ res.flatten) ∧ (∀ o ∈ res, o ≠ []) ∧ res.flatten.length = n := by
 obtain ⟨a1, a2, a3, a4⟩ := qmw h (fun x hx => by simp at hx) List.nodup_nil fun x hx => by simp at hx
 rw [List.nil_append] at a1 a2 a3
 refine ⟨a1, a2, a3, a4, Nat.le_antisymm ?_ ?_⟩
 ·have := a1.length_le_of_subset (l₂ := List.range n) fun x hx => List.mem_range.2 (a2 x hx)
  rwa [List.length_range] at this
 ·have := (List.nodup_range (n := n)).length_le_of_subset (l₂ := res.flatten) fun x hx => a3 x (List.mem_range.1 hx)
  rwa [List.length_range] at this
theorem qq8 : ∀ {R pre : List (List Nat)} {j : Nat} {c : List Nat} {a b : Nat}, OrdF n adj pre R → R[j]? = some c → a ∈ c → b < n → b ∈ adj a → b ∈ pre.flatten ∨ ∃ j' c', j' ≤ j ∧ R[j']? = some c' ∧ b ∈ c'
 | [], _, _, _, _, _, _, h, _, _, _ => by simp at h
 | d :: R, pre, 0, c, a, b, ⟨⟨i, hi, hc⟩, _⟩, h, ha, hb, he => by
  simp at h; subst h
  have g := (hc.2 a).1 ha
  have hr : Rc adj i b := g.2.1.step he
  rcases hi.rdy b hb hr with k | k
  ·exact Or.inl k
  ·exact Or.inr ⟨0, d, Nat.le_refl _, rfl, (hc.2 b).2 ⟨hb, hr, k⟩⟩
 | d :: R, pre, j + 1, c, a, b, ⟨_, h'⟩, h, ha, hb, he => by
  rcases qq8 h' (by simpa using h) ha hb he with k | ⟨j', c', k1, k2, k3⟩
  ·rw [List.flatten_append, List.mem_append] at k
   rcases k with k | k
   ·exact Or.inl k
   ·exact Or.inr ⟨0, d, Nat.zero_le _, rfl, by simpa using k⟩
  ·exact Or.inr ⟨j' + 1, c', by omega, by simpa using k2, k3⟩
end Go.Di.T
end
noncomputable section
/-
 The order that comps.Of reckons is the one of the definition.
-/
namespace Go.Di
open Go.Di.T
theorem qqj (ins : List Nat) (dn : List Bool) (a m : Nat) (ham : a < m) : ∀ (es : List Edge) (w : List Bool), w.length = m → (∀ e ∈ es, ins.getD e.f 0 < m) →
  ((waits es ins dn w).getD a true = true ↔ w.getD a true = true ∨ ∃ e ∈ es, ins.getD e.f 0 = a ∧ ins.getD e.f 0 ≠ ins.getD e.t 0 ∧ dn.getD (ins.getD e.t 0) true = false)
 | [], w, _, _ => by simp [waits]
 | e :: es, w, hw, hin => by
  show (waits es ins dn (qfe ins dn w e)).getD a true = true ↔ _
  have hl : (qfe ins dn w e).length = m := by unfold qfe; split <;> simp [hw]
  rw [qqj ins dn a m ham es _ hl fun e' he' => hin e' (List.mem_cons_of_mem _ he')]
  have h1 : (qfe ins dn w e).getD a true = true ↔ w.getD a true = true ∨ (ins.getD e.f 0 = a ∧ ins.getD e.f 0 ≠ ins.getD e.t 0 ∧ dn.getD (ins.getD e.t 0) true = false) := by
   unfold qfe
   by_cases hc : ins.getD e.f 0 ≠ ins.getD e.t 0 ∧ dn.getD (ins.getD e.t 0) true = false
   ·rw [if_pos hc, List.getD_eq_getElem?_getD, List.getElem?_set]
    by_cases ha : ins.getD e.f 0 = a
    ·rw [if_pos ha, if_pos (by have := hin e List.mem_cons_self; omega)]
     simp only [Option.getD_some, true_iff]
     exact Or.inr ⟨ha, hc⟩
    ·rw [if_neg ha, ← List.getD_eq_getElem?_getD]
     exact ⟨Or.inl, fun h => h.resolve_right fun g => ha g.1⟩
   ·rw [if_neg hc]
    exact ⟨Or.inl, fun h => h.resolve_right fun g => hc g.2⟩
  rw [h1]
  simp only [List.mem_cons, exists_eq_or_imp, or_assoc]
theorem qzw (m a : Nat) (h : a < m) : (List.replicate m false).getD a true = false := by
 rw [List.getD_eq_getElem?_getD, List.getElem?_replicate, if_pos h]; rfl
structure Pl (n : Nat) (es : List Edge) (out : List (List Nat)) (ins : List Nat) (dn : List Bool) (pre : List (List Nat)) : Prop where
 dl : dn.length = out.length
 mem : ∀ x, x < n → (x ∈ pre.flatten ↔ dn.getD (ins.getD x 0) true = true)
 lt : ∀ x ∈ pre.flatten, x < n
 cl : ∀ x ∈ pre.flatten, ∀ k ∈ qa6 es x, k ∈ pre.flatten
noncomputable section
variable {n : Nat} {es : List Edge} {out : List (List Nat)} {ins : List Nat}
theorem qj5 (hP : qc7 n (qa6 es) out) {p : Nat} {c : List Nat} (hc : out[p]? = some c) : ∃ i t, c = i :: t ∧ i ∈ c ∧ (∀ x ∈ c, i ≤ x) ∧ (∀ x, x ∈ c ↔ Rc (qa6 es) i x ∧ Rc (qa6 es) x i) := by
 obtain ⟨h1, r, hr, h2⟩ := hP.scc c (List.mem_of_getElem? hc)
 cases c with
 | nil => cases hr
 | cons i t =>
  have hi := (h2 i).1 List.mem_cons_self
  refine ⟨i, t, rfl, List.mem_cons_self, fun x hx => ?_, fun x => ?_⟩
  ·rw [List.pairwise_cons] at h1
   rcases List.mem_cons.1 hx with e | hx
   ·omega
   ·exact Nat.le_of_lt (h1.1 x hx)
  ·rw [h2 x]
   exact ⟨fun ⟨a, b⟩ => ⟨hi.2.trans a, b.trans hi.1⟩, fun ⟨a, b⟩ => ⟨hi.1.trans a, b.trans hi.2⟩⟩
theorem qrk (hP : qc7 n (qa6 es) out) (hx : ∀ (i : Nat) (o : List Nat) (x : Nat), out[i]? = some o → x ∈ o → ins[x]? = some i) {x : Nat} (h : x < n) : ∃ c, out[ins.getD x 0]? = some c ∧ x ∈ c := by
 obtain ⟨c, hc, hxc⟩ := List.mem_flatten.1 ((hP.all x).2 h)
 obtain ⟨i, hi⟩ := List.mem_iff_getElem?.1 hc
 have := hx i c x hi hxc
 refine ⟨c, ?_, hxc⟩
 rw [List.getD_eq_getElem?_getD, this]
 exact hi
theorem qxm (hx : ∀ (i : Nat) (o : List Nat) (x : Nat), out[i]? = some o → x ∈ o → ins[x]? = some i) {p x : Nat} {c : List Nat} (hc : out[p]? = some c) (h : x ∈ c) : ins.getD x 0 = p := by
 rw [List.getD_eq_getElem?_getD, hx p c x hc h]; rfl
theorem q0h (hE : ∀ e ∈ es, e.f < n ∧ e.t < n) (hP : qc7 n (qa6 es) out) (hx : ∀ (i : Nat) (o : List Nat) (x : Nat), out[i]? = some o → x ∈ o → ins[x]? = some i) {dn : List Bool} {pre : List (List Nat)} (hl : Pl n es out ins dn pre) {p : Nat} {c : List Nat} (hc : out[p]? = some c) :
  okP dn (waits es ins dn (List.replicate out.length false)) p = true ↔ ∀ i ∈ c, i ∉ pre.flatten ∧ Rdy n (qa6 es) pre i := by
 have hpl := (List.getElem?_eq_some_iff.1 hc).1
 obtain ⟨i0, t, e0, hi0, hmin, hscc⟩ := qj5 hP hc
 have hcn : ∀ x ∈ c, x < n := fun x h => (hP.all x).1 (List.mem_flatten.2 ⟨c, List.mem_of_getElem? hc, h⟩)
 have hin : ∀ e ∈ es, ins.getD e.f 0 < out.length := fun e he => by
  obtain ⟨c', h1, _⟩ := qrk hP hx (hE e he).1
  exact (List.getElem?_eq_some_iff.1 h1).1
 have hw := qqj ins dn p out.length hpl es (List.replicate out.length false) (by simp) hin
 rw [qzw _ _ hpl] at hw
 unfold okP
 rw [Bool.and_eq_true, Bool.not_eq_true', Bool.not_eq_true']
 constructor
 ·rintro ⟨h1, h2⟩
  have hnw : ¬ ∃ e ∈ es, ins.getD e.f 0 = p ∧ ins.getD e.f 0 ≠ ins.getD e.t 0 ∧ dn.getD (ins.getD e.t 0) true = false := fun h => by
   have := hw.2 (Or.inr h); rw [h2] at this; cases this
  have hnp : ∀ x ∈ c, x ∉ pre.flatten := fun x h g => by
   have := (hl.mem x (hcn x h)).1 g
   rw [qxm hx hc h, h1] at this; cases this
  -- the component and what is placed are closed
  have hcl : ∀ y, (y ∈ c ∨ y ∈ pre.flatten) → ∀ k ∈ qa6 es y, k ∈ c ∨ k ∈ pre.flatten := fun y hy k hk => by
   rcases hy with hy | hy
   ·obtain ⟨e, he, hef, het⟩ := qbt.1 hk
    have hkn : k < n := by rw [← het]; exact (hE e he).2
    by_cases hsame : ins.getD e.f 0 = ins.getD e.t 0
    ·left
     rw [hef, het, qxm hx hc hy] at hsame
     obtain ⟨c', h3, h4⟩ := qrk hP hx hkn
     rw [← hsame, hc] at h3
     cases h3
     exact h4
    ·right
     have : ¬ dn.getD (ins.getD e.t 0) true = false := fun g => hnw ⟨e, he, by rw [hef]; exact qxm hx hc hy, hsame, g⟩
     rw [het] at this
     exact (hl.mem k hkn).2 (by simpa using this)
   ·exact Or.inr (hl.cl y hy k hk)
  intro i hi
  refine ⟨hnp i hi, fun k hk hr => ?_⟩
  rcases Rc.closed (S := fun y => y ∈ c ∨ y ∈ pre.flatten) hcl hr (Or.inl hi) with g | g
  ·exact Or.inr (((hscc k).1 g).2.trans ((hscc i).1 hi).1)
  ·exact Or.inl g
 ·intro h
  obtain ⟨g1, g2⟩ := h i0 hi0
  constructor
  ·have : ¬ dn.getD (ins.getD i0 0) true = true := fun g => g1 ((hl.mem i0 (hcn i0 hi0)).2 g)
   rw [qxm hx hc hi0] at this
   simpa using this
  ·have : ¬ (waits es ins dn (List.replicate out.length false)).getD p true = true := fun g => by
    rcases hw.1 g with g | ⟨e, he, h1, h2, h3⟩
    ·cases g
    ·obtain ⟨c', h4, h5⟩ := qrk hP hx (hE e he).1
     rw [h1, hc] at h4
     cases h4
     obtain ⟨k1, k2⟩ := h e.f h5
     have ht := (hE e he).2
     have hr : Rc (qa6 es) e.f e.t := Rc.one (qbt.2 ⟨e, he, rfl, rfl⟩)
     rcases k2 e.t ht hr with g | g
     ·have := (hl.mem e.t ht).1 g
      rw [h3] at this; cases this
     ·have : e.t ∈ c := (hscc e.t).2 ⟨((hscc e.f).1 h5).1.trans hr, g.trans ((hscc e.f).1 h5).2⟩
      exact h2 (h1.trans (qxm hx hc this).symm)
   simpa using this
theorem qqy {m : Nat} {dn : List Bool} (h : qhm dn (waits es ins dn (List.replicate m false)) m = none) : ∀ k, rnds es ins m k dn = []
 | 0 => rfl
 | k + 1 => by rw [rnds, h]; exact qqy h k
theorem qve (hE : ∀ e ∈ es, e.f < n ∧ e.t < n) (hP : qc7 n (qa6 es) out) (ha : out.Pairwise fun a b => a.headD 0 < b.headD 0) (hx : ∀ (i : Nat) (o : List Nat) (x : Nat), out[i]? = some o → x ∈ o → ins[x]? = some i) :
  ∀ (k : Nat) (dn : List Bool) (pre : List (List Nat)), Pl n es out ins dn pre → (dn.count false) ≤ k → OrdF n (qa6 es) pre ((rnds es ins out.length k dn).map fun i => out.getD i [])
 | k, dn, pre, hl, hk => by
  have hadj : ∀ u, ∀ k ∈ qa6 es u, k < n := fun u k hk => by obtain ⟨e, he, _, rfl⟩ := qbt.1 hk; exact (hE e he).2
  have nxt : ∀ i, i < n → i ∉ pre.flatten → Rdy n (qa6 es) pre i → okP dn (waits es ins dn (List.replicate out.length false)) (ins.getD i 0) = true := fun i hi hn hr => by
   obtain ⟨c, h1, h2⟩ := qrk hP hx hi
   refine (q0h hE hP hx hl h1).2 fun y hy => ?_
   obtain ⟨i0, t, e0, hi0, hmin, hscc⟩ := qj5 hP h1
   have hyi : Rc (qa6 es) y i := ((hscc y).1 hy).2.trans ((hscc i).1 h2).1
   have hiy : Rc (qa6 es) i y := ((hscc i).1 h2).2.trans ((hscc y).1 hy).1
   refine ⟨fun g => ?_, fun z hz hrz => ?_⟩
   ·exact hn (Rc.closed (S := fun w => w ∈ pre.flatten) hl.cl hyi g)
   ·rcases hr z hz (hiy.trans hrz) with g | g
    ·exact Or.inl g
    ·exact Or.inr (g.trans hiy)
  cases hp : qhm dn (waits es ins dn (List.replicate out.length false)) out.length with
  | none =>
   rw [qqy hp]
   intro x hxn
   by_cases hm : x ∈ pre.flatten
   ·exact hm
   ·obtain ⟨i, h1, h2, h3⟩ := q99 hadj hxn hm
    have := nxt i h1 h2 h3
    obtain ⟨c, h4, _⟩ := qrk hP hx h1
    rw [qmv hp _ (List.getElem?_eq_some_iff.1 h4).1] at this
    cases this
  | some p =>
   obtain ⟨p1, p2, p3⟩ := qee hp
   have hdp : dn.getD p true = false := by unfold okP at p2; simp only [Bool.and_eq_true, Bool.not_eq_true'] at p2; exact p2.1
   have hpd : p < dn.length := by rw [hl.dl]; exact p1
   have hdp' : dn[p] = false := by rw [List.getD_eq_getElem?_getD, List.getElem?_eq_getElem hpd] at hdp; exact hdp
   cases k with
   | zero =>
    have : 0 < dn.count false := List.count_pos_iff.2 (by rw [← hdp']; exact List.getElem_mem _)
    omega
   | succ k =>
    have hc : out[p]? = some out[p] := by simp
    have hgd : out.getD p [] = out[p] := by rw [List.getD_eq_getElem?_getD, hc]; rfl
    rw [rnds, hp]
    show OrdF n (qa6 es) pre (out.getD p [] :: (rnds es ins out.length k (dn.set p true)).map fun i => out.getD i [])
    rw [hgd]
    obtain ⟨i0, t, e0, hi0, hmin, hscc⟩ := qj5 hP hc
    have hcn : ∀ x ∈ out[p], x < n := fun x h => (hP.all x).1 (List.mem_flatten.2 ⟨out[p], List.getElem_mem _, h⟩)
    have hr := (q0h hE hP hx hl hc).1 p2
    refine ⟨⟨i0, ⟨hcn i0 hi0, (hr i0 hi0).1, (hr i0 hi0).2, fun j hj hjn hjr => ?_⟩, (hP.scc _ (List.getElem_mem _)).1, fun x => ⟨fun h => ⟨hcn x h, (hscc x).1 h⟩, fun h => (hscc x).2 h.2⟩⟩, ?_⟩
    ·-- the least one
     have hjlt : j < n := by have := hcn i0 hi0; omega
     have hok := nxt j hjlt hjn hjr
     obtain ⟨c', h4, h5⟩ := qrk hP hx hjlt
     have hql := (List.getElem?_eq_some_iff.1 h4).1
     rcases Nat.lt_trichotomy (ins.getD j 0) p with g | g | g
     ·have := p3 _ g; rw [hok] at this; cases this
     ·rw [g, hc] at h4
      cases h4
      have := hmin j h5
      omega
     ·have h6 := List.pairwise_iff_getElem.1 ha p (ins.getD j 0) p1 hql g
      obtain ⟨i1, t1, e1, hi1, hmin1, _⟩ := qj5 hP h4
      have e2 : out[ins.getD j 0] = c' := by rw [List.getElem?_eq_getElem hql] at h4; exact Option.some.inj h4
      rw [e2, e1, e0] at h6
      have h6 : i0 < i1 := h6
      have := hmin1 j h5
      omega
    ·refine qve hE hP ha hx k (dn.set p true) (pre ++ [out[p]]) ⟨by rw [List.length_set]; exact hl.dl, fun x hxn => ?_, fun x h => ?_, fun x h y hy => ?_⟩ ?_
     ·rw [List.flatten_append, List.mem_append, hl.mem x hxn]
      have e3 : ([out[p]] : List (List Nat)).flatten = out[p] := by simp
      rw [e3, List.getD_eq_getElem?_getD (l := dn.set p true), List.getElem?_set]
      obtain ⟨c', h4, h5⟩ := qrk hP hx hxn
      by_cases e : p = ins.getD x 0
      ·rw [if_pos e, if_pos (by omega)]
       simp only [Option.getD_some, iff_true]
       rw [← e, hc] at h4
       cases h4
       exact Or.inr h5
      ·rw [if_neg e, ← List.getD_eq_getElem?_getD]
       exact ⟨fun h => h.resolve_right fun g => e (qxm hx hc g).symm, Or.inl⟩
     ·rw [List.flatten_append, List.mem_append] at h
      rcases h with h | h
      ·exact hl.lt x h
      ·exact hcn x (by simpa using h)
     ·rw [List.flatten_append, List.mem_append] at h ⊢
      rcases h with h | h
      ·exact Or.inl (hl.cl x h y hy)
      ·have hxc : x ∈ out[p] := by simpa using h
       have hyn := hadj x y hy
       rcases (hr x hxc).2 y hyn (Rc.one hy) with g | g
       ·exact Or.inl g
       ·right
        have : y ∈ out[p] := (hscc y).2 ⟨((hscc x).1 hxc).1.step hy, g.trans ((hscc x).1 hxc).2⟩
        simpa using this
     ·have := List.count_set (l := dn) (i := p) (a := true) (b := false) hpd
      have hpos : 0 < dn.count false := List.count_pos_iff.2 (by rw [← hdp']; exact List.getElem_mem _)
      simp [hdp'] at this
      omega
theorem qja.ord (hE : ∀ e ∈ es, e.f < n ∧ e.t < n) {res : List (List Nat)} (h : qja n es out ins res) : OrdF n (qa6 es) [] res := by
 rw [h.res]
 refine qve hE h.parts h.asc h.ix _ _ [] ⟨by simp, fun x hx => ?_, fun x h => by simp at h, fun x h => by simp at h⟩ ?_
 ·obtain ⟨c, h1, _⟩ := qrk h.parts h.ix hx
  rw [qzw _ _ (List.getElem?_eq_some_iff.1 h1).1]
  simp
 ·exact Nat.le_trans List.count_le_length (by simp)
end
end Go.Di
end
