/-
 For countersignlaw18.StrataKnown: contracts of the order. No conditions beyond those that each theorem states.
-/
import Derived.Test.YtiickhlaamgljaaGreatCompB
set_option linter.unusedSimpArgs false
set_option linter.unusedVariables false
open Nat (reduceAdd reduceMul reduceSub reduceLeDiff reduceEqDiff reduceShiftRight reduceAnd)
section
/-
 Contracts: components in the order of their least nodes.
-/
namespace Go.Di
open Go.Ev Go.Di.T Go.Sort
variable {C : Nat → Ev.Call} {LA LO : LP}
structure Cv where
 b : Nat
 q : Nat
 n : Nat
 m : Nat
 e : Bool
 o : List Nat
def Cv.v (c : Cv) : AV := .sl c.b c.q c.n c.m c.e
theorem Cv.ex : ∀ (cs : List AV) (out : List (List Nat)), cs.length = out.length → (∀ (i : Nat) (c : AV) (o : List Nat), cs[i]? = some c → out[i]? = some o → ∃ b q n m e, c = .sl b q n m e) → ∃ env : List Cv, env.map Cv.v = cs ∧ env.map Cv.o = out
 | [], [], _, _ => ⟨[], rfl, rfl⟩
 | [], _ :: _, h, _ => by simp at h
 | _ :: _, [], h, _ => by simp at h
 | c :: cs, o :: out, h, hp => by
  obtain ⟨env, h1, h2⟩ := Cv.ex cs out (by simpa using h) fun i c o g1 g2 => hp (i + 1) c o (by simpa using g1) (by simpa using g2)
  obtain ⟨b, q, n, m, e, rfl⟩ := hp 0 c o rfl rfl
  exact ⟨⟨b, q, n, m, e, o⟩ :: env, by simp [h1, Cv.v], by simp [h2]⟩
def hdI (l : List Nat) : Int := .ofNat (l.headD 0)
theorem qrl {H : Hp} : ∀ {l : List AV} {zs : List Int}, l.length = zs.length → (∀ i (h : i < l.length) (h' : i < zs.length), headA H l[i] = some zs[i]) → qlm H l = some zs
 | [], [], _, _ => rfl
 | [], _ :: _, h, _ => by simp at h
 | _ :: _, [], h, _ => by simp at h
 | v :: l, z :: zs, h, k => by
  unfold qlm
  have h1 : headA H v = some z := k 0 (by simp) (by simp)
  rw [h1, qrl (l := l) (zs := zs) (by simpa using h) fun i h h' => k (i + 1) (by simpa using h) (by simpa using h')]
theorem q46 {H : Hp} {b o n m : Nat} {x : Bool} {z : Int} (hn : 0 < n) (h : qa9 (H.get b) o = .val (.int .i64 z)) : headA H (.sl b o n m x) = some z := by
 unfold headA
 simp only [qgu, decide_eq_true hn, cond_true, h]
theorem qsn (zs : List Int) (h : 0 < zs.length) : (sortIx zs h).toList.Perm (List.finRange zs.length) ∧ (sortIx zs h).toList.Pairwise (fun i j => zs[i] ≤ zs[j]) := by
 letI : Inhabited (Fin zs.length) := ⟨⟨0, h⟩⟩
 have hO : SWO (ltIx zs) := {
  irrefl := fun x => by unfold ltIx; simp
  trans := fun x y z => by unfold ltIx; simp only [decide_eq_true_eq]; omega
  ntrans := fun x y z => by unfold ltIx; simp only [decide_eq_false_iff_not]; omega }
 have hz : (Array.finRange zs.length).size = zs.length := by simp
 obtain ⟨⟨h1, _, h3⟩, h4⟩ := pdq_sorts (ltIx zs) hO (Array.finRange zs.length) 0 (Array.finRange zs.length).size (Go.Lib.bitLen (Array.finRange zs.length).size) true true (Nat.zero_le _) (Nat.le_refl _) (Or.inl rfl)
 change (sortIx zs h).size = _ at h1
 change ((sortIx zs h).extract _ _).toList.Perm _ at h3
 change SortedIn _ _ _ (sortIx zs h) at h4
 refine ⟨?_, ?_⟩
 ·rw [show (sortIx zs h).extract 0 (Array.finRange zs.length).size = sortIx zs h by rw [← h1]; exact Array.extract_size, show (Array.finRange zs.length).extract 0 (Array.finRange zs.length).size = Array.finRange zs.length from Array.extract_size] at h3
  have he : (Array.finRange zs.length).toList = List.finRange zs.length := Array.toList_ofFn
  rwa [he] at h3
 ·rw [List.pairwise_iff_getElem]
  intro i j hi hj hij
  have hi' : i < (sortIx zs h).size := by simpa using hi
  have hj' : j < (sortIx zs h).size := by simpa using hj
  have := h4 i j (Nat.zero_le _) hij (by omega)
  rw [getElem!_pos _ i hi', getElem!_pos _ j hj'] at this
  unfold ltIx at this
  rw [decide_eq_false_iff_not] at this
  rw [Array.getElem_toList, Array.getElem_toList]
  omega
theorem q58 (hS : qcb C) {k : Nat} {H0 H : Hp} {v : AV} {cs : List AV} {out : List (List Nat)} (hL : LsOk H0 H v cs out) (hn : cs.length < 900000) (h1 : 1 ≤ cs.length) (hk : 1 ≤ k) (hne : ∀ o ∈ out, o ≠ [] ∧ ∀ x ∈ o, x < 1000) (hnd : out.flatten.Nodup) :
  Ok (C k (.f qbl) [v, .fn qg4 [] []] H) fun r H' => r = .tup [] ∧ ∃ cs' out', out'.Perm out ∧ out'.Pairwise (fun a b => a.headD 0 < b.headD 0) ∧ LsOk H0 H' v cs' out' ∧ (∀ c ∈ cs', c ∈ cs) ∧ Fm (In v) H H' := by
 obtain ⟨k, rfl⟩ : ∃ j, k = j + 1 := ⟨k - 1, by omega⟩
 obtain ⟨env, henv, heno⟩ := Cv.ex cs out hL.len fun i c o g1 g2 => (hL.at' i c o g1 g2).1
 have hel : env.length = cs.length := by rw [← henv, List.length_map]
 have hgl : ∀ c ∈ env, Gl 1 H c.v c.o.length (nats c.o) ∧ ∀ b, In c.v b → H0.nx ≤ b ∧ ¬ In v b := fun c hc => by
  obtain ⟨i, hi, rfl⟩ := List.getElem_of_mem hc
  exact (hL.at' i env[i].v env[i].o (by rw [← henv]; simp [hi]) (by rw [← heno]; simp [hi])).2
 have hno : ∀ c ∈ env, c.o ≠ [] ∧ ∀ x ∈ c.o, x < 1000 := fun c hc => hne c.o (by rw [← heno]; exact List.mem_map.2 ⟨c, hc, rfl⟩)
 rcases hL.gl.is with ⟨_, h0⟩ | ⟨b, o, e, q, L, rfl, g1, g2, g3, g4, g5⟩
 ·omega
 have hLl : L.length = o + cs.length := by
  have := congrArg List.length g3
  rw [List.length_drop] at this
  omega
 let zs : List Int := env.map fun c => hdI c.o
 have hzl : zs.length = env.length := by simp [zs]
 have hpos : 0 < zs.length := by omega
 have hzs : ∀ i (h : i < zs.length), zs[i] = hdI (env[i]'(by omega)).o := fun i h => by simp [zs]
 have hOk : HdOk zs := ⟨hpos, by omega, fun z hz => by
  obtain ⟨c, hc, rfl⟩ := List.mem_map.1 hz
  obtain ⟨x1, x2⟩ := hno c hc
  unfold hdI
  cases ho : c.o with
  | nil => exact absurd ho x1
  | cons a l =>
   rw [ho] at x2
   have := x2 a List.mem_cons_self
   simp only [List.headD_cons, Int.ofNat_eq_natCast]
   omega⟩
 have hhd : qlm (H.put b .dead) cs = some zs := qrl (by omega) fun i h h' => by
  have hm : env[i]'(by omega) ∈ env := List.getElem_mem _
  obtain ⟨k1, k2⟩ := hgl _ hm
  obtain ⟨x1, _⟩ := hno _ hm
  have hci : cs[i] = (env[i]'(by omega)).v := by simp [← henv]
  rw [hci, hzs i h']
  generalize env[i]'(by omega) = c at k1 k2 x1
  unfold hdI
  cases ho : c.o with
  | nil => exact absurd ho x1
  | cons a l =>
   rw [ho] at k1
   obtain ⟨b1, o1, e1, _, e2, e3⟩ := Gl.head k1
   unfold Cv.v at e1 k2 ⊢
   have hcn : c.n = l.length + 1 := by
    have h2 := k1.lenV
    unfold Cv.v at h2
    have h3 : R0.val (.int .i64 (.ofNat c.n)) = R0.val (.int .i64 (.ofNat (a :: l).length)) := h2
    have h4 : (c.n : Int) = l.length + 1 := by simpa using h3
    omega
   rw [qfc _ _ _ _ _ _ _ _ (by omega)] at e1
   simp only [R0.val.injEq, AV.ptr.injEq] at e1
   obtain ⟨rfl, rfl⟩ := e1
   have hcb : c.b ≠ b := fun e' => (k2 c.b ⟨_, _, _, _, rfl⟩).2 ⟨_, _, _, _, by rw [e']⟩
   refine q46 (by omega) ?_
   rw [qai _ _ _ _ hcb]
   simpa using e3
 let ix : Fin zs.length → Cv := fun i => env[i.1]'(by have := i.2; omega)
 obtain ⟨hp, hs⟩ := qsn zs hpos
 have hpe : ((sortIx zs hpos).toList.map ix).Perm env := by
  have h1 := hp.map ix
  have h2 : (List.finRange zs.length).map ix = env := by
   apply List.ext_getElem
   ·simp [hzl]
   ·intro i h1 h2; simp [ix]
  rwa [h2] at h1
 have hV : ((sortIx zs hpos).toList.map fun i : Fin zs.length => cs.getD i.1 .undef) = ((sortIx zs hpos).toList.map ix).map Cv.v := by
  rw [List.map_map]
  refine List.map_congr_left fun i _ => ?_
  have hi := i.2
  rw [List.getD_eq_getElem?_getD, List.getElem?_eq_getElem (by omega)]
  simp [← henv, ix]
 have hsi : ((sortIx zs hpos).toList.map ix).Pairwise fun a b => hdI a.o ≤ hdI b.o := by
  rw [List.pairwise_map]
  refine hs.imp fun {i j} h => ?_
  rw [Fin.getElem_fin, Fin.getElem_fin, hzs, hzs] at h
  exact h
 have hsz : (sortIx zs hpos).size = zs.length := by have := hp.length_eq; simpa using this
 generalize hR : (sortIx zs hpos).toList.map ix = R at hpe hV hsi
 have hlen : (R.map Cv.v).length = cs.length := by rw [List.length_map, hpe.length_eq, hel]
 have hst : storeAt H b o (R.map Cv.v) (.tup []) = .ok (.tup []) (H.put b (qaa q (setL L o (R.map Cv.v)))) := qcd _ _ _ _ _ _ _ g1 (by omega)
 have hr : qjf H b o cs.length = some (.ok (.tup []) (H.put b (qaa q (setL L o (R.map Cv.v))))) := by
  unfold qjf
  rw [g1, qcv, if_pos (by omega), g3, List.take_of_length_le (Nat.le_refl _)]
  simp only [hhd, dif_pos hOk, hV, hst]
  rw [hsz, Nat.beq_refl]; rfl
 rw [(hS k).srtF _ _ _ _ _ _ _ hr]
 have hset : setL L o (R.map Cv.v) = L.take o ++ R.map Cv.v := by
  unfold setL
  rw [List.drop_eq_nil_of_le (by omega), List.append_nil]
 have hpo : (R.map Cv.o).Perm out := by have := hpe.map Cv.o; rwa [heno] at this
 have hF : Fm (In (.sl b o cs.length cs.length e)) H (H.put b (qaa q (setL L o (R.map Cv.v)))) := (Fm.refl _ _).put _ _ fun _ => ⟨_, _, _, _, rfl⟩
 have ho : (L.take o).length = o := by rw [List.length_take]; omega
 refine Ok.ret ⟨rfl, R.map Cv.v, R.map Cv.o, hpo, ?_, ⟨?_, by simp, hL.new, fun i c o' h2 h3 => ?_⟩, fun c hc => ?_, hF⟩
 ·have hnd' : (R.map Cv.o).flatten.Nodup := (hpo.flatten).nodup_iff.2 hnd
  have hne' : ∀ l ∈ R.map Cv.o, l ≠ [] := fun l hl => (hne l (hpo.mem_iff.1 hl)).1
  have hs' : (R.map Cv.o).Pairwise fun a b => a.headD 0 ≤ b.headD 0 := by
   rw [List.pairwise_map]
   refine hsi.imp fun {x y} h => ?_
   unfold hdI at h
   simp only [Int.ofNat_eq_natCast] at h
   omega
  generalize R.map Cv.o = out' at hnd' hne' hs'
  clear hpo
  induction out' with
  | nil => exact List.Pairwise.nil
  | cons a l ih =>
   rw [List.pairwise_cons] at hs' ⊢
   rw [List.flatten_cons, List.nodup_append] at hnd'
   refine ⟨fun c hc => ?_, ih hnd'.2.1 (fun l hl => hne' l (List.mem_cons_of_mem _ hl)) hs'.2⟩
   refine Nat.lt_of_le_of_ne (hs'.1 c hc) fun e => ?_
   have ha := hne' a List.mem_cons_self
   have hc' := hne' c (List.mem_cons_of_mem _ hc)
   cases a with
   | nil => exact ha rfl
   | cons x a =>
    cases c with
    | nil => exact hc' rfl
    | cons y c =>
     have e : x = y := e
     exact hnd'.2.2 x List.mem_cons_self y (List.mem_flatten.2 ⟨y :: c, hc, List.mem_cons_self⟩) e
 ·rw [hset, hlen]
  refine ⟨by rw [hlen, Nat.mul_one], .inr ⟨b, o, e, q, _, rfl, qac _ _ _, ?_, ?_, g4, Nat.lt_of_lt_of_le g5 hF.nx⟩⟩
  ·rw [List.length_append, ho]; omega
  ·rw [List.drop_append_of_le_length (by omega), List.drop_eq_nil_of_le (by omega), List.nil_append]
 ·have hi : i < R.length := by
   have := (List.getElem?_eq_some_iff.1 h2).1
   simpa using this
  have hc : c = (R[i]).v := by
   rw [List.getElem?_map, List.getElem?_eq_getElem hi] at h2
   exact (Option.some.inj h2).symm
  have ho' : o' = (R[i]).o := by
   rw [List.getElem?_map, List.getElem?_eq_getElem hi] at h3
   exact (Option.some.inj h3).symm
  have hm : R[i] ∈ env := hpe.mem_iff.1 (List.getElem_mem _)
  subst hc; subst ho'
  obtain ⟨q1, q2⟩ := hgl _ hm
  exact ⟨⟨_, _, _, _, _, rfl⟩, q1.fm hF fun b' hb' h => (q2 b' hb').2 h, q2⟩
 ·obtain ⟨x, hx, rfl⟩ := List.mem_map.1 hc
  rw [← henv]
  exact List.mem_map.2 ⟨x, hpe.mem_iff.1 hx, rfl⟩
end Go.Di
end
section
/-
 Contracts: of each node the number of its component.
-/
namespace Go.Di
open Go.Ev Go.Di.T Go.Sort
variable {C : Nat → Ev.Call} {LA LO : LP}
theorem q59 (hS : qcb C) {k : Nat} (hk : 5 ≤ k) {n : Nat} {v : AV} {H : Hp} {l : List AV} (hv : Gl 1 H v n l) (h0 : n = 0) (H : Hp) : C k (.f qbl) [v, .fn qg4 [] []] H = .ok (.tup []) H := by
 obtain ⟨k, rfl⟩ : ∃ j, k = j + 1 := ⟨k - 1, by omega⟩
 rcases hv.is with ⟨rfl, _⟩ | ⟨b, o, e, q, L, rfl, _⟩
 ·exact (hS k).srtN H
 ·subst h0; exact (hS k).srt0 _ _ _ _ H
def fill (ins : List Nat) (o : List Nat) (i : Nat) : List Nat := o.foldl (fun a x => a.set x i) ins
def qd5 : List Nat → List (List Nat) → Nat → List Nat
 | ins, [], _ => ins
 | ins, o :: r, i => qd5 (fill ins o i) r (i + 1)
theorem qe7 (i : Nat) : ∀ (o ins : List Nat), (fill ins o i).length = ins.length
 | [], ins => rfl
 | x :: o, ins => by show (fill (ins.set x i) o i).length = _; rw [qe7 i o, List.length_set]
theorem qlr : ∀ (out : List (List Nat)) (ins : List Nat) (i : Nat), (qd5 ins out i).length = ins.length
 | [], _, _ => rfl
 | o :: r, ins, i => by rw [qd5, qlr r, qe7]
theorem qj2 (i : Nat) : ∀ (o ins : List Nat) (x : Nat), x < ins.length → (fill ins o i)[x]? = if x ∈ o then some i else ins[x]?
 | [], ins, x, h => by simp [fill]
 | y :: o, ins, x, h => by
  show (fill (ins.set y i) o i)[x]? = _
  rw [qj2 i o _ x (by rw [List.length_set]; exact h)]
  by_cases hx : x ∈ o
  ·simp [hx]
  ·by_cases e : x = y
   ·subst e; simp [hx, h]
   ·have : ¬ y = x := fun h => e h.symm
    simp [hx, e, List.getElem?_set, this]
theorem qls : ∀ (out : List (List Nat)) (ins : List Nat) (i0 i x : Nat) (o : List Nat), out.flatten.Nodup → out[i]? = some o → x ∈ o → x < ins.length → (qd5 ins out i0)[x]? = some (i0 + i)
 | [], _, _, _, _, _, _, h, _, _ => by simp at h
 | o' :: r, ins, i0, 0, x, o, hn, h, hx, hl => by
  simp at h
  subst h
  have key : ∀ (r : List (List Nat)) (ins : List Nat) (i : Nat), x < ins.length → x ∉ r.flatten → (qd5 ins r i)[x]? = ins[x]? := fun r => by
   induction r with
   | nil => intros; rfl
   | cons o r ih =>
    intro ins i hl hx
    rw [List.flatten_cons, List.mem_append, not_or] at hx
    rw [qd5, ih _ _ (by rw [qe7]; exact hl) hx.2, qj2 i o ins x hl, if_neg hx.1]
  rw [qd5, key r _ _ (by rw [qe7]; exact hl) ?_, qj2 _ _ _ _ hl, if_pos hx, Nat.add_zero]
  intro h2
  rw [List.flatten_cons, List.nodup_append] at hn
  exact hn.2.2 x hx x h2 rfl
 | o' :: r, ins, i0, i + 1, x, o, hn, h, hx, hl => by
  rw [List.flatten_cons, List.nodup_append] at hn
  rw [qd5, qls r _ (i0 + 1) i x o hn.2.1 (by simpa using h) hx (by rw [qe7]; exact hl)]
  congr 1
  omega
theorem q1x {call : Ev.Call} {c : AV} {o : List Nat} {ib nb n i : Nat} {H1 : Hp} (hc : Rl H1 c (nats o)) (hcb : ∀ j b q, j < o.length → idxS 1 c (.int .i64 (.ofNat j)) = .val (.ptr b q) → b ≠ nb) (hol : o.length < 900000) (ho : ∀ x ∈ o, x < n) (hib : H1.get ib = qaa 0 [.sl nb 0 n n true]) (hin : ib ≠ nb) (hil : ib < H1.nx) {q : Hp → R1} {Q : AV → Hp → Prop} {fin : List Nat}
  (hq : ∀ H, H.get nb = qaa 0 (nats fin) → Fm (fun b => b = nb) H1 H → Ok (q H) Q) :
  ∀ (k j : Nat) (ins : List Nat) (H : Hp), o.length - j < k → j ≤ o.length → ins.length = n → H.get nb = qaa 0 (nats ins) → Fm (fun b => b = nb) H1 H → fill ins (o.drop j) i = fin →
   Ok (qgf call q (.ptr ib 0) (.int .i64 (.ofNat i)) c (.int .i64 (.ofNat o.length)) k (.int .i64 (.ofNat j)) H) Q
 | 0, j, ins, H, h, _, _, _, _, _ => by omega
 | k + 1, j, ins, H, h, hj, hl, hg, hF, hf => by
  show Ok (qp0 call _ _ _ _ _ (qgf call _ _ _ _ _ k) _ H) Q
  unfold qp0
  by_cases hjl : j < o.length
  ·obtain ⟨b, q', e1, e2, e3⟩ := hc.at' j (by rw [qaw]; exact hjl)
   rw [qe2] at e3
   have e4 : H.get b = H1.get b := hF.get b e2 (hcb j b q' hjl e1)
   have e5 : H.get ib = qaa 0 [.sl nb 0 n n true] := (hF.get ib hil hin).trans hib
   have hx : o[j] < n := ho _ (List.getElem_mem _)
   have hnl : (nats ins).length = n := by rw [qaw]; exact hl
   simp (disch := first | omega | exact ti rfl | (simp only [np, nq]; first | done | omega)) only [go_sem, reduceAdd, reduceMul, reduceSub, reduceLeDiff, reduceEqDiff, reduceShiftRight, reduceAnd, hjl]
   unfold qpy
   have hle : o[j] + 1 ≤ ins.length := by omega
   simp (disch := first | omega | exact ti rfl | (simp only [np, nq]; first | done | omega)) only [go_sem, reduceAdd, reduceMul, reduceSub, reduceLeDiff, reduceEqDiff, reduceShiftRight, reduceAnd, e1, e4, e3, e5, hg, Nat.mul_one, Nat.zero_add, List.length_cons, List.length_nil, qaw, hle, if_true]
   unfold qpz
   simp (disch := first | omega | exact ti rfl | (simp only [np, nq]; first | done | omega)) only [go_sem, reduceAdd, reduceMul, reduceSub, reduceLeDiff, reduceEqDiff, reduceShiftRight, reduceAnd]
   have hd : o.drop j = o[j] :: o.drop (j + 1) := List.drop_eq_getElem_cons hjl
   rw [qon _ _ _ (by omega)]
   refine q1x hc hcb hol ho hib hin hil hq k (j + 1) (ins.set o[j] i) _ (by omega) (by omega) (by rw [List.length_set]; exact hl) (qac _ _ _) (hF.put _ _ fun _ => rfl) ?_
   rw [hd] at hf
   exact hf
  ·simp (disch := first | omega | exact ti rfl | (simp only [np, nq]; first | done | omega)) only [go_sem, reduceAdd, reduceMul, reduceSub, reduceLeDiff, reduceEqDiff, reduceShiftRight, reduceAnd, hjl]
   have : j = o.length := by omega
   subst this
   rw [List.drop_length] at hf
   subst hf
   exact hq H hg hF
end Go.Di
end
section
/-
 Contracts: the components are made ready.
-/
namespace Go.Di
open Go.Ev Go.Di.T Go.Sort
variable {C : Nat → Ev.Call} {LA LO : LP}
theorem LsOk.fmS {H0 H H' : Hp} {v : AV} {cs : List AV} {out : List (List Nat)} (h : LsOk H0 H v cs out) {S : Nat → Prop} (f : Fm S H H') (hs : ∀ b, H0.nx ≤ b → b < H.nx → ¬ S b) : LsOk H0 H' v cs out :=
 ⟨h.gl.keep f.nx fun b hb hlt => f.get b hlt (hs b (h.new b hb) hlt), h.len, h.new, fun i c o h1 h2 => by
  obtain ⟨g1, g2, g3⟩ := h.at' i c o h1 h2
  exact ⟨g1, g2.keep f.nx fun b hb hlt => f.get b hlt (hs b (g3 b hb).1 hlt), g3⟩⟩
theorem LsOk.no {H0 H H' : Hp} {v : AV} {cs : List AV} {out : List (List Nat)} (h : LsOk H0 H v cs out) (f : Fm No H H') : LsOk H0 H' v cs out := h.fmS f fun _ _ _ h => h
theorem qv4 {call : Ev.Call} {v : AV} {cs : List AV} {out : List (List Nat)} {ib nb n : Nat} {H0 H1 : Hp} (hL : LsOk H0 H1 v cs out) (hnb : H1.nx ≤ nb + 2) (hnb2 : ∀ b, H0.nx ≤ b → b < H1.nx → b ≠ nb → True)
  (hv : ∀ b, In v b → b ≠ nb) (hcn : ∀ (i : Nat) (c : AV) (b : Nat), cs[i]? = some c → In c b → b ≠ nb) (hol : ∀ o ∈ out, o.length < 900000 ∧ ∀ x ∈ o, x < n) (hcl : out.length < 900000) (hib : H1.get ib = qaa 0 [.sl nb 0 n n true]) (hin : ib ≠ nb) (hil : ib < H1.nx)
  {q : Hp → R1} {Q : AV → Hp → Prop} {fin : List Nat} (hq : ∀ H, H.get nb = qaa 0 (nats fin) → Fm (fun b => b = nb) H1 H → Ok (q H) Q) :
  ∀ (k i : Nat) (ins : List Nat) (H : Hp), out.length - i < k → i ≤ out.length → ins.length = n → H.get nb = qaa 0 (nats ins) → Fm (fun b => b = nb) H1 H → qd5 ins (out.drop i) i = fin →
   Ok (qcr call q (.ptr ib 0) v (.int .i64 (.ofNat out.length)) k (.int .i64 (.ofNat i)) H) Q
 | 0, i, ins, H, h, _, _, _, _, _ => by omega
 | k + 1, i, ins, H, h, hi, hl, hg, hF, hf => by
  show Ok (qp1 call _ _ _ _ (qcr call _ _ _ _ k) _ H) Q
  unfold qp1
  have hlen := hL.len
  by_cases hil2 : i < out.length
  ·simp (disch := first | omega | exact ti rfl | (simp only [np, nq]; first | done | omega)) only [go_sem, reduceAdd, reduceMul, reduceSub, reduceLeDiff, reduceEqDiff, reduceShiftRight, reduceAnd, hil2]
   unfold qpx
   have hic : i < cs.length := by omega
   have hgl : Gl 1 H v cs.length cs := hL.gl.fm hF fun b hb => hv b hb
   obtain ⟨b, q', e1, _, _, e2⟩ := hgl.at (i := i) (x := cs[i]) (by simp)
   obtain ⟨⟨cb, cq, cn, cm, ce, hce⟩, g2, g3⟩ := hL.at' i cs[i] out[i] (by simp) (by simp)
   have hg2 : Gl 1 H cs[i] out[i].length (nats out[i]) := g2.fm hF fun b hb => hcn i cs[i] b (by simp) hb
   have hl2 := hg2.lenV
   obtain ⟨ho1, ho2⟩ := hol out[i] (List.getElem_mem _)
   simp (disch := first | omega | exact ti rfl | (simp only [np, nq]; first | done | omega)) only [go_sem, reduceAdd, reduceMul, reduceSub, reduceLeDiff, reduceEqDiff, reduceShiftRight, reduceAnd, e1, e2, hl2]
   unfold qp2
   rw [qas]
   have hib' : H.get ib = qaa 0 [.sl nb 0 n n true] := (hF.get ib hil hin).trans hib
   have hd : out.drop i = out[i] :: out.drop (i + 1) := List.drop_eq_getElem_cons hil2
   refine q1x (H1 := H) hg2.rl (fun j b q hj e => hcn i cs[i] b (by simp) (hg2.idx_in hj e)) ho1 ho2 hib' hin (Nat.lt_of_lt_of_le hil hF.nx) (fin := fill ins out[i] i) (fun H2 k1 k2 => ?_) qao 0 ins H (by rw [qal]; omega) (Nat.zero_le _) hl hg (Fm.refl _ _) rfl
   unfold qfa
   simp (disch := first | omega | exact ti rfl | (simp only [np, nq]; first | done | omega)) only [go_sem, reduceAdd, reduceMul, reduceSub, reduceLeDiff, reduceEqDiff, reduceShiftRight, reduceAnd]
   refine qv4 hL hnb hnb2 hv hcn hol hcl hib hin hil hq k (i + 1) (fill ins out[i] i) H2 (by omega) (by omega) (by rw [qe7]; exact hl) k1 (hF.trans k2) ?_
   rw [hd] at hf
   exact hf
  ·simp (disch := first | omega | exact ti rfl | (simp only [np, nq]; first | done | omega)) only [go_sem, reduceAdd, reduceMul, reduceSub, reduceLeDiff, reduceEqDiff, reduceShiftRight, reduceAnd, hil2]
   have : i = out.length := by omega
   subst this
   rw [List.drop_length] at hf
   have hf : ins = fin := hf
   subst hf
   exact hq H hg hF
theorem qoo (n : Nat) : List.replicate n (AV.int .i64 (.ofNat 0)) = nats (List.replicate n 0) := by simp [nats]
structure RdyS (H0 H : Hp) (n : Nat) (gv v : AV) (cs : List AV) (out : List (List Nat)) (ins : List Nat) (lb gb ib wb : Nat) : Prop where
 l : H.get lb = qaa 0 [v]
 g : H.get gb = qaa 0 [.int .i64 (.ofNat n), gv]
 i : H.get ib = qaa 0 [.sl wb 0 n n true]
 w : H.get wb = qaa 0 (nats ins)
 lt : lb < H.nx ∧ gb < H.nx ∧ ib < H.nx ∧ wb < H.nx
 ls : LsOk H0 H v cs out
 il : ins.length = n
 ix : ∀ (i : Nat) (o : List Nat) (x : Nat), out[i]? = some o → x ∈ o → ins[x]? = some i
theorem q4e (hC : qbe C) (hS : qcb C) {k : Nat} (hk : 920 ≤ k) {n : Nat} {gv v : AV} {H0 H : Hp} {cs : List AV} {out : List (List Nat)} (hL : LsOk H0 H v cs out) (hH : H0.nx ≤ H.nx) (hn : n ≤ 256) (hco : out.length ≤ 256) (hx : ∀ o ∈ out, o ≠ [] ∧ o.length ≤ 256 ∧ ∀ x ∈ o, x < n) (hnd : out.flatten.Nodup) :
  Ok (C k (.f qo5) [.agg [.int .i64 (.ofNat n), gv], v] H) fun r H' => ∃ lb gb ib wb cs' out' ins, r = .fn qft [] [.ptr lb 0, .ptr gb 0, .ptr ib 0] ∧ out'.Perm out ∧ out'.Pairwise (fun a b => a.headD 0 < b.headD 0) ∧
   RdyS H0 H' n gv v cs' out' ins lb gb ib wb ∧ (∀ c ∈ cs', c ∈ cs) ∧ Fm (In v) H H' ∧ (H.nx ≤ lb ∧ H.nx ≤ gb ∧ H.nx ≤ ib ∧ H.nx ≤ wb) := by
 obtain ⟨j, rfl⟩ : ∃ j, k = j + 1 := ⟨k - 1, by omega⟩
 rw [(hC j).cRdy]
 unfold cRdy q2y
 have hlen := hL.len
 have hvs : ∃ H2, boxA 2 H.nx (.agg [.int .i64 (.ofNat n), gv]) = .new (.ptr H.nx 0) (qaa 0 [.int .i64 (.ofNat n), gv]) ∧ H2 = qan H (qaa 0 [.int .i64 (.ofNat n), gv]) := ⟨_, rfl, rfl⟩
 -- the slice is nil or not: its box
 have hb1 : ∀ nm, box1 nm v = .new (.ptr nm 0) (qaa 0 [v]) := fun nm => by
  rcases hL.gl.is with ⟨rfl, _⟩ | ⟨b, o, e, q, L, rfl, _⟩ <;> rfl
 simp (disch := first | omega | exact ti rfl | (simp only [np, nq]; first | done | omega)) only [go_sem, reduceAdd, reduceMul, reduceSub, reduceLeDiff, reduceEqDiff, reduceShiftRight, reduceAnd, hb1]
 generalize hH2 : qan (qan H (qaa 0 [.int .i64 (.ofNat n), gv])) (qaa 0 [v]) = H2
 have n2 : H2.nx = H.nx + 2 := by rw [← hH2]; rfl
 have f2 : Fm No H H2 := by rw [← hH2]; exact ((Fm.refl _ _).push _).push _
 have g2 : H2.get H.nx = qaa 0 [.int .i64 (.ofNat n), gv] := by rw [← hH2, qbd _ _ _ (by rw [np]; omega), qak]
 have l2 : H2.get (H.nx + 1) = qaa 0 [v] := by rw [← hH2]; exact qak _ _
 have hvlt : ∀ b, In v b → b < H.nx := fun b hb => hL.gl.lt hb
 have sorted : Ok (C j (.f qbl) [v, .fn qg4 [] []] H2) fun r H' => r = .tup [] ∧ ∃ cs' out', out'.Perm out ∧ out'.Pairwise (fun a b => a.headD 0 < b.headD 0) ∧ LsOk H0 H' v cs' out' ∧ (∀ c ∈ cs', c ∈ cs) ∧ Fm (In v) H2 H' := by
  rcases Nat.eq_zero_or_pos cs.length with h0 | h0
  ·rw [q59 hS (by omega) hL.gl h0]
   have : out = [] := List.length_eq_zero_iff.1 (by omega)
   subst this
   exact Ok.ret ⟨rfl, cs, [], List.Perm.refl _, List.Pairwise.nil, hL.no f2, fun _ h => h, Fm.refl _ _⟩
  ·exact q58 hS (hL.no f2) (by omega) h0 (by omega) (fun o ho => ⟨(hx o ho).1, fun x h => by have := (hx o ho).2.2 x h; omega⟩) hnd
 refine Ok.ve sorted ?_
 rintro r H3 ⟨rfl, cs', out', hp, hs, hL3, hcc, f3⟩
 have n3 := f3.nx
 have f23 : Fm (In v) H H3 := (f2.mono fun _ _ h => h.elim).trans f3
 have g3 : H3.get H.nx = qaa 0 [.int .i64 (.ofNat n), gv] := (f3.get _ (by omega) fun hb => Nat.lt_irrefl _ (hvlt _ hb)).trans g2
 have l3 : H3.get (H.nx + 1) = qaa 0 [v] := (f3.get _ (by omega) fun hb => by have := hvlt _ hb; omega).trans l2
 have hvl := hL3.gl.lenV
 have hlen' := hL3.len
 have hol : out'.length = out.length := hp.length_eq
 rw [hlen'] at hvl
 have mk := qfp [.int .i64 (.ofNat 0)] 8 H3.nx n (by omega) (by omega)
 rw [qds, qoo] at mk
 simp (disch := first | omega | exact ti rfl | (simp only [np, nq]; first | done | omega)) only [go_sem, reduceAdd, reduceMul, reduceSub, reduceLeDiff, reduceEqDiff, reduceShiftRight, reduceAnd, g3, l3, mk, hvl]
 generalize hH4 : (qan (qan H3 (qaa 0 (nats (List.replicate n 0)))) (qaa 0 [.nilsl])).put (H3.nx + 1) (qaa 0 [.sl H3.nx 0 n n true]) = H4
 have n4 : H4.nx = H3.nx + 2 := by rw [← hH4]; rfl
 have f4 : Fm No H3 H4 := by rw [← hH4]; exact (((Fm.refl _ _).push _).push _).put_new _ _ (by omega)
 have i4 : H4.get (H3.nx + 1) = qaa 0 [.sl H3.nx 0 n n true] := by rw [← hH4, qac]
 have a4 : H4.get H3.nx = qaa 0 (nats (List.replicate n 0)) := by rw [← hH4, qai _ _ _ _ (by omega), qbd _ _ _ (by rw [np]; omega), qak]
 have hl4 : H4.get (H.nx + 1) = qaa 0 [v] := (f4.keep (by omega)).trans l3
 unfold qp3
 rw [qas]
 have hL4 := hL3.no f4
 refine qv4 (n := n) hL4 (by omega) (fun _ _ _ _ => trivial) (fun b hb => by have := hL3.gl.lt hb; omega) (fun i c b hc hb => ?_) (fun o ho => ?_) (by omega) i4 (by omega) (by omega) (fun H5 k1 k2 => ?_) qao 0 (List.replicate n 0) H4 (by rw [qal]; omega) (Nat.zero_le _) (by simp) a4 (Fm.refl _ _) rfl
 ·have hi := (List.getElem?_eq_some_iff.1 hc).1
  obtain ⟨_, h2, _⟩ := hL3.at' i c out'[i] hc (by simp)
  have := h2.lt hb
  omega
 ·have := hx o (hp.mem_iff.1 ho)
  exact ⟨by omega, this.2.2⟩
 ·unfold qdl
  have n5 := k2.nx
  refine Ok.ret ⟨H.nx + 1, H.nx, H3.nx + 1, H3.nx, cs', out', qd5 (List.replicate n 0) (out'.drop 0) 0, rfl, hp, hs, ⟨?_, ?_, ?_, k1, ⟨by omega, by omega, by omega, by omega⟩, ?_, ?_, ?_⟩, hcc, ?_, by omega, by omega, by omega, by omega⟩
  ·exact (k2.get _ (by omega) (by omega)).trans hl4
  ·exact (k2.get _ (by omega) (by omega)).trans ((f4.keep (by omega)).trans g3)
  ·exact (k2.get _ (by omega) (by omega)).trans i4
  ·exact hL3.fmS (((f4.mono fun _ _ h => h.elim : Fm (fun b => b = H3.nx) H3 H4)).trans k2) fun b _ hlt => by omega
  ·rw [qlr, List.length_replicate]
  ·intro i o x h1 h2
   have hm : o ∈ out' := List.mem_of_getElem? h1
   have := qls out' (List.replicate n 0) 0 i x o (hp.flatten.nodup_iff.2 hnd) h1 h2 (by rw [List.length_replicate]; exact (hx o (hp.mem_iff.1 hm)).2.2 x h2)
   rw [List.drop_zero, this, Nat.zero_add]
  ·exact f23.then ((f4.mono fun _ _ h => h.elim : Fm (fun b => b = H3.nx) H3 H4).trans k2) fun c hc h => by omega
end Go.Di
end
section
/-
 Contracts: which components wait.
-/
namespace Go.Di
open Go.Ev Go.Di.T Go.Sort
variable {C : Nat → Ev.Call} {LA LO : LP}
def bools (l : List Bool) : List AV := l.map .bool
theorem qwd (l : List Bool) : (bools l).length = l.length := by simp [bools]
theorem q3g (l : List Bool) (i : Nat) (h : i < l.length) : (bools l)[i]? = some (.bool l[i]) := by simp [bools, h]
theorem qi8 (l : List Bool) (i : Nat) (d : Bool) (h : i < l.length) : (bools l)[i]? = some (.bool (l.getD i d)) := by
 rw [q3g l i h]
 simp [h]
theorem qr4 (l : List Bool) (i : Nat) (b : Bool) (h : i < l.length) : setL (bools l) i [.bool b] = bools (l.set i b) := by
 unfold setL bools
 rw [List.map_set, List.set_eq_take_append_cons_drop, if_pos (by simpa using h)]
 simp
structure RS (D : Nat → Prop) (H : Hp) (n : Nat) (gv : AV) (es : List Edge) (v : AV) (cs : List AV) (ins : List Nat) (lb gb ib wb : Nat) : Prop where
 l : H.get lb = qaa 0 [v]
 g : H.get gb = qaa 0 [.int .i64 (.ofNat n), gv]
 i : H.get ib = qaa 0 [.sl wb 0 n n true]
 w : H.get wb = qaa 0 (nats ins)
 gl : Gl 1 H v cs.length cs
 e : IsE H gv es
 lt : lb < H.nx ∧ gb < H.nx ∧ ib < H.nx ∧ wb < H.nx
 dl : D lb
 dg : D gb
 di : D ib
 dw : D wb
 dv : ∀ b, In v b → D b
 de : ∀ b, In gv b → D b
def RB (gv v : AV) (lb gb ib wb b : Nat) : Prop := b = lb ∨ b = gb ∨ b = ib ∨ b = wb ∨ In v b ∨ In gv b
theorem RS.rb {D : Nat → Prop} {H : Hp} {n : Nat} {gv : AV} {es : List Edge} {v : AV} {cs : List AV} {ins : List Nat} {lb gb ib wb : Nat} (h : RS D H n gv es v cs ins lb gb ib wb) {b : Nat} (hb : RB gv v lb gb ib wb b) : D b := by
 rcases hb with rfl | rfl | rfl | rfl | hb | hb
 ·exact h.dl
 ·exact h.dg
 ·exact h.di
 ·exact h.dw
 ·exact h.dv b hb
 ·exact h.de b hb
theorem RS.keep {D : Nat → Prop} {H H' : Hp} {n : Nat} {gv : AV} {es : List Edge} {v : AV} {cs : List AV} {ins : List Nat} {lb gb ib wb : Nat} (h : RS D H n gv es v cs ins lb gb ib wb) {S : Nat → Prop} (f : Fm S H H') (hs : ∀ b, RB gv v lb gb ib wb b → ¬ S b) : RS D H' n gv es v cs ins lb gb ib wb := by
 obtain ⟨l1, l2, l3, l4⟩ := h.lt
 have hn := f.nx
 exact ⟨(f.get _ l1 (hs _ (Or.inl rfl))).trans h.l, (f.get _ l2 (hs _ (Or.inr (Or.inl rfl)))).trans h.g, (f.get _ l3 (hs _ (Or.inr (Or.inr (Or.inl rfl))))).trans h.i, (f.get _ l4 (hs _ (Or.inr (Or.inr (Or.inr (Or.inl rfl)))))).trans h.w,
  h.gl.keep hn fun b hb hlt => f.get b hlt (hs b (Or.inr (Or.inr (Or.inr (Or.inr (Or.inl hb)))))), h.e.keep hn fun b hb hlt => f.get b hlt (hs b (Or.inr (Or.inr (Or.inr (Or.inr (Or.inr hb)))))), ⟨by omega, by omega, by omega, by omega⟩, h.dl, h.dg, h.di, h.dw, h.dv, h.de⟩
theorem RS.no {D : Nat → Prop} {H H' : Hp} {n : Nat} {gv : AV} {es : List Edge} {v : AV} {cs : List AV} {ins : List Nat} {lb gb ib wb : Nat} (h : RS D H n gv es v cs ins lb gb ib wb) (f : Fm No H H') : RS D H' n gv es v cs ins lb gb ib wb := h.keep f fun _ _ h => h
def qfe (ins : List Nat) (dn : List Bool) (w : List Bool) (e : Edge) : List Bool :=
 if ins.getD e.f 0 ≠ ins.getD e.t 0 ∧ dn.getD (ins.getD e.t 0) true = false then w.set (ins.getD e.f 0) true else w
def waits (es : List Edge) (ins : List Nat) (dn : List Bool) (w : List Bool) : List Bool := es.foldl (qfe ins dn) w
theorem qqi (ins : List Nat) (dn : List Bool) : ∀ (es : List Edge) (w : List Bool), (waits es ins dn w).length = w.length
 | [], w => rfl
 | e :: es, w => by
  show (waits es ins dn (qfe ins dn w e)).length = _
  rw [qqi ins dn es]
  unfold qfe
  split
  ·rw [List.length_set]
  ·rfl
theorem qqk {call : Ev.Call} {D : Nat → Prop} {n : Nat} {gv : AV} {es : List Edge} {v : AV} {cs : List AV} {ins : List Nat} {lb gb ib wb db tb m : Nat} {dn : List Bool} {H1 : Hp} (hR : RS D H1 n gv es v cs ins lb gb ib wb)
  (hlen : es.length < 200000) (hil : ins.length = n) (hE : ∀ e ∈ es, e.f < n ∧ e.t < n) (hin : ∀ x < n, ins.getD x 0 < m) (hdl : dn.length = m) (hdb : H1.get db = qaa 0 (bools dn)) (hdlt : db < H1.nx) (htb : H1.nx ≤ tb) {q : Hp → R1} {Q : AV → Hp → Prop} {fin : List Bool}
  (hq : ∀ H, H.get tb = qaa 0 (bools fin) → Fm No H1 H → tb < H.nx → Ok (q H) Q) :
  ∀ (k i : Nat) (w : List Bool) (H : Hp), es.length - i < k → i ≤ es.length → w.length = m → H.get tb = qaa 0 (bools w) → Fm No H1 H → tb < H.nx → waits (es.drop i) ins dn w = fin →
   Ok (qes call q (.ptr ib 0) (.sl db 0 m m true) (.sl tb 0 m m true) gv (.int .i64 (.ofNat es.length)) k (.int .i64 (.ofNat i)) H) Q
 | 0, i, w, H, h, _, _, _, _, _, _ => by omega
 | k + 1, i, w, H, h, hi, hw, ht, hF, hlt, hf => by
  show Ok (qoe call _ _ _ _ _ _ (qes call _ _ _ _ _ _ k) _ H) Q
  unfold qoe
  by_cases hie : i < es.length
  ·simp (disch := first | omega | exact ti rfl | (simp only [np, nq]; first | done | omega)) only [go_sem, reduceAdd, reduceMul, reduceSub, reduceLeDiff, reduceEqDiff, reduceShiftRight, reduceAnd, hie]
   unfold qoc
   have hR' := hR.no hF
   obtain ⟨b, o, e1, e2, e3⟩ := hR'.e.at hie
   obtain ⟨hf1, ht1⟩ := hE es[i] (List.getElem_mem _)
   have hgf : (nats ins)[es[i].f]? = some (.int .i64 (.ofNat (ins.getD es[i].f 0))) := by rw [qop _ _ (by omega), List.getD_eq_getElem?_getD, List.getElem?_eq_getElem (by omega)]; rfl
   have hgt : (nats ins)[es[i].t]? = some (.int .i64 (.ofNat (ins.getD es[i].t 0))) := by rw [qop _ _ (by omega), List.getD_eq_getElem?_getD, List.getElem?_eq_getElem (by omega)]; rfl
   have ha := hin _ hf1
   have hb := hin _ ht1
   have hdg : (bools dn)[ins.getD es[i].t 0]? = some (.bool (dn.getD (ins.getD es[i].t 0) true)) := qi8 _ _ _ (by omega)
   have hdrop : es.drop i = es[i] :: es.drop (i + 1) := List.drop_eq_getElem_cons hie
   rw [hdrop] at hf
   have hf : waits (es.drop (i + 1)) ins dn (qfe ins dn w es[i]) = fin := hf
   obtain ⟨l1, l2, l3, l4⟩ := hR'.lt
   have hwi := hR'.i
   have hww := hR'.w
   have hn1 := hF.nx
   have hdb' : H.get db = qaa 0 (bools dn) := (hF.keep hdlt).trans hdb
   generalize ha' : ins.getD es[i].f 0 = a at *
   generalize hb' : ins.getD es[i].t 0 = c at *
   have goOn : ∀ (w' : List Bool) (H' : Hp), qfe ins dn w es[i] = w' → H'.get tb = qaa 0 (bools w') → Fm No H1 H' → tb < H'.nx → Ok (qhj call (qes call q (.ptr ib 0) (.sl db 0 m m true) (.sl tb 0 m m true) gv (.int .i64 (.ofNat es.length)) k) (.int .i64 (.ofNat i)) H') Q := fun w' H' h1 h2 h3 h4 => by
    unfold qhj
    simp (disch := first | omega | exact ti rfl | (simp only [np, nq]; first | done | omega)) only [go_sem, reduceAdd, reduceMul, reduceSub, reduceLeDiff, reduceEqDiff, reduceShiftRight, reduceAnd]
    refine qqk hR hlen hil hE hin hdl hdb hdlt htb hq k (i + 1) w' H' (by omega) (by omega) ?_ h2 h3 h4 (by rw [h1] at hf; exact hf)
    rw [← h1]
    unfold qfe
    split
    ·rw [List.length_set]; exact hw
    ·exact hw
   have fA : Fm No H ((qan H (qaa 0 [.int .i64 (.ofNat 0), .int .i64 (.ofNat 0), .bool false])).put H.nx (qaa 0 [.int .i64 (.ofNat es[i].f), .int .i64 (.ofNat es[i].t), .bool es[i].s])) := by (repeat (first | exact Fm.refl _ _ | assumption | refine Fm.push ?_ _ | refine Fm.up2 ?_ (by (first | omega | (simp only [np, nq]; omega))) | refine Fm.put_new ?_ _ _ (by (first | omega | (simp only [np, nq]; omega)))))
   have ht2 : ((qan H (qaa 0 [.int .i64 (.ofNat 0), .int .i64 (.ofNat 0), .bool false])).put H.nx (qaa 0 [.int .i64 (.ofNat es[i].f), .int .i64 (.ofNat es[i].t), .bool es[i].s])).get tb = qaa 0 (bools w) := (fA.keep hlt).trans ht
   by_cases hac : a = c
   ·have hw' : qfe ins dn w es[i] = w := by
     unfold qfe
     rw [ha', hb', if_neg (by simp [hac])]
    simp (disch := first | omega | exact ti rfl | (simp only [np, nq]; first | done | omega)) only [go_sem, reduceAdd, reduceMul, reduceSub, reduceLeDiff, reduceEqDiff, reduceShiftRight, reduceAnd, e1, e3, Edge.cells, hwi, hww, hgf, hgt, hac, Nat.mul_one, Nat.zero_add, List.length_cons, List.length_nil]
    exact goOn w _ hw' ht2 (hF.trans fA) (by show tb < H.nx + 1; omega)
   ·cases hd : dn.getD c true with
    | true =>
     have hw' : qfe ins dn w es[i] = w := by
      unfold qfe
      rw [ha', hb', hd, if_neg (by simp)]
     rw [hd] at hdg
     simp (disch := first | omega | exact ti rfl | (simp only [np, nq]; first | done | omega)) only [go_sem, reduceAdd, reduceMul, reduceSub, reduceLeDiff, reduceEqDiff, reduceShiftRight, reduceAnd, e1, e3, Edge.cells, hwi, hww, hgf, hgt, hac, hdb', hdg, Nat.mul_one, Nat.zero_add, List.length_cons, List.length_nil]
     exact goOn w _ hw' ht2 (hF.trans fA) (by show tb < H.nx + 1; omega)
    | false =>
     have hw' : qfe ins dn w es[i] = w.set a true := by
      unfold qfe
      rw [ha', hb', hd, if_pos ⟨hac, rfl⟩]
     rw [hd] at hdg
     have hle : a + 1 ≤ w.length := by omega
     simp (disch := first | omega | exact ti rfl | (simp only [np, nq]; first | done | omega)) only [go_sem, reduceAdd, reduceMul, reduceSub, reduceLeDiff, reduceEqDiff, reduceShiftRight, reduceAnd, e1, e3, Edge.cells, hwi, hww, hgf, hgt, hac, hdb', hdg, ht2, Nat.mul_one, Nat.zero_add, List.length_cons, List.length_nil, qwd, hle, if_true]
     rw [qr4 _ _ _ (by omega)]
     exact goOn (w.set a true) _ hw' (qac _ _ _) ((hF.trans fA).put_new _ _ (by omega)) (by show tb < H.nx + 1; omega)
  ·simp (disch := first | omega | exact ti rfl | (simp only [np, nq]; first | done | omega)) only [go_sem, reduceAdd, reduceMul, reduceSub, reduceLeDiff, reduceEqDiff, reduceShiftRight, reduceAnd, hie]
   have : i = es.length := by omega
   subst this
   rw [List.drop_length] at hf
   have hf : w = fin := hf
   subst hf
   exact hq H ht hF hlt
end Go.Di
end
section
/-
 Contracts: components are yielded in order.
-/
namespace Go.Di
open Go.Ev Go.Di.T Go.Sort
variable {C : Nat → Ev.Call} {LA LO : LP}
def okP (dn w : List Bool) (i : Nat) : Bool := !dn.getD i true && !w.getD i true
def qhm (dn w : List Bool) (m : Nat) : Option Nat := (List.range m).find? (okP dn w)
def rnds (es : List Edge) (ins : List Nat) (m : Nat) : Nat → List Bool → List Nat
 | 0, _ => []
 | k + 1, dn => match qhm dn (waits es ins dn (List.replicate m false)) m with
  | none => rnds es ins m k dn
  | some i => i :: rnds es ins m k (dn.set i true)
theorem qmv {dn w : List Bool} {m : Nat} (h : qhm dn w m = none) : ∀ j, j < m → okP dn w j = false := fun j hj => by
 have := List.find?_eq_none.1 h j (List.mem_range.2 hj)
 simpa using this
theorem qee {dn w : List Bool} {m i : Nat} (h : qhm dn w m = some i) : i < m ∧ okP dn w i = true ∧ ∀ j, j < i → okP dn w j = false := by
 have h1 := List.find?_some h
 have h2 := List.mem_of_find?_eq_some h
 rw [List.mem_range] at h2
 refine ⟨h2, h1, fun j hj => ?_⟩
 unfold qhm at h
 rw [List.find?_eq_some_iff_append] at h
 obtain ⟨_, as, bs, e, hn⟩ := h
 have hm : j ∈ as := by
  have hjr : j ∈ List.range m := List.mem_range.2 (by omega)
  rw [e] at hjr
  rcases List.mem_append.1 hjr with g | g
  ·exact g
  ·have hs : (List.range m).Pairwise (· < ·) := List.pairwise_lt_range
   rw [e, List.pairwise_append, List.pairwise_cons] at hs
   rcases List.mem_cons.1 g with g | g
   ·omega
   ·have := hs.2.1.1 j g; omega
 simpa using hn j hm
structure YI (C0 : Ev.Call) (y bs : Nat) (cs : List AV) (ord : List Nat) (Inv : Nat → (Nat → Prop) → Hp → Prop) : Prop where
 ext : ∀ t D D' H H', Inv t D H → Fm (fun b => D b ∧ bs ≤ b) H H' → (∀ b, D' b → D b ∨ (H.nx ≤ b ∧ b < H'.nx)) → Inv t D' H'
 step : ∀ t i c D H, ord[t]? = some i → cs[i]? = some c → Inv t D H → Ok (C0 (.y y) [c] H) fun r H' => r = .bool true ∧ Inv (t + 1) D H' ∧ Fm (fun b => ¬ D b) H H'
theorem qqt {C0 : Ev.Call} {y bs : Nat} {ord : List Nat} {Inv : Nat → (Nat → Prop) → Hp → Prop} {D : Nat → Prop} {n : Nat} {gv : AV} {es : List Edge} {v : AV} {cs : List AV} {ins : List Nat} {lb gb ib wb db tb m t : Nat} {dn w : List Bool} (hY : YI C0 y bs cs ord Inv) (hm : m = cs.length) (hml : m < 900000) (hdl : dn.length = m) (hwl : w.length = m) (hdD : D db) (hbs : bs ≤ db) (hdne : db ≠ lb)
  {q14r q14e : Hp → R1} {Q : AV → Hp → Prop} {H : Hp} (hR : RS D H n gv es v cs ins lb gb ib wb) (hdv : ∀ b, In v b → b ≠ db) (hdb : H.get db = qaa 0 (bools dn)) (hdlt : db < H.nx) (htb : H.get tb = qaa 0 (bools w)) (hI : Inv t D H)
  (hnone : qhm dn w m = none → Ok (q14e H) Q) (hsome : ∀ p H', qhm dn w m = some p → ord[t]? = some p → H'.get db = qaa 0 (bools (dn.set p true)) → Inv (t + 1) D H' → Fm (fun b => ¬ D b ∨ b = db) H H' → Ok (q14e H') Q)
  (hord : ∀ p, qhm dn w m = some p → ord[t]? = some p) :
  ∀ (k i : Nat), m - i < k → i ≤ m → (∀ j, j < i → okP dn w j = false) →
   Ok (qet C0 q14r q14e (.yield y) (.ptr lb 0) (.sl db 0 m m true) (.sl tb 0 m m true) (.int .i64 (.ofNat m)) k (.int .i64 (.ofNat i)) H) Q
 | 0, i, h, _, _ => by omega
 | k + 1, i, h, hi, hj => by
  show Ok (qof C0 _ _ _ _ _ _ _ (qet C0 _ _ _ _ _ _ _ k) _ H) Q
  unfold qof
  by_cases him : i < m
  ·have hgo : okP dn w i = false → Ok (qjt C0 (qet C0 q14r q14e (.yield y) (.ptr lb 0) (.sl db 0 m m true) (.sl tb 0 m m true) (.int .i64 (.ofNat m)) k) (.int .i64 (.ofNat i)) H) Q := fun hok => by
    unfold qjt
    simp (disch := first | omega | exact ti rfl | (simp only [np, nq]; first | done | omega)) only [go_sem, reduceAdd, reduceMul, reduceSub, reduceLeDiff, reduceEqDiff, reduceShiftRight, reduceAnd]
    exact qqt hY hm hml hdl hwl hdD hbs hdne hR hdv hdb hdlt htb hI hnone hsome hord k (i + 1) (by omega) (by omega) fun j hj' => by
     by_cases e : j = i
     ·rw [e]; exact hok
     ·exact hj j (by omega)
   have gd := qi8 dn i true (by omega)
   have gw := qi8 w i true (by omega)
   simp (disch := first | omega | exact ti rfl | (simp only [np, nq]; first | done | omega)) only [go_sem, reduceAdd, reduceMul, reduceSub, reduceLeDiff, reduceEqDiff, reduceShiftRight, reduceAnd, him]
   unfold qod
   cases hd : dn.getD i true with
   | true =>
    rw [hd] at gd
    simp (disch := first | omega | exact ti rfl | (simp only [np, nq]; first | done | omega)) only [go_sem, reduceAdd, reduceMul, reduceSub, reduceLeDiff, reduceEqDiff, reduceShiftRight, reduceAnd, hdb, gd, Nat.mul_one, Nat.zero_add]
    exact hgo (by unfold okP; rw [hd]; rfl)
   | false =>
    rw [hd] at gd
    cases hw : w.getD i true with
    | true =>
     rw [hw] at gw
     simp (disch := first | omega | exact ti rfl | (simp only [np, nq]; first | done | omega)) only [go_sem, reduceAdd, reduceMul, reduceSub, reduceLeDiff, reduceEqDiff, reduceShiftRight, reduceAnd, hdb, gd, htb, gw, Nat.mul_one, Nat.zero_add]
     exact hgo (by unfold okP; rw [hd, hw]; rfl)
    | false =>
     rw [hw] at gw
     have hok : okP dn w i = true := by unfold okP; rw [hd, hw]; rfl
     have hp : qhm dn w m = some i := by
      cases hpk : qhm dn w m with
      | none => have := qmv hpk i him; rw [hok] at this; cases this
      | some p =>
       obtain ⟨p1, p2, p3⟩ := qee hpk
       rcases Nat.lt_trichotomy p i with g | g | g
       ·have := hj p g; rw [p2] at this; cases this
       ·rw [g]
       ·have := p3 i g; rw [hok] at this; cases this
     have hle : i + 1 ≤ dn.length := by omega
     have hll : (H.put db (qaa 0 (bools (dn.set i true)))).get lb = qaa 0 [v] := by rw [qai _ _ _ _ (Ne.symm hdne)]; exact hR.l
     have hgl : Gl 1 (H.put db (qaa 0 (bools (dn.set i true)))) v cs.length cs := hR.gl.keep (Nat.le_refl _) fun b hb _ => qai _ _ _ _ (hdv b hb)
     obtain ⟨b, o, e1, _, _, e2⟩ := hgl.at (i := i) (x := cs[i]'(by omega)) (by simp)
     have fd : Fm (fun b => b = db) H (H.put db (qaa 0 (bools (dn.set i true)))) := (Fm.refl _ _).put _ _ fun _ => rfl
     have hI2 : Inv t D (H.put db (qaa 0 (bools (dn.set i true)))) := hY.ext t D D _ _ hI (fd.mono fun b _ h => by subst h; exact ⟨hdD, hbs⟩) fun b h => Or.inl h
     simp (disch := first | omega | exact ti rfl | (simp only [np, nq]; first | done | omega)) only [go_sem, reduceAdd, reduceMul, reduceSub, reduceLeDiff, reduceEqDiff, reduceShiftRight, reduceAnd, hdb, gd, htb, gw, Nat.mul_one, Nat.zero_add, List.length_cons, List.length_nil, qwd, hle, if_true]
     rw [qr4 _ _ _ (by omega)]
     have hl0 := hR.l
     simp (disch := first | omega | exact ti rfl | (simp only [np, nq]; first | done | omega)) only [go_sem, reduceAdd, reduceMul, reduceSub, reduceLeDiff, reduceEqDiff, reduceShiftRight, reduceAnd, hll, hl0, e1, e2, q2w]
     refine Ok.ve (hY.step t i (cs[i]'(by omega)) D _ (hord i hp) (List.getElem?_eq_getElem (by omega)) hI2) ?_
     rintro r H' ⟨rfl, hI3, f3⟩
     simp (disch := first | omega | exact ti rfl | (simp only [np, nq]; first | done | omega)) only [go_sem, reduceAdd, reduceMul, reduceSub, reduceLeDiff, reduceEqDiff, reduceShiftRight, reduceAnd]
     refine hsome i H' hp (hord i hp) ?_ hI3 ((fd.mono fun _ _ h => Or.inr h).trans (f3.mono fun _ _ h => Or.inl h))
     rw [f3.get db hdlt fun h => h hdD, qac]
  ·simp (disch := first | omega | exact ti rfl | (simp only [np, nq]; first | done | omega)) only [go_sem, reduceAdd, reduceMul, reduceSub, reduceLeDiff, reduceEqDiff, reduceShiftRight, reduceAnd, him]
   have : i = m := by omega
   subst this
   cases hp : qhm dn w i with
   | none => exact hnone hp
   | some p =>
    obtain ⟨p1, p2, p3⟩ := qee hp
    have := hj p p1; rw [p2] at this; cases this
theorem qr5 (m : Nat) : List.replicate m (AV.bool false) = bools (List.replicate m false) := by simp [bools]
theorem qic {C0 : Ev.Call} {y bs : Nat} {ord : List Nat} {Inv : Nat → (Nat → Prop) → Hp → Prop} {D : Nat → Prop} {n : Nat} {gv : AV} {es : List Edge} {v : AV} {cs : List AV} {ins : List Nat} {lb gb ib wb db m : Nat} (hY : YI C0 y bs cs ord Inv) (hm : m = cs.length) (hml : m < 900000) (hdD : D db) (hbs : bs ≤ db)
  (hdne : db ≠ lb ∧ db ≠ gb ∧ db ≠ ib ∧ db ≠ wb) (hdv : ∀ b, In v b → b ≠ db) (hdg : ∀ b, In gv b → b ≠ db) (hlen : es.length < 200000) (hil : ins.length = n) (hE : ∀ e ∈ es, e.f < n ∧ e.t < n) (hin : ∀ x < n, ins.getD x 0 < m) {q5r q5e : Hp → R1} {Q : AV → Hp → Prop}
  (hq : ∀ H, Inv ord.length D H → Ok (q5e H) Q) :
  ∀ (k c t : Nat) (dn : List Bool) (H : Hp), m - c < k → c ≤ m → dn.length = m → RS D H n gv es v cs ins lb gb ib wb → H.get db = qaa 0 (bools dn) → db < H.nx → Inv t D H → t ≤ ord.length → ord.drop t = rnds es ins m (m - c) dn →
   Ok (qbx C0 q5r q5e (.yield y) (.ptr lb 0) (.ptr gb 0) (.ptr ib 0) (.sl db 0 m m true) (.int .i64 (.ofNat m)) k (.int .i64 (.ofNat c)) H) Q
 | 0, c, t, dn, H, h, _, _, _, _, _, _, _, _ => by omega
 | k + 1, c, t, dn, H, h, hc, hdl, hR, hdb, hdlt, hI, ht, ho => by
  show Ok (qs7 C0 _ _ _ _ _ _ _ _ (qbx C0 _ _ _ _ _ _ _ _ k) _ H) Q
  unfold qs7
  by_cases hcm : c < m
  ·simp (disch := first | omega | exact ti rfl | (simp only [np, nq]; first | done | omega)) only [go_sem, reduceAdd, reduceMul, reduceSub, reduceLeDiff, reduceEqDiff, reduceShiftRight, reduceAnd, hcm]
   unfold qob
   have e1 := hR.l
   have e2 := hR.gl.lenV
   rw [← hm] at e2
   have e3 := hR.g
   have e4 := hR.e.len
   have mk := qfp [.bool false] 1 H.nx m (by omega) (by omega)
   rw [qds, qr5] at mk
   obtain ⟨l1, l2, l3, l4⟩ := hR.lt
   have fH : Fm No H (qan H (qaa 0 (bools (List.replicate m false)))) := (Fm.refl _ _).push _
   have e3' : (qan H (qaa 0 (bools (List.replicate m false)))).get gb = qaa 0 [.int .i64 (.ofNat n), gv] := (fH.keep l2).trans e3
   simp (disch := first | omega | exact ti rfl | (simp only [np, nq]; first | done | omega)) only [go_sem, reduceAdd, reduceMul, reduceSub, reduceLeDiff, reduceEqDiff, reduceShiftRight, reduceAnd, e1, e2, mk, e3', e4]
   unfold qog
   rw [qas]
   refine qqk hR hlen hil hE hin hdl hdb hdlt (tb := H.nx) (Nat.le_refl _) (fin := waits es ins dn (List.replicate m false)) (fun H2 g1 g2 g3 => ?_) qao 0 (List.replicate m false) _ (by rw [qal]; omega) (Nat.zero_le _) (by simp) (qak _ _) fH (Nat.lt_succ_self _) rfl
   unfold qev
   have f2 : Fm No H H2 := g2
   have hR2 := hR.no f2
   have e5 := hR2.l
   simp (disch := first | omega | exact ti rfl | (simp only [np, nq]; first | done | omega)) only [go_sem, reduceAdd, reduceMul, reduceSub, reduceLeDiff, reduceEqDiff, reduceShiftRight, reduceAnd, e5, e2]
   unfold qoh
   rw [qas]
   have hI2 : Inv t D H2 := hY.ext t D D _ _ hI (f2.mono fun _ _ h => h.elim) fun b h => Or.inl h
   have hmc : m - c = (m - (c + 1)) + 1 := by omega
   rw [hmc, rnds] at ho
   refine qqt hY hm hml hdl (by rw [qqi]; simp) hdD hbs hdne.1 hR2 hdv ((f2.keep hdlt).trans hdb) (Nat.lt_of_lt_of_le hdlt f2.nx) g1 hI2 (fun hp => ?_) (fun p H3 hp hop k1 k2 k3 => ?_) (fun p hp => ?_) qao 0 (by rw [qal]; omega) (Nat.zero_le _) fun j hj => absurd hj (Nat.not_lt_zero _)
   ·unfold qeu
    simp (disch := first | omega | exact ti rfl | (simp only [np, nq]; first | done | omega)) only [go_sem, reduceAdd, reduceMul, reduceSub, reduceLeDiff, reduceEqDiff, reduceShiftRight, reduceAnd]
    rw [hp] at ho
    exact qic hY hm hml hdD hbs hdne hdv hdg hlen hil hE hin hq k (c + 1) t dn H2 (by omega) (by omega) hdl hR2 ((f2.keep hdlt).trans hdb) (Nat.lt_of_lt_of_le hdlt f2.nx) hI2 ht ho
   ·unfold qeu
    simp (disch := first | omega | exact ti rfl | (simp only [np, nq]; first | done | omega)) only [go_sem, reduceAdd, reduceMul, reduceSub, reduceLeDiff, reduceEqDiff, reduceShiftRight, reduceAnd]
    rw [hp] at ho
    have hlt : t < ord.length := (List.getElem?_eq_some_iff.1 hop).1
    have ho' : ord.drop (t + 1) = rnds es ins m (m - (c + 1)) (dn.set p true) := by
     rw [List.drop_eq_getElem_cons hlt] at ho
     exact (List.cons.inj ho).2
    refine qic hY hm hml hdD hbs hdne hdv hdg hlen hil hE hin hq k (c + 1) (t + 1) (dn.set p true) H3 (by omega) (by omega) (by rw [List.length_set]; exact hdl) (hR2.keep k3 ?_) k1 (Nat.lt_of_lt_of_le hdlt (Nat.le_trans f2.nx k3.nx)) k2 hlt ho'
    rintro b hb (h | h)
    ·exact h (hR2.rb hb)
    ·subst h
     rcases hb with e | e | e | e | e | e
     ·exact hdne.1 e
     ·exact hdne.2.1 e
     ·exact hdne.2.2.1 e
     ·exact hdne.2.2.2 e
     ·exact hdv _ e rfl
     ·exact hdg _ e rfl
   ·rw [hp] at ho
    have h0 : (ord.drop t)[0]? = some p := by rw [ho]; rfl
    rwa [List.getElem?_drop, Nat.add_zero] at h0
  ·simp (disch := first | omega | exact ti rfl | (simp only [np, nq]; first | done | omega)) only [go_sem, reduceAdd, reduceMul, reduceSub, reduceLeDiff, reduceEqDiff, reduceShiftRight, reduceAnd, hcm]
   have : c = m := by omega
   subst this
   rw [Nat.sub_self] at ho
   have h0 : ord.drop t = [] := ho
   have : ord.length ≤ t := List.drop_eq_nil_iff.1 h0
   have : t = ord.length := by omega
   subst this
   exact hq H hI
theorem qzx (hC : qbe C) {k : Nat} (hk : 1 ≤ k) {y bs : Nat} {ord : List Nat} {Inv : Nat → (Nat → Prop) → Hp → Prop} {n : Nat} {gv : AV} {es : List Edge} {v : AV} {cs : List AV} {ins : List Nat} {lb gb ib wb : Nat} {D : Nat → Prop} {H : Hp} (hY : YI (C (k - 1)) y bs cs ord Inv) (hml : cs.length < 900000)
  (hR : RS D H n gv es v cs ins lb gb ib wb) (hbs : bs ≤ H.nx) (hlen : es.length < 200000) (hil : ins.length = n) (hE : ∀ e ∈ es, e.f < n ∧ e.t < n) (hin : ∀ x < n, ins.getD x 0 < cs.length) (ho : ord = rnds es ins cs.length cs.length (List.replicate cs.length false)) (hI : Inv 0 D H) :
  Ok (C k (.f qft) [.yield y, .ptr lb 0, .ptr gb 0, .ptr ib 0] H) fun r H' => r = .tup [] ∧ ∃ D', Inv ord.length D' H' := by
 obtain ⟨j, rfl⟩ : ∃ j, k = j + 1 := ⟨k - 1, by omega⟩
 rw [(hC j).rdyB]
 unfold rdyB qzz
 have e1 := hR.l
 have e2 := hR.gl.lenV
 obtain ⟨l1, l2, l3, l4⟩ := hR.lt
 have mk := qfp [.bool false] 1 H.nx cs.length (by omega) (by omega)
 rw [qds, qr5] at mk
 have fH : Fm No H (qan H (qaa 0 (bools (List.replicate cs.length false)))) := (Fm.refl _ _).push _
 have e1' : (qan H (qaa 0 (bools (List.replicate cs.length false)))).get lb = qaa 0 [v] := (fH.keep l1).trans e1
 simp (disch := first | omega | exact ti rfl | (simp only [np, nq]; first | done | omega)) only [go_sem, reduceAdd, reduceMul, reduceSub, reduceLeDiff, reduceEqDiff, reduceShiftRight, reduceAnd, e1, e2, mk, e1']
 unfold qs8
 rw [qas]
 have hR1 := hR.no fH
 have hR2 : RS (fun b => D b ∨ b = H.nx) (qan H (qaa 0 (bools (List.replicate cs.length false)))) n gv es v cs ins lb gb ib wb :=
  ⟨hR1.l, hR1.g, hR1.i, hR1.w, hR1.gl, hR1.e, hR1.lt, Or.inl hR1.dl, Or.inl hR1.dg, Or.inl hR1.di, Or.inl hR1.dw, fun b h => Or.inl (hR1.dv b h), fun b h => Or.inl (hR1.de b h)⟩
 refine qic (D := fun b => D b ∨ b = H.nx) hY rfl hml (Or.inr rfl) hbs ⟨by omega, by omega, by omega, by omega⟩ (fun b hb e => by have := hR.gl.lt hb; omega) (fun b hb e => by have := hR.e.lt hb; omega) hlen hil hE hin (fun H' h => Ok.ret ⟨rfl, _, h⟩) qao 0 0 (List.replicate cs.length false) _ (by rw [qal]; omega) (Nat.zero_le _) (by simp) hR2 (qak _ _) (Nat.lt_succ_self _) (hY.ext 0 D _ _ _ hI (fH.mono fun _ _ h => h.elim) fun b h => h.imp id fun e => ⟨by omega, by rw [np]; omega⟩) (Nat.zero_le _) ?_
 rw [Nat.sub_zero, List.drop_zero]
 exact ho
end Go.Di
end
section
/-
 Contracts: a round of the loop over the components, in comps.Of.
-/
namespace Go.Di
open Go.Ev Go.Di.T Go.Sort
variable {C : Nat → Ev.Call} {LA LO : LP}
def InOk (HB H : Hp) (iv : AV) (nb n l ob : Nat) (ins : List Nat) (D : Nat → Prop) : Prop :=
 (n = 0 ∧ iv = .nilsl) ∨ (iv = .sl nb 0 n n true ∧ H.get nb = qaa 0 (nats ins) ∧ HB.nx ≤ nb ∧ nb < l ∧ ¬ D nb ∧ nb ≠ ob)
structure OI (LO : LP) (HB : Hp) (L : TT AV 2) (l ob nb x2 n : Nat) (iv : AV) (cs : List AV) (out : List (List Nat)) (ord : List Nat) (t : Nat) (D : Nat → Prop) (H : Hp) : Prop where
 fm : Fm No HB H
 dlt : ∀ b, D b → b < H.nx
 lp : H.get l = LO.blk true L
 hl : HB.nx ≤ l ∧ l < H.nx ∧ ¬ D l
 ho : HB.nx ≤ ob ∧ ob < l ∧ ¬ D ob
 rc : H.get x2 = qaa 0 [.nilsl, .nilsl] ∧ x2 < l ∧ ¬ D x2 ∧ x2 ≠ ob ∧ x2 ≠ nb
 ins : ∃ ins2 : List Nat, ins2.length = n ∧ InOk HB H iv nb n l ob ins2 D ∧ ∀ (j i : Nat) (o : List Nat) (x : Nat), j < t → ord[j]? = some i → out[i]? = some o → x ∈ o → ins2[x]? = some j
 lv : ∃ (lv : AV) (os : List AV), H.get ob = qaa 0 [lv, iv] ∧ Gl 1 H lv t os ∧ (∀ b, In lv b → l < b ∧ ¬ D b) ∧ ∀ (j : Nat) (w : AV), os[j]? = some w → ∃ i o, ord[j]? = some i ∧ out[i]? = some o ∧ Gl 1 H w o.length (nats o) ∧ capV w = .val (.int .i64 (.ofNat o.length)) ∧ ∀ b, In w b → HB.nx ≤ b ∧ ¬ D b ∧ b < l ∧ b ≠ ob ∧ b ≠ nb ∧ b ≠ x2
 cs : ∀ (i : Nat) (c : AV) (o : List Nat), cs[i]? = some c → out[i]? = some o → Gl 1 H c o.length (nats o) ∧ ∀ b, In c b → HB.nx ≤ b ∧ ¬ D b ∧ b < l ∧ b ≠ ob ∧ b ≠ nb ∧ b ≠ x2
theorem OI.ext {HB : Hp} {L : TT AV 2} {l ob nb x2 n : Nat} {iv : AV} {cs : List AV} {out : List (List Nat)} {ord : List Nat} {t : Nat} {D D' : Nat → Prop} {H H' : Hp} (h : OI LO HB L l ob nb x2 n iv cs out ord t D H) (f : Fm (fun b => D b ∧ HB.nx ≤ b) H H') (hD : ∀ b, D' b → D b ∨ (H.nx ≤ b ∧ b < H'.nx)) :
  OI LO HB L l ob nb x2 n iv cs out ord t D' H' := by
 obtain ⟨l1, l2, l3⟩ := h.hl
 obtain ⟨o1, o2, o3⟩ := h.ho
 obtain ⟨x1', x3, x4, x5⟩ := h.rc
 have nD : ∀ b, b < H.nx → ¬ D b → ¬ D' b := fun b hb hd hd' => (hD b hd').elim hd fun g => by have := g.1; omega
 have kp : ∀ b, b < H.nx → ¬ D b → H'.get b = H.get b := fun b hb hd => f.get b hb fun g => hd g.1
 obtain ⟨ins2, i1, i2, i3⟩ := h.ins
 obtain ⟨lv, os, v1, v2, v3, v4⟩ := h.lv
 refine ⟨h.fm.then f fun c hc g => absurd hc (by have := g.2; omega), fun b hb => (hD b hb).elim (fun g => Nat.lt_of_lt_of_le (h.dlt b g) f.nx) fun g => g.2, (kp l l2 l3).trans h.lp, ⟨l1, Nat.lt_of_lt_of_le l2 f.nx, nD l l2 l3⟩, ⟨o1, o2, nD ob (by omega) o3⟩, ⟨(kp x2 (by omega) x4).trans x1', x3, nD x2 (by omega) x4, x5⟩, ⟨ins2, i1, ?_, i3⟩, ⟨lv, os, (kp ob (by omega) o3).trans v1, v2.keep f.nx fun b hb hlt => kp b hlt (v3 b hb).2, fun b hb => ⟨(v3 b hb).1, nD b (v2.lt hb) (v3 b hb).2⟩, fun j w hj => ?_⟩, fun i c o h1 h2 => ?_⟩
 ·rcases i2 with g | ⟨g1, g2, g3, g4, g5, g6⟩
  ·exact Or.inl g
  ·exact Or.inr ⟨g1, (kp nb (by omega) g5).trans g2, g3, g4, nD nb (by omega) g5, g6⟩
 ·obtain ⟨i, o, a1, a2, a3, a4, a5⟩ := v4 j w hj
  exact ⟨i, o, a1, a2, a3.keep f.nx fun b hb hlt => kp b hlt (a5 b hb).2.1, a4, fun b hb => ⟨(a5 b hb).1, nD b (a3.lt hb) (a5 b hb).2.1, (a5 b hb).2.2⟩⟩
 ·obtain ⟨a3, a5⟩ := h.cs i c o h1 h2
  exact ⟨a3.keep f.nx fun b hb hlt => kp b hlt (a5 b hb).2.1, fun b hb => ⟨(a5 b hb).1, nD b (a3.lt hb) (a5 b hb).2.1, (a5 b hb).2.2⟩⟩
theorem qrd {call : Ev.Call} {c lv : AV} {o : List Nat} {ob nb n t : Nat} {H1 : Hp} (hc : Gl 1 H1 c o.length (nats o)) (hcb : ∀ b, In c b → b ≠ nb) (hol : o.length < 900000) (ho : ∀ x ∈ o, x < n) (hob : H1.get ob = qaa 0 [lv, .sl nb 0 n n true]) (hin : ob ≠ nb) (hil : ob < H1.nx) (hlv : lenSl lv = .val (.int .i64 (.ofNat t))) {q : Hp → R1} {Q : AV → Hp → Prop} {fin : List Nat}
  (hq : ∀ H, H.get nb = qaa 0 (nats fin) → Fm (fun b => b = nb) H1 H → Ok (q H) Q) :
  ∀ (k j : Nat) (ins : List Nat) (H : Hp), o.length - j < k → j ≤ o.length → ins.length = n → H.get nb = qaa 0 (nats ins) → Fm (fun b => b = nb) H1 H → fill ins (o.drop j) t = fin →
   Ok (qi1 call q (.ptr ob 0) c (.int .i64 (.ofNat o.length)) k (.int .i64 (.ofNat j)) H) Q
 | 0, j, ins, H, h, _, _, _, _, _ => by omega
 | k + 1, j, ins, H, h, hj, hl, hg, hF, hf => by
  show Ok (qug call _ _ _ _ (qi1 call _ _ _ _ k) _ H) Q
  unfold qug
  by_cases hjl : j < o.length
  ·obtain ⟨b, q', e1, e2, e3⟩ := hc.rl.at' j (by rw [qaw]; exact hjl)
   rw [qe2] at e3
   have e4 : H.get b = H1.get b := hF.get b e2 (hcb b (hc.idx_in hjl e1))
   have e5 : H.get ob = qaa 0 [lv, .sl nb 0 n n true] := (hF.get ob hil hin).trans hob
   have hx : o[j] < n := ho _ (List.getElem_mem _)
   have hle : o[j] + 1 ≤ ins.length := by omega
   simp (disch := first | omega | exact ti rfl | (simp only [np, nq]; first | done | omega)) only [go_sem, reduceAdd, reduceMul, reduceSub, reduceLeDiff, reduceEqDiff, reduceShiftRight, reduceAnd, hjl]
   unfold qud
   simp (disch := first | omega | exact ti rfl | (simp only [np, nq]; first | done | omega)) only [go_sem, reduceAdd, reduceMul, reduceSub, reduceLeDiff, reduceEqDiff, reduceShiftRight, reduceAnd, e1, e4, e3, e5, hlv, hg, Nat.mul_one, Nat.zero_add, List.length_cons, List.length_nil, qaw, hle, if_true]
   unfold que
   simp (disch := first | omega | exact ti rfl | (simp only [np, nq]; first | done | omega)) only [go_sem, reduceAdd, reduceMul, reduceSub, reduceLeDiff, reduceEqDiff, reduceShiftRight, reduceAnd]
   have hd : o.drop j = o[j] :: o.drop (j + 1) := List.drop_eq_getElem_cons hjl
   rw [qon _ _ _ (by omega)]
   refine qrd hc hcb hol ho hob hin hil hlv hq k (j + 1) (ins.set o[j] t) _ (by omega) (by omega) (by rw [List.length_set]; exact hl) (qac _ _ _) (hF.put _ _ fun _ => rfl) ?_
   rw [hd] at hf
   exact hf
  ·simp (disch := first | omega | exact ti rfl | (simp only [np, nq]; first | done | omega)) only [go_sem, reduceAdd, reduceMul, reduceSub, reduceLeDiff, reduceEqDiff, reduceShiftRight, reduceAnd, hjl]
   have : j = o.length := by omega
   subst this
   rw [List.drop_length] at hf
   subst hf
   exact hq H hg hF
theorem q9l (hC : qbe C) (hR : qcc LA LO C) {k : Nat} (hk : 2 ≤ k) {HB : Hp} {L : TT AV 2} {l ob nb x2 n : Nat} (hG : G L 5 = .ptr ob 0) {iv : AV} {cs : List AV} {out : List (List Nat)} {ord : List Nat} {t i : Nat} {c : AV} {D : Nat → Prop} {H : Hp} (hI : OI LO HB L l ob nb x2 n iv cs out ord t D H)
  (ht : ord[t]? = some i) (hc : cs[i]? = some c) (hlen : cs.length = out.length) (hn : n ≤ 256) (ht2 : t < 900) (hout : ∀ o ∈ out, o ≠ [] ∧ o.length ≤ 256 ∧ ∀ x ∈ o, x < n) (hnd : ∀ (i' : Nat) (o' o : List Nat) (x : Nat), out[i']? = some o' → out[i]? = some o → x ∈ o → x ∈ o' → i' = i) (hinj : ∀ j, j < t → ord[j]? ≠ some i) :
  Ok (C k (.y l) [c] H) fun r H' => r = .bool true ∧ OI LO HB L l ob nb x2 n iv cs out ord (t + 1) D H' ∧ Fm (fun b => ¬ D b) H H' := by
 obtain ⟨k, rfl⟩ : ∃ j, k = j + 1 := ⟨k - 1, by omega⟩
 rw [(hR k).cOf_y L l c H hI.lp, hG]
 unfold cOf_y
 obtain ⟨l1, l2, l3⟩ := hI.hl
 obtain ⟨o1, o2, o3⟩ := hI.ho
 have hic : i < cs.length := (List.getElem?_eq_some_iff.1 hc).1
 obtain ⟨o, ho⟩ : ∃ o, out[i]? = some o := ⟨out[i]'(by omega), by simp⟩
 obtain ⟨g1, g2⟩ := hI.cs i c o hc ho
 obtain ⟨q1, q2, q3⟩ := hout o (List.mem_of_getElem? ho)
 obtain ⟨x1', x3, x4, x5⟩ := hI.rc
 obtain ⟨ins2, i1, i2, i3⟩ := hI.ins
 obtain ⟨lv, os, v1, v2, v3, v4⟩ := hI.lv
 have hn0 : ¬ n = 0 := fun e => by
  cases o with
  | nil => exact q1 rfl
  | cons x o => have := q3 x List.mem_cons_self; omega
 rcases i2 with ⟨e, _⟩ | ⟨rfl, b1, b2, b3, b4, b5⟩
 ·exact absurd e hn0
 have hl' := g1.lenV
 simp (disch := first | omega | exact ti rfl | (simp only [np, nq]; first | done | omega)) only [go_sem, reduceAdd, reduceMul, reduceSub, reduceLeDiff, reduceEqDiff, reduceShiftRight, reduceAnd, hl']
 unfold quh
 rw [qas]
 generalize hH1 : H.put l (LO.blk false L) = H1
 have n1 : H1.nx = H.nx := by rw [← hH1]; rfl
 have f1 : Fm (fun b => b = l) H H1 := by rw [← hH1]; exact (Fm.refl _ _).put _ _ fun _ => rfl
 have gl1 : H1.get l = LO.blk false L := by rw [← hH1, qac]
 have go1 : H1.get ob = qaa 0 [lv, .sl nb 0 n n true] := (f1.get ob (by omega) (by omega)).trans v1
 have gn1 : H1.get nb = qaa 0 (nats ins2) := (f1.get nb (by omega) (by omega)).trans b1
 refine qrd (H1 := H1) (g1.fm f1 fun b hb => by have := (g2 b hb).2.2.1; omega) (fun b hb => (g2 b hb).2.2.2.2.1) (by omega) q3 go1 (Ne.symm b5) (by omega) v2.lenV (fin := fill ins2 o t) (fun H2 k1 k2 => ?_) qao 0 ins2 H1 (by rw [qal]; omega) (Nat.zero_le _) i1 gn1 (Fm.refl _ _) rfl
 unfold qg7
 have n2 := k2.nx
 have f2 : Fm (fun b => b = l ∨ b = nb) H H2 := (f1.mono fun _ _ h => Or.inl h).trans (k2.mono fun _ _ h => Or.inr h)
 have go2 : H2.get ob = qaa 0 [lv, .sl nb 0 n n true] := (k2.get ob (by omega) (by omega)).trans go1
 have gl2 : H2.get l = LO.blk false L := (k2.get l (by omega) (by omega)).trans gl1
 have gc2 : Gl 1 H2 c o.length (nats o) := g1.fm f2 fun b hb => by have := (g2 b hb).2.2; omega
 obtain ⟨w, w1, w2, w3, w4⟩ := qut hC (k := k) (by omega) (H := ⟨H2.t, H2.nx + 8⟩) (gc2.no ((Fm.refl _ _).up 8))
 have hlvf : eqF 64 lv lv = true := qcq v2.flat 63
 have hol : 0 < o.length := List.length_pos_iff.2 q1
 rcases w2.is with ⟨_, h0⟩ | ⟨wb, wo, we, wq, wL, rfl, _⟩
 ·omega
 simp (disch := first | omega | exact ti rfl | (simp only [np, nq]; first | done | omega)) only [go_sem, reduceAdd, reduceMul, reduceSub, reduceLeDiff, reduceEqDiff, reduceShiftRight, reduceAnd, go2, w1, hlvf]
 have fX : Fm No H2 (Hp.put ⟨H2.t, H2.nx + 8⟩ (H2.nx + 4) (qaa 0 [.sl wb wo o.length o.length we])) := by (repeat (first | exact Fm.refl _ _ | assumption | refine Fm.push ?_ _ | refine Fm.up2 ?_ (by (first | omega | (simp only [np, nq]; omega))) | refine Fm.put_new ?_ _ _ (by (first | omega | (simp only [np, nq]; omega)))))
 have v22 : Gl 1 H2 lv t os := v2.fm f2 fun b hb => by have := (v3 b hb).1; omega
 obtain ⟨H3, e, gl', _, fm', nx'⟩ := (v22.no fX).append (k := 1) (w := 24) (x := [.sl wb wo o.length o.length we]) (by omega) rfl (by omega) (by omega)
 refine Ok.deE e ?_
 have nx3 : H3.nx = H2.nx + 8 + 1 := nx'
 have hlvl : ∀ b, In lv b → l < b := fun b hb => (v3 b hb).1
 have go3 : H3.get ob = qaa 0 [lv, .sl nb 0 n n true] := (fm'.get ob (by (first | omega | (simp only [np, nq]; omega))) fun hb => by have := hlvl _ hb; omega).trans ((fX.keep (by omega)).trans go2)
 have gl3 : H3.get l = LO.blk false L := (fm'.get l (by (first | omega | (simp only [np, nq]; omega))) fun hb => by have := hlvl _ hb; omega).trans ((fX.keep (by omega)).trans gl2)
 simp (disch := first | omega | exact ti rfl | (simp only [np, nq]; first | done | omega)) only [go_sem, reduceAdd, reduceMul, reduceSub, reduceLeDiff, reduceEqDiff, reduceShiftRight, reduceAnd, go3, List.length_cons, List.length_nil]
 have es : setL [lv, .sl nb 0 n n true] 0 [.sl (H2.nx + 8) 0 (t + 1) (t + 1) false] = [.sl (H2.nx + 8) 0 (t + 1) (t + 1) false, .sl nb 0 n n true] := rfl
 rw [es]
 have gl4 : (H3.put ob (qaa 0 [.sl (H2.nx + 8) 0 (t + 1) (t + 1) false, .sl nb 0 n n true])).get l = LO.blk false L := by rw [qai _ _ _ _ (by omega)]; exact gl3
 rw [q19 gl4]
 have f3 : Fm (fun b => b = l ∨ b = nb ∨ In lv b) H H3 := (((f2.mono fun _ _ h => h.imp id Or.inl).trans (fX.mono fun _ _ h => h.elim)).trans (fm'.mono fun _ _ h => Or.inr (Or.inr h)))
 have f4 : Fm (fun b => b = l ∨ b = nb ∨ b = ob ∨ In lv b) H ((H3.put ob (qaa 0 [.sl (H2.nx + 8) 0 (t + 1) (t + 1) false, .sl nb 0 n n true])).put l (LO.blk true L)) :=
  ((f3.mono (T := fun b => b = l ∨ b = nb ∨ b = ob ∨ In lv b) fun _ _ h => h.imp id (Or.imp id Or.inr)).put ob _ fun _ => Or.inr (Or.inr (Or.inl rfl))).put l _ fun _ => Or.inl rfl
 have n4 : ((H3.put ob (qaa 0 [.sl (H2.nx + 8) 0 (t + 1) (t + 1) false, .sl nb 0 n n true])).put l (LO.blk true L)).nx = H2.nx + 9 := nx3
 have old : ∀ {x : AV} {m : Nat} {y : List AV}, Gl 1 H x m y → (∀ b, In x b → b < l ∧ b ≠ ob ∧ b ≠ nb ∧ b ≠ x2) → Gl 1 ((H3.put ob (qaa 0 [.sl (H2.nx + 8) 0 (t + 1) (t + 1) false, .sl nb 0 n n true])).put l (LO.blk true L)) x m y := fun {x m y} hx hb => hx.fm f4 fun b hb' => by
  have := hb b hb'
  rintro (h | h | h | h)
  ·omega
  ·omega
  ·omega
  ·have := hlvl _ h; omega
 refine Ok.ret ⟨rfl, ⟨hI.fm.then f4 fun c hc h => ?_, fun b hb => Nat.lt_of_lt_of_le (hI.dlt b hb) (by omega), qac _ _ _, ⟨l1, by omega, l3⟩, ⟨o1, o2, o3⟩, ⟨?_, x3, x4, x5⟩, ⟨fill ins2 o t, by rw [qe7]; exact i1, Or.inr ⟨rfl, ?_, b2, b3, b4, b5⟩, fun j i' o' x hj h1 h2 h3 => ?_⟩, ⟨.sl (H2.nx + 8) 0 (t + 1) (t + 1) false, os ++ [.sl wb wo o.length o.length we], ?_, ?_, ?_, fun j w hj => ?_⟩, fun i' c' o' h1 h2 => ?_⟩, f4.mono fun b _ h => ?_⟩
 ·rcases h with h | h | h | h
  ·omega
  ·omega
  ·omega
  ·have := hlvl _ h; omega
 ·rw [f4.get x2 (by omega) ?_]
  ·exact x1'
  ·rintro (h | h | h | h)
   ·omega
   ·omega
   ·omega
   ·have := hlvl _ h; omega
 ·rw [qai _ _ _ _ (by omega), qai _ _ _ _ b5, fm'.get nb (by (first | omega | (simp only [np, nq]; omega))) fun hb => by have := hlvl _ hb; omega]
  exact (fX.keep (by omega)).trans k1
 ·have hx : x < ins2.length := by
   rw [i1]
   exact (hout o' (List.mem_of_getElem? h2)).2.2 x h3
  rw [qj2 t o ins2 x hx]
  rcases Nat.lt_or_ge j t with g | g
  ·have h4 := i3 j i' o' x g h1 h2 h3
   rw [if_neg fun hxo => ?_, h4]
   have : i' = i := hnd i' o' o x h2 ho hxo h3
   subst this
   exact hinj j g h1
  ·have : j = t := by omega
   subst this
   rw [ht] at h1
   cases h1
   rw [ho] at h2
   cases h2
   rw [if_pos h3]
 ·rw [qai _ _ _ _ (by omega), qac]
 ·refine gl'.keep (Nat.le_refl _) fun b hb _ => ?_
  obtain ⟨_, _, _, _, h⟩ := hb
  cases h
  show ((H3.put ob _).put l _).get (H2.nx + 8) = H3.get (H2.nx + 8)
  rw [qai _ _ _ _ (by omega), qai _ _ _ _ (by omega)]
 ·rintro b ⟨_, _, _, _, h⟩
  have hb : b = H2.nx + 8 := by cases h; rfl
  subst hb
  exact ⟨by omega, fun h => by have := hI.dlt _ h; omega⟩
 ·rcases Nat.lt_or_ge j os.length with g | g
  ·rw [List.getElem?_append_left g] at hj
   obtain ⟨i', o', a1, a2, a3, a4, a5⟩ := v4 j w hj
   exact ⟨i', o', a1, a2, old a3 fun b hb => (a5 b hb).2.2, a4, a5⟩
  ·rw [List.getElem?_append_right g] at hj
   have h0 : j - os.length = 0 := by
    have := (List.getElem?_eq_some_iff.1 hj).1
    simpa using this
   rw [h0] at hj
   cases hj
   have hos : os.length = t := by have := v2.len; omega
   have hjt : j = t := by omega
   subst hjt
   refine ⟨i, o, ht, ho, ?_, w3, fun b hb => g2 b (w4 b hb)⟩
   refine w2.keep (by show H2.nx + 8 ≤ _; omega) fun b hb _ => ?_
   obtain ⟨_, _, b6, b7, b8⟩ := g2 b (w4 b hb)
   show ((H3.put ob _).put l _).get b = H2.get b
   rw [qai _ _ _ _ (by omega), qai _ _ _ _ b7, fm'.get b (by (first | omega | (simp only [np, nq]; omega))) fun hb => by have := hlvl _ hb; omega]
   exact fX.keep (by omega)
 ·obtain ⟨a1, a2⟩ := hI.cs i' c' o' h1 h2
  exact ⟨old a1 fun b hb => (a2 b hb).2.2, a2⟩
 ·rcases h with rfl | rfl | rfl | h
  ·exact l3
  ·exact b4
  ·exact o3
  ·exact (v3 b h).2
end Go.Di
end
