/-
 For countersignlaw17.CompsKnown: contracts of the order. No conditions beyond those that each theorem states.
-/
import Derived.Test.YtmdpdlnabcmlmaaCompB
set_option linter.unusedSimpArgs false
set_option linter.unusedVariables false
open Nat (reduceAdd reduceMul reduceSub reduceLeDiff reduceEqDiff reduceShiftRight reduceAnd)
section
/-
 Contracts: components in the order of their least nodes.
-/
namespace Go.Di
open Go.Ev Go.Di.T Go.Sort
variable {C : Nat → Ev.Call} {LA LO : LP}
theorem zf9 (a b : Int) (h1 : -9223372036854775808 ≤ a - b) (h2 : a - b < 9223372036854775808) : intV (qaa .sub).f (.int .i64 a) (.int .i64 b) = .val (.int .i64 (a - b)) := by
 rw [zfh, zcn _ h1 h2]
structure Cv where
 b : Nat
 q : Nat
 n : Nat
 m : Nat
 e : Bool
 o : List Nat
def Cv.v (c : Cv) : AV := .sl c.b c.q c.n c.m c.e
theorem Cv.ex : ∀ (cs : List AV) (out : List (List Nat)), cs.length = out.length → (∀ (i : Nat) (c : AV) (o : List Nat), cs[i]? = some c → out[i]? = some o → ∃ b q n m e, c = .sl b q n m e) → ∃ env : List Cv, env.map Cv.v = cs ∧ env.map Cv.o = out
 | [], [], _, _ => ⟨[], rfl, rfl⟩
 | [], _ :: _, h, _ => by simp at h
 | _ :: _, [], h, _ => by simp at h
 | c :: cs, o :: out, h, hp => by
  obtain ⟨env, h1, h2⟩ := Cv.ex cs out (by simpa using h) fun i c o g1 g2 => hp (i + 1) c o (by simpa using g1) (by simpa using g2)
  obtain ⟨b, q, n, m, e, rfl⟩ := hp 0 c o rfl rfl
  exact ⟨⟨b, q, n, m, e, o⟩ :: env, by simp [h1, Cv.v], by simp [h2]⟩
structure Ix (env : List Cv) where
 i : Fin env.length
def Ix.c {env : List Cv} (x : Ix env) : Cv := env[x.i]
theorem Ix.mem {env : List Cv} (x : Ix env) : x.c ∈ env := List.getElem_mem _
def hdI (l : List Nat) : Int := .ofNat (l.headD 0)
abbrev elIx (env : List Cv) (h : 0 < env.length) : El (Ix env) where
 default := ⟨⟨0, h⟩⟩
 enc x := x.c.v
 cmp x y := hdI x.c.o - hdI y.c.o
 home b := ∃ c ∈ env, c.b = b
 iv H := ∀ c ∈ env, Gl 1 H c.v c.o.length (nats c.o)
 ivK h f hs c hc := (h c hc).fm f fun b hb => hs b ⟨c, hc, by obtain ⟨_, _, _, _, e⟩ := hb; unfold Cv.v at e; cases e; rfl⟩
 homeLt h hb := by obtain ⟨c, hc, rfl⟩ := hb; exact (h c hc).lt ⟨_, _, _, _, rfl⟩
 stE _ _ _ _ := rfl
 eqE _ := zfq _ _ _ _ _
theorem q9e (hC : qbt C) {k : Nat} (hk : 1 ≤ k) {H : Hp} {x y : AV} {a b : Nat} {la lb : List Nat} (hx : Gl 1 H x (la.length + 1) (nats (a :: la))) (hy : Gl 1 H y (lb.length + 1) (nats (b :: lb))) (ha : a < 1000) (hb : b < 1000) :
  C k (.f qlg) [x, y] H = .ok (.int .i64 (Int.ofNat a - Int.ofNat b)) H := by
 obtain ⟨j, rfl⟩ : ∃ j, k = j + 1 := ⟨k - 1, by omega⟩
 rw [(hC j).rdyA]
 unfold rdyA q9i
 obtain ⟨b1, o1, e1, _, _, e2⟩ := hx.head
 obtain ⟨b2, o2, e3, _, _, e4⟩ := hy.head
 have e5 := zf9 (Int.ofNat a) (Int.ofNat b) (by simp only [Int.ofNat_eq_natCast]; omega) (by simp only [Int.ofNat_eq_natCast]; omega)
 simp (disch := omega) only [go_sem, reduceAdd, e1, e2, e3, e4, e5]
theorem ze7 (hC : qbt C) (hS : qbe C) {k : Nat} {H0 H : Hp} {v : AV} {cs : List AV} {out : List (List Nat)} (hL : LsOk H0 H v cs out) (hn : cs.length < 900) (h1 : 1 ≤ cs.length) (hk : cs.length + 10 ≤ k) (hne : ∀ o ∈ out, o ≠ [] ∧ ∀ x ∈ o, x < 1000) (hnd : out.flatten.Nodup) :
  Ok (C k (.f qb3) [v, .fn qlg [] []] H) fun r H' => r = .tup [] ∧ ∃ cs' out', out'.Perm out ∧ out'.Pairwise (fun a b => a.headD 0 < b.headD 0) ∧ LsOk H0 H' v cs' out' ∧ (∀ c ∈ cs', c ∈ cs) ∧ Fm (In v) H H' := by
 obtain ⟨env, henv, heno⟩ := Cv.ex cs out hL.len fun i c o g1 g2 => (hL.at' i c o g1 g2).1
 have hel : env.length = cs.length := by rw [← henv, List.length_map]
 have hpos : 0 < env.length := by omega
 letI := elIx env hpos
 have hgl : ∀ c ∈ env, Gl 1 H c.v c.o.length (nats c.o) ∧ ∀ b, In c.v b → H0.nx ≤ b ∧ ¬ In v b := fun c hc => by
  obtain ⟨i, hi, rfl⟩ := List.getElem_of_mem hc
  exact (hL.at' i env[i].v env[i].o (by rw [← henv]; simp [hi]) (by rw [← heno]; simp [hi])).2
 have hno : ∀ c ∈ env, c.o ≠ [] ∧ ∀ x ∈ c.o, x < 1000 := fun c hc => hne c.o (by rw [← heno]; exact List.mem_map.2 ⟨c, hc, rfl⟩)
 have hiv : El.iv (Ix env) H := fun c hc => (hgl c hc).1
 have hcmp : ∀ k, 3 ≤ k → CmpE (Ix env) (C k) qlg := fun k hk x y H hI => by
  have hx := hI x.c x.mem
  have hy := hI y.c y.mem
  obtain ⟨x1, x2⟩ := hno x.c x.mem
  obtain ⟨y1, y2⟩ := hno y.c y.mem
  show Ok (C k _ [x.c.v, y.c.v] H) fun v H' => v = .int .i64 (hdI x.c.o - hdI y.c.o) ∧ _
  cases hxo : x.c.o with
  | nil => exact absurd hxo x1
  | cons a la =>
   cases hyo : y.c.o with
   | nil => exact absurd hyo y1
   | cons b lb =>
    rw [hxo] at hx x2
    rw [hyo] at hy y2
    rw [q9e hC (by omega) hx hy (x2 a List.mem_cons_self) (y2 b List.mem_cons_self)]
    exact Ok.ret ⟨rfl, Fm.refl _ _⟩
 rcases hL.gl.is with ⟨_, h0⟩ | ⟨b, o, e, q, L, rfl, g1, g2, g3, g4, g5⟩
 ·omega
 let s : Sl := ⟨b, q, cs.length, cs.length, e, L.take o, []⟩
 have ho : (L.take o).length = o := by rw [List.length_take]; omega
 have hsv : s.v = .sl b o cs.length cs.length e := by show AV.sl b (L.take o).length _ _ e = _; rw [ho]
 let d : Array (Ix env) := ((List.finRange env.length).map Ix.mk).toArray
 have hdl : d.toList.map Ix.c = env := by
  show ((List.finRange env.length).map Ix.mk).map Ix.c = env
  rw [List.map_map]
  apply List.ext_getElem
  ·simp
  ·intro i h1 h2
   simp [Ix.c]
 have hd : d.toList.map El.enc = cs := by
  show d.toList.map (fun x => x.c.v) = cs
  rw [show (fun x : Ix env => x.c.v) = Cv.v ∘ Ix.c from rfl, ← List.map_map, hdl, henv]
 have hds : d.size = cs.length := by show ((List.finRange env.length).map Ix.mk).toArray.size = _; simp [hel]
 have hst : St s d H := by
  refine ⟨?_, g5, hds, hiv, ?_⟩
  ·show H.get b = qae q (L.take o ++ (d.toList.map El.enc ++ []))
   rw [g1, hd, ← g3, List.append_nil, List.take_append_drop]
  ·rintro ⟨c, hc, hcb⟩
   exact ((hgl c hc).2 c.b ⟨_, _, _, _, rfl⟩).2 ⟨o, cs.length, cs.length, e, by rw [hcb]⟩
 have hswo : SWO (ltE (E := Ix env)) := {
  irrefl := fun x => by show decide (hdI x.c.o - hdI x.c.o < 0) = false; simp
  trans := fun x y z => by show decide (hdI x.c.o - hdI y.c.o < 0) = true → decide (hdI y.c.o - hdI z.c.o < 0) = true → decide (hdI x.c.o - hdI z.c.o < 0) = true; simp only [decide_eq_true_eq]; omega
  ntrans := fun x y z => by show decide (hdI x.c.o - hdI y.c.o < 0) = false → decide (hdI y.c.o - hdI z.c.o < 0) = false → decide (hdI x.c.o - hdI z.c.o < 0) = false; simp only [decide_eq_false_iff_not]; omega }
 rw [← hsv]
 refine (F.SortFunc_ok (E := Ix env) hS (k := k) hcmp (s := s) (by show cs.length < 900000; omega) (by show cs.length + 10 ≤ k; omega) hswo hst).mono ?_
 rintro r H' ⟨rfl, R, hR, hS', hF⟩
 have hp := qzi hR.1 hst.sz
 have hs := qqp hR.2 hS'.sz
 have hpe : (R.toList.map Ix.c).Perm env := by have := hp.map Ix.c; rwa [hdl] at this
 have hpo : ((R.toList.map Ix.c).map Cv.o).Perm out := by have := hpe.map Cv.o; rwa [heno] at this
 have hlen : (R.toList.map Ix.c).length = cs.length := by rw [hpe.length_eq, hel]
 have hiv' : El.iv (Ix env) H' := hS'.iv
 refine ⟨rfl, (R.toList.map Ix.c).map Cv.v, (R.toList.map Ix.c).map Cv.o, hpo, ?_, ⟨?_, by simp, hsv ▸ hL.new, fun i c o' h2 h3 => ?_⟩, fun c hc => ?_, hF.mono fun c _ hc => ⟨o, cs.length, cs.length, e, by rw [hc]; exact hsv⟩⟩
 ·have hnd' : ((R.toList.map Ix.c).map Cv.o).flatten.Nodup := (hpo.flatten).nodup_iff.2 hnd
  have hne' : ∀ l ∈ (R.toList.map Ix.c).map Cv.o, l ≠ [] := fun l hl => (hne l (hpo.mem_iff.1 hl)).1
  have hs' : ((R.toList.map Ix.c).map Cv.o).Pairwise fun a b => a.headD 0 ≤ b.headD 0 := by
   rw [List.pairwise_map, List.pairwise_map]
   refine hs.imp fun {x y} h => ?_
   have h : decide (hdI y.c.o - hdI x.c.o < 0) = false := h
   rw [decide_eq_false_iff_not] at h
   unfold hdI at h
   simp only [Int.ofNat_eq_natCast] at h
   omega
  generalize (R.toList.map Ix.c).map Cv.o = out' at hnd' hne' hs'
  clear hpo
  induction out' with
  | nil => exact List.Pairwise.nil
  | cons a l ih =>
   rw [List.pairwise_cons] at hs' ⊢
   rw [List.flatten_cons, List.nodup_append] at hnd'
   refine ⟨fun c hc => ?_, ih hnd'.2.1 (fun l hl => hne' l (List.mem_cons_of_mem _ hl)) hs'.2⟩
   refine Nat.lt_of_le_of_ne (hs'.1 c hc) fun e => ?_
   have ha := hne' a List.mem_cons_self
   have hc' := hne' c (List.mem_cons_of_mem _ hc)
   cases a with
   | nil => exact ha rfl
   | cons x a =>
    cases c with
    | nil => exact hc' rfl
    | cons y c =>
     have e : x = y := e
     exact hnd'.2.2 x List.mem_cons_self y (List.mem_flatten.2 ⟨y :: c, hc, List.mem_cons_self⟩) e
 ·have hget := hS'.get
  have hget : H'.get b = qae q (L.take o ++ (R.toList.map El.enc ++ [])) := hget
  have e1 : R.toList.map El.enc = (R.toList.map Ix.c).map Cv.v := by rw [List.map_map]; rfl
  rw [e1, List.append_nil] at hget
  have hl2 : ((R.toList.map Ix.c).map Cv.v).length = cs.length := by rw [List.length_map, hlen]
  rw [hl2]
  refine ⟨by rw [hl2, Nat.mul_one], .inr ⟨b, o, e, q, _, hsv, hget, ?_, ?_, g4, Nat.lt_of_lt_of_le g5 hF.nx⟩⟩
  ·rw [List.length_append, ho]; omega
  ·rw [List.drop_append_of_le_length (by omega), List.drop_eq_nil_of_le (by omega), List.nil_append]
 ·have hi : i < (R.toList.map Ix.c).length := by
   have := (List.getElem?_eq_some_iff.1 h2).1
   simpa using this
  have hc : c = ((R.toList.map Ix.c)[i]).v := by
   rw [List.getElem?_map, List.getElem?_eq_getElem hi] at h2
   exact (Option.some.inj h2).symm
  have ho' : o' = ((R.toList.map Ix.c)[i]).o := by
   rw [List.getElem?_map, List.getElem?_eq_getElem hi] at h3
   exact (Option.some.inj h3).symm
  have hm : (R.toList.map Ix.c)[i] ∈ env := hpe.mem_iff.1 (List.getElem_mem _)
  subst hc; subst ho'
  refine ⟨⟨_, _, _, _, _, rfl⟩, hiv' _ hm, fun b' hb' => ?_⟩
  obtain ⟨k1, k2⟩ := (hgl _ hm).2 b' hb'
  exact ⟨k1, by rw [hsv]; exact k2⟩
 ·obtain ⟨x, hx, rfl⟩ := List.mem_map.1 hc
  rw [← henv]
  exact List.mem_map.2 ⟨x, hpe.mem_iff.1 hx, rfl⟩
end Go.Di
end
section
/-
 Contracts: of each node the number of its component.
-/
namespace Go.Di
open Go.Ev Go.Di.T Go.Sort
variable {C : Nat → Ev.Call} {LA LO : LP}
theorem ze8 (hS : qbe C) {k : Nat} (hk : 5 ≤ k) {v f : AV} (hv : qa9 v = .val (.int .i64 (.ofNat 0))) (H : Hp) : C k (.f qb3) [v, f] H = .ok (.tup []) H := by
 obtain ⟨k, rfl⟩ : ∃ j, k = j + 3 := ⟨k - 3, by omega⟩
 rw [(hS (k + 2)).s_SortFunc]
 unfold s_SortFunc qfo
 have e1 := qh3 .i64 0 (by omega)
 have e2 := q0s hS (k := k + 2) (by omega) 0 (by omega) H
 have e3 : bitsLen 0 = 0 := rfl
 rw [e3] at e2
 have e4 : C (k + 2) (.f qhw) [v, .int .i64 (.ofNat 0), .int .i64 (.ofNat 0), .int .i64 (.ofNat 0), f] H = .ok (.tup []) H := by
  rw [(hS (k + 1)).s_pdq]
  unfold s_pdq qvw qpn
  rw [qam]
  show qls (C (k + 1)) _ _ _ (qbr (C (k + 1)) _ _ _ 999999) _ _ _ _ _ H = _
  unfold qls
  have e5 : C (k + 1) (.f qmj) [v, .int .i64 (.ofNat 0), .int .i64 (.ofNat 0), f] H = .ok (.tup []) H := by
   rw [(hS k).s_ins]
   unfold s_ins qv2 qpo
   rw [qam]
   simp (disch := omega) only [go_sem, reduceAdd, reduceSub]
   show qlt (C k) _ _ _ _ _ (qcv (C k) _ _ _ _ _ 999999) _ H = _
   unfold qlt
   simp (disch := omega) only [go_sem, reduceAdd, reduceSub, Nat.not_lt_zero]
  simp (disch := omega) only [go_sem, reduceAdd, reduceSub, e5, Nat.zero_le]
 simp (disch := omega) only [go_sem, reduceAdd, reduceSub, hv, e1, e2, e4]
def fill (ins : List Nat) (o : List Nat) (i : Nat) : List Nat := o.foldl (fun a x => a.set x i) ins
def qge : List Nat → List (List Nat) → Nat → List Nat
 | ins, [], _ => ins
 | ins, o :: r, i => qge (fill ins o i) r (i + 1)
theorem qh1 (i : Nat) : ∀ (o ins : List Nat), (fill ins o i).length = ins.length
 | [], ins => rfl
 | x :: o, ins => by show (fill (ins.set x i) o i).length = _; rw [qh1 i o, List.length_set]
theorem qtj : ∀ (out : List (List Nat)) (ins : List Nat) (i : Nat), (qge ins out i).length = ins.length
 | [], _, _ => rfl
 | o :: r, ins, i => by rw [qge, qtj r, qh1]
theorem qqi (i : Nat) : ∀ (o ins : List Nat) (x : Nat), x < ins.length → (fill ins o i)[x]? = if x ∈ o then some i else ins[x]?
 | [], ins, x, h => by simp [fill]
 | y :: o, ins, x, h => by
  show (fill (ins.set y i) o i)[x]? = _
  rw [qqi i o _ x (by rw [List.length_set]; exact h)]
  by_cases hx : x ∈ o
  ·simp [hx]
  ·by_cases e : x = y
   ·subst e; simp [hx, h]
   ·have : ¬ y = x := fun h => e h.symm
    simp [hx, e, List.getElem?_set, this]
theorem qtk : ∀ (out : List (List Nat)) (ins : List Nat) (i0 i x : Nat) (o : List Nat), out.flatten.Nodup → out[i]? = some o → x ∈ o → x < ins.length → (qge ins out i0)[x]? = some (i0 + i)
 | [], _, _, _, _, _, _, h, _, _ => by simp at h
 | o' :: r, ins, i0, 0, x, o, hn, h, hx, hl => by
  simp at h
  subst h
  have key : ∀ (r : List (List Nat)) (ins : List Nat) (i : Nat), x < ins.length → x ∉ r.flatten → (qge ins r i)[x]? = ins[x]? := fun r => by
   induction r with
   | nil => intros; rfl
   | cons o r ih =>
    intro ins i hl hx
    rw [List.flatten_cons, List.mem_append, not_or] at hx
    rw [qge, ih _ _ (by rw [qh1]; exact hl) hx.2, qqi i o ins x hl, if_neg hx.1]
  rw [qge, key r _ _ (by rw [qh1]; exact hl) ?_, qqi _ _ _ _ hl, if_pos hx, Nat.add_zero]
  intro h2
  rw [List.flatten_cons, List.nodup_append] at hn
  exact hn.2.2 x hx x h2 rfl
 | o' :: r, ins, i0, i + 1, x, o, hn, h, hx, hl => by
  rw [List.flatten_cons, List.nodup_append] at hn
  rw [qge, qtk r _ (i0 + 1) i x o hn.2.1 (by simpa using h) hx (by rw [qh1]; exact hl)]
  congr 1
  omega
theorem zbd {call : Ev.Call} {c : AV} {o : List Nat} {ib nb n i : Nat} {H1 : Hp} (hc : Rl H1 c (nats o)) (hcb : ∀ j b q, j < o.length → idxS 1 c (.int .i64 (.ofNat j)) = .val (.ptr b q) → b ≠ nb) (hol : o.length < 900000) (ho : ∀ x ∈ o, x < n) (hib : H1.get ib = qae 0 [.sl nb 0 n n true]) (hin : ib ≠ nb) (hil : ib < H1.nx) {q : Hp → R1} {Q : AV → Hp → Prop} {fin : List Nat}
  (hq : ∀ H, H.get nb = qae 0 (nats fin) → Fm (fun b => b = nb) H1 H → Ok (q H) Q) :
  ∀ (k j : Nat) (ins : List Nat) (H : Hp), o.length - j < k → j ≤ o.length → ins.length = n → H.get nb = qae 0 (nats ins) → Fm (fun b => b = nb) H1 H → fill ins (o.drop j) i = fin →
   Ok (qjw call q (.ptr ib 0) (.int .i64 (.ofNat i)) c (.int .i64 (.ofNat o.length)) k (.int .i64 (.ofNat j)) H) Q
 | 0, j, ins, H, h, _, _, _, _, _ => by omega
 | k + 1, j, ins, H, h, hj, hl, hg, hF, hf => by
  show Ok (qya call _ _ _ _ _ (qjw call _ _ _ _ _ k) _ H) Q
  unfold qya
  by_cases hjl : j < o.length
  ·obtain ⟨b, q', e1, e2, e3⟩ := hc.at' j (by rw [qbg]; exact hjl)
   rw [qoj] at e3
   have e4 : H.get b = H1.get b := hF.get b e2 (hcb j b q' hjl e1)
   have e5 : H.get ib = qae 0 [.sl nb 0 n n true] := (hF.get ib hil hin).trans hib
   have hx : o[j] < n := ho _ (List.getElem_mem _)
   have hnl : (nats ins).length = n := by rw [qbg]; exact hl
   simp (disch := omega) only [go_sem, reduceAdd, reduceSub, hjl]
   unfold qx8
   have hle : o[j] + 1 ≤ ins.length := by omega
   simp (disch := omega) only [go_sem, reduceAdd, reduceSub, e1, e4, e3, e5, hg, Nat.mul_one, Nat.zero_add, List.length_cons, List.length_nil, qbg, hle, if_true]
   unfold qx9
   simp (disch := omega) only [go_sem, reduceAdd, reduceSub]
   have hd : o.drop j = o[j] :: o.drop (j + 1) := List.drop_eq_getElem_cons hjl
   rw [q4u _ _ _ (by omega)]
   refine zbd hc hcb hol ho hib hin hil hq k (j + 1) (ins.set o[j] i) _ (by omega) (by omega) (by rw [List.length_set]; exact hl) (qai _ _ _) (hF.put _ _ fun _ => rfl) ?_
   rw [hd] at hf
   exact hf
  ·simp (disch := omega) only [go_sem, reduceAdd, reduceSub, hjl]
   have : j = o.length := by omega
   subst this
   rw [List.drop_length] at hf
   subst hf
   exact hq H hg hF
end Go.Di
end
section
/-
 Contracts: the components are made ready.
-/
namespace Go.Di
open Go.Ev Go.Di.T Go.Sort
variable {C : Nat → Ev.Call} {LA LO : LP}
theorem LsOk.fmS {H0 H H' : Hp} {v : AV} {cs : List AV} {out : List (List Nat)} (h : LsOk H0 H v cs out) {S : Nat → Prop} (f : Fm S H H') (hs : ∀ b, H0.nx ≤ b → b < H.nx → ¬ S b) : LsOk H0 H' v cs out :=
 ⟨h.gl.keep f.nx fun b hb hlt => f.get b hlt (hs b (h.new b hb) hlt), h.len, h.new, fun i c o h1 h2 => by
  obtain ⟨g1, g2, g3⟩ := h.at' i c o h1 h2
  exact ⟨g1, g2.keep f.nx fun b hb hlt => f.get b hlt (hs b (g3 b hb).1 hlt), g3⟩⟩
theorem LsOk.no {H0 H H' : Hp} {v : AV} {cs : List AV} {out : List (List Nat)} (h : LsOk H0 H v cs out) (f : Fm No H H') : LsOk H0 H' v cs out := h.fmS f fun _ _ _ h => h
theorem q5a {call : Ev.Call} {v : AV} {cs : List AV} {out : List (List Nat)} {ib nb n : Nat} {H0 H1 : Hp} (hL : LsOk H0 H1 v cs out) (hnb : H1.nx ≤ nb + 2) (hnb2 : ∀ b, H0.nx ≤ b → b < H1.nx → b ≠ nb → True)
  (hv : ∀ b, In v b → b ≠ nb) (hcn : ∀ (i : Nat) (c : AV) (b : Nat), cs[i]? = some c → In c b → b ≠ nb) (hol : ∀ o ∈ out, o.length < 900000 ∧ ∀ x ∈ o, x < n) (hcl : out.length < 900000) (hib : H1.get ib = qae 0 [.sl nb 0 n n true]) (hin : ib ≠ nb) (hil : ib < H1.nx)
  {q : Hp → R1} {Q : AV → Hp → Prop} {fin : List Nat} (hq : ∀ H, H.get nb = qae 0 (nats fin) → Fm (fun b => b = nb) H1 H → Ok (q H) Q) :
  ∀ (k i : Nat) (ins : List Nat) (H : Hp), out.length - i < k → i ≤ out.length → ins.length = n → H.get nb = qae 0 (nats ins) → Fm (fun b => b = nb) H1 H → qge ins (out.drop i) i = fin →
   Ok (qdy call q (.ptr ib 0) v (.int .i64 (.ofNat out.length)) k (.int .i64 (.ofNat i)) H) Q
 | 0, i, ins, H, h, _, _, _, _, _ => by omega
 | k + 1, i, ins, H, h, hi, hl, hg, hF, hf => by
  show Ok (qyb call _ _ _ _ (qdy call _ _ _ _ k) _ H) Q
  unfold qyb
  have hlen := hL.len
  by_cases hil2 : i < out.length
  ·simp (disch := first | omega | exact ti rfl | (simp only [np, nq]; first | done | omega)) only [go_sem, reduceAdd, reduceLeDiff, hil2]
   unfold qx7
   have hic : i < cs.length := by omega
   have hgl : Gl 1 H v cs.length cs := hL.gl.fm hF fun b hb => hv b hb
   obtain ⟨b, q', e1, _, _, e2⟩ := hgl.at (i := i) (x := cs[i]) (by simp)
   obtain ⟨⟨cb, cq, cn, cm, ce, hce⟩, g2, g3⟩ := hL.at' i cs[i] out[i] (by simp) (by simp)
   have hg2 : Gl 1 H cs[i] out[i].length (nats out[i]) := g2.fm hF fun b hb => hcn i cs[i] b (by simp) hb
   have hl2 := hg2.lenV
   obtain ⟨ho1, ho2⟩ := hol out[i] (List.getElem_mem _)
   simp (disch := first | omega | exact ti rfl | (simp only [np, nq]; first | done | omega)) only [go_sem, reduceAdd, reduceLeDiff, e1, e2, hl2]
   unfold qyc
   rw [qam]
   have hib' : H.get ib = qae 0 [.sl nb 0 n n true] := (hF.get ib hil hin).trans hib
   have hd : out.drop i = out[i] :: out.drop (i + 1) := List.drop_eq_getElem_cons hil2
   refine zbd (H1 := H) hg2.rl (fun j b q hj e => hcn i cs[i] b (by simp) (hg2.idx_in hj e)) ho1 ho2 hib' hin (Nat.lt_of_lt_of_le hil hF.nx) (fin := fill ins out[i] i) (fun H2 k1 k2 => ?_) qak 0 ins H (by rw [qag]; omega) (Nat.zero_le _) hl hg (Fm.refl _ _) rfl
   unfold qh5
   simp (disch := first | omega | exact ti rfl | (simp only [np, nq]; first | done | omega)) only [go_sem, reduceAdd, reduceLeDiff]
   refine q5a hL hnb hnb2 hv hcn hol hcl hib hin hil hq k (i + 1) (fill ins out[i] i) H2 (by omega) (by omega) (by rw [qh1]; exact hl) k1 (hF.trans k2) ?_
   rw [hd] at hf
   exact hf
  ·simp (disch := first | omega | exact ti rfl | (simp only [np, nq]; first | done | omega)) only [go_sem, reduceAdd, reduceLeDiff, hil2]
   have : i = out.length := by omega
   subst this
   rw [List.drop_length] at hf
   have hf : ins = fin := hf
   subst hf
   exact hq H hg hF
theorem q4v (n : Nat) : List.replicate n (AV.int .i64 (.ofNat 0)) = nats (List.replicate n 0) := by simp [nats]
structure RdyS (H0 H : Hp) (n : Nat) (gv v : AV) (cs : List AV) (out : List (List Nat)) (ins : List Nat) (lb gb ib wb : Nat) : Prop where
 l : H.get lb = qae 0 [v]
 g : H.get gb = qae 0 [.int .i64 (.ofNat n), gv]
 i : H.get ib = qae 0 [.sl wb 0 n n true]
 w : H.get wb = qae 0 (nats ins)
 lt : lb < H.nx ∧ gb < H.nx ∧ ib < H.nx ∧ wb < H.nx
 ls : LsOk H0 H v cs out
 il : ins.length = n
 ix : ∀ (i : Nat) (o : List Nat) (x : Nat), out[i]? = some o → x ∈ o → ins[x]? = some i
theorem zdh (hC : qbt C) (hS : qbe C) {k : Nat} (hk : 920 ≤ k) {n : Nat} {gv v : AV} {H0 H : Hp} {cs : List AV} {out : List (List Nat)} (hL : LsOk H0 H v cs out) (hH : H0.nx ≤ H.nx) (hn : n ≤ 256) (hco : out.length ≤ 256) (hx : ∀ o ∈ out, o ≠ [] ∧ o.length ≤ 256 ∧ ∀ x ∈ o, x < n) (hnd : out.flatten.Nodup) :
  Ok (C k (.f qxt) [.agg [.int .i64 (.ofNat n), gv], v] H) fun r H' => ∃ lb gb ib wb cs' out' ins, r = .fn qi9 [] [.ptr lb 0, .ptr gb 0, .ptr ib 0] ∧ out'.Perm out ∧ out'.Pairwise (fun a b => a.headD 0 < b.headD 0) ∧
   RdyS H0 H' n gv v cs' out' ins lb gb ib wb ∧ (∀ c ∈ cs', c ∈ cs) ∧ Fm (In v) H H' ∧ (H.nx ≤ lb ∧ H.nx ≤ gb ∧ H.nx ≤ ib ∧ H.nx ≤ wb) := by
 obtain ⟨j, rfl⟩ : ∃ j, k = j + 1 := ⟨k - 1, by omega⟩
 rw [(hC j).cRdy]
 unfold cRdy zb4
 have hlen := hL.len
 have hvs : ∃ H2, boxA 2 H.nx (.agg [.int .i64 (.ofNat n), gv]) = .new (.ptr H.nx 0) (qae 0 [.int .i64 (.ofNat n), gv]) ∧ H2 = qaw H (qae 0 [.int .i64 (.ofNat n), gv]) := ⟨_, rfl, rfl⟩
 -- the slice is nil or not: its box
 have hb1 : ∀ nm, box1 nm v = .new (.ptr nm 0) (qae 0 [v]) := fun nm => by
  rcases hL.gl.is with ⟨rfl, _⟩ | ⟨b, o, e, q, L, rfl, _⟩ <;> rfl
 simp (disch := first | omega | exact ti rfl | (simp only [np, nq]; first | done | omega)) only [go_sem, reduceAdd, reduceLeDiff, hb1]
 generalize hH2 : qaw (qaw H (qae 0 [.int .i64 (.ofNat n), gv])) (qae 0 [v]) = H2
 have n2 : H2.nx = H.nx + 2 := by rw [← hH2]; rfl
 have f2 : Fm No H H2 := by rw [← hH2]; exact ((Fm.refl _ _).push _).push _
 have g2 : H2.get H.nx = qae 0 [.int .i64 (.ofNat n), gv] := by rw [← hH2, qa2 _ _ _ (by rw [np]; omega), qar]
 have l2 : H2.get (H.nx + 1) = qae 0 [v] := by rw [← hH2]; exact qar _ _
 have hvlt : ∀ b, In v b → b < H.nx := fun b hb => hL.gl.lt hb
 have sorted : Ok (C j (.f qb3) [v, .fn qlg [] []] H2) fun r H' => r = .tup [] ∧ ∃ cs' out', out'.Perm out ∧ out'.Pairwise (fun a b => a.headD 0 < b.headD 0) ∧ LsOk H0 H' v cs' out' ∧ (∀ c ∈ cs', c ∈ cs) ∧ Fm (In v) H2 H' := by
  rcases Nat.eq_zero_or_pos cs.length with h0 | h0
  ·have h1 := hL.gl.lenV
   rw [h0] at h1
   rw [ze8 hS (by omega) h1]
   have : out = [] := List.length_eq_zero_iff.1 (by omega)
   subst this
   exact Ok.ret ⟨rfl, cs, [], List.Perm.refl _, List.Pairwise.nil, hL.no f2, fun _ h => h, Fm.refl _ _⟩
  ·exact ze7 hC hS (hL.no f2) (by omega) h0 (by omega) (fun o ho => ⟨(hx o ho).1, fun x h => by have := (hx o ho).2.2 x h; omega⟩) hnd
 refine Ok.ve sorted ?_
 rintro r H3 ⟨rfl, cs', out', hp, hs, hL3, hcc, f3⟩
 have n3 := f3.nx
 have f23 : Fm (In v) H H3 := (f2.mono fun _ _ h => h.elim).trans f3
 have g3 : H3.get H.nx = qae 0 [.int .i64 (.ofNat n), gv] := (f3.get _ (by omega) fun hb => Nat.lt_irrefl _ (hvlt _ hb)).trans g2
 have l3 : H3.get (H.nx + 1) = qae 0 [v] := (f3.get _ (by omega) fun hb => by have := hvlt _ hb; omega).trans l2
 have hvl := hL3.gl.lenV
 have hlen' := hL3.len
 have hol : out'.length = out.length := hp.length_eq
 rw [hlen'] at hvl
 have mk := qme [.int .i64 (.ofNat 0)] 8 H3.nx n (by omega) (by omega)
 rw [qfp, q4v] at mk
 simp (disch := first | omega | exact ti rfl | (simp only [np, nq]; first | done | omega)) only [go_sem, reduceAdd, reduceLeDiff, g3, l3, mk, hvl]
 generalize hH4 : (qaw (qaw H3 (qae 0 (nats (List.replicate n 0)))) (qae 0 [.nilsl])).put (H3.nx + 1) (qae 0 [.sl H3.nx 0 n n true]) = H4
 have n4 : H4.nx = H3.nx + 2 := by rw [← hH4]; rfl
 have f4 : Fm No H3 H4 := by rw [← hH4]; exact (((Fm.refl _ _).push _).push _).put_new _ _ (by omega)
 have i4 : H4.get (H3.nx + 1) = qae 0 [.sl H3.nx 0 n n true] := by rw [← hH4, qai]
 have a4 : H4.get H3.nx = qae 0 (nats (List.replicate n 0)) := by rw [← hH4, qan _ _ _ _ (by omega), qa2 _ _ _ (by rw [np]; omega), qar]
 have hl4 : H4.get (H.nx + 1) = qae 0 [v] := (f4.keep (by omega)).trans l3
 unfold qyd
 rw [qam]
 have hL4 := hL3.no f4
 refine q5a (n := n) hL4 (by omega) (fun _ _ _ _ => trivial) (fun b hb => by have := hL3.gl.lt hb; omega) (fun i c b hc hb => ?_) (fun o ho => ?_) (by omega) i4 (by omega) (by omega) (fun H5 k1 k2 => ?_) qak 0 (List.replicate n 0) H4 (by rw [qag]; omega) (Nat.zero_le _) (by simp) a4 (Fm.refl _ _) rfl
 ·have hi := (List.getElem?_eq_some_iff.1 hc).1
  obtain ⟨_, h2, _⟩ := hL3.at' i c out'[i] hc (by simp)
  have := h2.lt hb
  omega
 ·have := hx o (hp.mem_iff.1 ho)
  exact ⟨by omega, this.2.2⟩
 ·unfold qfe
  have n5 := k2.nx
  refine Ok.ret ⟨H.nx + 1, H.nx, H3.nx + 1, H3.nx, cs', out', qge (List.replicate n 0) (out'.drop 0) 0, rfl, hp, hs, ⟨?_, ?_, ?_, k1, ⟨by omega, by omega, by omega, by omega⟩, ?_, ?_, ?_⟩, hcc, ?_, by omega, by omega, by omega, by omega⟩
  ·exact (k2.get _ (by omega) (by omega)).trans hl4
  ·exact (k2.get _ (by omega) (by omega)).trans ((f4.keep (by omega)).trans g3)
  ·exact (k2.get _ (by omega) (by omega)).trans i4
  ·exact hL3.fmS (((f4.mono fun _ _ h => h.elim : Fm (fun b => b = H3.nx) H3 H4)).trans k2) fun b _ hlt => by omega
  ·rw [qtj, List.length_replicate]
  ·intro i o x h1 h2
   have hm : o ∈ out' := List.mem_of_getElem? h1
   have := qtk out' (List.replicate n 0) 0 i x o (hp.flatten.nodup_iff.2 hnd) h1 h2 (by rw [List.length_replicate]; exact (hx o (hp.mem_iff.1 hm)).2.2 x h2)
   rw [List.drop_zero, this, Nat.zero_add]
  ·exact f23.then ((f4.mono fun _ _ h => h.elim : Fm (fun b => b = H3.nx) H3 H4).trans k2) fun c hc h => by omega
end Go.Di
end
section
/-
 Contracts: which components wait.
-/
namespace Go.Di
open Go.Ev Go.Di.T Go.Sort
variable {C : Nat → Ev.Call} {LA LO : LP}
def bools (l : List Bool) : List AV := l.map .bool
theorem q5l (l : List Bool) : (bools l).length = l.length := by simp [bools]
theorem zck (l : List Bool) (i : Nat) (h : i < l.length) : (bools l)[i]? = some (.bool l[i]) := by simp [bools, h]
theorem qo8 (l : List Bool) (i : Nat) (d : Bool) (h : i < l.length) : (bools l)[i]? = some (.bool (l.getD i d)) := by
 rw [zck l i h]
 simp [h]
theorem q0j (l : List Bool) (i : Nat) (b : Bool) (h : i < l.length) : setL (bools l) i [.bool b] = bools (l.set i b) := by
 unfold setL bools
 rw [List.map_set, List.set_eq_take_append_cons_drop, if_pos (by simpa using h)]
 simp
structure RS (D : Nat → Prop) (H : Hp) (n : Nat) (gv : AV) (es : List Edge) (v : AV) (cs : List AV) (ins : List Nat) (lb gb ib wb : Nat) : Prop where
 l : H.get lb = qae 0 [v]
 g : H.get gb = qae 0 [.int .i64 (.ofNat n), gv]
 i : H.get ib = qae 0 [.sl wb 0 n n true]
 w : H.get wb = qae 0 (nats ins)
 gl : Gl 1 H v cs.length cs
 e : IsE H gv es
 lt : lb < H.nx ∧ gb < H.nx ∧ ib < H.nx ∧ wb < H.nx
 dl : D lb
 dg : D gb
 di : D ib
 dw : D wb
 dv : ∀ b, In v b → D b
 de : ∀ b, In gv b → D b
def RB (gv v : AV) (lb gb ib wb b : Nat) : Prop := b = lb ∨ b = gb ∨ b = ib ∨ b = wb ∨ In v b ∨ In gv b
theorem RS.rb {D : Nat → Prop} {H : Hp} {n : Nat} {gv : AV} {es : List Edge} {v : AV} {cs : List AV} {ins : List Nat} {lb gb ib wb : Nat} (h : RS D H n gv es v cs ins lb gb ib wb) {b : Nat} (hb : RB gv v lb gb ib wb b) : D b := by
 rcases hb with rfl | rfl | rfl | rfl | hb | hb
 ·exact h.dl
 ·exact h.dg
 ·exact h.di
 ·exact h.dw
 ·exact h.dv b hb
 ·exact h.de b hb
theorem RS.keep {D : Nat → Prop} {H H' : Hp} {n : Nat} {gv : AV} {es : List Edge} {v : AV} {cs : List AV} {ins : List Nat} {lb gb ib wb : Nat} (h : RS D H n gv es v cs ins lb gb ib wb) {S : Nat → Prop} (f : Fm S H H') (hs : ∀ b, RB gv v lb gb ib wb b → ¬ S b) : RS D H' n gv es v cs ins lb gb ib wb := by
 obtain ⟨l1, l2, l3, l4⟩ := h.lt
 have hn := f.nx
 exact ⟨(f.get _ l1 (hs _ (Or.inl rfl))).trans h.l, (f.get _ l2 (hs _ (Or.inr (Or.inl rfl)))).trans h.g, (f.get _ l3 (hs _ (Or.inr (Or.inr (Or.inl rfl))))).trans h.i, (f.get _ l4 (hs _ (Or.inr (Or.inr (Or.inr (Or.inl rfl)))))).trans h.w,
  h.gl.keep hn fun b hb hlt => f.get b hlt (hs b (Or.inr (Or.inr (Or.inr (Or.inr (Or.inl hb)))))), h.e.keep hn fun b hb hlt => f.get b hlt (hs b (Or.inr (Or.inr (Or.inr (Or.inr (Or.inr hb)))))), ⟨by omega, by omega, by omega, by omega⟩, h.dl, h.dg, h.di, h.dw, h.dv, h.de⟩
theorem RS.no {D : Nat → Prop} {H H' : Hp} {n : Nat} {gv : AV} {es : List Edge} {v : AV} {cs : List AV} {ins : List Nat} {lb gb ib wb : Nat} (h : RS D H n gv es v cs ins lb gb ib wb) (f : Fm No H H') : RS D H' n gv es v cs ins lb gb ib wb := h.keep f fun _ _ h => h
def qic (ins : List Nat) (dn : List Bool) (w : List Bool) (e : Edge) : List Bool :=
 if ins.getD e.f 0 ≠ ins.getD e.t 0 ∧ dn.getD (ins.getD e.t 0) true = false then w.set (ins.getD e.f 0) true else w
def waits (es : List Edge) (ins : List Nat) (dn : List Bool) (w : List Bool) : List Bool := es.foldl (qic ins dn) w
theorem qys (ins : List Nat) (dn : List Bool) : ∀ (es : List Edge) (w : List Bool), (waits es ins dn w).length = w.length
 | [], w => rfl
 | e :: es, w => by
  show (waits es ins dn (qic ins dn w e)).length = _
  rw [qys ins dn es]
  unfold qic
  split
  ·rw [List.length_set]
  ·rfl
theorem qyu {call : Ev.Call} {D : Nat → Prop} {n : Nat} {gv : AV} {es : List Edge} {v : AV} {cs : List AV} {ins : List Nat} {lb gb ib wb db tb m : Nat} {dn : List Bool} {H1 : Hp} (hR : RS D H1 n gv es v cs ins lb gb ib wb)
  (hlen : es.length < 200000) (hil : ins.length = n) (hE : ∀ e ∈ es, e.f < n ∧ e.t < n) (hin : ∀ x < n, ins.getD x 0 < m) (hdl : dn.length = m) (hdb : H1.get db = qae 0 (bools dn)) (hdlt : db < H1.nx) (htb : H1.nx ≤ tb) {q : Hp → R1} {Q : AV → Hp → Prop} {fin : List Bool}
  (hq : ∀ H, H.get tb = qae 0 (bools fin) → Fm No H1 H → tb < H.nx → Ok (q H) Q) :
  ∀ (k i : Nat) (w : List Bool) (H : Hp), es.length - i < k → i ≤ es.length → w.length = m → H.get tb = qae 0 (bools w) → Fm No H1 H → tb < H.nx → waits (es.drop i) ins dn w = fin →
   Ok (qhl call q (.ptr ib 0) (.sl db 0 m m true) (.sl tb 0 m m true) gv (.int .i64 (.ofNat es.length)) k (.int .i64 (.ofNat i)) H) Q
 | 0, i, w, H, h, _, _, _, _, _, _ => by omega
 | k + 1, i, w, H, h, hi, hw, ht, hF, hlt, hf => by
  show Ok (qwm call _ _ _ _ _ _ (qhl call _ _ _ _ _ _ k) _ H) Q
  unfold qwm
  by_cases hie : i < es.length
  ·simp (disch := first | omega | exact ti rfl) only [go_sem, reduceAdd, reduceLeDiff, hie]
   unfold qwk
   have hR' := hR.no hF
   obtain ⟨b, o, e1, e2, e3⟩ := hR'.e.at hie
   obtain ⟨hf1, ht1⟩ := hE es[i] (List.getElem_mem _)
   have hgf : (nats ins)[es[i].f]? = some (.int .i64 (.ofNat (ins.getD es[i].f 0))) := by rw [q4w _ _ (by omega), List.getD_eq_getElem?_getD, List.getElem?_eq_getElem (by omega)]; rfl
   have hgt : (nats ins)[es[i].t]? = some (.int .i64 (.ofNat (ins.getD es[i].t 0))) := by rw [q4w _ _ (by omega), List.getD_eq_getElem?_getD, List.getElem?_eq_getElem (by omega)]; rfl
   have ha := hin _ hf1
   have hb := hin _ ht1
   have hdg : (bools dn)[ins.getD es[i].t 0]? = some (.bool (dn.getD (ins.getD es[i].t 0) true)) := qo8 _ _ _ (by omega)
   have hdrop : es.drop i = es[i] :: es.drop (i + 1) := List.drop_eq_getElem_cons hie
   rw [hdrop] at hf
   have hf : waits (es.drop (i + 1)) ins dn (qic ins dn w es[i]) = fin := hf
   obtain ⟨l1, l2, l3, l4⟩ := hR'.lt
   have hwi := hR'.i
   have hww := hR'.w
   have hn1 := hF.nx
   have hdb' : H.get db = qae 0 (bools dn) := (hF.keep hdlt).trans hdb
   generalize ha' : ins.getD es[i].f 0 = a at *
   generalize hb' : ins.getD es[i].t 0 = c at *
   have goOn : ∀ (w' : List Bool) (H' : Hp), qic ins dn w es[i] = w' → H'.get tb = qae 0 (bools w') → Fm No H1 H' → tb < H'.nx → Ok (qly call (qhl call q (.ptr ib 0) (.sl db 0 m m true) (.sl tb 0 m m true) gv (.int .i64 (.ofNat es.length)) k) (.int .i64 (.ofNat i)) H') Q := fun w' H' h1 h2 h3 h4 => by
    unfold qly
    simp (disch := first | omega | exact ti rfl) only [go_sem, reduceAdd, reduceLeDiff]
    refine qyu hR hlen hil hE hin hdl hdb hdlt htb hq k (i + 1) w' H' (by omega) (by omega) ?_ h2 h3 h4 (by rw [h1] at hf; exact hf)
    rw [← h1]
    unfold qic
    split
    ·rw [List.length_set]; exact hw
    ·exact hw
   have fA : Fm No H ((qaw H (qae 0 [.int .i64 (.ofNat 0), .int .i64 (.ofNat 0), .bool false])).put H.nx (qae 0 [.int .i64 (.ofNat es[i].f), .int .i64 (.ofNat es[i].t), .bool es[i].s])) := by (repeat (first | exact Fm.refl _ _ | assumption | refine Fm.push ?_ _ | refine Fm.up2 ?_ (by (first | omega | (simp only [np, nq]; omega))) | refine Fm.put_new ?_ _ _ (by (first | omega | (simp only [np, nq]; omega)))))
   have ht2 : ((qaw H (qae 0 [.int .i64 (.ofNat 0), .int .i64 (.ofNat 0), .bool false])).put H.nx (qae 0 [.int .i64 (.ofNat es[i].f), .int .i64 (.ofNat es[i].t), .bool es[i].s])).get tb = qae 0 (bools w) := (fA.keep hlt).trans ht
   by_cases hac : a = c
   ·have hw' : qic ins dn w es[i] = w := by
     unfold qic
     rw [ha', hb', if_neg (by simp [hac])]
    simp (disch := first | omega | exact ti rfl) only [go_sem, reduceAdd, reduceLeDiff, e1, e3, Edge.cells, hwi, hww, hgf, hgt, hac, Nat.mul_one, Nat.zero_add, List.length_cons, List.length_nil]
    exact goOn w _ hw' ht2 (hF.trans fA) (by show tb < H.nx + 1; omega)
   ·cases hd : dn.getD c true with
    | true =>
     have hw' : qic ins dn w es[i] = w := by
      unfold qic
      rw [ha', hb', hd, if_neg (by simp)]
     rw [hd] at hdg
     simp (disch := first | omega | exact ti rfl) only [go_sem, reduceAdd, reduceLeDiff, e1, e3, Edge.cells, hwi, hww, hgf, hgt, hac, hdb', hdg, Nat.mul_one, Nat.zero_add, List.length_cons, List.length_nil]
     exact goOn w _ hw' ht2 (hF.trans fA) (by show tb < H.nx + 1; omega)
    | false =>
     have hw' : qic ins dn w es[i] = w.set a true := by
      unfold qic
      rw [ha', hb', hd, if_pos ⟨hac, rfl⟩]
     rw [hd] at hdg
     have hle : a + 1 ≤ w.length := by omega
     simp (disch := first | omega | exact ti rfl) only [go_sem, reduceAdd, reduceLeDiff, e1, e3, Edge.cells, hwi, hww, hgf, hgt, hac, hdb', hdg, ht2, Nat.mul_one, Nat.zero_add, List.length_cons, List.length_nil, q5l, hle, if_true]
     rw [q0j _ _ _ (by omega)]
     exact goOn (w.set a true) _ hw' (qai _ _ _) ((hF.trans fA).put_new _ _ (by omega)) (by show tb < H.nx + 1; omega)
  ·simp (disch := first | omega | exact ti rfl) only [go_sem, reduceAdd, reduceLeDiff, hie]
   have : i = es.length := by omega
   subst this
   rw [List.drop_length] at hf
   have hf : w = fin := hf
   subst hf
   exact hq H ht hF hlt
end Go.Di
end
section
/-
 Contracts: components are yielded in order.
-/
namespace Go.Di
open Go.Ev Go.Di.T Go.Sort
variable {C : Nat → Ev.Call} {LA LO : LP}
def okP (dn w : List Bool) (i : Nat) : Bool := !dn.getD i true && !w.getD i true
def ql1 (dn w : List Bool) (m : Nat) : Option Nat := (List.range m).find? (okP dn w)
def rnds (es : List Edge) (ins : List Nat) (m : Nat) : Nat → List Bool → List Nat
 | 0, _ => []
 | k + 1, dn => match ql1 dn (waits es ins dn (List.replicate m false)) m with
  | none => rnds es ins m k dn
  | some i => i :: rnds es ins m k (dn.set i true)
theorem qur {dn w : List Bool} {m : Nat} (h : ql1 dn w m = none) : ∀ j, j < m → okP dn w j = false := fun j hj => by
 have := List.find?_eq_none.1 h j (List.mem_range.2 hj)
 simpa using this
theorem qgv {dn w : List Bool} {m i : Nat} (h : ql1 dn w m = some i) : i < m ∧ okP dn w i = true ∧ ∀ j, j < i → okP dn w j = false := by
 have h1 := List.find?_some h
 have h2 := List.mem_of_find?_eq_some h
 rw [List.mem_range] at h2
 refine ⟨h2, h1, fun j hj => ?_⟩
 unfold ql1 at h
 rw [List.find?_eq_some_iff_append] at h
 obtain ⟨_, as, bs, e, hn⟩ := h
 have hm : j ∈ as := by
  have hjr : j ∈ List.range m := List.mem_range.2 (by omega)
  rw [e] at hjr
  rcases List.mem_append.1 hjr with g | g
  ·exact g
  ·have hs : (List.range m).Pairwise (· < ·) := List.pairwise_lt_range
   rw [e, List.pairwise_append, List.pairwise_cons] at hs
   rcases List.mem_cons.1 g with g | g
   ·omega
   ·have := hs.2.1.1 j g; omega
 simpa using hn j hm
structure YI (C0 : Ev.Call) (y bs : Nat) (cs : List AV) (ord : List Nat) (Inv : Nat → (Nat → Prop) → Hp → Prop) : Prop where
 ext : ∀ t D D' H H', Inv t D H → Fm (fun b => D b ∧ bs ≤ b) H H' → (∀ b, D' b → D b ∨ (H.nx ≤ b ∧ b < H'.nx)) → Inv t D' H'
 step : ∀ t i c D H, ord[t]? = some i → cs[i]? = some c → Inv t D H → Ok (C0 (.y y) [c] H) fun r H' => r = .bool true ∧ Inv (t + 1) D H' ∧ Fm (fun b => ¬ D b) H H'
theorem qy1 {C0 : Ev.Call} {y bs : Nat} {ord : List Nat} {Inv : Nat → (Nat → Prop) → Hp → Prop} {D : Nat → Prop} {n : Nat} {gv : AV} {es : List Edge} {v : AV} {cs : List AV} {ins : List Nat} {lb gb ib wb db tb m t : Nat} {dn w : List Bool} (hY : YI C0 y bs cs ord Inv) (hm : m = cs.length) (hml : m < 900000) (hdl : dn.length = m) (hwl : w.length = m) (hdD : D db) (hbs : bs ≤ db) (hdne : db ≠ lb)
  {q14r q14e : Hp → R1} {Q : AV → Hp → Prop} {H : Hp} (hR : RS D H n gv es v cs ins lb gb ib wb) (hdv : ∀ b, In v b → b ≠ db) (hdb : H.get db = qae 0 (bools dn)) (hdlt : db < H.nx) (htb : H.get tb = qae 0 (bools w)) (hI : Inv t D H)
  (hnone : ql1 dn w m = none → Ok (q14e H) Q) (hsome : ∀ p H', ql1 dn w m = some p → ord[t]? = some p → H'.get db = qae 0 (bools (dn.set p true)) → Inv (t + 1) D H' → Fm (fun b => ¬ D b ∨ b = db) H H' → Ok (q14e H') Q)
  (hord : ∀ p, ql1 dn w m = some p → ord[t]? = some p) :
  ∀ (k i : Nat), m - i < k → i ≤ m → (∀ j, j < i → okP dn w j = false) →
   Ok (qhm C0 q14r q14e (.yield y) (.ptr lb 0) (.sl db 0 m m true) (.sl tb 0 m m true) (.int .i64 (.ofNat m)) k (.int .i64 (.ofNat i)) H) Q
 | 0, i, h, _, _ => by omega
 | k + 1, i, h, hi, hj => by
  show Ok (qwn C0 _ _ _ _ _ _ _ (qhm C0 _ _ _ _ _ _ _ k) _ H) Q
  unfold qwn
  by_cases him : i < m
  ·have hgo : okP dn w i = false → Ok (qps C0 (qhm C0 q14r q14e (.yield y) (.ptr lb 0) (.sl db 0 m m true) (.sl tb 0 m m true) (.int .i64 (.ofNat m)) k) (.int .i64 (.ofNat i)) H) Q := fun hok => by
    unfold qps
    simp (disch := omega) only [go_sem, reduceAdd]
    exact qy1 hY hm hml hdl hwl hdD hbs hdne hR hdv hdb hdlt htb hI hnone hsome hord k (i + 1) (by omega) (by omega) fun j hj' => by
     by_cases e : j = i
     ·rw [e]; exact hok
     ·exact hj j (by omega)
   have gd := qo8 dn i true (by omega)
   have gw := qo8 w i true (by omega)
   simp (disch := omega) only [go_sem, reduceAdd, him]
   unfold qwl
   cases hd : dn.getD i true with
   | true =>
    rw [hd] at gd
    simp (disch := omega) only [go_sem, reduceAdd, hdb, gd, Nat.mul_one, Nat.zero_add]
    exact hgo (by unfold okP; rw [hd]; rfl)
   | false =>
    rw [hd] at gd
    cases hw : w.getD i true with
    | true =>
     rw [hw] at gw
     simp (disch := omega) only [go_sem, reduceAdd, hdb, gd, htb, gw, Nat.mul_one, Nat.zero_add]
     exact hgo (by unfold okP; rw [hd, hw]; rfl)
    | false =>
     rw [hw] at gw
     have hok : okP dn w i = true := by unfold okP; rw [hd, hw]; rfl
     have hp : ql1 dn w m = some i := by
      cases hpk : ql1 dn w m with
      | none => have := qur hpk i him; rw [hok] at this; cases this
      | some p =>
       obtain ⟨p1, p2, p3⟩ := qgv hpk
       rcases Nat.lt_trichotomy p i with g | g | g
       ·have := hj p g; rw [p2] at this; cases this
       ·rw [g]
       ·have := p3 i g; rw [hok] at this; cases this
     have hle : i + 1 ≤ dn.length := by omega
     have hll : (H.put db (qae 0 (bools (dn.set i true)))).get lb = qae 0 [v] := by rw [qan _ _ _ _ (Ne.symm hdne)]; exact hR.l
     have hgl : Gl 1 (H.put db (qae 0 (bools (dn.set i true)))) v cs.length cs := hR.gl.keep (Nat.le_refl _) fun b hb _ => qan _ _ _ _ (hdv b hb)
     obtain ⟨b, o, e1, _, _, e2⟩ := hgl.at (i := i) (x := cs[i]'(by omega)) (by simp)
     have fd : Fm (fun b => b = db) H (H.put db (qae 0 (bools (dn.set i true)))) := (Fm.refl _ _).put _ _ fun _ => rfl
     have hI2 : Inv t D (H.put db (qae 0 (bools (dn.set i true)))) := hY.ext t D D _ _ hI (fd.mono fun b _ h => by subst h; exact ⟨hdD, hbs⟩) fun b h => Or.inl h
     simp (disch := omega) only [go_sem, reduceAdd, hdb, gd, htb, gw, Nat.mul_one, Nat.zero_add, List.length_cons, List.length_nil, q5l, hle, if_true]
     rw [q0j _ _ _ (by omega)]
     have hl0 := hR.l
     simp (disch := omega) only [go_sem, reduceAdd, hll, hl0, e1, e2, zb2]
     refine Ok.ve (hY.step t i (cs[i]'(by omega)) D _ (hord i hp) (List.getElem?_eq_getElem (by omega)) hI2) ?_
     rintro r H' ⟨rfl, hI3, f3⟩
     simp (disch := omega) only [go_sem, reduceAdd]
     refine hsome i H' hp (hord i hp) ?_ hI3 ((fd.mono fun _ _ h => Or.inr h).trans (f3.mono fun _ _ h => Or.inl h))
     rw [f3.get db hdlt fun h => h hdD, qai]
  ·simp (disch := omega) only [go_sem, reduceAdd, him]
   have : i = m := by omega
   subst this
   cases hp : ql1 dn w i with
   | none => exact hnone hp
   | some p =>
    obtain ⟨p1, p2, p3⟩ := qgv hp
    have := hj p p1; rw [p2] at this; cases this
theorem q0k (m : Nat) : List.replicate m (AV.bool false) = bools (List.replicate m false) := by simp [bools]
theorem qns {C0 : Ev.Call} {y bs : Nat} {ord : List Nat} {Inv : Nat → (Nat → Prop) → Hp → Prop} {D : Nat → Prop} {n : Nat} {gv : AV} {es : List Edge} {v : AV} {cs : List AV} {ins : List Nat} {lb gb ib wb db m : Nat} (hY : YI C0 y bs cs ord Inv) (hm : m = cs.length) (hml : m < 900000) (hdD : D db) (hbs : bs ≤ db)
  (hdne : db ≠ lb ∧ db ≠ gb ∧ db ≠ ib ∧ db ≠ wb) (hdv : ∀ b, In v b → b ≠ db) (hdg : ∀ b, In gv b → b ≠ db) (hlen : es.length < 200000) (hil : ins.length = n) (hE : ∀ e ∈ es, e.f < n ∧ e.t < n) (hin : ∀ x < n, ins.getD x 0 < m) {q5r q5e : Hp → R1} {Q : AV → Hp → Prop}
  (hq : ∀ H, Inv ord.length D H → Ok (q5e H) Q) :
  ∀ (k c t : Nat) (dn : List Bool) (H : Hp), m - c < k → c ≤ m → dn.length = m → RS D H n gv es v cs ins lb gb ib wb → H.get db = qae 0 (bools dn) → db < H.nx → Inv t D H → t ≤ ord.length → ord.drop t = rnds es ins m (m - c) dn →
   Ok (qcj C0 q5r q5e (.yield y) (.ptr lb 0) (.ptr gb 0) (.ptr ib 0) (.sl db 0 m m true) (.int .i64 (.ofNat m)) k (.int .i64 (.ofNat c)) H) Q
 | 0, c, t, dn, H, h, _, _, _, _, _, _, _, _ => by omega
 | k + 1, c, t, dn, H, h, hc, hdl, hR, hdb, hdlt, hI, ht, ho => by
  show Ok (q1m C0 _ _ _ _ _ _ _ _ (qcj C0 _ _ _ _ _ _ _ _ k) _ H) Q
  unfold q1m
  by_cases hcm : c < m
  ·simp (disch := omega) only [go_sem, reduceAdd, hcm]
   unfold qwj
   have e1 := hR.l
   have e2 := hR.gl.lenV
   rw [← hm] at e2
   have e3 := hR.g
   have e4 := hR.e.len
   have mk := qme [.bool false] 1 H.nx m (by omega) (by omega)
   rw [qfp, q0k] at mk
   obtain ⟨l1, l2, l3, l4⟩ := hR.lt
   have fH : Fm No H (qaw H (qae 0 (bools (List.replicate m false)))) := (Fm.refl _ _).push _
   have e3' : (qaw H (qae 0 (bools (List.replicate m false)))).get gb = qae 0 [.int .i64 (.ofNat n), gv] := (fH.keep l2).trans e3
   simp (disch := omega) only [go_sem, reduceAdd, e1, e2, mk, e3', e4]
   unfold qwo
   rw [qam]
   refine qyu hR hlen hil hE hin hdl hdb hdlt (tb := H.nx) (Nat.le_refl _) (fin := waits es ins dn (List.replicate m false)) (fun H2 g1 g2 g3 => ?_) qak 0 (List.replicate m false) _ (by rw [qag]; omega) (Nat.zero_le _) (by simp) (qar _ _) fH (Nat.lt_succ_self _) rfl
   unfold qho
   have f2 : Fm No H H2 := g2
   have hR2 := hR.no f2
   have e5 := hR2.l
   simp (disch := omega) only [go_sem, reduceAdd, e5, e2]
   unfold qwp
   rw [qam]
   have hI2 : Inv t D H2 := hY.ext t D D _ _ hI (f2.mono fun _ _ h => h.elim) fun b h => Or.inl h
   have hmc : m - c = (m - (c + 1)) + 1 := by omega
   rw [hmc, rnds] at ho
   refine qy1 hY hm hml hdl (by rw [qys]; simp) hdD hbs hdne.1 hR2 hdv ((f2.keep hdlt).trans hdb) (Nat.lt_of_lt_of_le hdlt f2.nx) g1 hI2 (fun hp => ?_) (fun p H3 hp hop k1 k2 k3 => ?_) (fun p hp => ?_) qak 0 (by rw [qag]; omega) (Nat.zero_le _) fun j hj => absurd hj (Nat.not_lt_zero _)
   ·unfold qhn
    simp (disch := omega) only [go_sem, reduceAdd]
    rw [hp] at ho
    exact qns hY hm hml hdD hbs hdne hdv hdg hlen hil hE hin hq k (c + 1) t dn H2 (by omega) (by omega) hdl hR2 ((f2.keep hdlt).trans hdb) (Nat.lt_of_lt_of_le hdlt f2.nx) hI2 ht ho
   ·unfold qhn
    simp (disch := omega) only [go_sem, reduceAdd]
    rw [hp] at ho
    have hlt : t < ord.length := (List.getElem?_eq_some_iff.1 hop).1
    have ho' : ord.drop (t + 1) = rnds es ins m (m - (c + 1)) (dn.set p true) := by
     rw [List.drop_eq_getElem_cons hlt] at ho
     exact (List.cons.inj ho).2
    refine qns hY hm hml hdD hbs hdne hdv hdg hlen hil hE hin hq k (c + 1) (t + 1) (dn.set p true) H3 (by omega) (by omega) (by rw [List.length_set]; exact hdl) (hR2.keep k3 ?_) k1 (Nat.lt_of_lt_of_le hdlt (Nat.le_trans f2.nx k3.nx)) k2 hlt ho'
    rintro b hb (h | h)
    ·exact h (hR2.rb hb)
    ·subst h
     rcases hb with e | e | e | e | e | e
     ·exact hdne.1 e
     ·exact hdne.2.1 e
     ·exact hdne.2.2.1 e
     ·exact hdne.2.2.2 e
     ·exact hdv _ e rfl
     ·exact hdg _ e rfl
   ·rw [hp] at ho
    have h0 : (ord.drop t)[0]? = some p := by rw [ho]; rfl
    rwa [List.getElem?_drop, Nat.add_zero] at h0
  ·simp (disch := omega) only [go_sem, reduceAdd, hcm]
   have : c = m := by omega
   subst this
   rw [Nat.sub_self] at ho
   have h0 : ord.drop t = [] := ho
   have : ord.length ≤ t := List.drop_eq_nil_iff.1 h0
   have : t = ord.length := by omega
   subst this
   exact hq H hI
theorem q9d (hC : qbt C) {k : Nat} (hk : 1 ≤ k) {y bs : Nat} {ord : List Nat} {Inv : Nat → (Nat → Prop) → Hp → Prop} {n : Nat} {gv : AV} {es : List Edge} {v : AV} {cs : List AV} {ins : List Nat} {lb gb ib wb : Nat} {D : Nat → Prop} {H : Hp} (hY : YI (C (k - 1)) y bs cs ord Inv) (hml : cs.length < 900000)
  (hR : RS D H n gv es v cs ins lb gb ib wb) (hbs : bs ≤ H.nx) (hlen : es.length < 200000) (hil : ins.length = n) (hE : ∀ e ∈ es, e.f < n ∧ e.t < n) (hin : ∀ x < n, ins.getD x 0 < cs.length) (ho : ord = rnds es ins cs.length cs.length (List.replicate cs.length false)) (hI : Inv 0 D H) :
  Ok (C k (.f qi9) [.yield y, .ptr lb 0, .ptr gb 0, .ptr ib 0] H) fun r H' => r = .tup [] ∧ ∃ D', Inv ord.length D' H' := by
 obtain ⟨j, rfl⟩ : ∃ j, k = j + 1 := ⟨k - 1, by omega⟩
 rw [(hC j).rdyB]
 unfold rdyB q9g
 have e1 := hR.l
 have e2 := hR.gl.lenV
 obtain ⟨l1, l2, l3, l4⟩ := hR.lt
 have mk := qme [.bool false] 1 H.nx cs.length (by omega) (by omega)
 rw [qfp, q0k] at mk
 have fH : Fm No H (qaw H (qae 0 (bools (List.replicate cs.length false)))) := (Fm.refl _ _).push _
 have e1' : (qaw H (qae 0 (bools (List.replicate cs.length false)))).get lb = qae 0 [v] := (fH.keep l1).trans e1
 simp (disch := omega) only [go_sem, reduceAdd, e1, e2, mk, e1']
 unfold q1n
 rw [qam]
 have hR1 := hR.no fH
 have hR2 : RS (fun b => D b ∨ b = H.nx) (qaw H (qae 0 (bools (List.replicate cs.length false)))) n gv es v cs ins lb gb ib wb :=
  ⟨hR1.l, hR1.g, hR1.i, hR1.w, hR1.gl, hR1.e, hR1.lt, Or.inl hR1.dl, Or.inl hR1.dg, Or.inl hR1.di, Or.inl hR1.dw, fun b h => Or.inl (hR1.dv b h), fun b h => Or.inl (hR1.de b h)⟩
 refine qns (D := fun b => D b ∨ b = H.nx) hY rfl hml (Or.inr rfl) hbs ⟨by omega, by omega, by omega, by omega⟩ (fun b hb e => by have := hR.gl.lt hb; omega) (fun b hb e => by have := hR.e.lt hb; omega) hlen hil hE hin (fun H' h => Ok.ret ⟨rfl, _, h⟩) qak 0 0 (List.replicate cs.length false) _ (by rw [qag]; omega) (Nat.zero_le _) (by simp) hR2 (qar _ _) (Nat.lt_succ_self _) (hY.ext 0 D _ _ _ hI (fH.mono fun _ _ h => h.elim) fun b h => h.imp id fun e => ⟨by omega, by rw [np]; omega⟩) (Nat.zero_le _) ?_
 rw [Nat.sub_zero, List.drop_zero]
 exact ho
end Go.Di
end
section
/-
 Contracts: a round of the loop over the components, in comps.Of.
-/
namespace Go.Di
open Go.Ev Go.Di.T Go.Sort
variable {C : Nat → Ev.Call} {LA LO : LP}
def InOk (HB H : Hp) (iv : AV) (nb n l ob : Nat) (ins : List Nat) (D : Nat → Prop) : Prop :=
 (n = 0 ∧ iv = .nilsl) ∨ (iv = .sl nb 0 n n true ∧ H.get nb = qae 0 (nats ins) ∧ HB.nx ≤ nb ∧ nb < l ∧ ¬ D nb ∧ nb ≠ ob)
structure OI (LO : LP) (HB : Hp) (L : TT AV 2) (l ob nb x2 n : Nat) (iv : AV) (cs : List AV) (out : List (List Nat)) (ord : List Nat) (t : Nat) (D : Nat → Prop) (H : Hp) : Prop where
 fm : Fm No HB H
 dlt : ∀ b, D b → b < H.nx
 lp : H.get l = LO.blk true L
 hl : HB.nx ≤ l ∧ l < H.nx ∧ ¬ D l
 ho : HB.nx ≤ ob ∧ ob < l ∧ ¬ D ob
 rc : H.get x2 = qae 0 [.nilsl, .nilsl] ∧ x2 < l ∧ ¬ D x2 ∧ x2 ≠ ob ∧ x2 ≠ nb
 ins : ∃ ins2 : List Nat, ins2.length = n ∧ InOk HB H iv nb n l ob ins2 D ∧ ∀ (j i : Nat) (o : List Nat) (x : Nat), j < t → ord[j]? = some i → out[i]? = some o → x ∈ o → ins2[x]? = some j
 lv : ∃ (lv : AV) (os : List AV), H.get ob = qae 0 [lv, iv] ∧ Gl 1 H lv t os ∧ (∀ b, In lv b → l < b ∧ ¬ D b) ∧ ∀ (j : Nat) (w : AV), os[j]? = some w → ∃ i o, ord[j]? = some i ∧ out[i]? = some o ∧ Gl 1 H w o.length (nats o) ∧ capV w = .val (.int .i64 (.ofNat o.length)) ∧ ∀ b, In w b → HB.nx ≤ b ∧ ¬ D b ∧ b < l ∧ b ≠ ob ∧ b ≠ nb ∧ b ≠ x2
 cs : ∀ (i : Nat) (c : AV) (o : List Nat), cs[i]? = some c → out[i]? = some o → Gl 1 H c o.length (nats o) ∧ ∀ b, In c b → HB.nx ≤ b ∧ ¬ D b ∧ b < l ∧ b ≠ ob ∧ b ≠ nb ∧ b ≠ x2
theorem OI.ext {HB : Hp} {L : TT AV 2} {l ob nb x2 n : Nat} {iv : AV} {cs : List AV} {out : List (List Nat)} {ord : List Nat} {t : Nat} {D D' : Nat → Prop} {H H' : Hp} (h : OI LO HB L l ob nb x2 n iv cs out ord t D H) (f : Fm (fun b => D b ∧ HB.nx ≤ b) H H') (hD : ∀ b, D' b → D b ∨ (H.nx ≤ b ∧ b < H'.nx)) :
  OI LO HB L l ob nb x2 n iv cs out ord t D' H' := by
 obtain ⟨l1, l2, l3⟩ := h.hl
 obtain ⟨o1, o2, o3⟩ := h.ho
 obtain ⟨x1', x3, x4, x5⟩ := h.rc
 have nD : ∀ b, b < H.nx → ¬ D b → ¬ D' b := fun b hb hd hd' => (hD b hd').elim hd fun g => by have := g.1; omega
 have kp : ∀ b, b < H.nx → ¬ D b → H'.get b = H.get b := fun b hb hd => f.get b hb fun g => hd g.1
 obtain ⟨ins2, i1, i2, i3⟩ := h.ins
 obtain ⟨lv, os, v1, v2, v3, v4⟩ := h.lv
 refine ⟨h.fm.then f fun c hc g => absurd hc (by have := g.2; omega), fun b hb => (hD b hb).elim (fun g => Nat.lt_of_lt_of_le (h.dlt b g) f.nx) fun g => g.2, (kp l l2 l3).trans h.lp, ⟨l1, Nat.lt_of_lt_of_le l2 f.nx, nD l l2 l3⟩, ⟨o1, o2, nD ob (by omega) o3⟩, ⟨(kp x2 (by omega) x4).trans x1', x3, nD x2 (by omega) x4, x5⟩, ⟨ins2, i1, ?_, i3⟩, ⟨lv, os, (kp ob (by omega) o3).trans v1, v2.keep f.nx fun b hb hlt => kp b hlt (v3 b hb).2, fun b hb => ⟨(v3 b hb).1, nD b (v2.lt hb) (v3 b hb).2⟩, fun j w hj => ?_⟩, fun i c o h1 h2 => ?_⟩
 ·rcases i2 with g | ⟨g1, g2, g3, g4, g5, g6⟩
  ·exact Or.inl g
  ·exact Or.inr ⟨g1, (kp nb (by omega) g5).trans g2, g3, g4, nD nb (by omega) g5, g6⟩
 ·obtain ⟨i, o, a1, a2, a3, a4, a5⟩ := v4 j w hj
  exact ⟨i, o, a1, a2, a3.keep f.nx fun b hb hlt => kp b hlt (a5 b hb).2.1, a4, fun b hb => ⟨(a5 b hb).1, nD b (a3.lt hb) (a5 b hb).2.1, (a5 b hb).2.2⟩⟩
 ·obtain ⟨a3, a5⟩ := h.cs i c o h1 h2
  exact ⟨a3.keep f.nx fun b hb hlt => kp b hlt (a5 b hb).2.1, fun b hb => ⟨(a5 b hb).1, nD b (a3.lt hb) (a5 b hb).2.1, (a5 b hb).2.2⟩⟩
theorem qzr {call : Ev.Call} {c lv : AV} {o : List Nat} {ob nb n t : Nat} {H1 : Hp} (hc : Gl 1 H1 c o.length (nats o)) (hcb : ∀ b, In c b → b ≠ nb) (hol : o.length < 900000) (ho : ∀ x ∈ o, x < n) (hob : H1.get ob = qae 0 [lv, .sl nb 0 n n true]) (hin : ob ≠ nb) (hil : ob < H1.nx) (hlv : qa9 lv = .val (.int .i64 (.ofNat t))) {q : Hp → R1} {Q : AV → Hp → Prop} {fin : List Nat}
  (hq : ∀ H, H.get nb = qae 0 (nats fin) → Fm (fun b => b = nb) H1 H → Ok (q H) Q) :
  ∀ (k j : Nat) (ins : List Nat) (H : Hp), o.length - j < k → j ≤ o.length → ins.length = n → H.get nb = qae 0 (nats ins) → Fm (fun b => b = nb) H1 H → fill ins (o.drop j) t = fin →
   Ok (qo1 call q (.ptr ob 0) c (.int .i64 (.ofNat o.length)) k (.int .i64 (.ofNat j)) H) Q
 | 0, j, ins, H, h, _, _, _, _, _ => by omega
 | k + 1, j, ins, H, h, hj, hl, hg, hF, hf => by
  show Ok (q3k call _ _ _ _ (qo1 call _ _ _ _ k) _ H) Q
  unfold q3k
  by_cases hjl : j < o.length
  ·obtain ⟨b, q', e1, e2, e3⟩ := hc.rl.at' j (by rw [qbg]; exact hjl)
   rw [qoj] at e3
   have e4 : H.get b = H1.get b := hF.get b e2 (hcb b (hc.idx_in hjl e1))
   have e5 : H.get ob = qae 0 [lv, .sl nb 0 n n true] := (hF.get ob hil hin).trans hob
   have hx : o[j] < n := ho _ (List.getElem_mem _)
   have hle : o[j] + 1 ≤ ins.length := by omega
   simp (disch := omega) only [go_sem, reduceAdd, reduceLeDiff, reduceShiftRight, reduceAnd, hjl]
   unfold q3h
   simp (disch := omega) only [go_sem, reduceAdd, reduceLeDiff, reduceShiftRight, reduceAnd, e1, e4, e3, e5, hlv, hg, Nat.mul_one, Nat.zero_add, List.length_cons, List.length_nil, qbg, hle, if_true]
   unfold q3i
   simp (disch := omega) only [go_sem, reduceAdd, reduceLeDiff, reduceShiftRight, reduceAnd]
   have hd : o.drop j = o[j] :: o.drop (j + 1) := List.drop_eq_getElem_cons hjl
   rw [q4u _ _ _ (by omega)]
   refine qzr hc hcb hol ho hob hin hil hlv hq k (j + 1) (ins.set o[j] t) _ (by omega) (by omega) (by rw [List.length_set]; exact hl) (qai _ _ _) (hF.put _ _ fun _ => rfl) ?_
   rw [hd] at hf
   exact hf
  ·simp (disch := omega) only [go_sem, reduceAdd, reduceLeDiff, reduceShiftRight, reduceAnd, hjl]
   have : j = o.length := by omega
   subst this
   rw [List.drop_length] at hf
   subst hf
   exact hq H hg hF
theorem zh4 (hC : qbt C) (hR : qc8 LA LO C) {k : Nat} (hk : 2 ≤ k) {HB : Hp} {L : TT AV 2} {l ob nb x2 n : Nat} (hG : G L 5 = .ptr ob 0) {iv : AV} {cs : List AV} {out : List (List Nat)} {ord : List Nat} {t i : Nat} {c : AV} {D : Nat → Prop} {H : Hp} (hI : OI LO HB L l ob nb x2 n iv cs out ord t D H)
  (ht : ord[t]? = some i) (hc : cs[i]? = some c) (hlen : cs.length = out.length) (hn : n ≤ 256) (ht2 : t < 900) (hout : ∀ o ∈ out, o ≠ [] ∧ o.length ≤ 256 ∧ ∀ x ∈ o, x < n) (hnd : ∀ (i' : Nat) (o' o : List Nat) (x : Nat), out[i']? = some o' → out[i]? = some o → x ∈ o → x ∈ o' → i' = i) (hinj : ∀ j, j < t → ord[j]? ≠ some i) :
  Ok (C k (.y l) [c] H) fun r H' => r = .bool true ∧ OI LO HB L l ob nb x2 n iv cs out ord (t + 1) D H' ∧ Fm (fun b => ¬ D b) H H' := by
 obtain ⟨k, rfl⟩ : ∃ j, k = j + 1 := ⟨k - 1, by omega⟩
 rw [(hR k).cOf_y L l c H hI.lp, hG]
 unfold cOf_y
 obtain ⟨l1, l2, l3⟩ := hI.hl
 obtain ⟨o1, o2, o3⟩ := hI.ho
 have hic : i < cs.length := (List.getElem?_eq_some_iff.1 hc).1
 obtain ⟨o, ho⟩ : ∃ o, out[i]? = some o := ⟨out[i]'(by omega), by simp⟩
 obtain ⟨g1, g2⟩ := hI.cs i c o hc ho
 obtain ⟨q1, q2, q3⟩ := hout o (List.mem_of_getElem? ho)
 obtain ⟨x1', x3, x4, x5⟩ := hI.rc
 obtain ⟨ins2, i1, i2, i3⟩ := hI.ins
 obtain ⟨lv, os, v1, v2, v3, v4⟩ := hI.lv
 have hn0 : ¬ n = 0 := fun e => by
  cases o with
  | nil => exact q1 rfl
  | cons x o => have := q3 x List.mem_cons_self; omega
 rcases i2 with ⟨e, _⟩ | ⟨rfl, b1, b2, b3, b4, b5⟩
 ·exact absurd e hn0
 have hl' := g1.lenV
 simp (disch := omega) only [go_sem, reduceAdd, reduceLeDiff, reduceShiftRight, reduceAnd, hl']
 unfold q3l
 rw [qam]
 generalize hH1 : H.put l (LO.blk false L) = H1
 have n1 : H1.nx = H.nx := by rw [← hH1]; rfl
 have f1 : Fm (fun b => b = l) H H1 := by rw [← hH1]; exact (Fm.refl _ _).put _ _ fun _ => rfl
 have gl1 : H1.get l = LO.blk false L := by rw [← hH1, qai]
 have go1 : H1.get ob = qae 0 [lv, .sl nb 0 n n true] := (f1.get ob (by omega) (by omega)).trans v1
 have gn1 : H1.get nb = qae 0 (nats ins2) := (f1.get nb (by omega) (by omega)).trans b1
 refine qzr (H1 := H1) (g1.fm f1 fun b hb => by have := (g2 b hb).2.2.1; omega) (fun b hb => (g2 b hb).2.2.2.2.1) (by omega) q3 go1 (Ne.symm b5) (by omega) v2.lenV (fin := fill ins2 o t) (fun H2 k1 k2 => ?_) qak 0 ins2 H1 (by rw [qag]; omega) (Nat.zero_le _) i1 gn1 (Fm.refl _ _) rfl
 unfold qlk
 have n2 := k2.nx
 have f2 : Fm (fun b => b = l ∨ b = nb) H H2 := (f1.mono fun _ _ h => Or.inl h).trans (k2.mono fun _ _ h => Or.inr h)
 have go2 : H2.get ob = qae 0 [lv, .sl nb 0 n n true] := (k2.get ob (by omega) (by omega)).trans go1
 have gl2 : H2.get l = LO.blk false L := (k2.get l (by omega) (by omega)).trans gl1
 have gc2 : Gl 1 H2 c o.length (nats o) := g1.fm f2 fun b hb => by have := (g2 b hb).2.2; omega
 obtain ⟨w, w1, w2, w3, w4⟩ := zcz hC (k := k) (by omega) (H := ⟨H2.t, H2.nx + 8⟩) (gc2.no ((Fm.refl _ _).up 8))
 have hlvf : eqF 64 lv lv = true := qcp v2.flat 63
 have hol : 0 < o.length := List.length_pos_iff.2 q1
 rcases w2.is with ⟨_, h0⟩ | ⟨wb, wo, we, wq, wL, rfl, _⟩
 ·omega
 simp (disch := omega) only [go_sem, reduceAdd, reduceLeDiff, reduceShiftRight, reduceAnd, go2, w1, hlvf]
 have fX : Fm No H2 (Hp.put ⟨H2.t, H2.nx + 8⟩ (H2.nx + 4) (qae 0 [.sl wb wo o.length o.length we])) := by (repeat (first | exact Fm.refl _ _ | assumption | refine Fm.push ?_ _ | refine Fm.up2 ?_ (by (first | omega | (simp only [np, nq]; omega))) | refine Fm.put_new ?_ _ _ (by (first | omega | (simp only [np, nq]; omega)))))
 have v22 : Gl 1 H2 lv t os := v2.fm f2 fun b hb => by have := (v3 b hb).1; omega
 obtain ⟨H3, e, gl', _, fm', nx'⟩ := (v22.no fX).append (k := 1) (w := 24) (x := [.sl wb wo o.length o.length we]) (by omega) rfl (by omega) (by omega)
 refine Ok.deE e ?_
 have nx3 : H3.nx = H2.nx + 8 + 1 := nx'
 have hlvl : ∀ b, In lv b → l < b := fun b hb => (v3 b hb).1
 have go3 : H3.get ob = qae 0 [lv, .sl nb 0 n n true] := (fm'.get ob (by (first | omega | (simp only [np, nq]; omega))) fun hb => by have := hlvl _ hb; omega).trans ((fX.keep (by omega)).trans go2)
 have gl3 : H3.get l = LO.blk false L := (fm'.get l (by (first | omega | (simp only [np, nq]; omega))) fun hb => by have := hlvl _ hb; omega).trans ((fX.keep (by omega)).trans gl2)
 simp (disch := omega) only [go_sem, reduceAdd, reduceLeDiff, reduceShiftRight, reduceAnd, go3, List.length_cons, List.length_nil]
 have es : setL [lv, .sl nb 0 n n true] 0 [.sl (H2.nx + 8) 0 (t + 1) (t + 1) false] = [.sl (H2.nx + 8) 0 (t + 1) (t + 1) false, .sl nb 0 n n true] := rfl
 rw [es]
 have gl4 : (H3.put ob (qae 0 [.sl (H2.nx + 8) 0 (t + 1) (t + 1) false, .sl nb 0 n n true])).get l = LO.blk false L := by rw [qan _ _ _ _ (by omega)]; exact gl3
 rw [zbm gl4]
 have f3 : Fm (fun b => b = l ∨ b = nb ∨ In lv b) H H3 := (((f2.mono fun _ _ h => h.imp id Or.inl).trans (fX.mono fun _ _ h => h.elim)).trans (fm'.mono fun _ _ h => Or.inr (Or.inr h)))
 have f4 : Fm (fun b => b = l ∨ b = nb ∨ b = ob ∨ In lv b) H ((H3.put ob (qae 0 [.sl (H2.nx + 8) 0 (t + 1) (t + 1) false, .sl nb 0 n n true])).put l (LO.blk true L)) :=
  ((f3.mono (T := fun b => b = l ∨ b = nb ∨ b = ob ∨ In lv b) fun _ _ h => h.imp id (Or.imp id Or.inr)).put ob _ fun _ => Or.inr (Or.inr (Or.inl rfl))).put l _ fun _ => Or.inl rfl
 have n4 : ((H3.put ob (qae 0 [.sl (H2.nx + 8) 0 (t + 1) (t + 1) false, .sl nb 0 n n true])).put l (LO.blk true L)).nx = H2.nx + 9 := nx3
 have old : ∀ {x : AV} {m : Nat} {y : List AV}, Gl 1 H x m y → (∀ b, In x b → b < l ∧ b ≠ ob ∧ b ≠ nb ∧ b ≠ x2) → Gl 1 ((H3.put ob (qae 0 [.sl (H2.nx + 8) 0 (t + 1) (t + 1) false, .sl nb 0 n n true])).put l (LO.blk true L)) x m y := fun {x m y} hx hb => hx.fm f4 fun b hb' => by
  have := hb b hb'
  rintro (h | h | h | h)
  ·omega
  ·omega
  ·omega
  ·have := hlvl _ h; omega
 refine Ok.ret ⟨rfl, ⟨hI.fm.then f4 fun c hc h => ?_, fun b hb => Nat.lt_of_lt_of_le (hI.dlt b hb) (by omega), qai _ _ _, ⟨l1, by omega, l3⟩, ⟨o1, o2, o3⟩, ⟨?_, x3, x4, x5⟩, ⟨fill ins2 o t, by rw [qh1]; exact i1, Or.inr ⟨rfl, ?_, b2, b3, b4, b5⟩, fun j i' o' x hj h1 h2 h3 => ?_⟩, ⟨.sl (H2.nx + 8) 0 (t + 1) (t + 1) false, os ++ [.sl wb wo o.length o.length we], ?_, ?_, ?_, fun j w hj => ?_⟩, fun i' c' o' h1 h2 => ?_⟩, f4.mono fun b _ h => ?_⟩
 ·rcases h with h | h | h | h
  ·omega
  ·omega
  ·omega
  ·have := hlvl _ h; omega
 ·rw [f4.get x2 (by omega) ?_]
  ·exact x1'
  ·rintro (h | h | h | h)
   ·omega
   ·omega
   ·omega
   ·have := hlvl _ h; omega
 ·rw [qan _ _ _ _ (by omega), qan _ _ _ _ b5, fm'.get nb (by (first | omega | (simp only [np, nq]; omega))) fun hb => by have := hlvl _ hb; omega]
  exact (fX.keep (by omega)).trans k1
 ·have hx : x < ins2.length := by
   rw [i1]
   exact (hout o' (List.mem_of_getElem? h2)).2.2 x h3
  rw [qqi t o ins2 x hx]
  rcases Nat.lt_or_ge j t with g | g
  ·have h4 := i3 j i' o' x g h1 h2 h3
   rw [if_neg fun hxo => ?_, h4]
   have : i' = i := hnd i' o' o x h2 ho hxo h3
   subst this
   exact hinj j g h1
  ·have : j = t := by omega
   subst this
   rw [ht] at h1
   cases h1
   rw [ho] at h2
   cases h2
   rw [if_pos h3]
 ·rw [qan _ _ _ _ (by omega), qai]
 ·refine gl'.keep (Nat.le_refl _) fun b hb _ => ?_
  obtain ⟨_, _, _, _, h⟩ := hb
  cases h
  show ((H3.put ob _).put l _).get (H2.nx + 8) = H3.get (H2.nx + 8)
  rw [qan _ _ _ _ (by omega), qan _ _ _ _ (by omega)]
 ·rintro b ⟨_, _, _, _, h⟩
  have hb : b = H2.nx + 8 := by cases h; rfl
  subst hb
  exact ⟨by omega, fun h => by have := hI.dlt _ h; omega⟩
 ·rcases Nat.lt_or_ge j os.length with g | g
  ·rw [List.getElem?_append_left g] at hj
   obtain ⟨i', o', a1, a2, a3, a4, a5⟩ := v4 j w hj
   exact ⟨i', o', a1, a2, old a3 fun b hb => (a5 b hb).2.2, a4, a5⟩
  ·rw [List.getElem?_append_right g] at hj
   have h0 : j - os.length = 0 := by
    have := (List.getElem?_eq_some_iff.1 hj).1
    simpa using this
   rw [h0] at hj
   cases hj
   have hos : os.length = t := by have := v2.len; omega
   have hjt : j = t := by omega
   subst hjt
   refine ⟨i, o, ht, ho, ?_, w3, fun b hb => g2 b (w4 b hb)⟩
   refine w2.keep (by show H2.nx + 8 ≤ _; omega) fun b hb _ => ?_
   obtain ⟨_, _, b6, b7, b8⟩ := g2 b (w4 b hb)
   show ((H3.put ob _).put l _).get b = H2.get b
   rw [qan _ _ _ _ (by omega), qan _ _ _ _ b7, fm'.get b (by (first | omega | (simp only [np, nq]; omega))) fun hb => by have := hlvl _ hb; omega]
   exact fX.keep (by omega)
 ·obtain ⟨a1, a2⟩ := hI.cs i' c' o' h1 h2
  exact ⟨old a1 fun b hb => (a2 b hb).2.2, a2⟩
 ·rcases h with rfl | rfl | rfl | h
  ·exact l3
  ·exact b4
  ·exact o3
  ·exact (v3 b h).2
end Go.Di
end
