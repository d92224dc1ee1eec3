/-
 For countersignlaw18.StrataKnown: contracts of the walk and of the parts. No conditions beyond those that each theorem states.
-/
import Derived.Test.YtiickhlaamgljaaGreatCompA
set_option linter.unusedSimpArgs false
set_option linter.unusedVariables false
open Nat (reduceAdd reduceMul reduceSub reduceLeDiff reduceEqDiff reduceShiftRight reduceAnd)
noncomputable section
/-
 Contracts: the state of a walk in memory; lists that are cut and grow again.
-/
namespace Go.Di
open Go.Ev Go.Di.T
variable {C : Nat → Ev.Call} {LA LO : LP}
structure Gs (z : Nat) (H : Hp) (v : AV) (n : Nat) (l : List AV) : Prop where
 len : l.length = n * z
 is : (v = .nilsl ∧ n = 0) ∨ ∃ b o m e q L, v = .sl b o n m e ∧ n ≤ m ∧ H.get b = qaa q L ∧ o + m * z = L.length ∧ (L.drop o).take (n * z) = l ∧ (e = true ∨ q = z) ∧ b < H.nx
theorem Gs.nil (z : Nat) (H : Hp) : Gs z H .nilsl 0 [] := ⟨by simp, .inl ⟨rfl, rfl⟩⟩
theorem Gs.lenV {z n : Nat} {H : Hp} {v : AV} {l : List AV} (h : Gs z H v n l) : lenSl v = .val (.int .i64 (.ofNat n)) := by
 rcases h.is with ⟨rfl, rfl⟩ | ⟨b, o, m, e, q, L, rfl, _⟩ <;> rfl
theorem Gs.lt {z n : Nat} {H : Hp} {v : AV} {l : List AV} (h : Gs z H v n l) {b : Nat} (hb : In v b) : b < H.nx := by
 obtain ⟨_, _, _, _, e⟩ := hb
 rcases h.is with ⟨rfl, _⟩ | ⟨b', o, m, y, q, L, rfl, _, _, _, _, _, h5⟩
 ·cases e
 ·cases e; exact h5
theorem Gs.keep {z n : Nat} {H H' : Hp} {v : AV} {l : List AV} (h : Gs z H v n l) (hn : H.nx ≤ H'.nx) (hk : ∀ b, In v b → b < H.nx → H'.get b = H.get b) : Gs z H' v n l := by
 refine ⟨h.len, ?_⟩
 rcases h.is with h | ⟨b, o, m, e, q, L, rfl, h0, h1, h2, h3, h4, h5⟩
 ·exact .inl h
 ·exact .inr ⟨b, o, m, e, q, L, rfl, h0, (hk b ⟨_, _, _, _, rfl⟩ h5).trans h1, h2, h3, h4, Nat.lt_of_lt_of_le h5 hn⟩
theorem Gs.fm {z n : Nat} {H H' : Hp} {v : AV} {l : List AV} (h : Gs z H v n l) {S : Nat → Prop} (a : Fm S H H') (hs : ∀ b, In v b → ¬ S b) : Gs z H' v n l :=
 h.keep a.nx fun b hb hlt => a.get b hlt (hs b hb)
theorem Gl.gs {z n : Nat} {H : Hp} {v : AV} {l : List AV} (h : Gl z H v n l) : Gs z H v n l := by
 refine ⟨h.len, ?_⟩
 rcases h.is with h | ⟨b, o, e, q, L, rfl, h1, h2, h3, h4, h5⟩
 ·exact .inl h
 ·have hd : o + n * z = L.length := by have := h.len; rw [← h3, List.length_drop] at this; omega
  exact .inr ⟨b, o, n, e, q, L, rfl, Nat.le_refl _, h1, hd, by rw [h3, List.take_of_length_le (by rw [h.len]; exact Nat.le_refl _)], h4, h5⟩
theorem Gs.rl {n : Nat} {H : Hp} {v : AV} {l : List AV} (h : Gs 1 H v n l) : Rl H v l := by
 have hn : l.length = n := by have := h.len; omega
 refine ⟨by rw [h.lenV, hn], fun i hi => ?_⟩
 rcases h.is with ⟨rfl, rfl⟩ | ⟨b, o, m, e, q, L, rfl, h0, h1, h2, h3, h4, h5⟩
 ·omega
 ·refine ⟨b, o + i, by rw [qfc _ _ _ _ _ _ _ _ (by omega), Nat.mul_one], h5, ?_⟩
  have : L[o + i]? = some l[i] := by
   have e1 : ((L.drop o).take (n * 1))[i]? = some l[i] := by rw [h3]; simp
   rw [List.getElem?_take, if_pos (by omega), List.getElem?_drop] at e1
   exact e1
  rw [h1, qb7, this]
theorem Gs.cut {z n : Nat} {H : Hp} {b o m : Nat} {e : Bool} {l : List AV} (h : Gs z H (.sl b o n m e) n l) {k : Nat} (hk : k ≤ n) : Gs z H (.sl b o k m e) k (l.take (k * z)) := by
 have hkz : k * z ≤ n * z := Nat.mul_le_mul_right _ hk
 refine ⟨by rw [List.length_take, h.len]; omega, ?_⟩
 rcases h.is with ⟨h, _⟩ | ⟨b', o', m', e', q, L, hv, h0, h1, h2, h3, h4, h5⟩
 ·cases h
 ·cases hv
  refine .inr ⟨b, o, m, e, q, L, rfl, by omega, h1, h2, ?_, h4, h5⟩
  rw [← h3, List.take_take]
  congr 1
  omega
theorem Gs.append {z w n : Nat} {H : Hp} {v : AV} {l x : List AV} (h : Gs z H v n l) (hx : x.length = z) (hb : (n + 1) * w ≤ 1099511627776) (hb2 : n + 1 ≤ 1099511627776) :
  Ok (qaz z w H v (some ⟨1, x⟩)) fun v' H' => (∃ b o m e, v' = .sl b o (n + 1) m e) ∧ Gs z H' v' (n + 1) (l ++ x) ∧ Fm (In v) H H' ∧ (∀ b, In v' b → In v b ∨ H.nx ≤ b) := by
 have viaGl : ∀ (H : Hp) (v : AV), Gl z H v n l → Ok (qaz z w H v (some ⟨1, x⟩)) fun v' H' => (∃ b o m e, v' = .sl b o (n + 1) m e) ∧ Gs z H' v' (n + 1) (l ++ x) ∧ Fm (In v) H H' ∧ (∀ b, In v' b → In v b ∨ H.nx ≤ b) := fun H v g => by
  obtain ⟨H', e1, e2, e3, e4, e5⟩ := g.append (w := w) (k := 1) (x := x) (by omega) (by omega) hb hb2
  exact ⟨_, H', e1, ⟨_, _, _, _, rfl⟩, e2.gs, e4, fun b hb => by obtain ⟨_, _, _, _, e⟩ := hb; cases e; exact Or.inr (Nat.le_refl _)⟩
 rcases h.is with ⟨rfl, rfl⟩ | ⟨b, o, m, e, q, L, rfl, h0, h1, h2, h3, h4, h5⟩
 ·have : l = [] := List.length_eq_zero_iff.1 (by rw [h.len]; simp)
  subst this
  exact viaGl H _ (Gl.nil _ _)
 ·rcases Nat.lt_or_ge n m with hnm | hnm
  ·have e0 : Nat.ble (n + 1) m = true := by rw [ble_eq, decide_eq_true (by omega)]
   have hm1 : (n + 1) * z ≤ m * z := Nat.mul_le_mul_right _ hnm
   have hz1 : (n + 1) * z = n * z + z := by rw [Nat.add_mul, Nat.one_mul]
   have e1 : qaz z w H (.sl b o n m e) (some ⟨1, x⟩) = .ok (.sl b o (n + 1) m e) (H.put b (qaa q (setL L (o + n * z) x))) := by
    show (bif Nat.ble (n + 1) m then storeAt H b (o + n * z) x (.sl b o (n + 1) m e) else _) = _
    rw [e0]
    exact qcd _ _ _ _ _ _ _ h1 (by omega)
   refine ⟨_, _, e1, ⟨_, _, _, _, rfl⟩, ⟨by rw [List.length_append, h.len, hx, hz1], .inr ⟨b, o, m, e, q, _, rfl, hnm, qac _ _ _, ?_, ?_, h4, h5⟩⟩, (Fm.refl _ _).put b _ fun _ => ⟨_, _, _, _, rfl⟩, fun b' hb' => Or.inl ?_⟩
   ·unfold setL
    simp only [List.length_append, List.length_take, List.length_drop]
    omega
   ·rw [hz1]
    unfold setL
    have ht : (L.take (o + n * z)).length = o + n * z := by rw [List.length_take]; omega
    rw [List.append_assoc, List.drop_append_of_le_length (by omega), List.drop_take, show o + n * z - o = n * z by omega]
    have hl2 : ((L.drop o).take (n * z)).length = n * z := by rw [h3]; exact h.len
    rw [List.take_append, List.take_of_length_le (by omega), hl2, h3, show n * z + z - n * z = z by omega]
    congr 1
    rw [List.take_append_of_le_length (by omega), List.take_of_length_le (by omega)]
   ·obtain ⟨_, _, _, _, e⟩ := hb'
    cases e
    exact ⟨_, _, _, _, rfl⟩
  ·have : m = n := by omega
   subst this
   refine viaGl H _ ⟨h.len, .inr ⟨b, o, e, q, L, rfl, h1, by omega, ?_, h4, h5⟩⟩
   rw [← h3, List.take_of_length_le (by rw [List.length_drop]; omega)]
def qdq (nx : Nat → AV) (s : TS) (sv ov : AV) (i : Nat) : AV :=
 if i < 256 then nx i else if i < 512 then .int .i64 (.ofNat (s.num (i - 256))) else if i < 768 then .int .i64 (.ofNat (s.low (i - 512))) else if i < 1024 then .bool (s.on (i - 768))
 else if i = 1024 then sv else if i = 1025 then .int .i64 (.ofNat s.cnt) else ov
def qlb (nx : Nat → AV) (s : TS) (sv ov : AV) : List AV := (List.range 1027).map (qdq nx s sv ov)
def TB (nx : Nat → AV) (s : TS) (sv ov : AV) : Blk := qaa 0 (qlb nx s sv ov)
theorem qxl (nx : Nat → AV) (s : TS) (sv ov : AV) : (qlb nx s sv ov).length = 1027 := by unfold qlb; rw [List.length_map, List.length_range]
variable {nx : Nat → AV} {s : TS} {sv ov : AV}
theorem q03 (j : Nat) : (qlb nx s sv ov)[j]? = if j < 1027 then some (qdq nx s sv ov j) else none := by
 unfold qlb
 rw [List.getElem?_map]
 by_cases hj : j < 1027
 ·rw [if_pos hj, List.getElem?_range hj]; rfl
 ·rw [if_neg hj, List.getElem?_eq_none (by rw [List.length_range]; omega)]; rfl
theorem qur {i : Nat} (h : i < 1027) : qa9 (TB nx s sv ov) i = .val (qdq nx s sv ov i) := by
 unfold TB
 rw [qb7, q03, if_pos h]
attribute [local irreducible] qlb qdq
theorem quq {nx' : Nat → AV} {s' : TS} {sv' ov' : AV} {i : Nat} {x : AV} (h : i < 1027) (h1 : qdq nx' s' sv' ov' i = x) (h2 : ∀ j, j < 1027 → j ≠ i → qdq nx' s' sv' ov' j = qdq nx s sv ov j) : qgk (TB nx s sv ov) i [x] = some (TB nx' s' sv' ov') := by
 unfold TB
 have hlen := qxl nx s sv ov
 rw [qhc, if_pos (by rw [hlen]; exact h)]
 refine congrArg some (congrArg (qaa 0) ?_)
 unfold setL
 generalize hl : qlb nx s sv ov = l at hlen
 apply List.ext_getElem?
 intro j
 have hj0 : l[j]? = if j < 1027 then some (qdq nx s sv ov j) else none := by rw [← hl]; exact q03 j
 rw [q03 j]
 have hlt : (l.take i).length = i := by rw [List.length_take]; omega
 have hlx : (l.take i ++ [x]).length = i + 1 := by rw [List.length_append, hlt]; rfl
 rcases Nat.lt_trichotomy j i with hji | hji | hji
 ·rw [List.getElem?_append_left (by omega), List.getElem?_append_left (by omega), List.getElem?_take, if_pos hji, hj0]
  by_cases g : j < 1027
  ·rw [if_pos g, if_pos g, h2 j g (by omega)]
  ·rw [if_neg g, if_neg g]
 ·subst hji
  rw [List.getElem?_append_left (by omega), List.getElem?_append_right (by omega), hlt, Nat.sub_self, if_pos h, h1]; rfl
 ·rw [List.getElem?_append_right (by omega), List.getElem?_drop, hlx]
  have e : i + [x].length + (j - (i + 1)) = j := by show i + 1 + (j - (i + 1)) = j; omega
  rw [e, hj0]
  by_cases g : j < 1027
  ·rw [if_pos g, if_pos g, h2 j g (by omega)]
  ·rw [if_neg g, if_neg g]
attribute [local semireducible] qdq
theorem kN {i : Nat} (h : i < 256) : qdq nx s sv ov i = nx i := by unfold qdq; rw [if_pos h]
theorem kNum {i : Nat} (h : 256 ≤ i) (h2 : i < 512) : qdq nx s sv ov i = .int .i64 (.ofNat (s.num (i - 256))) := by unfold qdq; rw [if_neg (by omega), if_pos h2]
theorem kLow {i : Nat} (h : 512 ≤ i) (h2 : i < 768) : qdq nx s sv ov i = .int .i64 (.ofNat (s.low (i - 512))) := by unfold qdq; rw [if_neg (by omega), if_neg (by omega), if_pos h2]
theorem kOn {i : Nat} (h : 768 ≤ i) (h2 : i < 1024) : qdq nx s sv ov i = .bool (s.on (i - 768)) := by unfold qdq; rw [if_neg (by omega), if_neg (by omega), if_neg (by omega), if_pos h2]
theorem kS : qdq nx s sv ov 1024 = sv := rfl
theorem kC : qdq nx s sv ov 1025 = .int .i64 (.ofNat s.cnt) := rfl
theorem kO : qdq nx s sv ov 1026 = ov := rfl
theorem qlc {nx' : Nat → AV} {s' : TS} {sv' ov' : AV} {i j : Nat} (hj : j < 1027) (hji : j ≠ i) (h1 : j < 256 → nx' j = nx j) (h2 : ∀ m, j = 256 + m → s'.num m = s.num m) (h3 : ∀ m, j = 512 + m → s'.low m = s.low m) (h4 : ∀ m, j = 768 + m → s'.on m = s.on m)
  (h5 : j = 1024 → sv' = sv) (h6 : j = 1025 → s'.cnt = s.cnt) (h7 : j = 1026 → ov' = ov) : qdq nx' s' sv' ov' j = qdq nx s sv ov j := by
 by_cases g1 : j < 256
 ·rw [kN g1, kN g1, h1 g1]
 by_cases g2 : j < 512
 ·rw [kNum (by omega) g2, kNum (by omega) g2, h2 (j - 256) (by omega)]
 by_cases g3 : j < 768
 ·rw [kLow (by omega) g3, kLow (by omega) g3, h3 (j - 512) (by omega)]
 by_cases g4 : j < 1024
 ·rw [kOn (by omega) g4, kOn (by omega) g4, h4 (j - 768) (by omega)]
 by_cases g5 : j = 1024
 ·subst g5; rw [kS, kS, h5 rfl]
 by_cases g6 : j = 1025
 ·subst g6; rw [kC, kC, h6 rfl]
 have g7 : j = 1026 := by omega
 subst g7; rw [kO, kO, h7 rfl]
theorem rdN {v : Nat} (h : v < 256) : qa9 (TB nx s sv ov) v = .val (nx v) := by rw [qur (by omega), kN h]
theorem rdNum {v : Nat} (h : v < 256) : qa9 (TB nx s sv ov) (256 + v) = .val (.int .i64 (.ofNat (s.num v))) := by rw [qur (by omega), kNum (by omega) (by omega), Nat.add_sub_cancel_left]
theorem rdLow {v : Nat} (h : v < 256) : qa9 (TB nx s sv ov) (512 + v) = .val (.int .i64 (.ofNat (s.low v))) := by rw [qur (by omega), kLow (by omega) (by omega), Nat.add_sub_cancel_left]
theorem rdOn {v : Nat} (h : v < 256) : qa9 (TB nx s sv ov) (768 + v) = .val (.bool (s.on v)) := by rw [qur (by omega), kOn (by omega) (by omega), Nat.add_sub_cancel_left]
theorem rdS : qa9 (TB nx s sv ov) 1024 = .val sv := by rw [qur (by omega), kS]
theorem rdC : qa9 (TB nx s sv ov) 1025 = .val (.int .i64 (.ofNat s.cnt)) := by rw [qur (by omega), kC]
theorem rdO : qa9 (TB nx s sv ov) 1026 = .val ov := by rw [qur (by omega), kO]
theorem wrN {v : Nat} (h : v < 256) (x : AV) : qgk (TB nx s sv ov) v [x] = some (TB (upd nx v x) s sv ov) :=
 quq (by omega) (by rw [kN h, upd_same]) fun j hl hj => qlc hl hj (fun _ => upd_ne _ _ hj) (fun _ _ => rfl) (fun _ _ => rfl) (fun _ _ => rfl) (fun _ => rfl) (fun _ => rfl) fun _ => rfl
theorem wrNum {v : Nat} (h : v < 256) (x : Nat) : qgk (TB nx s sv ov) (256 + v) [.int .i64 (.ofNat x)] = some (TB nx { s with num := upd s.num v x } sv ov) :=
 quq (by omega) (by rw [kNum (by omega) (by omega), Nat.add_sub_cancel_left, show ({ s with num := upd s.num v x } : TS).num v = x from upd_same _ _ _]) fun j hl hj => qlc hl hj (fun _ => rfl) (fun m hm => upd_ne _ _ (by omega)) (fun _ _ => rfl) (fun _ _ => rfl) (fun _ => rfl) (fun _ => rfl) fun _ => rfl
theorem wrLow {v : Nat} (h : v < 256) (x : Nat) : qgk (TB nx s sv ov) (512 + v) [.int .i64 (.ofNat x)] = some (TB nx { s with low := upd s.low v x } sv ov) :=
 quq (by omega) (by rw [kLow (by omega) (by omega), Nat.add_sub_cancel_left, show ({ s with low := upd s.low v x } : TS).low v = x from upd_same _ _ _]) fun j hl hj => qlc hl hj (fun _ => rfl) (fun _ _ => rfl) (fun m hm => upd_ne _ _ (by omega)) (fun _ _ => rfl) (fun _ => rfl) (fun _ => rfl) fun _ => rfl
theorem wrOn {v : Nat} (h : v < 256) (x : Bool) : qgk (TB nx s sv ov) (768 + v) [.bool x] = some (TB nx { s with on := upd s.on v x } sv ov) :=
 quq (by omega) (by rw [kOn (by omega) (by omega), Nat.add_sub_cancel_left, show ({ s with on := upd s.on v x } : TS).on v = x from upd_same _ _ _]) fun j hl hj => qlc hl hj (fun _ => rfl) (fun _ _ => rfl) (fun _ _ => rfl) (fun m hm => upd_ne _ _ (by omega)) (fun _ => rfl) (fun _ => rfl) fun _ => rfl
theorem wrS (x : AV) : qgk (TB nx s sv ov) 1024 [x] = some (TB nx s x ov) :=
 quq (by omega) kS fun j hl hj => qlc hl hj (fun _ => rfl) (fun _ _ => rfl) (fun _ _ => rfl) (fun _ _ => rfl) (fun h => absurd h hj) (fun _ => rfl) fun _ => rfl
theorem wrC (x : Nat) : qgk (TB nx s sv ov) 1025 [.int .i64 (.ofNat x)] = some (TB nx { s with cnt := x } sv ov) :=
 quq (by omega) kC fun j hl hj => qlc hl hj (fun _ => rfl) (fun _ _ => rfl) (fun _ _ => rfl) (fun _ _ => rfl) (fun _ => rfl) (fun h => absurd h hj) fun _ => rfl
theorem wrO (x : AV) : qgk (TB nx s sv ov) 1026 [x] = some (TB nx s sv x) :=
 quq (by omega) kO fun j hl hj => qlc hl hj (fun _ => rfl) (fun _ _ => rfl) (fun _ _ => rfl) (fun _ _ => rfl) (fun _ => rfl) (fun _ => rfl) fun h => absurd h hj
attribute [go_sem] rdN rdNum rdLow rdOn rdS rdC rdO wrN wrNum wrLow wrOn wrS wrC wrO
end Go.Di
end
noncomputable section
/-
 Contracts: a walk sees a node for the first time.
-/
namespace Go.Di
open Go.Ev Go.Di.T
variable {C : Nat → Ev.Call} {LA LO : LP}
structure CsOk (H : Hp) (col : Nat → Nat) (cs : List AV) (out : List (List Nat)) : Prop where
 len : cs.length = out.length
 at' : ∀ (i : Nat) (c : AV) (o : List Nat), cs[i]? = some c → out[i]? = some o → (∃ b q n m e, c = .sl b q n m e) ∧ Gl 1 H c o.length (nats o) ∧ ∀ b, In c b → col b = 5
structure TMd (H0 : Hp) (adj : Nat → List Nat) (s : TS) (col : Nat → Nat) (tb : Nat) (H : Hp) (nx : Nat → AV) (sv ov : AV) (cs : List AV) : Prop where
 fm : Fm No H0 H
 base : ∀ b, b < H0.nx → col b = 9
 ge : H0.nx ≤ tb
 lt : tb < H.nx
 ct : col tb = 0
 get : H.get tb = TB nx s sv ov
 nxt : ∀ v, v < 256 → Gl 1 H (nx v) (adj v).length (nats (adj v)) ∧ ∀ b, In (nx v) b → col b = 10 + v
 stk : Gs 1 H sv s.stk.length (nats s.stk)
 stc : ∀ b, In sv b → col b = 2
 out : Gl 1 H ov cs.length cs
 ouc : ∀ b, In ov b → col b = 4
 css : CsOk H col cs s.out
def TM (H0 : Hp) (adj : Nat → List Nat) (s : TS) (col : Nat → Nat) (tb : Nat) (H : Hp) : Prop := ∃ nx sv ov cs, TMd H0 adj s col tb H nx sv ov cs
theorem CsOk.keep {H H' : Hp} {col col' : Nat → Nat} {cs : List AV} {out : List (List Nat)} (h : CsOk H col cs out) (hn : H.nx ≤ H'.nx) (hg : ∀ b, b < H.nx → col b = 5 → H'.get b = H.get b) (hc : ∀ b, b < H.nx → col' b = col b) : CsOk H' col' cs out :=
 ⟨h.len, fun i c o h1 h2 => by
  obtain ⟨g0, g1, g2⟩ := h.at' i c o h1 h2
  exact ⟨g0, g1.keep hn fun b hb hlt => hg b hlt (g2 b hb), fun b hb => (hc b (g1.lt hb)).trans (g2 b hb)⟩⟩
theorem TMd.step {H0 : Hp} {adj : Nat → List Nat} {s : TS} {col : Nat → Nat} {tb : Nat} {H : Hp} {nx : Nat → AV} {sv ov : AV} {cs : List AV} (h : TMd H0 adj s col tb H nx sv ov cs) {S : Nat → Prop} {H' : Hp} (f : Fm S H H')
  (hS : ∀ b, b < H.nx → S b → b = tb ∨ col b = 2 ∨ col b = 3) {col' : Nat → Nat} (hc : ∀ b, b < H.nx → col' b = col b) {s' : TS} {sv' : AV} (hg : H'.get tb = TB nx s' sv' ov) (hs : Gs 1 H' sv' s'.stk.length (nats s'.stk)) (hsc : ∀ b, In sv' b → col' b = 2) (ho : s'.out = s.out) :
  TMd H0 adj s' col' tb H' nx sv' ov cs := by
 have h9 : ∀ b, b < H0.nx → ¬ S b := fun b hb hs => by
  have hlt : b < H.nx := Nat.lt_of_lt_of_le hb h.fm.nx
  rcases hS b hlt hs with e | e | e
  ·have := h.ge; omega
  ·rw [h.base b hb] at e; cases e
  ·rw [h.base b hb] at e; cases e
 have kp : ∀ {c : Nat}, c ≠ 0 → c ≠ 2 → c ≠ 3 → ∀ b, b < H.nx → col b = c → H'.get b = H.get b := fun {c} h0 h2 h3 b hb hcb => f.get b hb fun hs => by
  rcases hS b hb hs with e | e | e
  ·rw [e, h.ct] at hcb; exact h0 hcb.symm
  ·exact h2 (hcb.symm.trans e)
  ·exact h3 (hcb.symm.trans e)
 exact {
  fm := h.fm.then f fun b hb hs => absurd hs (h9 b hb)
  base := fun b hb => (hc b (Nat.lt_of_lt_of_le hb h.fm.nx)).trans (h.base b hb)
  ge := h.ge
  lt := Nat.lt_of_lt_of_le h.lt f.nx
  ct := (hc tb h.lt).trans h.ct
  get := hg
  nxt := fun v hv => by
   obtain ⟨g1, g2⟩ := h.nxt v hv
   exact ⟨g1.keep f.nx fun b hb hlt => kp (c := 10 + v) (by omega) (by omega) (by omega) b hlt (g2 b hb), fun b hb => (hc b (g1.lt hb)).trans (g2 b hb)⟩
  stk := hs
  stc := hsc
  out := h.out.keep f.nx fun b hb hlt => kp (c := 4) (by omega) (by omega) (by omega) b hlt (h.ouc b hb)
  ouc := fun b hb => (hc b (h.out.lt hb)).trans (h.ouc b hb)
  css := ho ▸ h.css.keep f.nx (kp (c := 5) (by omega) (by omega) (by omega)) hc }
def qm0 (col : Nat → Nat) (H : Hp) (k : Nat) : Nat → Nat := fun b => if b < H.nx then col b else k
theorem qbh {col : Nat → Nat} {H : Hp} {k b : Nat} (h : b < H.nx) : qm0 col H k b = col b := if_pos h
theorem qf8 {col : Nat → Nat} {H : Hp} {k b : Nat} (h : H.nx ≤ b) : qm0 col H k b = k := if_neg (by omega)
theorem qv9 (hC : qbe C) {k : Nat} (hk : 1 ≤ k) {H0 : Hp} {adj : Nat → List Nat} {s : TS} {col : Nat → Nat} {tb : Nat} {H : Hp} (hM : TM H0 adj s col tb H) {v : Nat} (hv : v < 256) (hcnt : s.cnt ≤ 256) (hst : s.stk.length ≤ 256) :
  Ok (C k (.f qfu) [.ptr tb 0, .int .i64 (.ofNat v)] H) fun r H' => r = .tup [] ∧ ∃ col', (∀ b, b < H.nx → col' b = col b) ∧ TM H0 adj (s.enter v) col' tb H' ∧ Fm (fun b => b = tb ∨ col b = 2) H H' := by
 obtain ⟨j, rfl⟩ : ∃ j, k = j + 1 := ⟨k - 1, by omega⟩
 rw [(hC j).cEnter]
 unfold cEnter qp9
 obtain ⟨nx, sv, ov, cs, hM⟩ := hM
 have g1 := hM.get
 have g3 := hM.stk
 have g3c := hM.stc
 simp (disch := first | omega | exact ti rfl | (simp only [np, nq]; first | done | omega)) only [go_sem, reduceAdd, reduceMul, reduceSub, reduceLeDiff, reduceEqDiff, reduceShiftRight, reduceAnd, Nat.mul_one, Nat.zero_add, g1]
 have ht2 : ∀ b, In sv b → b ≠ tb := fun b hb e => by have := g3c b hb; rw [e, hM.ct] at this; cases this
 refine Ok.ve (Gs.append (z := 1) (n := s.stk.length) (l := nats s.stk) (g3.keep ?_ fun b hb hlt => ?_) ?_ ?_ ?_) ?_
 ·simp only [np, nq]; omega
 ·rw [qb0 _ _ _ (by simp only [nq]; omega)]
  simp only [q1e, qai _ _ _ _ (ht2 b hb)]
 ·rfl
 ·omega
 ·omega
 rintro r H1 ⟨⟨b', o', m', e', rfl⟩, h1, h2, h3⟩
 have hlt := hM.lt
 have gt : H1.get tb = TB nx { s with cnt := s.cnt + 1, num := upd s.num v (s.cnt + 1), low := upd s.low v (s.cnt + 1), on := upd s.on v true } sv ov := by
  rw [h2.get tb (by simp only [np, nq]; omega) fun hb => ht2 tb hb rfl, qb0 _ _ _ (by simp only [nq]; omega), qac]
 simp (disch := first | omega | exact ti rfl | (simp only [np, nq]; first | done | omega)) only [go_sem, reduceAdd, reduceMul, reduceSub, reduceLeDiff, reduceEqDiff, reduceShiftRight, reduceAnd, Nat.mul_one, Nat.zero_add, gt]
 have f2 : Fm (fun b => b = tb ∨ col b = 2) H H1 := by
  refine Fm.then (S := fun b => b = tb ∨ col b = 2) (Fm.push ?_ _) h2 fun c hc hi => Or.inr (g3c c hi)
  exact ((((Fm.refl _ _).put tb _ fun _ => Or.inl rfl).put tb _ fun _ => Or.inl rfl).put tb _ fun _ => Or.inl rfl).put tb _ fun _ => Or.inl rfl
 have f3 := f2.put tb (TB nx { s with cnt := s.cnt + 1, num := upd s.num v (s.cnt + 1), low := upd s.low v (s.cnt + 1), on := upd s.on v true } (.sl b' o' (s.stk.length + 1) m' e') ov) fun _ => Or.inl rfl
 have nlt := h2.nx
 simp only [np, nq] at nlt h3
 refine Ok.ret ⟨rfl, qm0 col H 2, fun b hb => qbh hb, ⟨nx, _, ov, cs, hM.step f3 (fun b _ h => h.imp id Or.inl) (fun b hb => qbh hb) (qac _ _ _) ?_ ?_ rfl⟩, f3⟩
 ·have e : nats s.stk ++ [.int .i64 (.ofNat v)] = nats (s.stk ++ [v]) := by simp [nats]
  rw [e] at h1
  show Gs 1 _ _ (s.stk ++ [v]).length (nats (s.stk ++ [v]))
  rw [List.length_append]
  refine h1.keep (Nat.le_refl _) fun b hb _ => qai _ _ _ _ fun e => ?_
  subst e
  rcases h3 b hb with g | g
  ·exact ht2 b g rfl
  ·omega
 ·intro b hb
  rcases h3 b hb with g | g
  ·rw [qbh (g3.lt g)]; exact g3c b g
  ·exact qf8 (by omega)
end Go.Di
end
noncomputable section
/-
 Contracts: a walk leaves a node.
-/
namespace Go.Di
open Go.Ev Go.Di.T
variable {C : Nat → Ev.Call} {LA LO : LP}
theorem qh7 (z b o n m : Nat) (e : Bool) {a : Nat} (h : a ≤ n) (h2 : n ≤ m) (h3 : a < m) : qa8 z (.sl b o n m e) (some (.int .i64 (.ofNat a))) none none = .val (.sl b (o + a * z) (n - a) (m - a) e) := by
 show (match bounds n m (some (.int .i64 (.ofNat a))) none none with | some bd => mkSl b o z bd e | none => R0.bad) = _
 have : bounds n m (some (.int .i64 (.ofNat a))) none none = some ⟨a, n, m⟩ := by
  show (match (bif Nat.ble a n then some a else none) with | none => none | some l => some (Bd.mk l n m)) = _
  rw [ble_eq, decide_eq_true h]; rfl
 rw [this]
 show (bif Nat.beq m a then _ else R0.val (.sl b (o + a * z) (n - a) (m - a) e)) = _
 rw [beq_eq, decide_eq_false (by omega)]; rfl
theorem qu4 (z b o n m : Nat) (e : Bool) {k : Nat} (h : k ≤ n) (h2 : n ≤ m) (h3 : 0 < m) : qa8 z (.sl b o n m e) none (some (.int .i64 (.ofNat k))) none = .val (.sl b o k m e) := by
 show (match bounds n m none (some (.int .i64 (.ofNat k))) none with | some bd => mkSl b o z bd e | none => R0.bad) = _
 have : bounds n m none (some (.int .i64 (.ofNat k))) none = some ⟨0, k, m⟩ := by
  show (match (bif Nat.ble k m then some k else none) with | none => none | some h => match (some 0 : Option Nat) with | none => none | some l => some (Bd.mk l h m)) = _
  rw [ble_eq, decide_eq_true (by omega)]; rfl
 rw [this]
 show (bif Nat.beq m 0 then _ else R0.val (.sl b (o + 0 * z) (k - 0) (m - 0) e)) = _
 rw [beq_eq, decide_eq_false (by omega), Nat.zero_mul]; rfl
theorem Gs.from {H : Hp} {v : AV} {n : Nat} {l : List AV} (h : Gs 1 H v n l) {a : Nat} (ha : a < n) : ∃ w, qa8 1 v (some (.int .i64 (.ofNat a))) none none = .val w ∧ (∃ b o n m e, w = .sl b o n m e) ∧ Rl H w (l.drop a) := by
 have hr := h.rl
 have hl : l.length = n := by have := h.len; omega
 rcases h.is with ⟨rfl, h0⟩ | ⟨b, o, m, e, q, L, rfl, h0, h1, h2, h3, h4, h5⟩
 ·omega
 ·refine ⟨_, qh7 1 b o n m e (by omega) h0 (by omega), ⟨_, _, _, _, _, rfl⟩, ?_, fun i hi => ?_⟩
  ·show R0.val (.int .i64 (.ofNat (n - a))) = _
   rw [List.length_drop, hl]
  ·rw [List.length_drop] at hi
   refine ⟨b, o + a * 1 + i, by rw [qfc _ _ _ _ _ _ _ _ (by omega)]; simp only [Nat.mul_one], h5, ?_⟩
   obtain ⟨b', o', e1, _, e3⟩ := hr.at' (a + i) (by omega)
   rw [qfc _ _ _ _ _ _ _ _ (by omega)] at e1
   cases e1
   have : o + a * 1 + i = o + (a + i) * 1 := by omega
   rw [this, e3]
   simp
theorem Gs.upto {z : Nat} {H : Hp} {v : AV} {n : Nat} {l : List AV} (h : Gs z H v n l) {k : Nat} (hk : k ≤ n) (hn : 0 < n) : ∃ b o m e, qa8 z v none (some (.int .i64 (.ofNat k))) none = .val (.sl b o k m e) ∧ Gs z H (.sl b o k m e) k (l.take (k * z)) ∧ ∀ c, In (.sl b o k m e) c → In v c := by
 rcases h.is with ⟨rfl, h0⟩ | ⟨b, o, m, e, q, L, rfl, h0, h1, h2, h3, h4, h5⟩
 ·omega
 ·refine ⟨b, o, m, e, qu4 z b o n m e hk h0 (by omega), ?_, fun c hc => ?_⟩
  ·exact Gs.cut h hk
  ·obtain ⟨_, _, _, _, g⟩ := hc
   cases g
   exact ⟨_, _, _, _, rfl⟩
theorem q40 (hC : qbe C) {k : Nat} (hk : 1 ≤ k) {H0 : Hp} {adj : Nat → List Nat} {s : TS} {col : Nat → Nat} {tb : Nat} {H : Hp} (hM : TM H0 adj s col tb H) {v : Nat} (hv : v < 256) (hl : s.low v < s.num v) :
  C k (.f qeg) [.ptr tb 0, .int .i64 (.ofNat v)] H = .ok (.tup []) H := by
 obtain ⟨j, rfl⟩ : ∃ j, k = j + 1 := ⟨k - 1, by omega⟩
 rw [(hC j).cLeave]
 unfold cLeave qj4
 obtain ⟨nx, sv, ov, cs, hM⟩ := hM
 have g1 := hM.get
 simp (disch := first | omega | exact ti rfl | (simp only [np, nq]; first | done | omega)) only [go_sem, reduceAdd, reduceMul, reduceSub, reduceLeDiff, reduceEqDiff, reduceShiftRight, reduceAnd, Nat.mul_one, Nat.zero_add, g1, hl]
def offs (on : Nat → Bool) : List Nat → Nat → Bool
 | [], x => on x
 | k :: r, x => offs (upd on k false) r x
theorem q0i : ∀ (l : List Nat) (on : Nat → Bool) (x : Nat), offs on l x = if x ∈ l then false else on x
 | [], on, x => by simp [offs]
 | k :: r, on, x => by
  rw [offs, q0i r]
  by_cases h : x ∈ r
  ·simp [h]
  ·by_cases e : x = k
   ·subst e; simp [h, upd_same]
   ·simp [h, e, upd_ne _ _ e]
theorem qvn {call : Ev.Call} {nx : Nat → AV} {sv ov : AV} {tb : Nat} {comp : List Nat} {w : AV} {s : TS} (hc : ∀ x ∈ comp, x < 256) (hl : comp.length < 900000) {H1 : Hp} (hw : Rl H1 w (nats comp)) {q : Hp → R1} {Q : AV → Hp → Prop}
  (hne : ∀ i b o, i < comp.length → idxS 1 w (.int .i64 (.ofNat i)) = .val (.ptr b o) → b ≠ tb) (htb : tb < H1.nx)
  (hq : ∀ H on', (∀ x, on' x = if x ∈ comp then false else s.on x) → H.get tb = TB nx { s with on := on' } sv ov → Fm (fun b => b = tb) H1 H → Ok (q H) Q) :
  ∀ (k i : Nat) (H : Hp) (on1 : Nat → Bool), comp.length - i < k → i ≤ comp.length → H.get tb = TB nx { s with on := on1 } sv ov → Fm (fun b => b = tb) H1 H → (∀ x, offs on1 (comp.drop i) x = if x ∈ comp then false else s.on x) →
   Ok (qde call q (.ptr tb 0) w (.int .i64 (.ofNat comp.length)) k (.int .i64 (.ofNat i)) H) Q
 | 0, i, H, on1, h, _, _, _, _ => by omega
 | k + 1, i, H, on1, h, hi, hg, hF, ho => by
  show Ok (qi5 call _ _ _ _ (qde call _ _ _ _ k) _ H) Q
  unfold qi5
  by_cases hil : i < comp.length
  ·obtain ⟨b, o, e1, e2, e3⟩ := hw.at' i (by rw [qaw]; exact hil)
   rw [qe2] at e3
   have hx : comp[i] < 256 := hc _ (List.getElem_mem _)
   have e4 : H.get b = H1.get b := hF.get b e2 (hne i b o hil e1)
   simp (disch := first | omega | exact ti rfl | (simp only [np, nq]; first | done | omega)) only [go_sem, reduceAdd, reduceMul, reduceSub, reduceLeDiff, reduceEqDiff, reduceShiftRight, reduceAnd, Nat.mul_one, Nat.zero_add, hil]
   unfold qi3
   simp (disch := first | omega | exact ti rfl | (simp only [np, nq]; first | done | omega)) only [go_sem, reduceAdd, reduceMul, reduceSub, reduceLeDiff, reduceEqDiff, reduceShiftRight, reduceAnd, Nat.mul_one, Nat.zero_add, e1, e4, e3, hg]
   unfold qi4
   simp (disch := first | omega | exact ti rfl | (simp only [np, nq]; first | done | omega)) only [go_sem, reduceAdd, reduceMul, reduceSub, reduceLeDiff, reduceEqDiff, reduceShiftRight, reduceAnd, Nat.mul_one, Nat.zero_add]
   refine qvn hc hl hw hne htb hq k (i + 1) _ (upd on1 comp[i] false) (by omega) (by omega) (qac _ _ _) (hF.put _ _ fun _ => rfl) fun x => ?_
   rw [← ho x, List.drop_eq_getElem_cons hil]; rfl
  ·simp (disch := first | omega | exact ti rfl | (simp only [np, nq]; first | done | omega)) only [go_sem, reduceAdd, reduceMul, reduceSub, reduceLeDiff, reduceEqDiff, reduceShiftRight, reduceAnd, Nat.mul_one, Nat.zero_add, hil]
   have : i = comp.length := by omega
   subst this
   rw [List.drop_length] at ho
   exact hq H on1 (fun x => ho x) hg hF
theorem Gl.idx_in {n : Nat} {H : Hp} {v : AV} {l : List AV} (h : Gl 1 H v n l) {i b o : Nat} (hi : i < n) (e : idxS 1 v (.int .i64 (.ofNat i)) = .val (.ptr b o)) : In v b := by
 rcases h.is with ⟨rfl, h0⟩ | ⟨b', o', e', q, L, rfl, _⟩
 ·omega
 ·rw [qfc _ _ _ _ _ _ _ _ hi] at e
  cases e
  exact ⟨_, _, _, _, rfl⟩
theorem Gl.appendO {z w n : Nat} {H : Hp} {v : AV} {l x : List AV} (h : Gl z H v n l) (hx : x.length = z) (hb : (n + 1) * w ≤ 1099511627776) (hb2 : n + 1 ≤ 1099511627776) :
  Ok (qaz z w H v (some ⟨1, x⟩)) fun v' H' => v' = .sl H.nx 0 (n + 1) (n + 1) false ∧ Gl z H' v' (n + 1) (l ++ x) ∧ Fm (In v) H H' ∧ H'.nx = H.nx + 1 := by
 obtain ⟨H', e1, e2, e3, e4, e5⟩ := h.append (w := w) (k := 1) (x := x) (by omega) (by omega) hb hb2
 exact ⟨_, H', e1, rfl, e2, e4, e5⟩
theorem TMd.stepO {H0 : Hp} {adj : Nat → List Nat} {s : TS} {col : Nat → Nat} {tb : Nat} {H : Hp} {nx : Nat → AV} {sv ov : AV} {cs : List AV} (h : TMd H0 adj s col tb H nx sv ov cs) {S : Nat → Prop} {H' : Hp} (f : Fm S H H')
  (hS : ∀ b, b < H.nx → S b → b = tb ∨ col b = 4) {col' : Nat → Nat} (hc : ∀ b, b < H.nx → col' b = col b) {s' : TS} {sv' ov' c : AV} {o : List Nat} (hg : H'.get tb = TB nx s' sv' ov') (hs : Gs 1 H' sv' s'.stk.length (nats s'.stk)) (hsc : ∀ b, In sv' b → In sv b) (ho : s'.out = s.out ++ [o])
  (hov : Gl 1 H' ov' (cs ++ [c]).length (cs ++ [c])) (hoc : ∀ b, In ov' b → col' b = 4) (hcsl : ∃ b q n m e, c = .sl b q n m e) (hcg : Gl 1 H' c o.length (nats o)) (hcc : ∀ b, In c b → col' b = 5) :
  TMd H0 adj s' col' tb H' nx sv' ov' (cs ++ [c]) := by
 have h9 : ∀ b, b < H0.nx → ¬ S b := fun b hb hs => by
  have hlt : b < H.nx := Nat.lt_of_lt_of_le hb h.fm.nx
  rcases hS b hlt hs with e | e
  ·have := h.ge; omega
  ·rw [h.base b hb] at e; cases e
 have kp : ∀ {c : Nat}, c ≠ 0 → c ≠ 4 → ∀ b, b < H.nx → col b = c → H'.get b = H.get b := fun {c} h0 h4 b hb hcb => f.get b hb fun hs => by
  rcases hS b hb hs with e | e
  ·rw [e, h.ct] at hcb; exact h0 hcb.symm
  ·exact h4 (hcb.symm.trans e)
 have hcs := h.css.keep f.nx (kp (c := 5) (by omega) (by omega)) hc
 exact {
  fm := h.fm.then f fun b hb hs => absurd hs (h9 b hb)
  base := fun b hb => (hc b (Nat.lt_of_lt_of_le hb h.fm.nx)).trans (h.base b hb)
  ge := h.ge
  lt := Nat.lt_of_lt_of_le h.lt f.nx
  ct := (hc tb h.lt).trans h.ct
  get := hg
  nxt := fun v hv => by
   obtain ⟨g1, g2⟩ := h.nxt v hv
   exact ⟨g1.keep f.nx fun b hb hlt => kp (c := 10 + v) (by omega) (by omega) b hlt (g2 b hb), fun b hb => (hc b (g1.lt hb)).trans (g2 b hb)⟩
  stk := hs
  stc := fun b hb => (hc b (h.stk.lt (hsc b hb))).trans (h.stc b (hsc b hb))
  out := hov
  ouc := hoc
  css := ⟨by rw [ho, List.length_append, List.length_append, hcs.len]; rfl, fun i c' o' g1 g2 => by
   rw [ho] at g2
   rcases Nat.lt_or_ge i cs.length with hi | hi
   ·rw [List.getElem?_append_left hi] at g1
    rw [List.getElem?_append_left (by rw [← hcs.len]; exact hi)] at g2
    exact hcs.at' i c' o' g1 g2
   ·rw [List.getElem?_append_right hi] at g1
    rw [List.getElem?_append_right (by rw [← hcs.len]; exact hi), ← hcs.len] at g2
    have h0 : i - cs.length = 0 := by
     have := (List.getElem?_eq_some_iff.1 g1).1
     simpa using this
    rw [h0] at g1 g2
    cases g1; cases g2
    exact ⟨hcsl, hcg, hcc⟩⟩ }
theorem q0x (hC : qbe C) (hO : qc0 C) (hS : qcb C) (hR : qcc LA LO C) {k : Nat} (hk : 300 ≤ k) {H0 : Hp} {adj : Nat → List Nat} {s : TS} {col : Nat → Nat} {tb : Nat} {H : Hp} (hM : TM H0 adj s col tb H) {v : Nat} (hv : v < 256) (hl : ¬ s.low v < s.num v)
  {pre post : List Nat} (hs : s.stk = pre ++ v :: post) (hp : v ∉ pre) (hst : s.stk.length ≤ 256) (hlt : ∀ x ∈ s.stk, x < 256) (hout : s.out.length ≤ 256) :
  Ok (C k (.f qeg) [.ptr tb 0, .int .i64 (.ofNat v)] H) fun r H' => r = .tup [] ∧ ∃ (comp : List Nat) (on' : Nat → Bool) (col' : Nat → Nat), comp.Perm (v :: post) ∧ comp.Pairwise (· ≤ ·) ∧ (∀ x, on' x = if x ∈ comp then false else s.on x) ∧
   (∀ b, b < H.nx → col' b = col b) ∧ TM H0 adj { s with stk := pre, on := on', out := s.out ++ [comp] } col' tb H' ∧ Fm (fun b => b = tb ∨ col b = 4) H H' := by
 obtain ⟨j, rfl⟩ : ∃ j, k = j + 2 := ⟨k - 2, by omega⟩
 rw [(hC (j + 1)).cLeave]
 unfold cLeave qj4
 obtain ⟨nx, sv, ov, cs, hM⟩ := hM
 have g1 := hM.get
 have g3 := hM.stk
 have hlen : s.stk.length = pre.length + 1 + post.length := by rw [hs]; simp; omega
 simp (disch := first | omega | exact ti rfl | (simp only [np, nq]; first | done | omega)) only [go_sem, reduceAdd, reduceMul, reduceSub, reduceLeDiff, reduceEqDiff, reduceShiftRight, reduceAnd, Nat.mul_one, Nat.zero_add, g1, hl]
 unfold qi2
 simp (disch := first | omega | exact ti rfl | (simp only [np, nq]; first | done | omega)) only [go_sem, reduceAdd, reduceMul, reduceSub, reduceLeDiff, reduceEqDiff, reduceShiftRight, reduceAnd, Nat.mul_one, Nat.zero_add, g1]
 refine Ok.ve (q6d hC (k := j + 1) (by omega) g3.rl (by omega) hs hp) ?_
 rintro r H1 ⟨rfl, rfl⟩
 obtain ⟨w, e1, ⟨wb, wo, wn, wm, we, rfl⟩, e2⟩ := g3.from (a := pre.length) (by omega)
 have ed : (nats s.stk).drop pre.length = nats (v :: post) := by
  unfold nats
  rw [← List.map_drop, hs, List.drop_left]
 rw [ed] at e2
 simp (disch := first | omega | exact ti rfl | (simp only [np, nq]; first | done | omega)) only [go_sem, reduceAdd, reduceMul, reduceSub, reduceLeDiff, reduceEqDiff, reduceShiftRight, reduceAnd, Nat.mul_one, Nat.zero_add, g1, e1]
 -- the component, sorted
 rw [(hC j).sVal]
 unfold sVal qzc
 simp (disch := first | omega | exact ti rfl | (simp only [np, nq]; first | done | omega)) only [go_sem, reduceAdd, reduceMul, reduceSub, reduceLeDiff, reduceEqDiff, reduceShiftRight, reduceAnd, Nat.mul_one, Nat.zero_add]
 generalize hH2 : qan H1 (qaa 0 [.sl wb wo wn wm we]) = H2
 have n2 : H2.nx = H1.nx + 1 := by rw [← hH2]; rfl
 have f2 : Fm No H1 H2 := by rw [← hH2]; exact (Fm.refl _ _).push _
 have gb2 : H2.get H1.nx = qaa 0 [.sl wb wo wn wm we] := by rw [← hH2, qak]
 refine Ok.ve (q3p hC hO hS hR (k := j + 1) (l := v :: post) (by simp; omega) (by simp) (by simp; omega) (e2.fm f2) gb2 (by omega)) ?_
 rintro a9 H3 ⟨comp, c1, c2, c3, c4, f3⟩
 have f13 : Fm No H1 H3 := f2.trans f3
 have hcl : comp.length = post.length + 1 := by rw [c1.length_eq]; rfl
 have hcn : (v :: post).length = comp.length := by rw [c1.length_eq]
 rw [hcn] at c3
 have hge : ∀ b, In a9 b → H1.nx ≤ b := fun b hb => by have := c4 b hb; omega
 have e3 := c3.lenV
 simp (disch := first | omega | exact ti rfl | (simp only [np, nq]; first | done | omega)) only [go_sem, reduceAdd, reduceMul, reduceSub, reduceLeDiff, reduceEqDiff, reduceShiftRight, reduceAnd, Nat.mul_one, Nat.zero_add, e3]
 unfold qi6
 rw [qas]
 have htb := hM.lt
 refine qvn (s := s) (sv := sv) (ov := ov) (nx := nx) (comp := comp) (fun x hx => hlt x (by rw [hs]; exact List.mem_append_right _ (c1.mem_iff.1 hx))) (by omega) c3.rl (fun i b o hi e hb => ?_) (Nat.lt_of_lt_of_le htb f13.nx) (fun H4 on' ho hg4 f4 => ?_) qao 0 H3 s.on (by rw [qal]; omega) (by omega) ((f13.keep htb).trans g1) (Fm.refl _ _) fun x => ?_
 ·have := hge b (c3.idx_in hi e)
  omega
 ·-- the rest
  unfold qcn
  obtain ⟨b5, o5, m5, e5, e6, e7, e8⟩ := g3.upto (k := pre.length) (by omega) (by omega)
  rw [Nat.mul_one] at e7
  have e9 : (nats s.stk).take pre.length = nats pre := by unfold nats; rw [← List.map_take, hs, List.take_left]
  rw [e9] at e7
  simp (disch := first | omega | exact ti rfl | (simp only [np, nq]; first | done | omega)) only [go_sem, reduceAdd, reduceMul, reduceSub, reduceLeDiff, reduceEqDiff, reduceShiftRight, reduceAnd, Nat.mul_one, Nat.zero_add, hg4, e6]
  have c3f : qtw a9 = true := c3.flat
  rcases c3.is with ⟨_, h0⟩ | ⟨b9, o9, e9', q9, L9, rfl, _⟩
  ·omega
  simp (disch := first | omega | exact ti rfl | (simp only [np, nq]; first | done | omega)) only [go_sem, reduceAdd, reduceMul, reduceSub, reduceLeDiff, reduceEqDiff, reduceShiftRight, reduceAnd, Nat.mul_one, Nat.zero_add, hg4]
  have hne2 : ∀ b, In sv b → b ≠ tb := fun b hb e => by have := hM.stc b hb; rw [e, hM.ct] at this; cases this
  have hne4 : ∀ b, In ov b → b ≠ tb := fun b hb e => by have := hM.ouc b hb; rw [e, hM.ct] at this; cases this
  have f34 : Fm (fun b => b = tb) H1 H4 := (f13.mono fun _ _ h => h.elim).trans (f4.mono fun _ _ h => h)
  have hn4 := f34.nx
  have nn4 := f4.nx
  have nn3 := f13.nx
  have hcsl : cs.length ≤ 256 := by rw [hM.css.len]; exact hout
  refine Ok.ve (Gl.appendO (z := 1) (n := cs.length) (l := cs) (hM.out.keep ?_ fun b hb hlt' => ?_) ?_ ?_ ?_) ?_
  ·simp only [np, nq]; omega
  ·rw [qb0 _ _ _ (by simp only [nq]; omega), qai _ _ _ _ (hne4 b hb)]
   exact f34.get b hlt' (hne4 b hb)
  ·rfl
  ·omega
  ·omega
  rintro r H5 ⟨rfl, h1, h2, h3⟩
  simp only [np, nq] at h1 h3
  have gt : H5.get tb = TB nx { s with on := on' } (.sl b5 o5 pre.length m5 e5) ov := by
   rw [h2.get tb (by simp only [np, nq]; omega) fun hb => hne4 tb hb rfl, qb0 _ _ _ (by simp only [nq]; omega), qac]
  simp (disch := first | omega | exact ti rfl | (simp only [np, nq]; first | done | omega)) only [go_sem, reduceAdd, reduceMul, reduceSub, reduceLeDiff, reduceEqDiff, reduceShiftRight, reduceAnd, Nat.mul_one, Nat.zero_add, gt]
  have c9 : b9 < H3.nx := c3.lt ⟨_, _, _, _, rfl⟩
  have c9' : H1.nx ≤ b9 := hge b9 ⟨_, _, _, _, rfl⟩
  have f5 : Fm (fun b => b = tb ∨ col b = 4) H1 H5 := by
   refine Fm.then (S := fun b => b = tb ∨ col b = 4) (Fm.push (Fm.put (f34.mono fun _ _ h => Or.inl h) tb _ fun _ => Or.inl rfl) _) h2 fun c hc hi => Or.inr (hM.ouc c hi)
  have f6 := f5.put tb (TB nx { s with on := on' } (.sl b5 o5 pre.length m5 e5) (.sl (H4.nx + 1) 0 (cs.length + 1) (cs.length + 1) false)) fun _ => Or.inl rfl
  refine Ok.ret ⟨rfl, comp, on', fun b => if b < H1.nx then col b else if b = b9 then 5 else 4, c1, c2, ho, fun b hb => if_pos hb, ⟨nx, _, _, _, hM.stepO (c := .sl b9 o9 comp.length comp.length e9') (o := comp) f6 (fun b _ h => h) (fun b hb => if_pos hb) (qac _ _ _) ?_ e8 rfl ?_ ?_ ⟨_, _, _, _, _, rfl⟩ ?_ ?_⟩, f6⟩
  ·refine e7.keep f6.nx fun b hb hlt' => f6.get b hlt' fun h => ?_
   rcases h with h | h
   ·exact hne2 b (e8 b hb) h
   ·have := hM.stc b (e8 b hb); rw [h] at this; cases this
  ·rw [List.length_append]
   refine h1.keep (Nat.le_refl _) fun b hb _ => qai _ _ _ _ fun e => ?_
   obtain ⟨_, _, _, _, g⟩ := hb
   cases g
   omega
  ·rintro b ⟨_, _, _, _, g⟩
   cases g
   show (if H4.nx + 1 < H1.nx then _ else if H4.nx + 1 = b9 then 5 else 4) = 4
   rw [if_neg (by omega), if_neg (by omega)]
  ·refine c3.keep (by show H3.nx ≤ H5.nx; omega) fun b hb hlt' => ?_
   have hb9 : b = b9 := by obtain ⟨_, _, _, _, g⟩ := hb; cases g; rfl
   subst hb9
   rw [qai _ _ _ _ (by omega), h2.get b (by simp only [np, nq]; omega) fun hb => by have := hM.out.lt hb; omega, qb0 _ _ _ (by simp only [nq]; omega), qai _ _ _ _ (by omega)]
   exact f4.get b (by omega) (by show b ≠ tb; omega)
  ·rintro b ⟨_, _, _, _, g⟩
   cases g
   show (if b9 < H1.nx then _ else if b9 = b9 then 5 else 4) = 5
   rw [if_neg (by omega), if_pos rfl]
 ·rw [q0i]; rfl
end Go.Di
end
noncomputable section
/-
 Contracts: a walk goes on from its top frame.
-/
namespace Go.Di
open Go.Ev Go.Di.T
variable {C : Nat → Ev.Call} {LA LO : LP}
def qcx (fr : List (Nat × Nat)) : List AV := (fr.map fun p => [AV.int .i64 (.ofNat p.1), AV.int .i64 (.ofNat p.2)]).flatten
theorem qgd (fr : List (Nat × Nat)) : (qcx fr).length = fr.length * 2 := by
 induction fr with
 | nil => rfl
 | cons a l ih => simp [qcx] at ih ⊢; omega
theorem qdc (l : List (Nat × Nat)) (p : Nat × Nat) : qcx (l ++ [p]) = qcx l ++ [.int .i64 (.ofNat p.1), .int .i64 (.ofNat p.2)] := by simp [qcx]
theorem qv0 (a b : Nat) : qeh minV (.int .i64 (.ofNat a)) [.int .i64 (.ofNat b)] = .val (.int .i64 (.ofNat (min a b))) := by
 rw [qtu]
 congr 2
 simp only [Int.ofNat_eq_natCast]
 omega
theorem Gs.topF {H : Hp} {v : AV} {l : List (Nat × Nat)} {u i : Nat} (h : Gs 2 H v (l.length + 1) (qcx (l ++ [(u, i)]))) :
  ∃ b o, idxS 2 v (.int .i64 (.ofNat l.length)) = .val (.ptr b o) ∧ In v b ∧ b < H.nx ∧ qa9 (H.get b) o = .val (.int .i64 (.ofNat u)) ∧ qa9 (H.get b) (o + 1) = .val (.int .i64 (.ofNat i)) ∧
   ∀ i' : Nat, ∃ B, qgk (H.get b) (o + 1) [.int .i64 (.ofNat i')] = some B ∧ ∀ H' : Hp, H.nx ≤ H'.nx → H'.get b = B → Gs 2 H' v (l.length + 1) (qcx (l ++ [(u, i')])) := by
 have hl := qgd l
 rcases h.is with ⟨_, h0⟩ | ⟨b, o, m, e, q, L, rfl, h0, h1, h2, h3, h4, h5⟩
 ·omega
 ·have hmz : (l.length + 1) * 2 ≤ m * 2 := Nat.mul_le_mul_right _ h0
  have g0 : ∀ j x, (qcx (l ++ [(u, i)]))[j]? = some x → j < (l.length + 1) * 2 → L[o + j]? = some x := fun j x hx hj => by
   rw [← h3, List.getElem?_take, if_pos hj, List.getElem?_drop] at hx
   exact hx
  have gu := g0 (l.length * 2) (.int .i64 (.ofNat u)) (by rw [qdc, List.getElem?_append_right (by omega), hl, Nat.sub_self]; rfl) (by omega)
  have gi := g0 (l.length * 2 + 1) (.int .i64 (.ofNat i)) (by rw [qdc, List.getElem?_append_right (by omega), hl, show l.length * 2 + 1 - l.length * 2 = 1 by omega]; rfl) (by omega)
  refine ⟨b, o + l.length * 2, qfc _ _ _ _ _ _ _ _ (by omega), ⟨_, _, _, _, rfl⟩, h5, by rw [h1, qb7, gu], by rw [h1, qb7, show o + l.length * 2 + 1 = o + (l.length * 2 + 1) by omega, gi], fun i' => ?_⟩
  refine ⟨_, by rw [h1, qhc, if_pos (by show o + l.length * 2 + 1 + 1 ≤ L.length; omega)], fun H' hn hg => ⟨by rw [qgd, List.length_append]; rfl, .inr ⟨b, o, m, e, q, _, rfl, h0, hg, ?_, ?_, h4, Nat.lt_of_lt_of_le h5 hn⟩⟩⟩
  ·unfold setL
   simp only [List.length_append, List.length_take, List.length_drop, List.length_cons, List.length_nil]
   omega
  ·have e1 : (l.length + 1) * 2 = l.length * 2 + 1 + 1 := by omega
   unfold setL
   have hlt : (L.take (o + l.length * 2 + 1)).length = o + l.length * 2 + 1 := by rw [List.length_take]; omega
   rw [List.append_assoc, List.drop_append_of_le_length (by omega), List.drop_take, show o + l.length * 2 + 1 - o = l.length * 2 + 1 by omega, qdc]
   have hl2 : ((L.drop o).take (l.length * 2 + 1)).length = l.length * 2 + 1 := by rw [List.length_take, List.length_drop]; omega
   rw [e1, List.take_append, List.take_of_length_le (by omega), hl2, show l.length * 2 + 1 + 1 - (l.length * 2 + 1) = 1 by omega]
   have e2 : (L.drop o).take (l.length * 2 + 1) = qcx l ++ [.int .i64 (.ofNat u)] := by
    have : ((L.drop o).take ((l.length + 1) * 2)).take (l.length * 2 + 1) = (qcx (l ++ [(u, i)])).take (l.length * 2 + 1) := by rw [h3]
    rw [List.take_take, Nat.min_eq_left (by omega)] at this
    rw [this, qdc, List.take_append, List.take_of_length_le (by omega), hl, show l.length * 2 + 1 - l.length * 2 = 1 by omega]
    rfl
   rw [e2, List.append_assoc]
   rfl
structure WS (H0 : Hp) (N : Nat) (adj : Nat → List Nat) (s : TS) (fr : List (Nat × Nat)) (col : Nat → Nat) (tb : Nat) (v : AV) (H : Hp) : Prop where
 tm : TM H0 adj s col tb H
 ti : TI N adj s fr
 fr : Gs 2 H v fr.length (qcx fr)
 fc : ∀ b, In v b → col b = 3
def Le (s s' : TS) : Prop := (∀ x, 0 < s.num x → 0 < s'.num x) ∧ s.cnt ≤ s'.cnt
theorem Le.refl (s : TS) : Le s s := ⟨fun _ h => h, Nat.le_refl _⟩
theorem Le.trans {a b c : TS} (h : Le a b) (k : Le b c) : Le a c := ⟨fun x hx => k.1 x (h.1 x hx), Nat.le_trans h.2 k.2⟩
theorem Le.look (s : TS) (v k : Nat) : Le s (s.look v k) := by
 unfold TS.look
 split <;> exact ⟨fun _ h => h, Nat.le_refl _⟩
theorem Le.enter (s : TS) {k : Nat} (hk : s.num k = 0) : Le s (s.enter k) := ⟨fun x hx => by
 show 0 < upd s.num k (s.cnt + 1) x
 by_cases e : x = k
 ·rw [e, upd_same]; omega
 ·rw [upd_ne _ _ e]; exact hx, Nat.le_succ _⟩
structure quu (N : Nat) (adj : Nat → List Nat) : Prop where
 le : N ≤ 256
 lt : ∀ u, ∀ k ∈ adj u, k < N
 len : ∀ u, (adj u).length < 200000
theorem q4w (s : TS) (v k : Nat) : (s.look v k).cnt = s.cnt := by unfold TS.look; split <;> rfl
theorem q7k (hC : qbe C) {j : Nat} (hj : 1 ≤ j) {H0 : Hp} {N : Nat} {adj : Nat → List Nat} (hA : quu N adj) {tb : Nat} {l : List (Nat × Nat)} {u fb fo : Nat} {v : AV} {s0 : TS} {q1 q2 : AV → Hp → R1} {Q : AV → Hp → Prop}
  (hp : idxS 2 v (.int .i64 (.ofNat l.length)) = .val (.ptr fb fo))
  (hq1 : ∀ v' H' s' fr' col', WS H0 N adj s' fr' col' tb v' H' → Le s0 s' → 2 * (N - s'.cnt) + fr'.length < 2 * (N - s0.cnt) + (l.length + 1) → Ok (q1 v' H') Q)
  (hq2 : ∀ H' s' col', WS H0 N adj s' (l ++ [(u, (adj u).length)]) col' tb v H' → Le s0 s' → s'.cnt = s0.cnt → Ok (q2 v H') Q) :
  ∀ (k i : Nat) (s : TS) (col : Nat → Nat) (H : Hp), (adj u).length - i < k → WS H0 N adj s (l ++ [(u, i)]) col tb v H → Le s0 s → s.cnt = s0.cnt →
   Ok (qek (C j) q1 q2 (.ptr tb 0) (.ptr fb fo) k v H) Q
 | 0, i, s, col, H, h, _, _, _ => by omega
 | k + 1, i, s, col, H, h, hW, hle, hcnt => by
  show Ok (ql5 (C j) _ _ _ _ (qek (C j) _ _ _ _ k) _ H) Q
  unfold ql5
  have hT := hW.ti
  have hfl : (l ++ [(u, i)]).length = l.length + 1 := by simp
  have hF := hW.fr
  rw [hfl] at hF
  obtain ⟨b, o, e1, e2, e3, e4, e5, e6⟩ := hF.topF
  rw [hp] at e1
  cases e1
  obtain ⟨nx, sv, ov, cs, hM⟩ := hW.tm
  have g1 := hM.get
  have hus : u ∈ s.stk := hT.frSt (by rw [qa5]; simp)
  have huN : u < N := hT.stLt u hus
  have hN := hA.le
  have hu : u < 256 := by omega
  obtain ⟨n1, n2⟩ := hM.nxt u hu
  have n3 := n1.lenV
  have hil : i ≤ (adj u).length := (hT.frE (u, i) (List.mem_append_right _ (List.mem_singleton.2 rfl))).1
  have hne : fb ≠ tb := fun e => by have := hW.fc fb e2; rw [e, hM.ct] at this; cases this
  by_cases hi : i < (adj u).length
  ·simp (disch := first | omega | exact ti rfl | (simp only [np, nq]; first | done | omega)) only [go_sem, reduceAdd, reduceMul, reduceSub, reduceLeDiff, reduceEqDiff, reduceShiftRight, reduceAnd, Nat.mul_one, Nat.zero_add, e4, e5, g1, n3, hi, Nat.add_zero]
   unfold qiu
   obtain ⟨b2, o2, m1, m2, m3⟩ := n1.rl.at' i (by rw [qaw]; exact hi)
   rw [qe2] at m3
   obtain ⟨B, w1, w2⟩ := e6 (i + 1)
   have hk : (adj u)[i]? = some (adj u)[i] := by simp [hi]
   generalize hkk : (adj u)[i] = x at *
   have hxN : x < N := hA.lt u x (List.mem_of_getElem? hk)
   have hx : x < 256 := by omega
   have hi2 : i < 900000 := by have := hA.len u; omega
   have hnm : s.num x ≤ 256 := by have := hT.numLe x; have := hT.cnt_le; omega
   simp (disch := first | omega | exact ti rfl | (simp only [np, nq]; first | done | omega)) only [go_sem, reduceAdd, reduceMul, reduceSub, reduceLeDiff, reduceEqDiff, reduceShiftRight, reduceAnd, Nat.mul_one, Nat.zero_add, e4, e5, g1, m1, m3, w1, Nat.add_zero]
   have g1' : (H.put fb B).get tb = TB nx s sv ov := by rw [qai _ _ _ _ (Ne.symm hne)]; exact g1
   have fB : Fm (fun c => c = tb ∨ col c = 3) H (H.put fb B) := (Fm.refl _ _).put _ _ fun _ => Or.inr (hW.fc fb e2)
   have gF : Gs 2 (H.put fb B) v (l.length + 1) (qcx (l ++ [(u, i + 1)])) := w2 _ (Nat.le_refl _) (qac _ _ _)
   have gstk : Gs 1 (H.put fb B) sv s.stk.length (nats s.stk) := hM.stk.keep (Nat.le_refl _) fun c hc _ => qai _ _ _ _ fun e => by have h1 := hM.stc c hc; rw [e, hW.fc fb e2] at h1; cases h1
   have hM1 : TMd H0 adj s col tb (H.put fb B) nx sv ov cs := hM.step fB (fun c _ h => h.imp id Or.inr) (fun _ _ => rfl) g1' gstk hM.stc rfl
   by_cases h0 : s.num x = 0
   ·simp (disch := first | omega | exact ti rfl | (simp only [np, nq]; first | done | omega)) only [go_sem, reduceAdd, reduceMul, reduceSub, reduceLeDiff, reduceEqDiff, reduceShiftRight, reduceAnd, Nat.mul_one, Nat.zero_add, h0]
    have tE : TI N adj (s.enter x) ((l ++ [(u, i + 1)]) ++ [(x, 0)]) := hT.enter h0 hxN (Or.inr ⟨l, u, i, rfl, hk, rfl⟩)
    have hc1 := tE.cnt_le
    have hc1 : s.cnt + 1 ≤ N := hc1
    have hsl : s.stk.length ≤ N := by have h1 := hT.cntE; have h2 := hT.cnt_le; omega
    refine Ok.ve (qv9 hC hj ⟨nx, sv, ov, cs, hM1⟩ hx (by omega) (by omega)) ?_
    rintro r H2 ⟨rfl, col', c1, ⟨nx2, sv2, ov2, cs2, t2⟩, f2⟩
    have hv2 : ∀ c, In v c → c < H.nx := fun c hc => hF.lt hc
    have gF2 : Gs 2 H2 v (l.length + 1) (qcx (l ++ [(u, i + 1)])) := gF.fm f2 fun c hc => by
     rintro (e | e)
     ·have := hW.fc c hc; rw [e, hM.ct] at this; cases this
     ·have := hW.fc c hc; rw [e] at this; cases this
    have hv3 : ∀ c, In v c → col' c = 3 := fun c hc => (c1 c (hv2 c hc)).trans (hW.fc c hc)
    have fl : l.length ≤ N := by have h1 := hT.fr_len; rw [hfl] at h1; omega
    refine Ok.ve (Gs.append (z := 2) (n := l.length + 1) (l := qcx (l ++ [(u, i + 1)])) (gF2.fm ((Fm.refl No _).push _) fun _ _ h => h) rfl (by omega) (by omega)) ?_
    rintro r H3 ⟨⟨b', o', m', e', rfl⟩, a1, a2, a3⟩
    have f23 : Fm (fun c => col' c = 3) H2 H3 := Fm.then (S := fun c => col' c = 3) ((Fm.refl _ _).push _) a2 fun c _ hc => hv3 c hc
    have n23 := f23.nx
    simp only [np] at a3
    have ht2 : H3.get tb = TB nx2 (s.enter x) sv2 ov2 := (f23.get tb t2.lt fun e => by rw [t2.ct] at e; cases e).trans t2.get
    have hs3 : Gs 1 H3 sv2 (s.enter x).stk.length (nats (s.enter x).stk) := t2.stk.keep n23 fun c hc hlt => f23.get c hlt fun e => by have := t2.stc c hc; rw [e] at this; cases this
    refine hq1 _ _ (s.enter x) ((l ++ [(u, i + 1)]) ++ [(x, 0)]) (qm0 col' H2 3) ⟨⟨nx2, sv2, ov2, cs2, t2.step f23 (fun c _ h => Or.inr (Or.inr h)) (fun c hc => qbh hc) ht2 hs3 (fun c hc => by rw [qbh (t2.stk.lt hc)]; exact t2.stc c hc) rfl⟩, tE, ?_, ?_⟩ (hle.trans (Le.enter s h0)) ?_
    ·rw [qdc]
     simpa using a1
    ·intro c hc
     rcases a3 c hc with g | g
     ·rw [qbh (gF2.lt g)]; exact hv3 c g
     ·exact qf8 (by omega)
    ·show 2 * (N - (s.cnt + 1)) + ((l ++ [(u, i + 1)]) ++ [(x, 0)]).length < _
     simp only [List.length_append, List.length_cons, List.length_nil]
     omega
   ·simp (disch := first | omega | exact ti rfl | (simp only [np, nq]; first | done | omega)) only [go_sem, reduceAdd, reduceMul, reduceSub, reduceLeDiff, reduceEqDiff, reduceShiftRight, reduceAnd, Nat.mul_one, Nat.zero_add, h0]
    have hpos : 0 < s.num x := by omega
    have tL := hT.look hk hpos
    unfold ql4
    have hfr : ∀ i', (l ++ [(u, i')]).length = l.length + 1 := fun i' => by simp
    cases ho : s.on x with
    | false =>
     have e0 : s.look u x = s := by unfold TS.look; rw [ho]; rfl
     rw [e0] at tL
     simp (disch := first | omega | exact ti rfl | (simp only [np, nq]; first | done | omega)) only [go_sem, reduceAdd, reduceMul, reduceSub, reduceLeDiff, reduceEqDiff, reduceShiftRight, reduceAnd, Nat.mul_one, Nat.zero_add, g1', ho]
     refine q7k hC hj hA hp hq1 hq2 k (i + 1) s col _ (by omega) ⟨⟨nx, sv, ov, cs, hM1⟩, tL, ?_, hW.fc⟩ hle hcnt
     rw [hfr]; exact gF
    | true =>
     have e0 : s.look u x = { s with low := upd s.low u (min (s.low u) (s.num x)) } := by unfold TS.look; rw [ho]; rfl
     have r0 : qa9 ((H.put fb B).get fb) fo = .val (.int .i64 (.ofNat u)) := by
      obtain ⟨b3, o3, e7, e8, e9, e10, _⟩ := gF.topF
      rw [hp] at e7
      cases e7
      exact e10
     have g3' : ∀ {B' : Blk}, ((H.put fb B).put tb B').get fb = (H.put fb B).get fb := fun {B'} => qai _ _ _ _ hne
     rw [qac] at r0
     simp (disch := first | omega | exact ti rfl | (simp only [np, nq]; first | done | omega)) only [go_sem, reduceAdd, reduceMul, reduceSub, reduceLeDiff, reduceEqDiff, reduceShiftRight, reduceAnd, Nat.mul_one, Nat.zero_add, g1', ho, r0, qv0, Nat.add_zero]
     rw [← e0]
     have fT : Fm (fun c => c = tb ∨ col c = 3) (H.put fb B) ((H.put fb B).put tb (TB nx (s.look u x) sv ov)) := (Fm.refl _ _).put _ _ fun _ => Or.inl rfl
     refine q7k hC hj hA hp hq1 hq2 k (i + 1) (s.look u x) col _ (by omega) ⟨⟨nx, sv, ov, cs, hM1.step fT (fun c _ h => h.imp id Or.inr) (fun _ _ => rfl) (qac _ _ _) ?_ hM.stc (by rw [e0])⟩, tL, ?_, hW.fc⟩ (hle.trans (Le.look s u x)) ((q4w s u x).trans hcnt)
     ·have : (s.look u x).stk = s.stk := by rw [e0]
      rw [this]
      exact hM1.stk.keep (Nat.le_refl _) fun c hc _ => qai _ _ _ _ fun e => by have h1 := hM.stc c hc; rw [e, hM.ct] at h1; cases h1
     ·rw [hfr]
      exact gF.keep (Nat.le_refl _) fun c hc _ => qai _ _ _ _ fun e => by have h1 := hW.fc c hc; rw [e, hM.ct] at h1; cases h1
  ·simp (disch := first | omega | exact ti rfl | (simp only [np, nq]; first | done | omega)) only [go_sem, reduceAdd, reduceMul, reduceSub, reduceLeDiff, reduceEqDiff, reduceShiftRight, reduceAnd, Nat.mul_one, Nat.zero_add, e4, e5, g1, n3, hi, Nat.add_zero]
   have : i = (adj u).length := by omega
   subst this
   exact hq2 H s col hW hle hcnt
end Go.Di
end
noncomputable section
/-
 Contracts: a walk leaves its top frame; the walk whole.
-/
namespace Go.Di
open Go.Ev Go.Di.T
variable {C : Nat → Ev.Call} {LA LO : LP}
theorem q3y {α : Type} (f : Nat → α) (i : Nat) : upd f i (f i) = f := funext fun j => by
 by_cases e : j = i
 ·rw [e, upd_same]
 ·rw [upd_ne _ _ e]
theorem q4o {a b : List Nat} (hp : a.Perm b) (hn : b.Nodup) (h : a.Pairwise (· ≤ ·)) : a.Pairwise (· < ·) := by
 have hn' : a.Pairwise (· ≠ ·) := hp.nodup_iff.2 hn
 exact (h.and hn').imp fun ⟨h1, h2⟩ => Nat.lt_of_le_of_ne h1 h2
def LeftS (H0 : Hp) (N : Nat) (adj : Nat → List Nat) (s : TS) (l : List (Nat × Nat)) (u tb : Nat) (v : AV) (H1 : Hp) : Prop :=
 ∃ (s1 : TS) (col1 : Nat → Nat), TM H0 adj s1 col1 tb H1 ∧ Gs 2 H1 v (l.length + 1) (qcx (l ++ [(u, (adj u).length)])) ∧ (∀ c, In v c → col1 c = 3) ∧ (l = [] → TI N adj s1 []) ∧
  (∀ l' up jj, l = l' ++ [(up, jj)] → up < 256 ∧ TI N adj { s1 with low := upd s1.low up (min (s1.low up) (s1.low u)) } l) ∧ Le s s1 ∧ s1.cnt = s.cnt
theorem q8m (hC : qbe C) (hO : qc0 C) (hS : qcb C) (hR : qcc LA LO C) {j : Nat} (hj : 300 ≤ j) {H0 : Hp} {N : Nat} {adj : Nat → List Nat} (hA : quu N adj) {tb : Nat} {l : List (Nat × Nat)} {u : Nat} {v : AV} {s : TS} {col : Nat → Nat} {H : Hp}
  (hW : WS H0 N adj s (l ++ [(u, (adj u).length)]) col tb v H) :
  Ok (C j (.f qeg) [.ptr tb 0, .int .i64 (.ofNat u)] H) fun r H1 => r = .tup [] ∧ LeftS H0 N adj s l u tb v H1 := by
 have hT := hW.ti
 have hfl : (l ++ [(u, (adj u).length)]).length = l.length + 1 := by simp
 have hF := hW.fr
 rw [hfl] at hF
 have hus : u ∈ s.stk := hT.frSt (by rw [qa5]; simp)
 have hN := hA.le
 have h256 : ∀ x ∈ s.stk, x < 256 := fun x hx => Nat.lt_of_lt_of_le (hT.stLt x hx) hN
 have hup : ∀ {l' up jj}, l = l' ++ [(up, jj)] → up ∈ nds l := fun {l' up jj} e => by rw [e, qa5]; simp
 have hupS : ∀ {x}, x ∈ nds l → x ∈ s.stk := fun {x} hx => hT.frSt (by rw [qa5]; exact List.mem_append_left _ hx)
 by_cases hl : s.low u < s.num u
 ·refine ⟨_, _, q40 hC (by omega) hW.tm (h256 u hus) hl, rfl, s, col, hW.tm, hF, hW.fc, fun e => ?_, fun l' up jj e => ?_, Le.refl _, rfl⟩
  ·subst e
   exact absurd hl hT.root
  ·subst e
   exact ⟨h256 _ (hupS (hup rfl)), hT.pop hl⟩
 ·obtain ⟨pre, post, hs⟩ := List.append_of_mem hus
  have hnd := hT.nd
  rw [hs] at hnd
  have hpre : u ∉ pre := fun h => (List.nodup_append.1 hnd).2.2 u h u List.mem_cons_self rfl
  have hpost := (List.nodup_append.1 hnd).2.1
  have hcl := hT.cnt_le
  have hce := hT.cntE
  have hsl : s.stk.length ≤ 256 := by omega
  have hol : s.out.length ≤ 256 := by
   have h1 : s.out.length ≤ s.out.flatten.length := by
    have : ∀ (o : List (List Nat)), (∀ c ∈ o, c ≠ []) → o.length ≤ o.flatten.length := fun o => by
     induction o with
     | nil => intro _; exact Nat.le_refl _
     | cons c o ih =>
      intro h
      have h1 := ih fun c hc => h c (List.mem_cons_of_mem _ hc)
      have h2 : 0 < c.length := List.length_pos_iff.2 (h c List.mem_cons_self)
      rw [List.flatten_cons, List.length_append, List.length_cons]; omega
    refine this _ fun c hc e => ?_
    obtain ⟨_, r, hr, _⟩ := hT.outS c hc
    rw [e] at hr; cases hr
   omega
  refine (q0x hC hO hS hR hj hW.tm (h256 u hus) hl hs hpre hsl h256 hol).mono ?_
  rintro r H1 ⟨rfl, comp, on', col', c1, c2, c3, c4, t1, f1⟩
  have tl := hT.leave hl hs c1 (q4o c1 hpost c2) on' c3
  refine ⟨rfl, _, col', t1, ?_, ?_, ?_, ?_, ⟨fun _ h => h, Nat.le_refl _⟩, rfl⟩
  ·obtain ⟨_, _, _, _, hM⟩ := hW.tm
   exact hF.fm f1 fun c hc => by
    rintro (e | e)
    ·have := hW.fc c hc; rw [e, hM.ct] at this; cases this
    ·have := hW.fc c hc; rw [e] at this; cases this
  ·exact fun c hc => (c4 c (hF.lt hc)).trans (hW.fc c hc)
  ·rintro rfl; exact tl
  ·intro l' up jj e
   have hu1 := hup e
   refine ⟨h256 _ (hupS hu1), ?_⟩
   have hlt := hT.top hu1
   have hlo := hT.low1 up (hupS hu1)
   have e1 : min (s.low up) (s.low u) = s.low up := Nat.min_eq_left (by omega)
   show TI N adj { num := s.num, low := upd s.low up (min (s.low up) (s.low u)), on := on', stk := pre, cnt := s.cnt, out := s.out ++ [comp] } l
   rw [e1, q3y]
   exact tl
theorem q3x (hC : qbe C) (hO : qc0 C) (hS : qcb C) (hR : qcc LA LO C) {j : Nat} (hj : 300 ≤ j) {H0 : Hp} {N : Nat} {adj : Nat → List Nat} (hA : quu N adj) {tb : Nat} {l : List (Nat × Nat)} {u fb fo : Nat} {v : AV} {s : TS} {col : Nat → Nat} {H : Hp} {g3 : AV → Hp → R1} {Q : AV → Hp → Prop}
  (hp : idxS 2 v (.int .i64 (.ofNat l.length)) = .val (.ptr fb fo)) (hW : WS H0 N adj s (l ++ [(u, (adj u).length)]) col tb v H)
  (hg : ∀ v' H' s' col', WS H0 N adj s' l col' tb v' H' → Le s s' → s'.cnt = s.cnt → Ok (g3 v' H') Q) :
  Ok (qcy (C j) g3 (.ptr tb 0) v (.ptr fb fo) H) Q := by
 unfold qcy
 have hfl : (l ++ [(u, (adj u).length)]).length = l.length + 1 := by simp
 have hF := hW.fr
 rw [hfl] at hF
 obtain ⟨b, o, e1, e2, e3, e4, e5, _⟩ := hF.topF
 rw [hp] at e1
 cases e1
 have hlen : l.length ≤ 256 := by
  have h1 := hW.ti.fr_len
  have h2 := hW.ti.cntE
  have h3 := hW.ti.cnt_le
  have h4 := hA.le
  rw [hfl] at h1; omega
 have hu256 : u < 256 := by
  have := hW.ti.stLt u (hW.ti.frSt (by rw [qa5]; simp))
  have := hA.le
  omega
 simp (disch := first | omega | exact ti rfl | (simp only [np, nq]; first | done | omega)) only [go_sem, reduceAdd, reduceMul, reduceSub, reduceLeDiff, reduceEqDiff, reduceShiftRight, reduceAnd, Nat.mul_one, Nat.zero_add, e4, Nat.add_zero]
 refine Ok.ve (q8m hC hO hS hR hj hA hW) ?_
 rintro r H1 ⟨rfl, s1, col1, ⟨nx, sv, ov, cs, hM⟩, hF1, hc1, h0, h1, hle, hcnt⟩
 have g1 := hM.get
 have e6 := hF1.lenV
 obtain ⟨b5, o5, m5, y5, e7, e8, e9⟩ := hF1.upto (k := l.length) (by omega) (by omega)
 have e10 : (qcx (l ++ [(u, (adj u).length)])).take (l.length * 2) = qcx l := by rw [qdc, List.take_append_of_le_length (by rw [qgd]; exact Nat.le_refl _), List.take_of_length_le (by rw [qgd]; exact Nat.le_refl _)]
 rw [e10] at e8
 have hcv : ∀ c, In (.sl b5 o5 l.length m5 y5) c → col1 c = 3 := fun c hc => hc1 c (e9 c hc)
 rcases List.eq_nil_or_concat l with rfl | ⟨l', ⟨up, jj⟩, hl'⟩
 ·have e7 : qa8 2 v none (some (.int .i64 (.ofNat 0))) none = .val (.sl b5 o5 0 m5 y5) := e7
  have e6 : lenSl v = .val (.int .i64 (.ofNat 1)) := e6
  simp (disch := first | omega | exact ti rfl | (simp only [np, nq]; first | done | omega)) only [go_sem, reduceAdd, reduceMul, reduceSub, reduceLeDiff, reduceEqDiff, reduceShiftRight, reduceAnd, Nat.mul_one, Nat.zero_add, e6, e7]
  exact hg _ H1 s1 col1 ⟨⟨nx, sv, ov, cs, hM⟩, h0 rfl, e8, hcv⟩ hle hcnt
 ·rw [List.concat_eq_append] at hl'
  obtain ⟨u256, hT2⟩ := h1 l' up jj hl'
  have hll : l.length = l'.length + 1 := by rw [hl']; simp
  have hF2 := e8
  rw [hl', List.length_append] at hF2
  obtain ⟨b6, o6, k1, k2, k3, k4, k5, _⟩ := Gs.topF (l := l') (u := up) (i := jj) hF2
  have hbt : b6 ≠ tb := fun e => by
   obtain ⟨_, _, _, _, g⟩ := k2
   cases g
   have := hcv b5 ⟨_, _, _, _, rfl⟩
   rw [e, hM.ct] at this; cases this
  have hb65 : b6 = b5 := by
   obtain ⟨_, _, _, _, g⟩ := k2
   cases g; rfl
  have hpos : 0 < l.length := by omega
  have hm1 : l.length - 1 = l'.length := by omega
  have k1' : idxS 2 (.sl b5 o5 l.length m5 y5) (.int .i64 (.ofNat l'.length)) = .val (.ptr b6 o6) := by
   rw [hll]; exact k1
  simp (disch := first | omega | exact ti rfl | (simp only [np, nq]; first | done | omega)) only [go_sem, reduceAdd, reduceMul, reduceSub, reduceLeDiff, reduceEqDiff, reduceShiftRight, reduceAnd, Nat.mul_one, Nat.zero_add, e6, e7, hpos, hm1, k1', k4, g1, qv0, Nat.add_zero, Nat.add_sub_cancel]
  have fT : Fm (fun c => c = tb ∨ col1 c = 3) H1 (H1.put tb (TB nx { s1 with low := upd s1.low up (min (s1.low up) (s1.low u)) } sv ov)) := (Fm.refl _ _).put _ _ fun _ => Or.inl rfl
  refine hg _ _ { s1 with low := upd s1.low up (min (s1.low up) (s1.low u)) } col1 ⟨⟨nx, sv, ov, cs, hM.step fT (fun c _ h => h.imp id Or.inr) (fun _ _ => rfl) (qac _ _ _) ?_ hM.stc rfl⟩, hT2, ?_, hcv⟩ ⟨hle.1, hle.2⟩ hcnt
  ·exact hM.stk.keep (Nat.le_refl _) fun c hc _ => qai _ _ _ _ fun e => by have h1 := hM.stc c hc; rw [e, hM.ct] at h1; cases h1
  ·exact e8.keep (Nat.le_refl _) fun c hc _ => qai _ _ _ _ fun e => by have h1 := hcv c hc; rw [e, hM.ct] at h1; cases h1
theorem qno (hC : qbe C) (hO : qc0 C) (hS : qcb C) (hR : qcc LA LO C) {j : Nat} (hj : 300 ≤ j) {H0 : Hp} {N : Nat} {adj : Nat → List Nat} (hA : quu N adj) {tb : Nat} {s0 : TS} {q : Hp → R1} {Q : AV → Hp → Prop}
  (hq : ∀ H' s' col', TM H0 adj s' col' tb H' → TI N adj s' [] → Le s0 s' → Ok (q H') Q) :
  ∀ (k : Nat) (v : AV) (H : Hp) (s : TS) (fr : List (Nat × Nat)) (col : Nat → Nat), 2 * (N - s.cnt) + fr.length < k → WS H0 N adj s fr col tb v H → Le s0 s →
   Ok (qbm (C j) q (.ptr tb 0) k v H) Q
 | 0, v, H, s, fr, col, h, _, _ => by omega
 | k + 1, v, H, s, fr, col, h, hW, hle => by
  show Ok (qpv (C j) _ _ (qbm (C j) _ _ k) _ H) Q
  unfold qpv
  have e1 := hW.fr.lenV
  rcases List.eq_nil_or_concat fr with rfl | ⟨l, ⟨u, i⟩, hl⟩
  ·have e1 : lenSl v = .val (.int .i64 (.ofNat 0)) := e1
   simp (disch := first | omega | exact ti rfl | (simp only [np, nq]; first | done | omega)) only [go_sem, reduceAdd, reduceMul, reduceSub, reduceLeDiff, reduceEqDiff, reduceShiftRight, reduceAnd, Nat.mul_one, Nat.zero_add, e1]
   exact hq H s col hW.tm hW.ti hle
  ·rw [List.concat_eq_append] at hl
   have hll : fr.length = l.length + 1 := by rw [hl]; simp
   rw [hll] at e1 h
   have hlen : l.length ≤ 256 := by
    have h1 := hW.ti.fr_len
    have h2 := hW.ti.cntE
    have h3 := hW.ti.cnt_le
    have h4 := hA.le
    rw [hll] at h1; omega
   have hpos : 0 < l.length + 1 := by omega
   simp (disch := first | omega | exact ti rfl | (simp only [np, nq]; first | done | omega)) only [go_sem, reduceAdd, reduceMul, reduceSub, reduceLeDiff, reduceEqDiff, reduceShiftRight, reduceAnd, Nat.mul_one, Nat.zero_add, e1, hpos]
   unfold qit
   have hF := hW.fr
   rw [hll] at hF
   rw [hl] at hF hW
   obtain ⟨b, o, k1, k2, k3, k4, k5, _⟩ := hF.topF
   simp (disch := first | omega | exact ti rfl | (simp only [np, nq]; first | done | omega)) only [go_sem, reduceAdd, reduceMul, reduceSub, reduceLeDiff, reduceEqDiff, reduceShiftRight, reduceAnd, Nat.mul_one, Nat.zero_add, e1, k1, Nat.add_sub_cancel]
   unfold ql6
   rw [qas]
   have hil := (hW.ti.frE (u, i) (List.mem_append_right _ (List.mem_singleton.2 rfl))).1
   have hal := hA.len u
   refine q7k hC (by omega) hA k1 (fun v' H' s' fr' col' hW' hle' hm => ?_) (fun H' s' col' hW' hle' hc' => ?_) qao i s col H (by rw [qal]; omega) hW (Le.refl s) rfl
   ·exact qno hC hO hS hR hj hA hq k v' H' s' fr' col' (by omega) hW' (hle.trans hle')
   ·refine q3x hC hO hS hR hj hA k1 hW' fun v2 H2 s2 col2 hW2 hle2 hc2 => ?_
    exact qno hC hO hS hR hj hA hq k v2 H2 s2 l col2 (by omega) hW2 ((hle.trans hle').trans hle2)
theorem q7j (hC : qbe C) (hO : qc0 C) (hS : qcb C) (hR : qcc LA LO C) {k : Nat} (hk : 301 ≤ k) {H0 : Hp} {N : Nat} {adj : Nat → List Nat} (hA : quu N adj) {tb : Nat} {s : TS} {col : Nat → Nat} {H : Hp}
  (hM : TM H0 adj s col tb H) (hT : TI N adj s []) {r : Nat} (hr : r < N) (h0 : s.num r = 0) :
  Ok (C k (.f qjz) [.ptr tb 0, .int .i64 (.ofNat r)] H) fun v H' => v = .tup [] ∧ ∃ s' col', TM H0 adj s' col' tb H' ∧ TI N adj s' [] ∧ Le s s' ∧ 0 < s'.num r := by
 obtain ⟨j, rfl⟩ : ∃ j, k = j + 1 := ⟨k - 1, by omega⟩
 rw [(hC j).cWalk]
 unfold cWalk qt6
 have hN := hA.le
 have hcl := hT.cnt_le
 have hce := hT.cntE
 refine Ok.ve (qv9 hC (k := j) (by omega) hM (v := r) (by omega) (by omega) (by omega)) ?_
 rintro x H1 ⟨rfl, col1, c1, ⟨nx, sv, ov, cs, t1⟩, f1⟩
 simp (disch := first | omega | exact ti rfl | (simp only [np, nq]; first | done | omega)) only [go_sem, reduceAdd, reduceMul, reduceSub, reduceLeDiff, reduceEqDiff, reduceShiftRight, reduceAnd, Nat.mul_one, Nat.zero_add]
 unfold qis qpw
 rw [qas]
 have tE : TI N adj (s.enter r) ([] ++ [(r, 0)]) := hT.enter h0 hr (Or.inl ⟨rfl, rfl⟩)
 have f2 : Fm No H1 (qan H1 (qaa 0 [.int .i64 (.ofNat r), .int .i64 (.ofNat 0)])) := (Fm.refl _ _).push _
 have hW : WS H0 N adj (s.enter r) ([] ++ [(r, 0)]) (qm0 col1 H1 3) tb (.sl H1.nx 0 1 1 true) (qan H1 (qaa 0 [.int .i64 (.ofNat r), .int .i64 (.ofNat 0)])) := by
  refine ⟨⟨nx, sv, ov, cs, t1.step f2 (fun c _ h => h.elim) (fun c hc => qbh hc) ((f2.keep t1.lt).trans t1.get) (t1.stk.fm f2 fun _ _ h => h) (fun c hc => by rw [qbh (t1.stk.lt hc)]; exact t1.stc c hc) rfl⟩, tE, ⟨rfl, .inr ⟨H1.nx, 0, 1, true, 0, _, rfl, Nat.le_refl _, qak _ _, rfl, rfl, Or.inl rfl, Nat.lt_succ_self _⟩⟩, ?_⟩
  rintro c ⟨_, _, _, _, e⟩
  cases e
  exact qf8 (Nat.le_refl _)
 refine qno hC hO hS hR (by omega) hA (s0 := s.enter r) (fun H' s' col' t' i' hle => ?_) qao _ _ (s.enter r) ([] ++ [(r, 0)]) _ ?_ hW (Le.refl _)
 ·exact Ok.ret ⟨rfl, s', col', t', i', (Le.enter s h0).trans hle, hle.1 r (by show 0 < upd s.num r (s.cnt + 1) r; rw [upd_same]; omega)⟩
 ·rw [qal]
  show 2 * (N - (s.cnt + 1)) + 1 < 1000000
  omega
end Go.Di
end
noncomputable section
/-
 Contracts: the parts of a graph.
-/
namespace Go.Di
open Go.Ev Go.Di.T
variable {C : Nat → Ev.Call} {LA LO : LP}
def qa6 (es : List Edge) (u : Nat) : List Nat := (es.filter fun e => decide (e.f = u)).map Edge.t
theorem qye (es : List Edge) (e : Edge) (u : Nat) : qa6 (es ++ [e]) u = if e.f = u then qa6 es u ++ [e.t] else qa6 es u := by
 unfold qa6
 rw [List.filter_append, List.map_append]
 by_cases h : e.f = u
 ·simp [h]
 ·simp [h]
theorem qsa (es : List Edge) (u : Nat) : (qa6 es u).length ≤ es.length := by
 unfold qa6
 rw [List.length_map]
 exact List.length_filter_le _ _
theorem qbt {es : List Edge} {u k : Nat} : k ∈ qa6 es u ↔ ∃ e ∈ es, e.f = u ∧ e.t = k := by
 unfold qa6
 simp only [List.mem_map, List.mem_filter, decide_eq_true_eq]
 exact ⟨fun ⟨e, ⟨h1, h2⟩, h3⟩ => ⟨e, h1, h2, h3⟩, fun ⟨e, h1, h2, h3⟩ => ⟨e, ⟨h1, h2⟩, h3⟩⟩
def s00 : TS := ⟨fun _ => 0, fun _ => 0, fun _ => false, [], 0, []⟩
theorem TB0 : qaa 0 (List.replicate 256 (.nilsl) ++ List.replicate 512 (.int .i64 (.ofNat 0)) ++ List.replicate 256 (.bool false) ++ [.nilsl] ++ [.int .i64 (.ofNat 0)] ++ [.nilsl]) = TB (fun _ => .nilsl) s00 .nilsl .nilsl := by
 unfold TB
 refine congrArg (qaa 0) ?_
 kernel_rfl
theorem qk0 {call : Ev.Call} {es : List Edge} (hlen : es.length < 200000) {v : AV} {tb : Nat} {H0 : Hp} (hv : IsE H0 v es) (hE : ∀ e ∈ es, e.f < 256 ∧ e.t < 256) {Q : AV → Hp → Prop} {q : Hp → R1}
  (hq : ∀ H nx col, TMd H0 (qa6 es) s00 col tb H nx .nilsl .nilsl [] → Ok (q H) Q) :
  ∀ (k i : Nat) (H : Hp) (nx : Nat → AV) (col : Nat → Nat), es.length - i < k → i ≤ es.length → TMd H0 (qa6 (es.take i)) s00 col tb H nx .nilsl .nilsl [] →
   Ok (qdd call q (.ptr tb 0) v (.int .i64 (.ofNat es.length)) k (.int .i64 (.ofNat i)) H) Q
 | 0, i, H, nx, col, h, _, _ => by omega
 | k + 1, i, H, nx, col, h, hi, hM => by
  show Ok (qiy call _ _ _ _ (qdd call _ _ _ _ k) _ H) Q
  unfold qiy
  by_cases hil : i < es.length
  ·simp (disch := first | omega | exact ti rfl | (simp only [np, nq]; first | done | omega)) only [go_sem, reduceAdd, reduceMul, reduceSub, reduceLeDiff, reduceEqDiff, reduceShiftRight, reduceAnd, Nat.mul_one, Nat.zero_add, hil]
   unfold qiv
   obtain ⟨b, o, e1, e2, e3⟩ := (hv.fm hM.fm).at hil
   obtain ⟨hf, ht⟩ := hE es[i] (List.getElem_mem _)
   obtain ⟨n1, n2⟩ := hM.nxt es[i].f hf
   have hwf := qcq n1.flat 63
   have g1 := hM.get
   have hlt := hM.lt
   have hal := qsa (es.take i) es[i].f
   have hal2 : (es.take i).length ≤ es.length := by rw [List.length_take]; omega
   have hcl : es[i].cells.length = 3 := rfl
   simp (disch := first | omega | exact ti rfl | (simp only [np, nq]; first | done | omega)) only [go_sem, reduceAdd, reduceMul, reduceSub, reduceLeDiff, reduceEqDiff, reduceShiftRight, reduceAnd, Nat.mul_one, Nat.zero_add, e1, e3, Edge.cells, g1, List.length_cons, List.length_nil]
   have fH : Fm No H (Hp.put ⟨((qan H (qaa 0 [.int .i64 (.ofNat 0), .int .i64 (.ofNat 0), .bool false])).put H.nx (qaa 0 [.int .i64 (.ofNat es[i].f), .int .i64 (.ofNat es[i].t), .bool es[i].s])).t, H.nx + 1 + 14⟩ (H.nx + 1 + 9) (qaa 0 [.int .i64 (.ofNat es[i].t)])) := by (repeat (first | exact Fm.refl _ _ | assumption | refine Fm.push ?_ _ | refine Fm.up2 ?_ (by (first | omega | (simp only [np, nq]; omega))) | refine Fm.put_new ?_ _ _ (by (first | omega | (simp only [np, nq]; omega)))))
   obtain ⟨H', e, gl', _, fm', nx'⟩ := (n1.no fH).append (k := 1) (w := 8) (x := [.int .i64 (.ofNat es[i].t)]) (by omega) rfl (by omega) (by omega)
   refine Ok.deE e ?_
   have nx2 : H'.nx = H.nx + 1 + 14 + 1 := nx'
   have htb : ¬ In (nx es[i].f) tb := fun hb => by have := n2 tb hb; rw [hM.ct] at this; omega
   have hnew : ∀ c, In (nx es[i].f) c → c < H.nx := fun c hc => n1.lt hc
   have k1 : H'.get tb = TB nx s00 .nilsl .nilsl := (fm'.get tb (by (first | omega | (simp only [np, nq]; omega))) htb).trans ((fH.keep hlt).trans g1)
   have fE : Fm (In (nx es[i].f)) H H' := (fH.mono fun _ _ h => h.elim).trans fm'
   have k2 : H'.get H.nx = qaa 0 [.int .i64 (.ofNat es[i].f), .int .i64 (.ofNat es[i].t), .bool es[i].s] := by
    rw [fm'.get H.nx (by (first | omega | (simp only [np, nq]; omega))) fun hb => Nat.lt_irrefl _ (hnew _ hb), qai _ _ _ _ (by omega), q1e, qac]
   simp (disch := first | omega | exact ti rfl | (simp only [np, nq]; first | done | omega)) only [go_sem, reduceAdd, reduceMul, reduceSub, reduceLeDiff, reduceEqDiff, reduceShiftRight, reduceAnd, Nat.mul_one, Nat.zero_add, k1, k2]
   unfold qiw
   simp (disch := first | omega | exact ti rfl | (simp only [np, nq]; first | done | omega)) only [go_sem, reduceAdd, reduceMul, reduceSub, reduceLeDiff, reduceEqDiff, reduceShiftRight, reduceAnd, Nat.mul_one, Nat.zero_add]
   have ht' : es.take (i + 1) = es.take i ++ [es[i]] := List.take_succ_eq_append_getElem hil
   refine qk0 hlen hv hE hq k (i + 1) _ (upd nx es[i].f (.sl (H.nx + 1 + 14) 0 ((qa6 (es.take i) es[i].f).length + 1) ((qa6 (es.take i) es[i].f).length + 1) false)) (qm0 col H (10 + es[i].f)) (by omega) (by omega) ?_
   have f3 : Fm (fun c => c = tb ∨ In (nx es[i].f) c) H (H'.put tb (TB (upd nx es[i].f (.sl (H.nx + 1 + 14) 0 ((qa6 (es.take i) es[i].f).length + 1) ((qa6 (es.take i) es[i].f).length + 1) false)) s00 .nilsl .nilsl)) := (fE.mono fun _ _ h => Or.inr h).put _ _ fun _ => Or.inl rfl
   exact {
    fm := hM.fm.then f3 fun c hc h => by
     rcases h with h | h
     ·have := hM.ge; omega
     ·have := n2 c h
      rw [hM.base c hc] at this; omega
    base := fun c hc => (qbh (Nat.lt_of_lt_of_le hc hM.fm.nx)).trans (hM.base c hc)
    ge := hM.ge
    lt := Nat.lt_of_lt_of_le hlt f3.nx
    ct := (qbh hlt).trans hM.ct
    get := qac _ _ _
    nxt := fun u hu => by
     rw [ht', qye]
     by_cases hef : es[i].f = u
     ·subst hef
      rw [if_pos rfl, upd_same]
      refine ⟨?_, ?_⟩
      ·have e9 : nats (qa6 (es.take i) es[i].f ++ [es[i].t]) = nats (qa6 (es.take i) es[i].f) ++ [.int .i64 (.ofNat es[i].t)] := by simp [nats]
       rw [e9, List.length_append]
       refine gl'.keep (Nat.le_refl _) fun c hc _ => qai _ _ _ _ ?_
       obtain ⟨_, _, _, _, g⟩ := hc
       cases g
       show H.nx + 1 + 14 ≠ tb
       omega
      ·rintro c ⟨_, _, _, _, g⟩
       cases g
       exact qf8 (by show H.nx ≤ H.nx + 1 + 14; omega)
     ·rw [if_neg hef, upd_ne _ _ fun e => hef e.symm]
      obtain ⟨m1, m2⟩ := hM.nxt u hu
      refine ⟨m1.fm f3 fun c hc h => ?_, fun c hc => (qbh (m1.lt hc)).trans (m2 c hc)⟩
      rcases h with h | h
      ·have := m2 c hc; rw [h, hM.ct] at this; omega
      ·have h1 := m2 c hc
       have h2 := n2 c h
       rw [h1] at h2
       exact hef (by omega)
    stk := Gs.nil _ _
    stc := fun c hc => by obtain ⟨_, _, _, _, g⟩ := hc; cases g
    out := Gl.nil _ _
    ouc := fun c hc => by obtain ⟨_, _, _, _, g⟩ := hc; cases g
    css := ⟨rfl, fun i c o h => by cases h⟩ }
  ·simp (disch := first | omega | exact ti rfl | (simp only [np, nq]; first | done | omega)) only [go_sem, reduceAdd, reduceMul, reduceSub, reduceLeDiff, reduceEqDiff, reduceShiftRight, reduceAnd, Nat.mul_one, Nat.zero_add, hil]
   have : i = es.length := by omega
   subst this
   rw [List.take_length] at hM
   exact hq H nx col hM
structure qc7 (N : Nat) (adj : Nat → List Nat) (out : List (List Nat)) : Prop where
 scc : ∀ c ∈ out, c.Pairwise (· < ·) ∧ ∃ r ∈ c, ∀ x, x ∈ c ↔ Rc adj r x ∧ Rc adj x r
 nd : out.flatten.Nodup
 all : ∀ x, x ∈ out.flatten ↔ x < N
structure LsOk (H0 H : Hp) (v : AV) (cs : List AV) (out : List (List Nat)) : Prop where
 gl : Gl 1 H v cs.length cs
 len : cs.length = out.length
 new : ∀ b, In v b → H0.nx ≤ b
 at' : ∀ (i : Nat) (c : AV) (o : List Nat), cs[i]? = some c → out[i]? = some o → (∃ b q n m e, c = .sl b q n m e) ∧ Gl 1 H c o.length (nats o) ∧ ∀ b, In c b → H0.nx ≤ b ∧ ¬ In v b
theorem qg2 (hC : qbe C) (hO : qc0 C) (hS : qcb C) (hR : qcc LA LO C) {j : Nat} (hj : 301 ≤ j) {H0 : Hp} {N : Nat} {adj : Nat → List Nat} (hA : quu N adj) {tb : Nat} {q : Hp → R1} {Q : AV → Hp → Prop}
  (hq : ∀ H s col, TM H0 adj s col tb H → TI N adj s [] → (∀ x, x < N → 0 < s.num x) → Ok (q H) Q) :
  ∀ (k i : Nat) (H : Hp) (s : TS) (col : Nat → Nat), N - i < k → i ≤ N → TM H0 adj s col tb H → TI N adj s [] → (∀ x, x < i → 0 < s.num x) →
   Ok (qel (C j) q (.ptr tb 0) (.int .i64 (.ofNat N)) k (.int .i64 (.ofNat i)) H) Q
 | 0, i, H, s, col, h, _, _, _, _ => by omega
 | k + 1, i, H, s, col, h, hi, hM, hT, hx => by
  show Ok (ql7 (C j) _ _ _ (qel (C j) _ _ _ k) _ H) Q
  unfold ql7
  have hN := hA.le
  by_cases hil : i < N
  ·simp (disch := first | omega | exact ti rfl | (simp only [np, nq]; first | done | omega)) only [go_sem, reduceAdd, reduceMul, reduceSub, reduceLeDiff, reduceEqDiff, reduceShiftRight, reduceAnd, Nat.mul_one, Nat.zero_add, hil]
   unfold qix
   have g1 : ∃ nx sv ov, H.get tb = TB nx s sv ov := by obtain ⟨nx, sv, ov, cs, h⟩ := hM; exact ⟨nx, sv, ov, h.get⟩
   obtain ⟨nx, sv, ov, g1⟩ := g1
   have hi256 : i < 256 := by omega
   have hnm : s.num i ≤ 256 := by have := hT.numLe i; have := hT.cnt_le; omega
   by_cases h0 : s.num i = 0
   ·simp (disch := first | omega | exact ti rfl | (simp only [np, nq]; first | done | omega)) only [go_sem, reduceAdd, reduceMul, reduceSub, reduceLeDiff, reduceEqDiff, reduceShiftRight, reduceAnd, Nat.mul_one, Nat.zero_add, g1, h0]
    refine Ok.ve (q7j hC hO hS hR hj hA hM hT hil h0) ?_
    rintro r H' ⟨rfl, s', col', t', i', hle, hp⟩
    unfold qem
    simp (disch := first | omega | exact ti rfl | (simp only [np, nq]; first | done | omega)) only [go_sem, reduceAdd, reduceMul, reduceSub, reduceLeDiff, reduceEqDiff, reduceShiftRight, reduceAnd, Nat.mul_one, Nat.zero_add]
    exact qg2 hC hO hS hR hj hA hq k (i + 1) H' s' col' (by omega) (by omega) t' i' fun x hx' => by
     by_cases e : x = i
     ·rw [e]; exact hp
     ·exact hle.1 x (hx x (by omega))
   ·simp (disch := first | omega | exact ti rfl | (simp only [np, nq]; first | done | omega)) only [go_sem, reduceAdd, reduceMul, reduceSub, reduceLeDiff, reduceEqDiff, reduceShiftRight, reduceAnd, Nat.mul_one, Nat.zero_add, g1, h0]
    unfold qem
    simp (disch := first | omega | exact ti rfl | (simp only [np, nq]; first | done | omega)) only [go_sem, reduceAdd, reduceMul, reduceSub, reduceLeDiff, reduceEqDiff, reduceShiftRight, reduceAnd, Nat.mul_one, Nat.zero_add]
    exact qg2 hC hO hS hR hj hA hq k (i + 1) H s col (by omega) (by omega) hM hT fun x hx' => by
     by_cases e : x = i
     ·rw [e]; omega
     ·exact hx x (by omega)
  ·simp (disch := first | omega | exact ti rfl | (simp only [np, nq]; first | done | omega)) only [go_sem, reduceAdd, reduceMul, reduceSub, reduceLeDiff, reduceEqDiff, reduceShiftRight, reduceAnd, Nat.mul_one, Nat.zero_add, hil]
   have : i = N := by omega
   subst this
   exact hq H s col hM hT hx
theorem TI.parts {N : Nat} {adj : Nat → List Nat} {s : TS} (h : TI N adj s []) (ha : ∀ x, x < N → 0 < s.num x) : qc7 N adj s.out := by
 refine ⟨h.outS, h.outN, fun x => ⟨fun hx => (h.outV x hx).2.2, fun hx => ?_⟩⟩
 have := h.vis x (ha x hx)
 rw [h.empty] at this
 exact this.resolve_left (by simp)
theorem q4p (hC : qbe C) (hO : qc0 C) (hS : qcb C) (hR : qcc LA LO C) {k : Nat} (hk : 302 ≤ k) {n : Nat} {es : List Edge} (hn : n ≤ 256) (hlen : es.length < 200000) (hE : ∀ e ∈ es, e.f < n ∧ e.t < n) {v : AV} {H : Hp} (hv : IsE H v es) :
  Ok (C k (.f qhv) [.agg [.int .i64 (.ofNat n), v]] H) fun r H' => ∃ cs out, qc7 n (qa6 es) out ∧ LsOk H H' r cs out ∧ Fm No H H' := by
 obtain ⟨j, rfl⟩ : ∃ j, k = j + 1 := ⟨k - 1, by omega⟩
 rw [(hC j).cParts]
 unfold cParts qp4
 have hvl := hv.len
 simp (disch := first | omega | exact ti rfl | (simp only [np, nq]; first | done | omega)) only [go_sem, reduceAdd, reduceMul, reduceSub, reduceLeDiff, reduceEqDiff, reduceShiftRight, reduceAnd, Nat.mul_one, Nat.zero_add, hvl, TB0]
 unfold qiz
 rw [qas]
 generalize hH1 : qan H (qaa 0 [.int .i64 (.ofNat n), v]) = H1
 have n1 : H1.nx = H.nx + 1 := by rw [← hH1]; rfl
 have f1 : Fm No H H1 := by rw [← hH1]; exact (Fm.refl _ _).push _
 have g1 : H1.get H.nx = qaa 0 [.int .i64 (.ofNat n), v] := by rw [← hH1, qak]
 have hM0 : TMd H1 (qa6 (es.take 0)) s00 (fun b => if b < H1.nx then 9 else 0) (H.nx + 1) (qan H1 (TB (fun _ => .nilsl) s00 .nilsl .nilsl)) (fun _ => .nilsl) .nilsl .nilsl [] := {
  fm := (Fm.refl _ _).push _
  base := fun b hb => if_pos hb
  ge := by omega
  lt := by rw [np]; omega
  ct := if_neg (by omega)
  get := by rw [← n1]; exact qak _ _
  nxt := fun u _ => ⟨Gl.nil _ _, fun c hc => by obtain ⟨_, _, _, _, g⟩ := hc; cases g⟩
  stk := Gs.nil _ _
  stc := fun c hc => by obtain ⟨_, _, _, _, g⟩ := hc; cases g
  out := Gl.nil _ _
  ouc := fun c hc => by obtain ⟨_, _, _, _, g⟩ := hc; cases g
  css := ⟨rfl, fun i c o h => by cases h⟩ }
 have hA : quu n (qa6 es) := ⟨hn, fun u k hk => by obtain ⟨e, he, _, rfl⟩ := qbt.1 hk; exact (hE e he).2, fun u => Nat.lt_of_le_of_lt (qsa es u) hlen⟩
 refine qk0 hlen (hv.fm f1) (fun e he => ⟨Nat.lt_of_lt_of_le (hE e he).1 hn, Nat.lt_of_lt_of_le (hE e he).2 hn⟩) (fun H2 nx col hM => ?_) qao 0 _ _ _ (by rw [qal]; omega) (Nat.zero_le _) hM0
 unfold qcm
 have g2 : H2.get H.nx = qaa 0 [.int .i64 (.ofNat n), v] := (hM.fm.keep (by omega)).trans g1
 simp (disch := first | omega | exact ti rfl | (simp only [np, nq]; first | done | omega)) only [go_sem, reduceAdd, reduceMul, reduceSub, reduceLeDiff, reduceEqDiff, reduceShiftRight, reduceAnd, Nat.mul_one, Nat.zero_add, g2]
 unfold ql8
 rw [qas]
 refine qg2 hC hO hS hR (j := j) (by omega) hA (fun H3 s col3 hM3 hT3 hx => ?_) qao 0 H2 s00 col (by rw [qal]; omega) (Nat.zero_le _) ⟨_, _, _, _, hM⟩ (TI.init _ _) fun x hx => absurd hx (Nat.not_lt_zero _)
 unfold qdm
 obtain ⟨nx3, sv, ov, cs, h3⟩ := hM3
 have g3 := h3.get
 simp (disch := first | omega | exact ti rfl | (simp only [np, nq]; first | done | omega)) only [go_sem, reduceAdd, reduceMul, reduceSub, reduceLeDiff, reduceEqDiff, reduceShiftRight, reduceAnd, Nat.mul_one, Nat.zero_add, g3]
 have hnew : ∀ {b c : Nat}, c ≠ 9 → col3 b = c → H.nx ≤ b := fun {b c} hc h => by
  rcases Nat.lt_or_ge b H1.nx with hb | hb
  ·have := h3.base b hb
   rw [this] at h; exact absurd h.symm hc
  ·omega
 refine Ok.ret ⟨cs, s.out, TI.parts hT3 hx, ⟨h3.out, h3.css.len, fun b hb => hnew (c := 4) (by omega) (h3.ouc b hb), fun i c o h1 h2 => ?_⟩, f1.trans h3.fm⟩
 obtain ⟨a1, a2, a3⟩ := h3.css.at' i c o h1 h2
 exact ⟨a1, a2, fun b hb => ⟨hnew (c := 5) (by omega) (a3 b hb), fun hb2 => by have h1 := a3 b hb; rw [h3.ouc b hb2] at h1; cases h1⟩⟩
end Go.Di
end
