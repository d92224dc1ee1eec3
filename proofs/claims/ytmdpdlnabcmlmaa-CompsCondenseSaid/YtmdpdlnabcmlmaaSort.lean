/-
  For countersignlaw17.CompsCondense: contracts of the sorts. No conditions beyond those that each theorem states.
-/
import Derived.Test.YtmdpdlnabcmlmaaDir
import Derived.Sort.AssemblyPlain
set_option linter.unusedSimpArgs false
set_option linter.unusedVariables false
noncomputable section
/-
  The sort: an array of one-celled elements in memory, and what is done with it.
-/
namespace Go.Di
open Go.Ev
theorem qai : qam = 1000000 := rfl
class El (E : Type) extends Inhabited E where
  enc : E → AV
  cmp : E → E → Int
  home : Nat → Prop
  iv : Hp → Prop
  ivK : ∀ {S : Nat → Prop} {H H' : Hp}, iv H → Fm S H H' → (∀ b, home b → ¬ S b) → iv H'
  homeLt : ∀ {H : Hp} {b : Nat}, iv H → home b → b < H.nx
  stE : ∀ (H : Hp) (b o : Nat) (x : E), qb4 H (.ptr b o) (enc x) = storeAt H b o [enc x] .undef
  eqE : ∀ x : E, eqF 64 (enc x) (enc x) = true
variable {E : Type} [El E]
open El (enc cmp home iv)
def ltE (x y : E) : Bool := decide (cmp x y < 0)
structure Sl where
  b : Nat
  q : Nat
  n : Nat
  m : Nat
  e : Bool
  pre : List AV
  suf : List AV
def Sl.v (s : Sl) : AV := .sl s.b s.pre.length s.n s.m s.e
def Sl.blk (s : Sl) (d : Array E) : Blk := qab s.q (s.pre ++ (d.toList.map enc ++ s.suf))
theorem Sl.idx (s : Sl) {i : Nat} (h : i < s.n) : idxS 1 s.v (.int .i64 (.ofNat i)) = .val (.ptr s.b (s.pre.length + i)) := by
  have := qgx 1 s.b s.pre.length s.n s.m s.e .i64 i h
  rw [Nat.mul_one] at this
  exact this
theorem Sl.rd (s : Sl) {d : Array E} {i : Nat} (h : i < d.size) : qcf (s.blk d) (s.pre.length + i) = .val (enc d[i]!) := by
  unfold Sl.blk
  rw [qdv, List.getElem?_append_right (by omega), Nat.add_sub_cancel_left, List.getElem?_append_left (by simpa using h)]
  simp [h]
theorem Sl.wr (s : Sl) {d : Array E} {i : Nat} (x : E) (h : i < d.size) : qif (s.blk d) (s.pre.length + i) [enc x] = some (s.blk (d.setIfInBounds i x)) := by
  unfold Sl.blk
  rw [qi1, if_pos (by simp only [List.length_append, List.length_map, Array.length_toList, List.length_cons, List.length_nil]; omega)]
  congr 2
  unfold setL
  rw [List.take_append, List.take_of_length_le (by omega), List.drop_append, List.drop_eq_nil_of_le (by simp; omega)]
  rw [show s.pre.length + i - s.pre.length = i by omega, show s.pre.length + i + [enc x].length - s.pre.length = i + 1 by simp; omega]
  rw [List.take_append_of_le_length (by simp; omega), List.drop_append_of_le_length (by simp; omega)]
  rw [Array.toList_setIfInBounds, List.map_set]
  rw [List.set_eq_take_append_cons_drop, if_pos (by simpa using h)]
  simp
theorem qcs (x : E) : eqF 64 (enc x) (enc x) = true := El.eqE x
theorem stE (H : Hp) (b o : Nat) (x : E) : qb4 H (.ptr b o) (enc x) = storeAt H b o [enc x] .undef := El.stE H b o x
theorem qch (call : Ev.Call) (f : FuncId) (args : List AV) (H : Hp) : qln call (.fn f [] []) args H = call (.f f) args H := by
  show call (.f f) ([] ++ args ++ []) H = _
  rw [List.nil_append, List.append_nil]
structure St (s : Sl) (d : Array E) (H : Hp) : Prop where
  get : H.get s.b = s.blk d
  lt : s.b < H.nx
  sz : d.size = s.n
  iv : El.iv E H
  nh : ¬ home (E := E) s.b
theorem St.no {s : Sl} {d : Array E} {H H' : Hp} (h : St s d H) (f : Fm No H H') : St s d H' := ⟨(f.keep h.lt).trans h.get, Nat.lt_of_lt_of_le h.lt f.nx, h.sz, El.ivK h.iv f fun _ _ => id, h.nh⟩
abbrev Fs (s : Sl) (H H' : Hp) : Prop := Fm (fun b => b = s.b) H H'
theorem Fm.fs {s : Sl} {H H' : Hp} (f : Fm No H H') : Fs s H H' := f.mono fun _ _ h => h.elim
def CmpE (E : Type) [El E] (call : Ev.Call) (fc : FuncId) : Prop := ∀ (x y : E) (H : Hp), iv E H → Ok (call (.f fc) [enc x, enc y] H) fun v H' => v = .int .i64 (cmp x y) ∧ Fm No H H'
def CmpL (E : Type) [El E] (call : Ev.Call) : Prop := ∀ (x y : E) (H : Hp), iv E H → Ok (call (.f qhd) [enc x, enc y] H) fun v H' => v = .bool (ltE x y) ∧ Fm No H H'
theorem lss0 (n : Int) : (n < Int.ofNat 0) = (n < 0) := id rfl
theorem qdr (x y : E) : (decide (cmp x y < 0)) = ltE x y := id rfl
open Go.Sort in
theorem swp_size (d : Array E) (i j : Nat) : (swp d i j).size = d.size := by simp [swp]
open Go.Sort in
theorem St.put2 {s : Sl} {d d1 d2 : Array E} {H : Hp} (h : St s d H) (hz : d2.size = d.size) : St s d2 ((H.put s.b (s.blk d1)).put s.b (s.blk d2)) :=
  ⟨qad _ _ _, h.lt, hz.trans h.sz, El.ivK h.iv (((Fm.refl (fun b => b = s.b) H).put _ _ fun _ => rfl).put _ _ fun _ => rfl) fun b hb e => h.nh (e ▸ hb), h.nh⟩
theorem Fs.put2 {s : Sl} {d1 d2 : Array E} {H0 H : Hp} (h : Fs s H0 H) : Fs s H0 ((H.put s.b (s.blk d1)).put s.b (s.blk d2)) := (h.put _ _ fun _ => rfl).put _ _ fun _ => rfl
structure Cnt (E : Type) [El E] (s : Sl) (pb w : Nat) (H : Hp) : Prop where
  get : H.get pb = qab 0 [.int .i64 (.ofNat w)]
  lt : pb < H.nx
  ne : s.b ≠ pb
  nh : ¬ home (E := E) pb
abbrev Fp (pb : Nat) (H H' : Hp) : Prop := Fm (fun b => b = pb) H H'
theorem Fm.fp {pb : Nat} {H H' : Hp} (f : Fm No H H') : Fp pb H H' := f.mono fun _ _ h => h.elim
theorem Cnt.no {s : Sl} {pb w : Nat} {H H' : Hp} (h : Cnt E s pb w H) (f : Fm No H H') : Cnt E s pb w H' := ⟨(f.keep h.lt).trans h.get, Nat.lt_of_lt_of_le h.lt f.nx, h.ne, h.nh⟩
theorem St.fp {s : Sl} {d : Array E} {pb : Nat} {H H' : Hp} (h : St s d H) (f : Fp pb H H') (hne : s.b ≠ pb) (hn : ¬ home (E := E) pb) : St s d H' := ⟨(f.get _ h.lt hne).trans h.get, Nat.lt_of_lt_of_le h.lt f.nx, h.sz, El.ivK h.iv f fun b hb e => hn (e ▸ hb), h.nh⟩
def dn : Nat → AV
  | 0 => .int .i64 (.negSucc 0)
  | r + 1 => .int .i64 (.ofNat r)
attribute [go_sem] Sl.idx Sl.rd Sl.wr stE
end Go.Di
end
noncomputable section
/-
  How many bits a number has; the next random number.
-/
namespace Go.Di
open Go.Ev Go.Sort
open Nat (reduceAdd reduceMul reduceSub reduceLeDiff reduceEqDiff reduceShiftRight reduceAnd)
variable {C : Nat → Ev.Call}
theorem zb3 (n : Nat) (h : n < 256) : qf9 .u8 (.ofNat n) = .ofNat n := by
  show (bif Nat.blt n 256 then _ else _) = _
  rw [qfh, decide_eq_true h]; rfl
theorem q81 (n : Nat) (h : n < 18446744073709551616) : qf9 .u64 (.ofNat n) = .ofNat n := by
  show (bif Nat.blt n 18446744073709551616 then _ else _) = _
  rw [qfh, decide_eq_true h]; rfl
theorem ze7 (k : IntKind) (n : Nat) (h : n < 256) : qh6 .u8 (.int k (.ofNat n)) = .val (.int .u8 (.ofNat n)) := congrArg (fun x => R0.val (.int .u8 x)) (zb3 n h)
theorem qtg (k : IntKind) (n : Nat) (h : n < 18446744073709551616) : qh6 .u64 (.int k (.ofNat n)) = .val (.int .u64 (.ofNat n)) := congrArg (fun x => R0.val (.int .u64 x)) (q81 n h)
theorem zbr (k : IntKind) (n : Nat) (h : n < 9223372036854775808) : qh6 .i64 (.int k (.ofNat n)) = .val (.int .i64 (.ofNat n)) := congrArg (fun x => R0.val (.int .i64 x)) (qe8 n h)
theorem q4a (n j : Nat) (k : IntKind) (h : j ≤ 64) : qmg (qga .shr).f (.int .u64 (.ofNat n)) (.int k (.ofNat j)) = .val (.int .u64 (.ofNat (n / 2 ^ j))) := by
  show (bif ltI (.ofNat j) 0 then R0.bad else .val (.int .u64 ((Int.ofNat n).fdiv (2 ^ (min j 64))))) = _
  rw [qgw, Nat.min_eq_left h]
  have h0 : decide ((Int.ofNat j) < 0) = false := by simp
  rw [h0]
  show R0.val (.int .u64 ((Int.ofNat n).fdiv (2 ^ j))) = _
  congr 2
  have h2 : ((2 : Int) ^ j) = Int.ofNat (2 ^ j) := by simp
  rw [h2]
  show Int.fdiv (n : Int) ((2 ^ j : Nat) : Int) = ((n / 2 ^ j : Nat) : Int)
  rw [Int.fdiv_eq_ediv_of_nonneg _ (Int.natCast_nonneg _)]
  rfl
theorem qo5 (n k : Nat) (h : 2 ^ k ≤ n) : bitsLen n = k + bitsLen (n / 2 ^ k) := by
  have hp : 0 < 2 ^ k := Nat.two_pow_pos k
  have key : ∀ m, bitsLen n ≤ k + m ↔ bitsLen (n / 2 ^ k) ≤ m := fun m => by
    rw [bitsLen_le_iff, bitsLen_le_iff, Nat.div_lt_iff_lt_mul hp, Nat.pow_add, Nat.mul_comm]
  have hk : k ≤ bitsLen n := by
    rcases Nat.lt_or_ge (bitsLen n) k with h1 | h1
    · exact absurd ((bitsLen_le_iff n k).1 (by omega)) (by omega)
    · exact h1
  have h1 := (key (bitsLen (n / 2 ^ k))).2 (Nat.le_refl _)
  have h2 := (key (bitsLen n - k)).1 (by omega)
  omega
def tab8 : Nat := 1013866857139168856493015739252390649739422828853819106890363778118420553376247557433637691341895324351018602695588957474325319502760499485336098898398377509666851054660423406800006203933793007272033180812049178612605246075062580585469430410618860250057463399279570354286669047577758927328864388992123306212451509403152394148136105363817402562688186708175358218852349079190158732807302672745370040257219644697201681238697346923541678507645485296520536209706771857694240900605172937619415410180424934769249448772944216470541052485265558808433676546390051204254346932932316488017972311616136051587427851453983453479168
theorem zdf : ((List.range 256).all fun x => Nat.beq (qjz tab8 x) (bitsLen x)) = true := by decide +kernel
theorem zem (x : Nat) (h : x < 256) : qqe (.str 256 1013866857139168856493015739252390649739422828853819106890363778118420553376247557433637691341895324351018602695588957474325319502760499485336098898398377509666851054660423406800006203933793007272033180812049178612605246075062580585469430410618860250057463399279570354286669047577758927328864388992123306212451509403152394148136105363817402562688186708175358218852349079190158732807302672745370040257219644697201681238697346923541678507645485296520536209706771857694240900605172937619415410180424934769249448772944216470541052485265558808433676546390051204254346932932316488017972311616136051587427851453983453479168) (.int .u8 (.ofNat x)) = .val (.int .u8 (.ofNat (bitsLen x))) := by
  show (bif Nat.blt x 256 then R0.val (.int .u8 (.ofNat (qjz tab8 x))) else .bad) = _
  rw [qfh, decide_eq_true h]
  have := List.all_eq_true.1 zdf x (List.mem_range.2 h)
  rw [Nat.eq_of_beq_eq_true this]; rfl
theorem bl8 (x : Nat) (h : x < 256) : bitsLen x ≤ 8 := (bitsLen_le_iff x 8).2 h
theorem q6m {call : Ev.Call} (x m : Nat) (h : x < 256) (hm : m < 1000) (H : Hp) : qfv call (.int .u64 (.ofNat x)) (.int .i64 (.ofNat m)) H = .ok (.int .i64 (.ofNat (m + bitsLen x))) H := by
  unfold qfv
  have h8 := bl8 x h
  simp only [ze7 _ _ h, zcg, zem x h, zbr .u8 (bitsLen x) (by omega), zc4 m (bitsLen x) (by omega)]
theorem q6l {call : Ev.Call} (x m : Nat) (h : x < 65536) (hm : m < 900) (H : Hp) : qfu call (.int .u64 (.ofNat x)) (.int .i64 (.ofNat m)) H = .ok (.int .i64 (.ofNat (m + bitsLen x))) H := by
  unfold qfu
  by_cases h1 : 256 ≤ x
  · simp (disch := first | omega | exact ti rfl | (simp only [np, nq]; first | done | omega)) only [go_sem, reduceAdd, reduceMul, reduceSub, reduceLeDiff, reduceEqDiff, reduceShiftRight, reduceAnd, h1, q4a]
    rw [q6m _ _ (by omega) (by omega), qo5 x 8 (by omega), Nat.add_assoc]
  · simp (disch := first | omega | exact ti rfl | (simp only [np, nq]; first | done | omega)) only [go_sem, reduceAdd, reduceMul, reduceSub, reduceLeDiff, reduceEqDiff, reduceShiftRight, reduceAnd, h1]
    rw [q6m _ _ (by omega) (by omega)]
theorem zas {call : Ev.Call} (x m : Nat) (h : x < 4294967296) (hm : m < 800) (H : Hp) : qew call (.int .u64 (.ofNat x)) (.int .i64 (.ofNat m)) H = .ok (.int .i64 (.ofNat (m + bitsLen x))) H := by
  unfold qew
  by_cases h1 : 65536 ≤ x
  · simp (disch := first | omega | exact ti rfl | (simp only [np, nq]; first | done | omega)) only [go_sem, reduceAdd, reduceMul, reduceSub, reduceLeDiff, reduceEqDiff, reduceShiftRight, reduceAnd, h1, q4a]
    rw [q6l _ _ (by omega) (by omega), qo5 x 16 (by omega), Nat.add_assoc]
  · simp (disch := first | omega | exact ti rfl | (simp only [np, nq]; first | done | omega)) only [go_sem, reduceAdd, reduceMul, reduceSub, reduceLeDiff, reduceEqDiff, reduceShiftRight, reduceAnd, h1]
    rw [q6l _ _ (by omega) (by omega)]
theorem q9b (hC : qde C) {k : Nat} (hk : 2 ≤ k) (x : Nat) (h : x < 4294967296) (H : Hp) : C k (.f qjp) [.int .u64 (.ofNat x)] H = .ok (.int .i64 (.ofNat (bitsLen x))) H := by
  obtain ⟨k, rfl⟩ : ∃ j, k = j + 2 := ⟨k - 2, by omega⟩
  rw [(hC (k + 1)).s_Len]
  unfold s_Len qwt
  simp (disch := first | omega | exact ti rfl | (simp only [np, nq]; first | done | omega)) only [go_sem, reduceAdd, reduceMul, reduceSub, reduceLeDiff, reduceEqDiff, reduceShiftRight, reduceAnd]
  unfold qq7
  rw [(hC k).s_Len64]
  unfold s_Len64 qmq
  have h1 : ¬ 4294967296 ≤ x := by omega
  simp (disch := first | omega | exact ti rfl | (simp only [np, nq]; first | done | omega)) only [go_sem, reduceAdd, reduceMul, reduceSub, reduceLeDiff, reduceEqDiff, reduceShiftRight, reduceAnd, h1]
  rw [zas _ _ h (by omega)]
  simp (disch := first | omega | exact ti rfl | (simp only [np, nq]; first | done | omega)) only [go_sem, reduceAdd, reduceMul, reduceSub, reduceLeDiff, reduceEqDiff, reduceShiftRight, reduceAnd]
end Go.Di
end
noncomputable section
/-
  The sort: insertion.
-/
namespace Go.Di.F
open Go.Ev Go.Sort
open Nat (reduceAdd reduceMul reduceSub reduceLeDiff reduceEqDiff reduceShiftRight reduceAnd)
variable {E : Type} [El E]
theorem qvn {call : Ev.Call} {fc : FuncId} (hc : CmpE E call fc) {s : Sl} (hn : s.n < 900000) {a : Nat} {H0 : Hp} {q : Hp → R1} {Q : AV → Hp → Prop} :
    ∀ (k j : Nat) (d : Array E) (H : Hp), j < k → j < s.n → St s d H → Fs s H0 H → (∀ H', St s (insInner ltE a j d) H' → Fs s H0 H' → Ok (q H') Q) →
      Ok (qhr call q s.v (.int .i64 (.ofNat a)) (.fn fc [] []) k (.int .i64 (.ofNat j)) H) Q
  | 0, j, _, _, h, _, _, _, _ => by omega
  | k + 1, j, d, H, hk, hj, hS, hF, hq => by
    show Ok (qq5 call _ _ _ _ (qhr call _ _ _ _ k) _ H) Q
    unfold qq5
    have hsz := hS.sz
    have hg := hS.get
    by_cases h : a < j
    · obtain ⟨p, rfl⟩ : ∃ p, j = p + 1 := ⟨j - 1, by omega⟩
      rw [insInner] at hq
      simp (disch := first | omega | exact ti rfl | (simp only [np, nq, Array.size_setIfInBounds, swp_size]; first | done | omega)) only [go_sem, reduceAdd, reduceMul, reduceSub, reduceLeDiff, reduceEqDiff, reduceShiftRight, reduceAnd, Array.size_setIfInBounds, swp_size, qcs, qch, lss0, qdr, hg, h, Nat.add_sub_cancel]
      refine Ok.deO (hc _ _ _ hS.iv) ?_
      rintro v H' ⟨rfl, f'⟩
      have hS' := hS.no f'
      have hg' := hS'.get
      simp (disch := first | omega | exact ti rfl | (simp only [np, nq, Array.size_setIfInBounds, swp_size]; first | done | omega)) only [go_sem, reduceAdd, reduceMul, reduceSub, reduceLeDiff, reduceEqDiff, reduceShiftRight, reduceAnd, Array.size_setIfInBounds, swp_size, qcs, qch, lss0, qdr, hg', Nat.add_sub_cancel]
      cases hl : ltE d[p + 1]! d[p]! with
      | false =>
        rw [hl] at hq
        simp (disch := first | omega | exact ti rfl | (simp only [np, nq, Array.size_setIfInBounds, swp_size]; first | done | omega)) only [go_sem, reduceAdd, reduceMul, reduceSub, reduceLeDiff, reduceEqDiff, reduceShiftRight, reduceAnd, Array.size_setIfInBounds, swp_size, qcs, qch, lss0, qdr]
        exact hq H' (by simpa using hS') (hF.trans f'.fs)
      | true =>
        rw [hl] at hq
        unfold qmo
        simp (disch := first | omega | exact ti rfl | (simp only [np, nq, Array.size_setIfInBounds, swp_size]; first | done | omega)) only [go_sem, reduceAdd, reduceMul, reduceSub, reduceLeDiff, reduceEqDiff, reduceShiftRight, reduceAnd, Array.size_setIfInBounds, swp_size, qcs, qch, lss0, qdr, hg', Nat.add_sub_cancel]
        unfold qq3
        simp (disch := first | omega | exact ti rfl | (simp only [np, nq, Array.size_setIfInBounds, swp_size]; first | done | omega)) only [go_sem, reduceAdd, reduceMul, reduceSub, reduceLeDiff, reduceEqDiff, reduceShiftRight, reduceAnd, Array.size_setIfInBounds, swp_size, qcs, qch, lss0, qdr, Nat.add_sub_cancel]
        exact qvn hc hn k p (swp d (p + 1) p) _ (by omega) (by omega) (hS'.put2 (swp_size _ _ _)) (Fs.put2 (hF.trans f'.fs)) (by simpa [h] using hq)
    · simp (disch := first | omega | exact ti rfl | (simp only [np, nq, Array.size_setIfInBounds, swp_size]; first | done | omega)) only [go_sem, reduceAdd, reduceMul, reduceSub, reduceLeDiff, reduceEqDiff, reduceShiftRight, reduceAnd, Array.size_setIfInBounds, swp_size, qcs, qch, lss0, qdr, h]
      refine hq H ?_ hF
      cases j with
      | zero => exact hS
      | succ j => rw [insInner]; simpa [show ¬ a < j + 1 from h] using hS
theorem qgm (lt : E → E → Bool) (a : Nat) : ∀ (j : Nat) (d : Array E), (insInner lt a j d).size = d.size
  | 0, d => rfl
  | j + 1, d => by
    rw [insInner]
    split
    · rw [qgm lt a j, swp_size]
    · rfl
theorem qn7 {call : Ev.Call} {fc : FuncId} (hc : CmpE E call fc) {s : Sl} (hn : s.n < 900000) {a b : Nat} (hb : b ≤ s.n) {H0 : Hp} {q : Hp → R1} {Q : AV → Hp → Prop} :
    ∀ (k i : Nat) (d : Array E) (H : Hp), b - i < k → i ≤ 900001 → St s d H → Fs s H0 H → (∀ H', St s (insOuter ltE a b i d) H' → Fs s H0 H' → Ok (q H') Q) →
      Ok (qdu call q s.v (.int .i64 (.ofNat a)) (.int .i64 (.ofNat b)) (.fn fc [] []) k (.int .i64 (.ofNat i)) H) Q
  | 0, i, _, _, h, _, _, _, _ => by omega
  | k + 1, i, d, H, hk, hi, hS, hF, hq => by
    show Ok (qi6 call _ _ _ _ _ (qdu call _ _ _ _ _ k) _ H) Q
    unfold qi6
    rw [insOuter] at hq
    by_cases h : i < b
    · rw [if_pos h] at hq
      simp (disch := first | omega | exact ti rfl | (simp only [np, nq, Array.size_setIfInBounds, swp_size]; first | done | omega)) only [go_sem, reduceAdd, reduceMul, reduceSub, reduceLeDiff, reduceEqDiff, reduceShiftRight, reduceAnd, Array.size_setIfInBounds, swp_size, qcs, qch, lss0, qdr, h]
      unfold qmn qq6
      rw [qaq]
      refine qvn hc hn qam i d H (by rw [qai]; omega) (by omega) hS hF fun H' hS' hF' => ?_
      unfold qgc
      simp (disch := first | omega | exact ti rfl | (simp only [np, nq, Array.size_setIfInBounds, swp_size]; first | done | omega)) only [go_sem, reduceAdd, reduceMul, reduceSub, reduceLeDiff, reduceEqDiff, reduceShiftRight, reduceAnd, Array.size_setIfInBounds, swp_size, qcs, qch, lss0, qdr]
      exact qn7 hc hn hb k (i + 1) _ H' (by omega) (by omega) hS' hF' hq
    · rw [if_neg h] at hq
      simp (disch := first | omega | exact ti rfl | (simp only [np, nq, Array.size_setIfInBounds, swp_size]; first | done | omega)) only [go_sem, reduceAdd, reduceMul, reduceSub, reduceLeDiff, reduceEqDiff, reduceShiftRight, reduceAnd, Array.size_setIfInBounds, swp_size, qcs, qch, lss0, qdr, h]
      exact hq H hS hF
theorem q6t {C : Nat → Ev.Call} (hC : qde C) {k : Nat} (hk : 1 ≤ k) {fc : FuncId} (hc : CmpE E (C (k - 1)) fc) {s : Sl} (hn : s.n < 900000) {a b : Nat} (ha : a ≤ b) (hb : b ≤ s.n) {d : Array E} {H : Hp} (hS : St s d H) :
    Ok (C k (.f qjo) [s.v, .int .i64 (.ofNat a), .int .i64 (.ofNat b), .fn fc [] []] H) fun r H' => r = .tup [] ∧ St s (insertionSort ltE d a b) H' ∧ Fs s H H' := by
  obtain ⟨j, rfl⟩ : ∃ j, k = j + 1 := ⟨k - 1, by omega⟩
  rw [(hC j).s_ins]
  unfold s_ins qq4
  simp (disch := first | omega | exact ti rfl | (simp only [np, nq, Array.size_setIfInBounds, swp_size]; first | done | omega)) only [go_sem, reduceAdd, reduceMul, reduceSub, reduceLeDiff, reduceEqDiff, reduceShiftRight, reduceAnd, Array.size_setIfInBounds, swp_size, qcs, qch, lss0, qdr]
  unfold qlr
  rw [qaq]
  exact qn7 hc hn hb qam (a + 1) d H (by rw [qai]; omega) (by omega) hS (Fm.refl _ _) fun H' hS' hF' => Ok.ret ⟨rfl, hS', hF'⟩
end Go.Di.F
end
noncomputable section
/-
  The sort by a function, of at most twelve elements: by insertion.
-/
namespace Go.Di.F
open Go.Ev Go.Sort
open Nat (reduceAdd reduceMul reduceSub reduceLeDiff reduceEqDiff reduceShiftRight reduceAnd)
variable {C : Nat → Ev.Call} {E : Type} [El E]
def Sd (a b : Nat) (d R : Array E) : Prop := PermIn a b d R ∧ SortedIn ltE a b R
theorem q5y (hC : qde C) {k : Nat} (hk : 6 ≤ k) {fc : FuncId} (hc : ∀ k, 3 ≤ k → CmpE E (C k) fc) {s : Sl} (hn : s.n ≤ 12) (hl : SWO (ltE (E := E))) {d : Array E} {H : Hp} (hS : St s d H) (b : AV) :
    Ok (C k (.f qgn) [s.v, .int .i64 (.ofNat 0), .int .i64 (.ofNat s.n), b, .fn fc [] []] H) fun r H' => r = .tup [] ∧ ∃ R, Sd 0 s.n d R ∧ St s R H' ∧ Fs s H H' := by
  obtain ⟨j, rfl⟩ : ∃ j, k = j + 1 := ⟨k - 1, by omega⟩
  rw [(hC j).s_pdq]
  unfold s_pdq qq2 qlq
  rw [qaq]
  show Ok (qi5 (C j) _ _ _ (qd9 (C j) _ _ _ 999999) _ _ _ _ _ H) _
  unfold qi5
  have h12 : s.n - 0 ≤ 12 := by omega
  simp (disch := first | omega | exact ti rfl | (simp only [np, nq]; first | done | omega)) only [go_sem, reduceAdd, reduceMul, reduceSub, reduceLeDiff, reduceEqDiff, reduceShiftRight, reduceAnd, h12]
  refine Ok.ve (q6t hC (by omega) (hc _ (by omega)) (by omega) (Nat.zero_le _) (Nat.le_refl _) hS) ?_
  rintro r H1 ⟨rfl, hS1, hF1⟩
  have hi := insertionSort_holds (lt := ltE) hl d 0 s.n (Nat.zero_le _) (by rw [hS.sz]; exact Nat.le_refl _)
  exact Ok.ret ⟨rfl, _, ⟨hi.1, hi.2⟩, hS1, hF1⟩
theorem SortFunc_ok (hC : qde C) {k : Nat} {fc : FuncId} (hc : ∀ k, 3 ≤ k → CmpE E (C k) fc) {s : Sl} (hn : s.n ≤ 12) (hk : 10 ≤ k) (hl : SWO (ltE (E := E))) {d : Array E} {H : Hp} (hS : St s d H) :
    Ok (C k (.f qcw) [s.v, .fn fc [] []] H) fun r H' => r = .tup [] ∧ ∃ R, Sd 0 s.n d R ∧ St s R H' ∧ Fs s H H' := by
  obtain ⟨k, rfl⟩ : ∃ j, k = j + 1 := ⟨k - 1, by omega⟩
  rw [(hC k).s_SortFunc]
  unfold s_SortFunc qfd
  have e0 : qb5 s.v = .val (.int .i64 (.ofNat s.n)) := rfl
  have e1 := qtg .i64 s.n (by omega)
  have e2 := q9b hC (k := k) (by omega) s.n (by omega) H
  have e3 : bitsLen s.n ≤ 20 := (bitsLen_le_iff s.n 20).2 (by omega)
  simp (disch := first | omega | exact ti rfl | (simp only [np, nq]; first | done | omega)) only [go_sem, reduceAdd, reduceMul, reduceSub, reduceLeDiff, reduceEqDiff, reduceShiftRight, reduceAnd, e0, e1, e2]
  refine Ok.ve (q5y hC (k := k) (by omega) hc hn hl hS _) ?_
  rintro r H1 ⟨rfl, R, h1, h2, h3⟩
  exact Ok.ret ⟨rfl, R, h1, h2, h3⟩
end Go.Di.F
end
noncomputable section
/-
  The sort: insertion.
-/
namespace Go.Di.O
open Go.Ev Go.Sort
open Nat (reduceAdd reduceMul reduceSub reduceLeDiff reduceEqDiff reduceShiftRight reduceAnd)
variable {E : Type} [El E]
abbrev q9a (C : Nat → Ev.Call) : Prop := qd2 C ∧ qde C
theorem qvn {call : Ev.Call} (hc : CmpL E call) {s : Sl} (hn : s.n < 900000) {a : Nat} {H0 : Hp} {q : Hp → R1} {Q : AV → Hp → Prop} :
    ∀ (k j : Nat) (d : Array E) (H : Hp), j < k → j < s.n → St s d H → Fs s H0 H → (∀ H', St s (insInner ltE a j d) H' → Fs s H0 H' → Ok (q H') Q) →
      Ok (qhw call q s.v (.int .i64 (.ofNat a)) k (.int .i64 (.ofNat j)) H) Q
  | 0, j, _, _, h, _, _, _, _ => by omega
  | k + 1, j, d, H, hk, hj, hS, hF, hq => by
    show Ok (qr5 call _ _ _ (qhw call _ _ _ k) _ H) Q
    unfold qr5
    have hsz := hS.sz
    have hg := hS.get
    by_cases h : a < j
    · obtain ⟨p, rfl⟩ : ∃ p, j = p + 1 := ⟨j - 1, by omega⟩
      rw [insInner] at hq
      simp (disch := first | omega | exact ti rfl | (simp only [np, nq, Array.size_setIfInBounds, swp_size]; first | done | omega)) only [go_sem, reduceAdd, reduceMul, reduceSub, reduceLeDiff, reduceEqDiff, reduceShiftRight, reduceAnd, Array.size_setIfInBounds, swp_size, qcs, qch, lss0, qdr, hg, h, Nat.add_sub_cancel]
      refine Ok.deO (hc _ _ _ hS.iv) ?_
      rintro v H' ⟨rfl, f'⟩
      have hS' := hS.no f'
      have hg' := hS'.get
      simp (disch := first | omega | exact ti rfl | (simp only [np, nq, Array.size_setIfInBounds, swp_size]; first | done | omega)) only [go_sem, reduceAdd, reduceMul, reduceSub, reduceLeDiff, reduceEqDiff, reduceShiftRight, reduceAnd, Array.size_setIfInBounds, swp_size, qcs, qch, lss0, qdr, hg', Nat.add_sub_cancel]
      cases hl : ltE d[p + 1]! d[p]! with
      | false =>
        rw [hl] at hq
        simp (disch := first | omega | exact ti rfl | (simp only [np, nq, Array.size_setIfInBounds, swp_size]; first | done | omega)) only [go_sem, reduceAdd, reduceMul, reduceSub, reduceLeDiff, reduceEqDiff, reduceShiftRight, reduceAnd, Array.size_setIfInBounds, swp_size, qcs, qch, lss0, qdr]
        exact hq H' (by simpa using hS') (hF.trans f'.fs)
      | true =>
        rw [hl] at hq
        unfold qns
        simp (disch := first | omega | exact ti rfl | (simp only [np, nq, Array.size_setIfInBounds, swp_size]; first | done | omega)) only [go_sem, reduceAdd, reduceMul, reduceSub, reduceLeDiff, reduceEqDiff, reduceShiftRight, reduceAnd, Array.size_setIfInBounds, swp_size, qcs, qch, lss0, qdr, hg', Nat.add_sub_cancel]
        unfold qr4
        simp (disch := first | omega | exact ti rfl | (simp only [np, nq, Array.size_setIfInBounds, swp_size]; first | done | omega)) only [go_sem, reduceAdd, reduceMul, reduceSub, reduceLeDiff, reduceEqDiff, reduceShiftRight, reduceAnd, Array.size_setIfInBounds, swp_size, qcs, qch, lss0, qdr, Nat.add_sub_cancel]
        exact qvn hc hn k p (swp d (p + 1) p) _ (by omega) (by omega) (hS'.put2 (swp_size _ _ _)) (Fs.put2 (hF.trans f'.fs)) (by simpa [h] using hq)
    · simp (disch := first | omega | exact ti rfl | (simp only [np, nq, Array.size_setIfInBounds, swp_size]; first | done | omega)) only [go_sem, reduceAdd, reduceMul, reduceSub, reduceLeDiff, reduceEqDiff, reduceShiftRight, reduceAnd, Array.size_setIfInBounds, swp_size, qcs, qch, lss0, qdr, h]
      refine hq H ?_ hF
      cases j with
      | zero => exact hS
      | succ j => rw [insInner]; simpa [show ¬ a < j + 1 from h] using hS
theorem qgm (lt : E → E → Bool) (a : Nat) : ∀ (j : Nat) (d : Array E), (insInner lt a j d).size = d.size
  | 0, d => rfl
  | j + 1, d => by
    rw [insInner]
    split
    · rw [qgm lt a j, swp_size]
    · rfl
theorem qn7 {call : Ev.Call} (hc : CmpL E call) {s : Sl} (hn : s.n < 900000) {a b : Nat} (hb : b ≤ s.n) {H0 : Hp} {q : Hp → R1} {Q : AV → Hp → Prop} :
    ∀ (k i : Nat) (d : Array E) (H : Hp), b - i < k → i ≤ 900001 → St s d H → Fs s H0 H → (∀ H', St s (insOuter ltE a b i d) H' → Fs s H0 H' → Ok (q H') Q) →
      Ok (qeb call q s.v (.int .i64 (.ofNat a)) (.int .i64 (.ofNat b)) k (.int .i64 (.ofNat i)) H) Q
  | 0, i, _, _, h, _, _, _, _ => by omega
  | k + 1, i, d, H, hk, hi, hS, hF, hq => by
    show Ok (qr6 call _ _ _ _ (qeb call _ _ _ _ k) _ H) Q
    unfold qr6
    rw [insOuter] at hq
    by_cases h : i < b
    · rw [if_pos h] at hq
      simp (disch := first | omega | exact ti rfl | (simp only [np, nq, Array.size_setIfInBounds, swp_size]; first | done | omega)) only [go_sem, reduceAdd, reduceMul, reduceSub, reduceLeDiff, reduceEqDiff, reduceShiftRight, reduceAnd, Array.size_setIfInBounds, swp_size, qcs, qch, lss0, qdr, h]
      unfold qnr qr7
      rw [qaq]
      refine qvn hc hn qam i d H (by rw [qai]; omega) (by omega) hS hF fun H' hS' hF' => ?_
      unfold qgk
      simp (disch := first | omega | exact ti rfl | (simp only [np, nq, Array.size_setIfInBounds, swp_size]; first | done | omega)) only [go_sem, reduceAdd, reduceMul, reduceSub, reduceLeDiff, reduceEqDiff, reduceShiftRight, reduceAnd, Array.size_setIfInBounds, swp_size, qcs, qch, lss0, qdr]
      exact qn7 hc hn hb k (i + 1) _ H' (by omega) (by omega) hS' hF' hq
    · rw [if_neg h] at hq
      simp (disch := first | omega | exact ti rfl | (simp only [np, nq, Array.size_setIfInBounds, swp_size]; first | done | omega)) only [go_sem, reduceAdd, reduceMul, reduceSub, reduceLeDiff, reduceEqDiff, reduceShiftRight, reduceAnd, Array.size_setIfInBounds, swp_size, qcs, qch, lss0, qdr, h]
      exact hq H hS hF
theorem q6t {C : Nat → Ev.Call} (hC : q9a C) {k : Nat} (hk : 1 ≤ k) (hc : CmpL E (C (k - 1))) {s : Sl} (hn : s.n < 900000) {a b : Nat} (ha : a ≤ b) (hb : b ≤ s.n) {d : Array E} {H : Hp} (hS : St s d H) :
    Ok (C k (.f ql7) [s.v, .int .i64 (.ofNat a), .int .i64 (.ofNat b)] H) fun r H' => r = .tup [] ∧ St s (insertionSort ltE d a b) H' ∧ Fs s H H' := by
  obtain ⟨j, rfl⟩ : ∃ j, k = j + 1 := ⟨k - 1, by omega⟩
  rw [(hC.1 j).o_ins]
  unfold o_ins qx2
  simp (disch := first | omega | exact ti rfl | (simp only [np, nq, Array.size_setIfInBounds, swp_size]; first | done | omega)) only [go_sem, reduceAdd, reduceMul, reduceSub, reduceLeDiff, reduceEqDiff, reduceShiftRight, reduceAnd, Array.size_setIfInBounds, swp_size, qcs, qch, lss0, qdr]
  unfold qr8
  rw [qaq]
  exact qn7 hc hn hb qam (a + 1) d H (by rw [qai]; omega) (by omega) hS (Fm.refl _ _) fun H' hS' hF' => Ok.ret ⟨rfl, hS', hF'⟩
end Go.Di.O
end
noncomputable section
/-
  The sort of ordered elements, of at most twelve elements: by insertion.
-/
namespace Go.Di.O
open Go.Ev Go.Sort
open Nat (reduceAdd reduceMul reduceSub reduceLeDiff reduceEqDiff reduceShiftRight reduceAnd)
variable {C : Nat → Ev.Call} {E : Type} [El E]
def Sd (a b : Nat) (d R : Array E) : Prop := PermIn a b d R ∧ SortedIn ltE a b R
theorem q5y (hC : q9a C) {k : Nat} (hk : 6 ≤ k) (hc : ∀ k, 3 ≤ k → CmpL E (C k)) {s : Sl} (hn : s.n ≤ 12) (hl : SWO (ltE (E := E))) {d : Array E} {H : Hp} (hS : St s d H) (b : AV) :
    Ok (C k (.f qhy) [s.v, .int .i64 (.ofNat 0), .int .i64 (.ofNat s.n), b] H) fun r H' => r = .tup [] ∧ ∃ R, Sd 0 s.n d R ∧ St s R H' ∧ Fs s H H' := by
  obtain ⟨j, rfl⟩ : ∃ j, k = j + 1 := ⟨k - 1, by omega⟩
  rw [(hC.1 j).o_pdq]
  unfold o_pdq qx0 qr2
  rw [qaq]
  show Ok (qr1 (C j) _ _ (qen (C j) _ _ 999999) _ _ _ _ _ H) _
  unfold qr1
  have h12 : s.n - 0 ≤ 12 := by omega
  simp (disch := first | omega | exact ti rfl | (simp only [np, nq]; first | done | omega)) only [go_sem, reduceAdd, reduceMul, reduceSub, reduceLeDiff, reduceEqDiff, reduceShiftRight, reduceAnd, h12]
  refine Ok.ve (q6t hC (by omega) (hc _ (by omega)) (by omega) (Nat.zero_le _) (Nat.le_refl _) hS) ?_
  rintro r H1 ⟨rfl, hS1, hF1⟩
  have hi := insertionSort_holds (lt := ltE) hl d 0 s.n (Nat.zero_le _) (by rw [hS.sz]; exact Nat.le_refl _)
  exact Ok.ret ⟨rfl, _, ⟨hi.1, hi.2⟩, hS1, hF1⟩
theorem Sort_ok (hC : q9a C) {k : Nat} (hc : ∀ k, 3 ≤ k → CmpL E (C k)) {s : Sl} (hn : s.n ≤ 12) (hk : 10 ≤ k) (hl : SWO (ltE (E := E))) {d : Array E} {H : Hp} (hS : St s d H) :
    Ok (C k (.f qhe) [s.v] H) fun r H' => r = .tup [] ∧ ∃ R, Sd 0 s.n d R ∧ St s R H' ∧ Fs s H H' := by
  obtain ⟨k, rfl⟩ : ∃ j, k = j + 1 := ⟨k - 1, by omega⟩
  rw [(hC.1 k).o_Sort]
  unfold o_Sort qr9
  have e0 : qb5 s.v = .val (.int .i64 (.ofNat s.n)) := rfl
  have e1 := qtg .i64 s.n (by omega)
  have e2 := q9b hC.2 (k := k) (by omega) s.n (by omega) H
  have e3 : bitsLen s.n ≤ 20 := (bitsLen_le_iff s.n 20).2 (by omega)
  simp (disch := first | omega | exact ti rfl | (simp only [np, nq]; first | done | omega)) only [go_sem, reduceAdd, reduceMul, reduceSub, reduceLeDiff, reduceEqDiff, reduceShiftRight, reduceAnd, e0, e1, e2]
  refine Ok.ve (q5y hC (k := k) (by omega) hc hn hl hS _) ?_
  rintro r H1 ⟨rfl, R, h1, h2, h3⟩
  exact Ok.ret ⟨rfl, R, h1, h2, h3⟩
end Go.Di.O
end
