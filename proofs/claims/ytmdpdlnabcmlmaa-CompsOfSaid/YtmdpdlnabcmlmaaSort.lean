/-
  For countersignlaw17.CompsOf: contracts of the sorts at short lists. No conditions beyond those that each theorem states.
-/
import Derived.Test.YtmdpdlnabcmlmaaDir
import Derived.Sort.AssemblyPlain
set_option linter.unusedSimpArgs false
set_option linter.unusedVariables false
section
/-
  The sort: an array of one-celled elements in memory, and what is done with it.
-/
namespace Go.Di
open Go.Ev
theorem loopFuel_eq : loopFuel = 1000000 := rfl
/-- elements of one cell: how they lie in memory, how they compare, and what must hold in memory for that -/
class El (E : Type) extends Inhabited E where
  enc : E → AV
  cmp : E → E → Int
  home : Nat → Prop
  iv : Hp → Prop
  ivK : ∀ {S : Nat → Prop} {H H' : Hp}, iv H → Fm S H H' → (∀ b, home b → ¬ S b) → iv H'
  homeLt : ∀ {H : Hp} {b : Nat}, iv H → home b → b < H.nx
  stE : ∀ (H : Hp) (b o : Nat) (x : E), store1 H (.ptr b o) (enc x) = storeAt H b o [enc x] .undef
  eqE : ∀ x : E, eqF 64 (enc x) (enc x) = true
variable {E : Type} [El E]
open El (enc cmp home iv)
/-- less -/
def ltE (x y : E) : Bool := decide (cmp x y < 0)
/-- a slice within a block -/
structure Sl where
  b : Nat
  q : Nat
  n : Nat
  m : Nat
  e : Bool
  pre : List AV
  suf : List AV
def Sl.v (s : Sl) : AV := .sl s.b s.pre.length s.n s.m s.e
noncomputable def Sl.blk (s : Sl) (d : Array E) : Blk := mkBlk s.q (s.pre ++ (d.toList.map enc ++ s.suf))
theorem Sl.idx (s : Sl) {i : Nat} (h : i < s.n) : idxS 1 s.v (.int .i64 (.ofNat i)) = .val (.ptr s.b (s.pre.length + i)) := by
  have := idxS_n 1 s.b s.pre.length s.n s.m s.e .i64 i h
  rw [Nat.mul_one] at this
  exact this
theorem Sl.rd (s : Sl) {d : Array E} {i : Nat} (h : i < d.size) : rdBlk1 (s.blk d) (s.pre.length + i) = .val (enc d[i]!) := by
  unfold Sl.blk
  rw [rdBlk1_mk, List.getElem?_append_right (by omega), Nat.add_sub_cancel_left, List.getElem?_append_left (by simpa using h)]
  simp [h]
theorem Sl.wr (s : Sl) {d : Array E} {i : Nat} (x : E) (h : i < d.size) : wrBlk (s.blk d) (s.pre.length + i) [enc x] = some (s.blk (d.setIfInBounds i x)) := by
  unfold Sl.blk
  rw [wrBlk_mk, if_pos (by simp only [List.length_append, List.length_map, Array.length_toList, List.length_cons, List.length_nil]; omega)]
  congr 2
  unfold setL
  rw [List.take_append, List.take_of_length_le (by omega), List.drop_append, List.drop_eq_nil_of_le (by simp; omega)]
  rw [show s.pre.length + i - s.pre.length = i by omega, show s.pre.length + i + [enc x].length - s.pre.length = i + 1 by simp; omega]
  rw [List.take_append_of_le_length (by simp; omega), List.drop_append_of_le_length (by simp; omega)]
  rw [Array.toList_setIfInBounds, List.map_set]
  rw [List.set_eq_take_append_cons_drop, if_pos (by simpa using h)]
  simp
theorem enc_eqF (x : E) : eqF 64 (enc x) (enc x) = true := El.eqE x
theorem stE (H : Hp) (b o : Nat) (x : E) : store1 H (.ptr b o) (enc x) = storeAt H b o [enc x] .undef := El.stE H b o x
theorem callV_fn (call : Ev.Call) (f : FuncId) (args : List AV) (H : Hp) : callV call (.fn f [] []) args H = call (.f f) args H := by
  show call (.f f) ([] ++ args ++ []) H = _
  rw [List.nil_append, List.append_nil]
/-- the array in memory -/
structure St (s : Sl) (d : Array E) (H : Hp) : Prop where
  get : H.get s.b = s.blk d
  lt : s.b < H.nx
  sz : d.size = s.n
  iv : El.iv E H
  nh : ¬ home (E := E) s.b
theorem St.no {s : Sl} {d : Array E} {H H' : Hp} (h : St s d H) (f : Fm No H H') : St s d H' := ⟨(f.keep h.lt).trans h.get, Nat.lt_of_lt_of_le h.lt f.nx, h.sz, El.ivK h.iv f fun _ _ => id, h.nh⟩
/-- only the array is written -/
abbrev Fs (s : Sl) (H H' : Hp) : Prop := Fm (fun b => b = s.b) H H'
theorem Fm.fs {s : Sl} {H H' : Hp} (f : Fm No H H') : Fs s H H' := f.mono fun _ _ h => h.elim
/-- what the sort knows of its comparison -/
def CmpE (E : Type) [El E] (call : Ev.Call) (fc : FuncId) : Prop := ∀ (x y : E) (H : Hp), iv E H → Ok (call (.f fc) [enc x, enc y] H) fun v H' => v = .int .i64 (cmp x y) ∧ Fm No H H'
def CmpL (E : Type) [El E] (call : Ev.Call) : Prop := ∀ (x y : E) (H : Hp), iv E H → Ok (call (.f id_o_less) [enc x, enc y] H) fun v H' => v = .bool (ltE x y) ∧ Fm No H H'
theorem lss0 (n : Int) : (n < Int.ofNat 0) = (n < 0) := id rfl
theorem ltE_eq (x y : E) : (decide (cmp x y < 0)) = ltE x y := id rfl
open Go.Sort in
theorem swp_size (d : Array E) (i j : Nat) : (swp d i j).size = d.size := by simp [swp]
open Go.Sort in
theorem St.put2 {s : Sl} {d d1 d2 : Array E} {H : Hp} (h : St s d H) (hz : d2.size = d.size) : St s d2 ((H.put s.b (s.blk d1)).put s.b (s.blk d2)) :=
  ⟨get_put_same _ _ _, h.lt, hz.trans h.sz, El.ivK h.iv (((Fm.refl (fun b => b = s.b) H).put _ _ fun _ => rfl).put _ _ fun _ => rfl) fun b hb e => h.nh (e ▸ hb), h.nh⟩
theorem Fs.put2 {s : Sl} {d1 d2 : Array E} {H0 H : Hp} (h : Fs s H0 H) : Fs s H0 ((H.put s.b (s.blk d1)).put s.b (s.blk d2)) := (h.put _ _ fun _ => rfl).put _ _ fun _ => rfl
/-- a number in a block of its own -/
structure Cnt (E : Type) [El E] (s : Sl) (pb w : Nat) (H : Hp) : Prop where
  get : H.get pb = mkBlk 0 [.int .i64 (.ofNat w)]
  lt : pb < H.nx
  ne : s.b ≠ pb
  nh : ¬ home (E := E) pb
abbrev Fp (pb : Nat) (H H' : Hp) : Prop := Fm (fun b => b = pb) H H'
theorem Fm.fp {pb : Nat} {H H' : Hp} (f : Fm No H H') : Fp pb H H' := f.mono fun _ _ h => h.elim
theorem Cnt.no {s : Sl} {pb w : Nat} {H H' : Hp} (h : Cnt E s pb w H) (f : Fm No H H') : Cnt E s pb w H' := ⟨(f.keep h.lt).trans h.get, Nat.lt_of_lt_of_le h.lt f.nx, h.ne, h.nh⟩
theorem St.fp {s : Sl} {d : Array E} {pb : Nat} {H H' : Hp} (h : St s d H) (f : Fp pb H H') (hne : s.b ≠ pb) (hn : ¬ home (E := E) pb) : St s d H' := ⟨(f.get _ h.lt hne).trans h.get, Nat.lt_of_lt_of_le h.lt f.nx, h.sz, El.ivK h.iv f fun b hb e => hn (e ▸ hb), h.nh⟩
/-- one less, from -1 on -/
def dn : Nat → AV
  | 0 => .int .i64 (.negSucc 0)
  | r + 1 => .int .i64 (.ofNat r)
theorem sub_dn (i : Nat) (h : i < 900000) : intV (intBin .sub).f (.int .i64 (.ofNat i)) (.int .i64 (.ofNat 1)) = .val (dn i) := by
  cases i with
  | zero => rfl
  | succ i => rw [sub_nn _ _ (by omega) (by omega)]; rfl
attribute [go_sem] Sl.idx Sl.rd Sl.wr stE
end Go.Di
end

section
/-
  How many bits a number has; the next random number.
-/
namespace Go.Di
open Go.Ev Go.Sort
open Nat (reduceAdd reduceMul reduceSub reduceLeDiff reduceEqDiff reduceShiftRight reduceAnd)
variable {C : Nat → Ev.Call}
theorem awrap_u8 (n : Nat) (h : n < 256) : awrap .u8 (.ofNat n) = .ofNat n := by
  show (bif Nat.blt n 256 then _ else _) = _
  rw [blt_eq, decide_eq_true h]; rfl
theorem awrap_u64 (n : Nat) (h : n < 18446744073709551616) : awrap .u64 (.ofNat n) = .ofNat n := by
  show (bif Nat.blt n 18446744073709551616 then _ else _) = _
  rw [blt_eq, decide_eq_true h]; rfl
theorem conv_u8 (k : IntKind) (n : Nat) (h : n < 256) : convI .u8 (.int k (.ofNat n)) = .val (.int .u8 (.ofNat n)) := congrArg (fun x => R0.val (.int .u8 x)) (awrap_u8 n h)
theorem conv_u64 (k : IntKind) (n : Nat) (h : n < 18446744073709551616) : convI .u64 (.int k (.ofNat n)) = .val (.int .u64 (.ofNat n)) := congrArg (fun x => R0.val (.int .u64 x)) (awrap_u64 n h)
theorem conv_i64 (k : IntKind) (n : Nat) (h : n < 9223372036854775808) : convI .i64 (.int k (.ofNat n)) = .val (.int .i64 (.ofNat n)) := congrArg (fun x => R0.val (.int .i64 x)) (awrap_nat n h)
theorem shr_u64 (n j : Nat) (k : IntKind) (h : j ≤ 64) : shiftV (shiftBin .shr).f (.int .u64 (.ofNat n)) (.int k (.ofNat j)) = .val (.int .u64 (.ofNat (n / 2 ^ j))) := by
  show (bif ltI (.ofNat j) 0 then R0.bad else .val (.int .u64 ((Int.ofNat n).fdiv (2 ^ (min j 64))))) = _
  rw [ltI_eq, Nat.min_eq_left h]
  have h0 : decide ((Int.ofNat j) < 0) = false := by simp
  rw [h0]
  show R0.val (.int .u64 ((Int.ofNat n).fdiv (2 ^ j))) = _
  congr 2
  have h2 : ((2 : Int) ^ j) = Int.ofNat (2 ^ j) := by simp
  rw [h2]
  show Int.fdiv (n : Int) ((2 ^ j : Nat) : Int) = ((n / 2 ^ j : Nat) : Int)
  rw [Int.fdiv_eq_ediv_of_nonneg _ (Int.natCast_nonneg _)]
  rfl
theorem shr_u (a : Int) (j : Nat) (k : IntKind) : shiftV (shiftBin .shr).f (.int .u64 a) (.int k (.ofNat j)) = .val (.int .u64 (a.fdiv (2 ^ (min j 64)))) := by
  show (bif ltI (.ofNat j) 0 then R0.bad else .val (.int .u64 (a.fdiv (2 ^ (min j 64))))) = _
  rw [ltI_eq]
  have h0 : decide ((Int.ofNat j) < 0) = false := by simp
  rw [h0]; rfl
theorem shl_u (a : Int) (j : Nat) (k : IntKind) : shiftV (shiftBin .shl).f (.int .u64 a) (.int k (.ofNat j)) = .val (.int .u64 (awrap .u64 (a * 2 ^ (min j 64)))) := by
  show (bif ltI (.ofNat j) 0 then R0.bad else .val (.int .u64 (awrap .u64 (a * 2 ^ (min j 64))))) = _
  rw [ltI_eq]
  have h0 : decide ((Int.ofNat j) < 0) = false := by simp
  rw [h0]; rfl
def xorI (a b : Int) : Int := IntKind.u64.wrap (BitVec.ofInt IntKind.u64.bits a ^^^ BitVec.ofInt IntKind.u64.bits b).toNat
theorem xor_u (a b : Int) : intV (intBin .xor).f (.int .u64 a) (.int .u64 b) = .val (.int .u64 (xorI a b)) := id rfl
theorem sub_u64 (a b : Nat) (h : b ≤ a) (h2 : a < 18446744073709551616) : intV (intBin .sub).f (.int .u64 (.ofNat a)) (.int .u64 (.ofNat b)) = .val (.int .u64 (.ofNat (a - b))) := by
  show R0.val (.int .u64 (awrap .u64 (Int.ofNat a - Int.ofNat b))) = _
  rw [show (Int.ofNat a - Int.ofNat b) = Int.ofNat (a - b) by simp only [Int.ofNat_eq_natCast]; omega, awrap_u64 _ (by omega)]
theorem and_u64 (a : Int) (b : Nat) (h : b < 18446744073709551616) : ∃ o, o ≤ b ∧ intV (intBin .and).f (.int .u64 a) (.int .u64 (.ofNat b)) = .val (.int .u64 (.ofNat o)) := by
  refine ⟨(BitVec.ofInt 64 a &&& BitVec.ofInt 64 (.ofNat b)).toNat, ?_, ?_⟩
  · rw [BitVec.toNat_and]
    refine Nat.le_trans Nat.and_le_right ?_
    rw [BitVec.toNat_ofInt]
    simp only [Int.ofNat_eq_natCast]
    omega
  · show R0.val (.int .u64 (IntKind.u64.wrap ((BitVec.ofInt 64 a &&& BitVec.ofInt 64 (.ofNat b)).toNat : Nat))) = _
    have hlt := (BitVec.ofInt 64 a &&& BitVec.ofInt 64 (.ofNat b)).isLt
    generalize (BitVec.ofInt 64 a &&& BitVec.ofInt 64 (.ofNat b)).toNat = o at hlt
    congr 2
    simp only [IntKind.wrap, IntKind.signed, IntKind.bits, Int.ofNat_eq_natCast, Bool.false_and, Bool.false_eq_true, if_false]
    omega
theorem bitsLen_div (n k : Nat) (h : 2 ^ k ≤ n) : bitsLen n = k + bitsLen (n / 2 ^ k) := by
  have hp : 0 < 2 ^ k := Nat.two_pow_pos k
  have key : ∀ m, bitsLen n ≤ k + m ↔ bitsLen (n / 2 ^ k) ≤ m := fun m => by
    rw [bitsLen_le_iff, bitsLen_le_iff, Nat.div_lt_iff_lt_mul hp, Nat.pow_add, Nat.mul_comm]
  have hk : k ≤ bitsLen n := by
    rcases Nat.lt_or_ge (bitsLen n) k with h1 | h1
    · exact absurd ((bitsLen_le_iff n k).1 (by omega)) (by omega)
    · exact h1
  have h1 := (key (bitsLen (n / 2 ^ k))).2 (Nat.le_refl _)
  have h2 := (key (bitsLen n - k)).1 (by omega)
  omega
def tab8 : Nat := 1013866857139168856493015739252390649739422828853819106890363778118420553376247557433637691341895324351018602695588957474325319502760499485336098898398377509666851054660423406800006203933793007272033180812049178612605246075062580585469430410618860250057463399279570354286669047577758927328864388992123306212451509403152394148136105363817402562688186708175358218852349079190158732807302672745370040257219644697201681238697346923541678507645485296520536209706771857694240900605172937619415410180424934769249448772944216470541052485265558808433676546390051204254346932932316488017972311616136051587427851453983453479168
theorem tab8_ok : ((List.range 256).all fun x => Nat.beq (byteAt tab8 x) (bitsLen x)) = true := by decide +kernel
theorem idx_tab (x : Nat) (h : x < 256) : idxStr (.str 256 1013866857139168856493015739252390649739422828853819106890363778118420553376247557433637691341895324351018602695588957474325319502760499485336098898398377509666851054660423406800006203933793007272033180812049178612605246075062580585469430410618860250057463399279570354286669047577758927328864388992123306212451509403152394148136105363817402562688186708175358218852349079190158732807302672745370040257219644697201681238697346923541678507645485296520536209706771857694240900605172937619415410180424934769249448772944216470541052485265558808433676546390051204254346932932316488017972311616136051587427851453983453479168) (.int .u8 (.ofNat x)) = .val (.int .u8 (.ofNat (bitsLen x))) := by
  show (bif Nat.blt x 256 then R0.val (.int .u8 (.ofNat (byteAt tab8 x))) else .bad) = _
  rw [blt_eq, decide_eq_true h]
  have := List.all_eq_true.1 tab8_ok x (List.mem_range.2 h)
  rw [Nat.eq_of_beq_eq_true this]; rfl
theorem bl8 (x : Nat) (h : x < 256) : bitsLen x ≤ 8 := (bitsLen_le_iff x 8).2 h
theorem len64_4 {call : Ev.Call} (x m : Nat) (h : x < 256) (hm : m < 1000) (H : Hp) : s_Len64_j4 call (.int .u64 (.ofNat x)) (.int .i64 (.ofNat m)) H = .ok (.int .i64 (.ofNat (m + bitsLen x))) H := by
  unfold s_Len64_j4
  have h8 := bl8 x h
  simp only [conv_u8 _ _ h, vq_val, idx_tab x h, conv_i64 .u8 (bitsLen x) (by omega), add_nn m (bitsLen x) (by omega)]
theorem len64_8 {call : Ev.Call} (x m : Nat) (h : x < 65536) (hm : m < 900) (H : Hp) : s_Len64_j8 call (.int .u64 (.ofNat x)) (.int .i64 (.ofNat m)) H = .ok (.int .i64 (.ofNat (m + bitsLen x))) H := by
  unfold s_Len64_j8
  by_cases h1 : 256 ≤ x
  · simp (disch := first | omega | exact ti rfl | (simp only [np, nq]; first | done | omega)) only [go_sem, reduceAdd, reduceMul, reduceSub, reduceLeDiff, reduceEqDiff, reduceShiftRight, reduceAnd, h1, shr_u64]
    rw [len64_4 _ _ (by omega) (by omega), bitsLen_div x 8 (by omega), Nat.add_assoc]
  · simp (disch := first | omega | exact ti rfl | (simp only [np, nq]; first | done | omega)) only [go_sem, reduceAdd, reduceMul, reduceSub, reduceLeDiff, reduceEqDiff, reduceShiftRight, reduceAnd, h1]
    rw [len64_4 _ _ (by omega) (by omega)]
theorem len64_12 {call : Ev.Call} (x m : Nat) (h : x < 4294967296) (hm : m < 800) (H : Hp) : s_Len64_j12 call (.int .u64 (.ofNat x)) (.int .i64 (.ofNat m)) H = .ok (.int .i64 (.ofNat (m + bitsLen x))) H := by
  unfold s_Len64_j12
  by_cases h1 : 65536 ≤ x
  · simp (disch := first | omega | exact ti rfl | (simp only [np, nq]; first | done | omega)) only [go_sem, reduceAdd, reduceMul, reduceSub, reduceLeDiff, reduceEqDiff, reduceShiftRight, reduceAnd, h1, shr_u64]
    rw [len64_8 _ _ (by omega) (by omega), bitsLen_div x 16 (by omega), Nat.add_assoc]
  · simp (disch := first | omega | exact ti rfl | (simp only [np, nq]; first | done | omega)) only [go_sem, reduceAdd, reduceMul, reduceSub, reduceLeDiff, reduceEqDiff, reduceShiftRight, reduceAnd, h1]
    rw [len64_8 _ _ (by omega) (by omega)]
theorem Len_ok (hC : LinksS C) {k : Nat} (hk : 2 ≤ k) (x : Nat) (h : x < 4294967296) (H : Hp) : C k (.f id_s_Len) [.int .u64 (.ofNat x)] H = .ok (.int .i64 (.ofNat (bitsLen x))) H := by
  obtain ⟨k, rfl⟩ : ∃ j, k = j + 2 := ⟨k - 2, by omega⟩
  rw [(hC (k + 1)).s_Len]
  unfold s_Len s_Len_c
  simp (disch := first | omega | exact ti rfl | (simp only [np, nq]; first | done | omega)) only [go_sem, reduceAdd, reduceMul, reduceSub, reduceLeDiff, reduceEqDiff, reduceShiftRight, reduceAnd]
  unfold s_Len_j1
  rw [(hC k).s_Len64]
  unfold s_Len64 s_Len64_c
  have h1 : ¬ 4294967296 ≤ x := by omega
  simp (disch := first | omega | exact ti rfl | (simp only [np, nq]; first | done | omega)) only [go_sem, reduceAdd, reduceMul, reduceSub, reduceLeDiff, reduceEqDiff, reduceShiftRight, reduceAnd, h1]
  rw [len64_12 _ _ h (by omega)]
  simp (disch := first | omega | exact ti rfl | (simp only [np, nq]; first | done | omega)) only [go_sem, reduceAdd, reduceMul, reduceSub, reduceLeDiff, reduceEqDiff, reduceShiftRight, reduceAnd]
end Go.Di
end

section
/-
  The sort: insertion.
-/
namespace Go.Di.F
open Go.Ev Go.Sort
open Nat (reduceAdd reduceMul reduceSub reduceLeDiff reduceEqDiff reduceShiftRight reduceAnd)
variable {E : Type} [El E]
theorem ins_in {call : Ev.Call} {fc : FuncId} (hc : CmpE E call fc) {s : Sl} (hn : s.n < 900000) {a : Nat} {H0 : Hp} {q : Hp → R1} {Q : AV → Hp → Prop} :
    ∀ (k j : Nat) (d : Array E) (H : Hp), j < k → j < s.n → St s d H → Fs s H0 H → (∀ H', St s (insInner ltE a j d) H' → Fs s H0 H' → Ok (q H') Q) →
      Ok (s_ins_l4 call q s.v (.int .i64 (.ofNat a)) (.fn fc [] []) k (.int .i64 (.ofNat j)) H) Q
  | 0, j, _, _, h, _, _, _, _ => by omega
  | k + 1, j, d, H, hk, hj, hS, hF, hq => by
    show Ok (s_ins_b4 call _ _ _ _ (s_ins_l4 call _ _ _ _ k) _ H) Q
    unfold s_ins_b4
    have hsz := hS.sz
    have hg := hS.get
    by_cases h : a < j
    · obtain ⟨p, rfl⟩ : ∃ p, j = p + 1 := ⟨j - 1, by omega⟩
      rw [insInner] at hq
      simp (disch := first | omega | exact ti rfl | (simp only [np, nq, Array.size_setIfInBounds, swp_size]; first | done | omega)) only [go_sem, reduceAdd, reduceMul, reduceSub, reduceLeDiff, reduceEqDiff, reduceShiftRight, reduceAnd, Array.size_setIfInBounds, swp_size, enc_eqF, callV_fn, lss0, ltE_eq, hg, h, Nat.add_sub_cancel]
      refine Ok.deO (hc _ _ _ hS.iv) ?_
      rintro v H' ⟨rfl, f'⟩
      have hS' := hS.no f'
      have hg' := hS'.get
      simp (disch := first | omega | exact ti rfl | (simp only [np, nq, Array.size_setIfInBounds, swp_size]; first | done | omega)) only [go_sem, reduceAdd, reduceMul, reduceSub, reduceLeDiff, reduceEqDiff, reduceShiftRight, reduceAnd, Array.size_setIfInBounds, swp_size, enc_eqF, callV_fn, lss0, ltE_eq, hg', Nat.add_sub_cancel]
      cases hl : ltE d[p + 1]! d[p]! with
      | false =>
        rw [hl] at hq
        simp (disch := first | omega | exact ti rfl | (simp only [np, nq, Array.size_setIfInBounds, swp_size]; first | done | omega)) only [go_sem, reduceAdd, reduceMul, reduceSub, reduceLeDiff, reduceEqDiff, reduceShiftRight, reduceAnd, Array.size_setIfInBounds, swp_size, enc_eqF, callV_fn, lss0, ltE_eq]
        exact hq H' (by simpa using hS') (hF.trans f'.fs)
      | true =>
        rw [hl] at hq
        unfold s_ins_j26
        simp (disch := first | omega | exact ti rfl | (simp only [np, nq, Array.size_setIfInBounds, swp_size]; first | done | omega)) only [go_sem, reduceAdd, reduceMul, reduceSub, reduceLeDiff, reduceEqDiff, reduceShiftRight, reduceAnd, Array.size_setIfInBounds, swp_size, enc_eqF, callV_fn, lss0, ltE_eq, hg', Nat.add_sub_cancel]
        unfold s_ins_j6
        simp (disch := first | omega | exact ti rfl | (simp only [np, nq, Array.size_setIfInBounds, swp_size]; first | done | omega)) only [go_sem, reduceAdd, reduceMul, reduceSub, reduceLeDiff, reduceEqDiff, reduceShiftRight, reduceAnd, Array.size_setIfInBounds, swp_size, enc_eqF, callV_fn, lss0, ltE_eq, Nat.add_sub_cancel]
        exact ins_in hc hn k p (swp d (p + 1) p) _ (by omega) (by omega) (hS'.put2 (swp_size _ _ _)) (Fs.put2 (hF.trans f'.fs)) (by simpa [h] using hq)
    · simp (disch := first | omega | exact ti rfl | (simp only [np, nq, Array.size_setIfInBounds, swp_size]; first | done | omega)) only [go_sem, reduceAdd, reduceMul, reduceSub, reduceLeDiff, reduceEqDiff, reduceShiftRight, reduceAnd, Array.size_setIfInBounds, swp_size, enc_eqF, callV_fn, lss0, ltE_eq, h]
      refine hq H ?_ hF
      cases j with
      | zero => exact hS
      | succ j => rw [insInner]; simpa [show ¬ a < j + 1 from h] using hS
theorem insOuter_size (lt : E → E → Bool) (a : Nat) : ∀ (j : Nat) (d : Array E), (insInner lt a j d).size = d.size
  | 0, d => rfl
  | j + 1, d => by
    rw [insInner]
    split
    · rw [insOuter_size lt a j, swp_size]
    · rfl
theorem ins_out {call : Ev.Call} {fc : FuncId} (hc : CmpE E call fc) {s : Sl} (hn : s.n < 900000) {a b : Nat} (hb : b ≤ s.n) {H0 : Hp} {q : Hp → R1} {Q : AV → Hp → Prop} :
    ∀ (k i : Nat) (d : Array E) (H : Hp), b - i < k → i ≤ 900001 → St s d H → Fs s H0 H → (∀ H', St s (insOuter ltE a b i d) H' → Fs s H0 H' → Ok (q H') Q) →
      Ok (s_ins_l1 call q s.v (.int .i64 (.ofNat a)) (.int .i64 (.ofNat b)) (.fn fc [] []) k (.int .i64 (.ofNat i)) H) Q
  | 0, i, _, _, h, _, _, _, _ => by omega
  | k + 1, i, d, H, hk, hi, hS, hF, hq => by
    show Ok (s_ins_b1 call _ _ _ _ _ (s_ins_l1 call _ _ _ _ _ k) _ H) Q
    unfold s_ins_b1
    rw [insOuter] at hq
    by_cases h : i < b
    · rw [if_pos h] at hq
      simp (disch := first | omega | exact ti rfl | (simp only [np, nq, Array.size_setIfInBounds, swp_size]; first | done | omega)) only [go_sem, reduceAdd, reduceMul, reduceSub, reduceLeDiff, reduceEqDiff, reduceShiftRight, reduceAnd, Array.size_setIfInBounds, swp_size, enc_eqF, callV_fn, lss0, ltE_eq, h]
      unfold s_ins_j45 s_ins_L4
      rw [fuelX_eq]
      refine ins_in hc hn loopFuel i d H (by rw [loopFuel_eq]; omega) (by omega) hS hF fun H' hS' hF' => ?_
      unfold s_ins_j3
      simp (disch := first | omega | exact ti rfl | (simp only [np, nq, Array.size_setIfInBounds, swp_size]; first | done | omega)) only [go_sem, reduceAdd, reduceMul, reduceSub, reduceLeDiff, reduceEqDiff, reduceShiftRight, reduceAnd, Array.size_setIfInBounds, swp_size, enc_eqF, callV_fn, lss0, ltE_eq]
      exact ins_out hc hn hb k (i + 1) _ H' (by omega) (by omega) hS' hF' hq
    · rw [if_neg h] at hq
      simp (disch := first | omega | exact ti rfl | (simp only [np, nq, Array.size_setIfInBounds, swp_size]; first | done | omega)) only [go_sem, reduceAdd, reduceMul, reduceSub, reduceLeDiff, reduceEqDiff, reduceShiftRight, reduceAnd, Array.size_setIfInBounds, swp_size, enc_eqF, callV_fn, lss0, ltE_eq, h]
      exact hq H hS hF
/-- data[a:b], sorted by insertion -/
theorem ins_ok {C : Nat → Ev.Call} (hC : LinksS C) {k : Nat} (hk : 1 ≤ k) {fc : FuncId} (hc : CmpE E (C (k - 1)) fc) {s : Sl} (hn : s.n < 900000) {a b : Nat} (ha : a ≤ b) (hb : b ≤ s.n) {d : Array E} {H : Hp} (hS : St s d H) :
    Ok (C k (.f id_s_ins) [s.v, .int .i64 (.ofNat a), .int .i64 (.ofNat b), .fn fc [] []] H) fun r H' => r = .tup [] ∧ St s (insertionSort ltE d a b) H' ∧ Fs s H H' := by
  obtain ⟨j, rfl⟩ : ∃ j, k = j + 1 := ⟨k - 1, by omega⟩
  rw [(hC j).s_ins]
  unfold s_ins s_ins_c
  simp (disch := first | omega | exact ti rfl | (simp only [np, nq, Array.size_setIfInBounds, swp_size]; first | done | omega)) only [go_sem, reduceAdd, reduceMul, reduceSub, reduceLeDiff, reduceEqDiff, reduceShiftRight, reduceAnd, Array.size_setIfInBounds, swp_size, enc_eqF, callV_fn, lss0, ltE_eq]
  unfold s_ins_L1
  rw [fuelX_eq]
  exact ins_out hc hn hb loopFuel (a + 1) d H (by rw [loopFuel_eq]; omega) (by omega) hS (Fm.refl _ _) fun H' hS' hF' => Ok.ret ⟨rfl, hS', hF'⟩
end Go.Di.F
end

section
/-
  The sort by a function, of at most twelve elements: by insertion.
-/
namespace Go.Di.F
open Go.Ev Go.Sort
open Nat (reduceAdd reduceMul reduceSub reduceLeDiff reduceEqDiff reduceShiftRight reduceAnd)
variable {C : Nat → Ev.Call} {E : Type} [El E]
def Sd (a b : Nat) (d R : Array E) : Prop := PermIn a b d R ∧ SortedIn ltE a b R
theorem pdq_ok (hC : LinksS C) {k : Nat} (hk : 6 ≤ k) {fc : FuncId} (hc : ∀ k, 3 ≤ k → CmpE E (C k) fc) {s : Sl} (hn : s.n ≤ 12) (hl : SWO (ltE (E := E))) {d : Array E} {H : Hp} (hS : St s d H) (b : AV) :
    Ok (C k (.f id_s_pdq) [s.v, .int .i64 (.ofNat 0), .int .i64 (.ofNat s.n), b, .fn fc [] []] H) fun r H' => r = .tup [] ∧ ∃ R, Sd 0 s.n d R ∧ St s R H' ∧ Fs s H H' := by
  obtain ⟨j, rfl⟩ : ∃ j, k = j + 1 := ⟨k - 1, by omega⟩
  rw [(hC j).s_pdq]
  unfold s_pdq s_pdq_c s_pdq_L0
  rw [fuelX_eq]
  show Ok (s_pdq_b0 (C j) _ _ _ (s_pdq_l0 (C j) _ _ _ 999999) _ _ _ _ _ H) _
  unfold s_pdq_b0
  have h12 : s.n - 0 ≤ 12 := by omega
  simp (disch := first | omega | exact ti rfl | (simp only [np, nq]; first | done | omega)) only [go_sem, reduceAdd, reduceMul, reduceSub, reduceLeDiff, reduceEqDiff, reduceShiftRight, reduceAnd, h12]
  refine Ok.ve (ins_ok hC (by omega) (hc _ (by omega)) (by omega) (Nat.zero_le _) (Nat.le_refl _) hS) ?_
  rintro r H1 ⟨rfl, hS1, hF1⟩
  have hi := insertionSort_holds (lt := ltE) hl d 0 s.n (Nat.zero_le _) (by rw [hS.sz]; exact Nat.le_refl _)
  exact Ok.ret ⟨rfl, _, ⟨hi.1, hi.2⟩, hS1, hF1⟩
theorem SortFunc_ok (hC : LinksS C) {k : Nat} {fc : FuncId} (hc : ∀ k, 3 ≤ k → CmpE E (C k) fc) {s : Sl} (hn : s.n ≤ 12) (hk : 10 ≤ k) (hl : SWO (ltE (E := E))) {d : Array E} {H : Hp} (hS : St s d H) :
    Ok (C k (.f id_s_SortFunc) [s.v, .fn fc [] []] H) fun r H' => r = .tup [] ∧ ∃ R, Sd 0 s.n d R ∧ St s R H' ∧ Fs s H H' := by
  obtain ⟨k, rfl⟩ : ∃ j, k = j + 1 := ⟨k - 1, by omega⟩
  rw [(hC k).s_SortFunc]
  unfold s_SortFunc s_SortFunc_c
  have e0 : lenSl s.v = .val (.int .i64 (.ofNat s.n)) := rfl
  have e1 := conv_u64 .i64 s.n (by omega)
  have e2 := Len_ok hC (k := k) (by omega) s.n (by omega) H
  have e3 : bitsLen s.n ≤ 20 := (bitsLen_le_iff s.n 20).2 (by omega)
  simp (disch := first | omega | exact ti rfl | (simp only [np, nq]; first | done | omega)) only [go_sem, reduceAdd, reduceMul, reduceSub, reduceLeDiff, reduceEqDiff, reduceShiftRight, reduceAnd, e0, e1, e2]
  refine Ok.ve (pdq_ok hC (k := k) (by omega) hc hn hl hS _) ?_
  rintro r H1 ⟨rfl, R, h1, h2, h3⟩
  exact Ok.ret ⟨rfl, R, h1, h2, h3⟩
end Go.Di.F
end

section
/-
  The sort: insertion.
-/
namespace Go.Di.O
open Go.Ev Go.Sort
open Nat (reduceAdd reduceMul reduceSub reduceLeDiff reduceEqDiff reduceShiftRight reduceAnd)
variable {E : Type} [El E]
abbrev LinksB (C : Nat → Ev.Call) : Prop := LinksO C ∧ LinksS C
theorem ins_in {call : Ev.Call} (hc : CmpL E call) {s : Sl} (hn : s.n < 900000) {a : Nat} {H0 : Hp} {q : Hp → R1} {Q : AV → Hp → Prop} :
    ∀ (k j : Nat) (d : Array E) (H : Hp), j < k → j < s.n → St s d H → Fs s H0 H → (∀ H', St s (insInner ltE a j d) H' → Fs s H0 H' → Ok (q H') Q) →
      Ok (o_ins_l4 call q s.v (.int .i64 (.ofNat a)) k (.int .i64 (.ofNat j)) H) Q
  | 0, j, _, _, h, _, _, _, _ => by omega
  | k + 1, j, d, H, hk, hj, hS, hF, hq => by
    show Ok (o_ins_b4 call _ _ _ (o_ins_l4 call _ _ _ k) _ H) Q
    unfold o_ins_b4
    have hsz := hS.sz
    have hg := hS.get
    by_cases h : a < j
    · obtain ⟨p, rfl⟩ : ∃ p, j = p + 1 := ⟨j - 1, by omega⟩
      rw [insInner] at hq
      simp (disch := first | omega | exact ti rfl | (simp only [np, nq, Array.size_setIfInBounds, swp_size]; first | done | omega)) only [go_sem, reduceAdd, reduceMul, reduceSub, reduceLeDiff, reduceEqDiff, reduceShiftRight, reduceAnd, Array.size_setIfInBounds, swp_size, enc_eqF, callV_fn, lss0, ltE_eq, hg, h, Nat.add_sub_cancel]
      refine Ok.deO (hc _ _ _ hS.iv) ?_
      rintro v H' ⟨rfl, f'⟩
      have hS' := hS.no f'
      have hg' := hS'.get
      simp (disch := first | omega | exact ti rfl | (simp only [np, nq, Array.size_setIfInBounds, swp_size]; first | done | omega)) only [go_sem, reduceAdd, reduceMul, reduceSub, reduceLeDiff, reduceEqDiff, reduceShiftRight, reduceAnd, Array.size_setIfInBounds, swp_size, enc_eqF, callV_fn, lss0, ltE_eq, hg', Nat.add_sub_cancel]
      cases hl : ltE d[p + 1]! d[p]! with
      | false =>
        rw [hl] at hq
        simp (disch := first | omega | exact ti rfl | (simp only [np, nq, Array.size_setIfInBounds, swp_size]; first | done | omega)) only [go_sem, reduceAdd, reduceMul, reduceSub, reduceLeDiff, reduceEqDiff, reduceShiftRight, reduceAnd, Array.size_setIfInBounds, swp_size, enc_eqF, callV_fn, lss0, ltE_eq]
        exact hq H' (by simpa using hS') (hF.trans f'.fs)
      | true =>
        rw [hl] at hq
        unfold o_ins_j26
        simp (disch := first | omega | exact ti rfl | (simp only [np, nq, Array.size_setIfInBounds, swp_size]; first | done | omega)) only [go_sem, reduceAdd, reduceMul, reduceSub, reduceLeDiff, reduceEqDiff, reduceShiftRight, reduceAnd, Array.size_setIfInBounds, swp_size, enc_eqF, callV_fn, lss0, ltE_eq, hg', Nat.add_sub_cancel]
        unfold o_ins_j6
        simp (disch := first | omega | exact ti rfl | (simp only [np, nq, Array.size_setIfInBounds, swp_size]; first | done | omega)) only [go_sem, reduceAdd, reduceMul, reduceSub, reduceLeDiff, reduceEqDiff, reduceShiftRight, reduceAnd, Array.size_setIfInBounds, swp_size, enc_eqF, callV_fn, lss0, ltE_eq, Nat.add_sub_cancel]
        exact ins_in hc hn k p (swp d (p + 1) p) _ (by omega) (by omega) (hS'.put2 (swp_size _ _ _)) (Fs.put2 (hF.trans f'.fs)) (by simpa [h] using hq)
    · simp (disch := first | omega | exact ti rfl | (simp only [np, nq, Array.size_setIfInBounds, swp_size]; first | done | omega)) only [go_sem, reduceAdd, reduceMul, reduceSub, reduceLeDiff, reduceEqDiff, reduceShiftRight, reduceAnd, Array.size_setIfInBounds, swp_size, enc_eqF, callV_fn, lss0, ltE_eq, h]
      refine hq H ?_ hF
      cases j with
      | zero => exact hS
      | succ j => rw [insInner]; simpa [show ¬ a < j + 1 from h] using hS
theorem insOuter_size (lt : E → E → Bool) (a : Nat) : ∀ (j : Nat) (d : Array E), (insInner lt a j d).size = d.size
  | 0, d => rfl
  | j + 1, d => by
    rw [insInner]
    split
    · rw [insOuter_size lt a j, swp_size]
    · rfl
theorem ins_out {call : Ev.Call} (hc : CmpL E call) {s : Sl} (hn : s.n < 900000) {a b : Nat} (hb : b ≤ s.n) {H0 : Hp} {q : Hp → R1} {Q : AV → Hp → Prop} :
    ∀ (k i : Nat) (d : Array E) (H : Hp), b - i < k → i ≤ 900001 → St s d H → Fs s H0 H → (∀ H', St s (insOuter ltE a b i d) H' → Fs s H0 H' → Ok (q H') Q) →
      Ok (o_ins_l1 call q s.v (.int .i64 (.ofNat a)) (.int .i64 (.ofNat b)) k (.int .i64 (.ofNat i)) H) Q
  | 0, i, _, _, h, _, _, _, _ => by omega
  | k + 1, i, d, H, hk, hi, hS, hF, hq => by
    show Ok (o_ins_b1 call _ _ _ _ (o_ins_l1 call _ _ _ _ k) _ H) Q
    unfold o_ins_b1
    rw [insOuter] at hq
    by_cases h : i < b
    · rw [if_pos h] at hq
      simp (disch := first | omega | exact ti rfl | (simp only [np, nq, Array.size_setIfInBounds, swp_size]; first | done | omega)) only [go_sem, reduceAdd, reduceMul, reduceSub, reduceLeDiff, reduceEqDiff, reduceShiftRight, reduceAnd, Array.size_setIfInBounds, swp_size, enc_eqF, callV_fn, lss0, ltE_eq, h]
      unfold o_ins_j43 o_ins_L4
      rw [fuelX_eq]
      refine ins_in hc hn loopFuel i d H (by rw [loopFuel_eq]; omega) (by omega) hS hF fun H' hS' hF' => ?_
      unfold o_ins_j3
      simp (disch := first | omega | exact ti rfl | (simp only [np, nq, Array.size_setIfInBounds, swp_size]; first | done | omega)) only [go_sem, reduceAdd, reduceMul, reduceSub, reduceLeDiff, reduceEqDiff, reduceShiftRight, reduceAnd, Array.size_setIfInBounds, swp_size, enc_eqF, callV_fn, lss0, ltE_eq]
      exact ins_out hc hn hb k (i + 1) _ H' (by omega) (by omega) hS' hF' hq
    · rw [if_neg h] at hq
      simp (disch := first | omega | exact ti rfl | (simp only [np, nq, Array.size_setIfInBounds, swp_size]; first | done | omega)) only [go_sem, reduceAdd, reduceMul, reduceSub, reduceLeDiff, reduceEqDiff, reduceShiftRight, reduceAnd, Array.size_setIfInBounds, swp_size, enc_eqF, callV_fn, lss0, ltE_eq, h]
      exact hq H hS hF
/-- data[a:b], sorted by insertion -/
theorem ins_ok {C : Nat → Ev.Call} (hC : LinksB C) {k : Nat} (hk : 1 ≤ k) (hc : CmpL E (C (k - 1))) {s : Sl} (hn : s.n < 900000) {a b : Nat} (ha : a ≤ b) (hb : b ≤ s.n) {d : Array E} {H : Hp} (hS : St s d H) :
    Ok (C k (.f id_o_ins) [s.v, .int .i64 (.ofNat a), .int .i64 (.ofNat b)] H) fun r H' => r = .tup [] ∧ St s (insertionSort ltE d a b) H' ∧ Fs s H H' := by
  obtain ⟨j, rfl⟩ : ∃ j, k = j + 1 := ⟨k - 1, by omega⟩
  rw [(hC.1 j).o_ins]
  unfold o_ins o_ins_c
  simp (disch := first | omega | exact ti rfl | (simp only [np, nq, Array.size_setIfInBounds, swp_size]; first | done | omega)) only [go_sem, reduceAdd, reduceMul, reduceSub, reduceLeDiff, reduceEqDiff, reduceShiftRight, reduceAnd, Array.size_setIfInBounds, swp_size, enc_eqF, callV_fn, lss0, ltE_eq]
  unfold o_ins_L1
  rw [fuelX_eq]
  exact ins_out hc hn hb loopFuel (a + 1) d H (by rw [loopFuel_eq]; omega) (by omega) hS (Fm.refl _ _) fun H' hS' hF' => Ok.ret ⟨rfl, hS', hF'⟩
end Go.Di.O
end

section
/-
  The sort of ordered elements, of at most twelve elements: by insertion.
-/
namespace Go.Di.O
open Go.Ev Go.Sort
open Nat (reduceAdd reduceMul reduceSub reduceLeDiff reduceEqDiff reduceShiftRight reduceAnd)
variable {C : Nat → Ev.Call} {E : Type} [El E]
def Sd (a b : Nat) (d R : Array E) : Prop := PermIn a b d R ∧ SortedIn ltE a b R
theorem pdq_ok (hC : LinksB C) {k : Nat} (hk : 6 ≤ k) (hc : ∀ k, 3 ≤ k → CmpL E (C k)) {s : Sl} (hn : s.n ≤ 12) (hl : SWO (ltE (E := E))) {d : Array E} {H : Hp} (hS : St s d H) (b : AV) :
    Ok (C k (.f id_o_pdq) [s.v, .int .i64 (.ofNat 0), .int .i64 (.ofNat s.n), b] H) fun r H' => r = .tup [] ∧ ∃ R, Sd 0 s.n d R ∧ St s R H' ∧ Fs s H H' := by
  obtain ⟨j, rfl⟩ : ∃ j, k = j + 1 := ⟨k - 1, by omega⟩
  rw [(hC.1 j).o_pdq]
  unfold o_pdq o_pdq_c o_pdq_L0
  rw [fuelX_eq]
  show Ok (o_pdq_b0 (C j) _ _ (o_pdq_l0 (C j) _ _ 999999) _ _ _ _ _ H) _
  unfold o_pdq_b0
  have h12 : s.n - 0 ≤ 12 := by omega
  simp (disch := first | omega | exact ti rfl | (simp only [np, nq]; first | done | omega)) only [go_sem, reduceAdd, reduceMul, reduceSub, reduceLeDiff, reduceEqDiff, reduceShiftRight, reduceAnd, h12]
  refine Ok.ve (ins_ok hC (by omega) (hc _ (by omega)) (by omega) (Nat.zero_le _) (Nat.le_refl _) hS) ?_
  rintro r H1 ⟨rfl, hS1, hF1⟩
  have hi := insertionSort_holds (lt := ltE) hl d 0 s.n (Nat.zero_le _) (by rw [hS.sz]; exact Nat.le_refl _)
  exact Ok.ret ⟨rfl, _, ⟨hi.1, hi.2⟩, hS1, hF1⟩
theorem Sort_ok (hC : LinksB C) {k : Nat} (hc : ∀ k, 3 ≤ k → CmpL E (C k)) {s : Sl} (hn : s.n ≤ 12) (hk : 10 ≤ k) (hl : SWO (ltE (E := E))) {d : Array E} {H : Hp} (hS : St s d H) :
    Ok (C k (.f id_o_Sort) [s.v] H) fun r H' => r = .tup [] ∧ ∃ R, Sd 0 s.n d R ∧ St s R H' ∧ Fs s H H' := by
  obtain ⟨k, rfl⟩ : ∃ j, k = j + 1 := ⟨k - 1, by omega⟩
  rw [(hC.1 k).o_Sort]
  unfold o_Sort o_Sort_c
  have e0 : lenSl s.v = .val (.int .i64 (.ofNat s.n)) := rfl
  have e1 := conv_u64 .i64 s.n (by omega)
  have e2 := Len_ok hC.2 (k := k) (by omega) s.n (by omega) H
  have e3 : bitsLen s.n ≤ 20 := (bitsLen_le_iff s.n 20).2 (by omega)
  simp (disch := first | omega | exact ti rfl | (simp only [np, nq]; first | done | omega)) only [go_sem, reduceAdd, reduceMul, reduceSub, reduceLeDiff, reduceEqDiff, reduceShiftRight, reduceAnd, e0, e1, e2]
  refine Ok.ve (pdq_ok hC (k := k) (by omega) hc hn hl hS _) ?_
  rintro r H1 ⟨rfl, R, h1, h2, h3⟩
  exact Ok.ret ⟨rfl, R, h1, h2, h3⟩
end Go.Di.O
end
