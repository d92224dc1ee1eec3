/-
 For countersignlaw17.CompsErrors: contracts of the sorts. No conditions beyond those that each theorem states.
-/
import Derived.Test.YtmdpdlnabcmlmaaDir
import Derived.Sort.AssemblyPlain
set_option linter.unusedSimpArgs false
set_option linter.unusedVariables false
open Nat (reduceAdd reduceMul reduceSub reduceLeDiff reduceEqDiff reduceShiftRight reduceAnd)
noncomputable section
/-
 The sort: an array of one-celled elements in memory, and what is done with it.
-/
namespace Go.Di
open Go.Ev
theorem qag : qal = 1000000 := rfl
class El (E : Type) extends Inhabited E where
 enc : E → AV
 cmp : E → E → Int
 home : Nat → Prop
 iv : Hp → Prop
 ivK : ∀ {S : Nat → Prop} {H H' : Hp}, iv H → Fm S H H' → (∀ b, home b → ¬ S b) → iv H'
 homeLt : ∀ {H : Hp} {b : Nat}, iv H → home b → b < H.nx
 stE : ∀ (H : Hp) (b o : Nat) (x : E), qao H (.ptr b o) (enc x) = storeAt H b o [enc x] .undef
 eqE : ∀ x : E, eqF 64 (enc x) (enc x) = true
variable {E : Type} [El E]
open El (enc cmp home iv)
def ltE (x y : E) : Bool := decide (cmp x y < 0)
structure Sl where
 b : Nat
 q : Nat
 n : Nat
 m : Nat
 e : Bool
 pre : List AV
 suf : List AV
def Sl.v (s : Sl) : AV := .sl s.b s.pre.length s.n s.m s.e
def Sl.blk (s : Sl) (d : Array E) : Blk := qac s.q (s.pre ++ (d.toList.map enc ++ s.suf))
theorem Sl.idx (s : Sl) {i : Nat} (h : i < s.n) : idxS 1 s.v (.int .i64 (.ofNat i)) = .val (.ptr s.b (s.pre.length + i)) := by
 have := qib 1 s.b s.pre.length s.n s.m s.e .i64 i h
 rw [Nat.mul_one] at this
 exact this
theorem Sl.rd (s : Sl) {d : Array E} {i : Nat} (h : i < d.size) : qb8 (s.blk d) (s.pre.length + i) = .val (enc d[i]!) := by
 unfold Sl.blk
 rw [qdi, List.getElem?_append_right (by omega), Nat.add_sub_cancel_left, List.getElem?_append_left (by simpa using h)]
 simp [h]
theorem Sl.wr (s : Sl) {d : Array E} {i : Nat} (x : E) (h : i < d.size) : qj9 (s.blk d) (s.pre.length + i) [enc x] = some (s.blk (d.setIfInBounds i x)) := by
 unfold Sl.blk
 rw [qjo, if_pos (by simp only [List.length_append, List.length_map, Array.length_toList, List.length_cons, List.length_nil]; omega)]
 congr 2
 unfold setL
 rw [List.take_append, List.take_of_length_le (by omega), List.drop_append, List.drop_eq_nil_of_le (by simp; omega)]
 rw [show s.pre.length + i - s.pre.length = i by omega, show s.pre.length + i + [enc x].length - s.pre.length = i + 1 by simp; omega]
 rw [List.take_append_of_le_length (by simp; omega), List.drop_append_of_le_length (by simp; omega)]
 rw [Array.toList_setIfInBounds, List.map_set]
 rw [List.set_eq_take_append_cons_drop, if_pos (by simpa using h)]
 simp
theorem zg3 (x : E) : eqF 64 (enc x) (enc x) = true := El.eqE x
theorem stE (H : Hp) (b o : Nat) (x : E) : qao H (.ptr b o) (enc x) = storeAt H b o [enc x] .undef := El.stE H b o x
theorem qab (call : Ev.Call) (f : FuncId) (args : List AV) (H : Hp) : qey call (.fn f [] []) args H = call (.f f) args H := by
 show call (.f f) ([] ++ args ++ []) H = _
 rw [List.nil_append, List.append_nil]
structure St (s : Sl) (d : Array E) (H : Hp) : Prop where
 get : H.get s.b = s.blk d
 lt : s.b < H.nx
 sz : d.size = s.n
 iv : El.iv E H
 nh : ¬ home (E := E) s.b
theorem St.no {s : Sl} {d : Array E} {H H' : Hp} (h : St s d H) (f : Fm No H H') : St s d H' := ⟨(f.keep h.lt).trans h.get, Nat.lt_of_lt_of_le h.lt f.nx, h.sz, El.ivK h.iv f fun _ _ => id, h.nh⟩
abbrev Fs (s : Sl) (H H' : Hp) : Prop := Fm (fun b => b = s.b) H H'
theorem Fm.fs {s : Sl} {H H' : Hp} (f : Fm No H H') : Fs s H H' := f.mono fun _ _ h => h.elim
def CmpE (E : Type) [El E] (call : Ev.Call) (fc : FuncId) : Prop := ∀ (x y : E) (H : Hp), iv E H → Ok (call (.f fc) [enc x, enc y] H) fun v H' => v = .int .i64 (cmp x y) ∧ Fm No H H'
def CmpL (E : Type) [El E] (call : Ev.Call) : Prop := ∀ (x y : E) (H : Hp), iv E H → Ok (call (.f qb5) [enc x, enc y] H) fun v H' => v = .bool (ltE x y) ∧ Fm No H H'
theorem lss0 (n : Int) : (n < Int.ofNat 0) = (n < 0) := id rfl
theorem qae (x y : E) : (decide (cmp x y < 0)) = ltE x y := id rfl
open Go.Sort in
theorem swp_size (d : Array E) (i j : Nat) : (swp d i j).size = d.size := by simp [swp]
open Go.Sort in
theorem St.put2 {s : Sl} {d d1 d2 : Array E} {H : Hp} (h : St s d H) (hz : d2.size = d.size) : St s d2 ((H.put s.b (s.blk d1)).put s.b (s.blk d2)) :=
 ⟨qah _ _ _, h.lt, hz.trans h.sz, El.ivK h.iv (((Fm.refl (fun b => b = s.b) H).put _ _ fun _ => rfl).put _ _ fun _ => rfl) fun b hb e => h.nh (e ▸ hb), h.nh⟩
theorem Fs.put2 {s : Sl} {d1 d2 : Array E} {H0 H : Hp} (h : Fs s H0 H) : Fs s H0 ((H.put s.b (s.blk d1)).put s.b (s.blk d2)) := (h.put _ _ fun _ => rfl).put _ _ fun _ => rfl
structure Cnt (E : Type) [El E] (s : Sl) (pb w : Nat) (H : Hp) : Prop where
 get : H.get pb = qac 0 [.int .i64 (.ofNat w)]
 lt : pb < H.nx
 ne : s.b ≠ pb
 nh : ¬ home (E := E) pb
abbrev Fp (pb : Nat) (H H' : Hp) : Prop := Fm (fun b => b = pb) H H'
theorem Fm.fp {pb : Nat} {H H' : Hp} (f : Fm No H H') : Fp pb H H' := f.mono fun _ _ h => h.elim
theorem Cnt.no {s : Sl} {pb w : Nat} {H H' : Hp} (h : Cnt E s pb w H) (f : Fm No H H') : Cnt E s pb w H' := ⟨(f.keep h.lt).trans h.get, Nat.lt_of_lt_of_le h.lt f.nx, h.ne, h.nh⟩
theorem St.fp {s : Sl} {d : Array E} {pb : Nat} {H H' : Hp} (h : St s d H) (f : Fp pb H H') (hne : s.b ≠ pb) (hn : ¬ home (E := E) pb) : St s d H' := ⟨(f.get _ h.lt hne).trans h.get, Nat.lt_of_lt_of_le h.lt f.nx, h.sz, El.ivK h.iv f fun b hb e => hn (e ▸ hb), h.nh⟩
def dn : Nat → AV
 | 0 => .int .i64 (.negSucc 0)
 | r + 1 => .int .i64 (.ofNat r)
theorem quq (i : Nat) (h : i < 900000) : intV (qaa .sub).f (.int .i64 (.ofNat i)) (.int .i64 (.ofNat 1)) = .val (dn i) := by
 cases i with
 | zero => rfl
 | succ i => rw [ze2 _ _ (by omega) (by omega)]; rfl
theorem zs {α : Type} (a : Array α) (i : Nat) (v : α) : (a.setIfInBounds i v).size = a.size := Array.size_setIfInBounds
theorem zw (a : Array E) (i j : Nat) : (Go.Sort.swp a i j).size = a.size := swp_size a i j
attribute [go_sem] Sl.idx Sl.rd Sl.wr stE zs zw zg3
end Go.Di
end
noncomputable section
/-
 How many bits a number has; the next random number.
-/
namespace Go.Di
open Go.Ev Go.Sort
variable {C : Nat → Ev.Call}
theorem zem (n : Nat) (h : n < 256) : qfx .u8 (.ofNat n) = .ofNat n := by
 show (bif Nat.blt n 256 then _ else _) = _
 rw [qie, decide_eq_true h]; rfl
theorem qt4 (n : Nat) (h : n < 18446744073709551616) : qfx .u64 (.ofNat n) = .ofNat n := by
 show (bif Nat.blt n 18446744073709551616 then _ else _) = _
 rw [qie, decide_eq_true h]; rfl
theorem zhc (k : IntKind) (n : Nat) (h : n < 256) : qig .u8 (.int k (.ofNat n)) = .val (.int .u8 (.ofNat n)) := congrArg (fun x => R0.val (.int .u8 x)) (zem n h)
theorem qh6 (k : IntKind) (n : Nat) (h : n < 18446744073709551616) : qig .u64 (.int k (.ofNat n)) = .val (.int .u64 (.ofNat n)) := congrArg (fun x => R0.val (.int .u64 x)) (qt4 n h)
theorem qx5 (k : IntKind) (n : Nat) (h : n < 9223372036854775808) : qig .i64 (.int k (.ofNat n)) = .val (.int .i64 (.ofNat n)) := congrArg (fun x => R0.val (.int .i64 x)) (qhg n h)
theorem q8e (n j : Nat) (k : IntKind) (h : j ≤ 64) : qfa (qcr .shr).f (.int .u64 (.ofNat n)) (.int k (.ofNat j)) = .val (.int .u64 (.ofNat (n / 2 ^ j))) := by
 show (bif ltI (.ofNat j) 0 then R0.bad else .val (.int .u64 ((Int.ofNat n).fdiv (2 ^ (min j 64))))) = _
 rw [qf4, Nat.min_eq_left h]
 have h0 : decide ((Int.ofNat j) < 0) = false := by simp
 rw [h0]
 show R0.val (.int .u64 ((Int.ofNat n).fdiv (2 ^ j))) = _
 congr 2
 have h2 : ((2 : Int) ^ j) = Int.ofNat (2 ^ j) := by simp
 rw [h2]
 show Int.fdiv (n : Int) ((2 ^ j : Nat) : Int) = ((n / 2 ^ j : Nat) : Int)
 rw [Int.fdiv_eq_ediv_of_nonneg _ (Int.natCast_nonneg _)]
 rfl
theorem shr_u (a : Int) (j : Nat) (k : IntKind) : qfa (qcr .shr).f (.int .u64 a) (.int k (.ofNat j)) = .val (.int .u64 (a.fdiv (2 ^ (min j 64)))) := by
 show (bif ltI (.ofNat j) 0 then R0.bad else .val (.int .u64 (a.fdiv (2 ^ (min j 64))))) = _
 rw [qf4]
 have h0 : decide ((Int.ofNat j) < 0) = false := by simp
 rw [h0]; rfl
theorem zhz (a : Int) (j : Nat) (k : IntKind) : qfa (qcr .shl).f (.int .u64 a) (.int k (.ofNat j)) = .val (.int .u64 (qfx .u64 (a * 2 ^ (min j 64)))) := by
 show (bif ltI (.ofNat j) 0 then R0.bad else .val (.int .u64 (qfx .u64 (a * 2 ^ (min j 64))))) = _
 rw [qf4]
 have h0 : decide ((Int.ofNat j) < 0) = false := by simp
 rw [h0]; rfl
def xorI (a b : Int) : Int := IntKind.u64.wrap (BitVec.ofInt IntKind.u64.bits a ^^^ BitVec.ofInt IntKind.u64.bits b).toNat
theorem xor_u (a b : Int) : intV (qaa .xor).f (.int .u64 a) (.int .u64 b) = .val (.int .u64 (xorI a b)) := id rfl
theorem q72 (a b : Nat) (h : b ≤ a) (h2 : a < 18446744073709551616) : intV (qaa .sub).f (.int .u64 (.ofNat a)) (.int .u64 (.ofNat b)) = .val (.int .u64 (.ofNat (a - b))) := by
 show R0.val (.int .u64 (qfx .u64 (Int.ofNat a - Int.ofNat b))) = _
 rw [show (Int.ofNat a - Int.ofNat b) = Int.ofNat (a - b) by simp only [Int.ofNat_eq_natCast]; omega, qt4 _ (by omega)]
theorem zca (a : Int) (b : Nat) (h : b < 18446744073709551616) : ∃ o, o ≤ b ∧ intV (qaa .and).f (.int .u64 a) (.int .u64 (.ofNat b)) = .val (.int .u64 (.ofNat o)) := by
 refine ⟨(BitVec.ofInt 64 a &&& BitVec.ofInt 64 (.ofNat b)).toNat, ?_, ?_⟩
 ·rw [BitVec.toNat_and]
  refine Nat.le_trans Nat.and_le_right ?_
  rw [BitVec.toNat_ofInt]
  simp only [Int.ofNat_eq_natCast]
  omega
 ·show R0.val (.int .u64 (IntKind.u64.wrap ((BitVec.ofInt 64 a &&& BitVec.ofInt 64 (.ofNat b)).toNat : Nat))) = _
  have hlt := (BitVec.ofInt 64 a &&& BitVec.ofInt 64 (.ofNat b)).isLt
  generalize (BitVec.ofInt 64 a &&& BitVec.ofInt 64 (.ofNat b)).toNat = o at hlt
  congr 2
  simp only [IntKind.wrap, IntKind.signed, IntKind.bits, Int.ofNat_eq_natCast, Bool.false_and, Bool.false_eq_true, if_false]
  omega
theorem qt3 (n k : Nat) (h : 2 ^ k ≤ n) : bitsLen n = k + bitsLen (n / 2 ^ k) := by
 have hp : 0 < 2 ^ k := Nat.two_pow_pos k
 have key : ∀ m, bitsLen n ≤ k + m ↔ bitsLen (n / 2 ^ k) ≤ m := fun m => by
  rw [bitsLen_le_iff, bitsLen_le_iff, Nat.div_lt_iff_lt_mul hp, Nat.pow_add, Nat.mul_comm]
 have hk : k ≤ bitsLen n := by
  rcases Nat.lt_or_ge (bitsLen n) k with h1 | h1
  ·exact absurd ((bitsLen_le_iff n k).1 (by omega)) (by omega)
  ·exact h1
 have h1 := (key (bitsLen (n / 2 ^ k))).2 (Nat.le_refl _)
 have h2 := (key (bitsLen n - k)).1 (by omega)
 omega
def tab8 : Nat := 1013866857139168856493015739252390649739422828853819106890363778118420553376247557433637691341895324351018602695588957474325319502760499485336098898398377509666851054660423406800006203933793007272033180812049178612605246075062580585469430410618860250057463399279570354286669047577758927328864388992123306212451509403152394148136105363817402562688186708175358218852349079190158732807302672745370040257219644697201681238697346923541678507645485296520536209706771857694240900605172937619415410180424934769249448772944216470541052485265558808433676546390051204254346932932316488017972311616136051587427851453983453479168
theorem zfu : ((List.range 256).all fun x => Nat.beq (qm3 tab8 x) (bitsLen x)) = true := by decide +kernel
theorem zgv (x : Nat) (h : x < 256) : qs7 (.str 256 1013866857139168856493015739252390649739422828853819106890363778118420553376247557433637691341895324351018602695588957474325319502760499485336098898398377509666851054660423406800006203933793007272033180812049178612605246075062580585469430410618860250057463399279570354286669047577758927328864388992123306212451509403152394148136105363817402562688186708175358218852349079190158732807302672745370040257219644697201681238697346923541678507645485296520536209706771857694240900605172937619415410180424934769249448772944216470541052485265558808433676546390051204254346932932316488017972311616136051587427851453983453479168) (.int .u8 (.ofNat x)) = .val (.int .u8 (.ofNat (bitsLen x))) := by
 show (bif Nat.blt x 256 then R0.val (.int .u8 (.ofNat (qm3 tab8 x))) else .bad) = _
 rw [qie, decide_eq_true h]
 have := List.all_eq_true.1 zfu x (List.mem_range.2 h)
 rw [Nat.eq_of_beq_eq_true this]; rfl
theorem bl8 (x : Nat) (h : x < 256) : bitsLen x ≤ 8 := (bitsLen_le_iff x 8).2 h
theorem zaa {call : Ev.Call} (x m : Nat) (h : x < 256) (hm : m < 1000) (H : Hp) : qgu call (.int .u64 (.ofNat x)) (.int .i64 (.ofNat m)) H = .ok (.int .i64 (.ofNat (m + bitsLen x))) H := by
 unfold qgu
 have h8 := bl8 x h
 simp only [zhc _ _ h, qly, zgv x h, qx5 .u8 (bitsLen x) (by omega), zfj m (bitsLen x) (by omega)]
theorem q99 {call : Ev.Call} (x m : Nat) (h : x < 65536) (hm : m < 900) (H : Hp) : qgt call (.int .u64 (.ofNat x)) (.int .i64 (.ofNat m)) H = .ok (.int .i64 (.ofNat (m + bitsLen x))) H := by
 unfold qgt
 by_cases h1 : 256 ≤ x
 ·simp (disch := first | omega | exact ti rfl) only [go_sem, reduceAdd, reduceLeDiff, h1, q8e]
  rw [zaa _ _ (by omega) (by omega), qt3 x 8 (by omega), Nat.add_assoc]
 ·simp (disch := first | omega | exact ti rfl) only [go_sem, reduceAdd, reduceLeDiff, h1]
  rw [zaa _ _ (by omega) (by omega)]
theorem zdp {call : Ev.Call} (x m : Nat) (h : x < 4294967296) (hm : m < 800) (H : Hp) : qfi call (.int .u64 (.ofNat x)) (.int .i64 (.ofNat m)) H = .ok (.int .i64 (.ofNat (m + bitsLen x))) H := by
 unfold qfi
 by_cases h1 : 65536 ≤ x
 ·simp (disch := first | omega | exact ti rfl) only [go_sem, reduceAdd, reduceLeDiff, h1, q8e]
  rw [q99 _ _ (by omega) (by omega), qt3 x 16 (by omega), Nat.add_assoc]
 ·simp (disch := first | omega | exact ti rfl) only [go_sem, reduceAdd, reduceLeDiff, h1]
  rw [q99 _ _ (by omega) (by omega)]
theorem q0w (hC : qby C) {k : Nat} (hk : 2 ≤ k) (x : Nat) (h : x < 4294967296) (H : Hp) : C k (.f qjz) [.int .u64 (.ofNat x)] H = .ok (.int .i64 (.ofNat (bitsLen x))) H := by
 obtain ⟨k, rfl⟩ : ∃ j, k = j + 2 := ⟨k - 2, by omega⟩
 rw [(hC (k + 1)).s_Len]
 unfold s_Len q1h
 simp (disch := first | omega | exact ti rfl) only [go_sem, reduceAdd, reduceLeDiff]
 unfold qwa
 rw [(hC k).s_Len64]
 unfold s_Len64 qrp
 have h1 : ¬ 4294967296 ≤ x := by omega
 simp (disch := first | omega | exact ti rfl) only [go_sem, reduceAdd, reduceLeDiff, h1]
 rw [zdp _ _ h (by omega)]
 simp (disch := first | omega | exact ti rfl) only [go_sem, reduceAdd, reduceLeDiff]
theorem q9v (hC : qby C) {k : Nat} (hk : 3 ≤ k) (x : Nat) (h : x < 900000) (H : Hp) : C k (.f qje) [.int .i64 (.ofNat x)] H = .ok (.int .u64 (.ofNat (2 ^ bitsLen x))) H := by
 obtain ⟨k, rfl⟩ : ∃ j, k = j + 3 := ⟨k - 3, by omega⟩
 rw [(hC (k + 2)).s_npow]
 unfold s_npow qv3
 have h20 : bitsLen x ≤ 20 := (bitsLen_le_iff x 20).2 (by omega)
 have e : qfx .u64 (Int.ofNat 1 * 2 ^ (min (bitsLen x) 64)) = .ofNat (2 ^ bitsLen x) := by
  rw [Nat.min_eq_left (by omega)]
  have h2 : Int.ofNat 1 * (2 : Int) ^ bitsLen x = Int.ofNat (2 ^ bitsLen x) := by simp
  rw [h2, qt4 _ (Nat.lt_of_le_of_lt (Nat.pow_le_pow_right (by omega) h20) (by omega))]
 simp only [qh6 .i64 x (by omega), qly, q0w hC (k := k + 2) (by omega) x (by omega), zhv, zhz, e]
theorem qun (hC : qby C) {k : Nat} (hk : 1 ≤ k) {rb : Nat} {w : Int} {H : Hp} (hg : H.get rb = qac 0 [.int .u64 w]) :
  ∃ w' H', C k (.f qer) [.ptr rb 0] H = .ok (.int .u64 w') H' ∧ H'.get rb = qac 0 [.int .u64 w'] ∧ Fp rb H H' ∧ H'.nx = H.nx := by
 obtain ⟨k, rfl⟩ : ∃ j, k = j + 1 := ⟨k - 1, by omega⟩
 rw [(hC k).s_xorNext]
 unfold s_xorNext qkk
 simp (disch := first | omega | exact ti rfl) only [go_sem, reduceAdd, reduceLeDiff, hg, zhz, shr_u, xor_u]
 exact ⟨_, _, rfl, qah _ _ _, (((Fm.refl (fun b => b = rb) H).put _ _ fun _ => rfl).put _ _ fun _ => rfl).put _ _ fun _ => rfl, rfl⟩
end Go.Di
end
noncomputable section
/-
 The sort: insertion.
-/
namespace Go.Di.F
open Go.Ev Go.Sort
variable {E : Type} [El E]
theorem qz8 {call : Ev.Call} {fc : FuncId} (hc : CmpE E call fc) {s : Sl} (hn : s.n < 900000) {a : Nat} {H0 : Hp} {q : Hp → R1} {Q : AV → Hp → Prop} :
  ∀ (k j : Nat) (d : Array E) (H : Hp), j < k → j < s.n → St s d H → Fs s H0 H → (∀ H', St s (insInner ltE a j d) H' → Fs s H0 H' → Ok (q H') Q) →
   Ok (qjs call q s.v (.int .i64 (.ofNat a)) (.fn fc [] []) k (.int .i64 (.ofNat j)) H) Q
 | 0, j, _, _, h, _, _, _, _ => by omega
 | k + 1, j, d, H, hk, hj, hS, hF, hq => by
  show Ok (qv7 call _ _ _ _ (qjs call _ _ _ _ k) _ H) Q
  unfold qv7
  have hsz := hS.sz
  have hg := hS.get
  by_cases h : a < j
  ·obtain ⟨p, rfl⟩ : ∃ p, j = p + 1 := ⟨j - 1, by omega⟩
   rw [insInner] at hq
   simp (disch := first | omega | (simp only [np, nq, zs, zw]; first | done | omega)) only [go_sem, reduceAdd, qab, lss0, qae, hg, h, Nat.add_sub_cancel]
   refine Ok.deO (hc _ _ _ hS.iv) ?_
   rintro v H' ⟨rfl, f'⟩
   have hS' := hS.no f'
   have hg' := hS'.get
   simp (disch := first | omega | (simp only [np, nq, zs, zw]; first | done | omega)) only [go_sem, reduceAdd, qab, lss0, qae, hg', Nat.add_sub_cancel]
   cases hl : ltE d[p + 1]! d[p]! with
   | false =>
    rw [hl] at hq
    simp (disch := first | omega | (simp only [np, nq, zs, zw]; first | done | omega)) only [go_sem, reduceAdd, qab, lss0, qae]
    exact hq H' (by simpa using hS') (hF.trans f'.fs)
   | true =>
    rw [hl] at hq
    unfold qrh
    simp (disch := first | omega | (simp only [np, nq, zs, zw]; first | done | omega)) only [go_sem, reduceAdd, qab, lss0, qae, hg', Nat.add_sub_cancel]
    unfold qv5
    simp (disch := first | omega | (simp only [np, nq, zs, zw]; first | done | omega)) only [go_sem, reduceAdd, qab, lss0, qae, Nat.add_sub_cancel]
    exact qz8 hc hn k p (swp d (p + 1) p) _ (by omega) (by omega) (hS'.put2 (swp_size _ _ _)) (Fs.put2 (hF.trans f'.fs)) (by simpa [h] using hq)
  ·simp (disch := first | omega | (simp only [np, nq, zs, zw]; first | done | omega)) only [go_sem, reduceAdd, qab, lss0, qae, h]
   refine hq H ?_ hF
   cases j with
   | zero => exact hS
   | succ j => rw [insInner]; simpa [show ¬ a < j + 1 from h] using hS
theorem qhx (lt : E → E → Bool) (a : Nat) : ∀ (j : Nat) (d : Array E), (insInner lt a j d).size = d.size
 | 0, d => rfl
 | j + 1, d => by
  rw [insInner]
  split
  ·rw [qhx lt a j, swp_size]
  ·rfl
theorem qs6 {call : Ev.Call} {fc : FuncId} (hc : CmpE E call fc) {s : Sl} (hn : s.n < 900000) {a b : Nat} (hb : b ≤ s.n) {H0 : Hp} {q : Hp → R1} {Q : AV → Hp → Prop} :
  ∀ (k i : Nat) (d : Array E) (H : Hp), b - i < k → i ≤ 900001 → St s d H → Fs s H0 H → (∀ H', St s (insOuter ltE a b i d) H' → Fs s H0 H' → Ok (q H') Q) →
   Ok (qdq call q s.v (.int .i64 (.ofNat a)) (.int .i64 (.ofNat b)) (.fn fc [] []) k (.int .i64 (.ofNat i)) H) Q
 | 0, i, _, _, h, _, _, _, _ => by omega
 | k + 1, i, d, H, hk, hi, hS, hF, hq => by
  show Ok (ql2 call _ _ _ _ _ (qdq call _ _ _ _ _ k) _ H) Q
  unfold ql2
  rw [insOuter] at hq
  by_cases h : i < b
  ·rw [if_pos h] at hq
   simp (disch := first | omega | (simp only [np, nq, zs, zw]; first | done | omega)) only [go_sem, reduceAdd, qab, lss0, qae, h]
   unfold qrg qv8
   rw [qam]
   refine qz8 hc hn qal i d H (by rw [qag]; omega) (by omega) hS hF fun H' hS' hF' => ?_
   unfold qhj
   simp (disch := first | omega | (simp only [np, nq, zs, zw]; first | done | omega)) only [go_sem, reduceAdd, qab, lss0, qae]
   exact qs6 hc hn hb k (i + 1) _ H' (by omega) (by omega) hS' hF' hq
  ·rw [if_neg h] at hq
   simp (disch := first | omega | (simp only [np, nq, zs, zw]; first | done | omega)) only [go_sem, reduceAdd, qab, lss0, qae, h]
   exact hq H hS hF
theorem zai {C : Nat → Ev.Call} (hC : qby C) {k : Nat} (hk : 1 ≤ k) {fc : FuncId} (hc : CmpE E (C (k - 1)) fc) {s : Sl} (hn : s.n < 900000) {a b : Nat} (ha : a ≤ b) (hb : b ≤ s.n) {d : Array E} {H : Hp} (hS : St s d H) :
  Ok (C k (.f qmq) [s.v, .int .i64 (.ofNat a), .int .i64 (.ofNat b), .fn fc [] []] H) fun r H' => r = .tup [] ∧ St s (insertionSort ltE d a b) H' ∧ Fs s H H' := by
 obtain ⟨j, rfl⟩ : ∃ j, k = j + 1 := ⟨k - 1, by omega⟩
 rw [(hC j).s_ins]
 unfold s_ins qv6
 simp (disch := first | omega | (simp only [np, nq, zs, zw]; first | done | omega)) only [go_sem, reduceAdd, qab, lss0, qae]
 unfold qp2
 rw [qam]
 exact qs6 hc hn hb qal (a + 1) d H (by rw [qag]; omega) (by omega) hS (Fm.refl _ _) fun H' hS' hF' => Ok.ret ⟨rfl, hS', hF'⟩
end Go.Di.F
end
noncomputable section
/-
 The sort: the pivot.
-/
namespace Go.Di.F
open Go.Ev Go.Sort
variable {C : Nat → Ev.Call} {E : Type} [El E]
theorem qk7 (hC : qby C) {k : Nat} (hk : 1 ≤ k) {fc : FuncId} (hc : CmpE E (C (k - 1)) fc) {s : Sl} {d : Array E} {pb w i j lo hi : Nat} {H : Hp} (hS : St s d H) (hp : Cnt E s pb w H) (hw : w < 900000)
  (hi1 : lo ≤ i ∧ i < hi) (hj1 : lo ≤ j ∧ j < hi) (hh : hi ≤ s.n) :
  Ok (C k (.f qg8) [s.v, .int .i64 (.ofNat i), .int .i64 (.ofNat j), .ptr pb 0, .fn fc [] []] H) fun r H' =>
   ∃ i' j' w', r = .tup [.int .i64 (.ofNat i'), .int .i64 (.ofNat j')] ∧ (lo ≤ i' ∧ i' < hi) ∧ (lo ≤ j' ∧ j' < hi) ∧ w' ≤ w + 1 ∧ St s d H' ∧ Cnt E s pb w' H' ∧ Fp pb H H' := by
 obtain ⟨k, rfl⟩ : ∃ j, k = j + 1 := ⟨k - 1, by omega⟩
 rw [(hC k).s_ord2]
 unfold s_ord2 qv2
 have hsz := hS.sz
 have hg := hS.get
 simp (disch := first | omega | (simp only [np, nq, zs, zw]; first | done | omega)) only [go_sem, reduceAdd, qab, lss0, qae, hg]
 refine Ok.deO (hc _ _ _ hS.iv) ?_
 rintro v H' ⟨rfl, f'⟩
 have hS' := hS.no f'
 have hp' := hp.no f'
 have hg' := hS'.get
 have hpg := hp'.get
 simp (disch := first | omega | (simp only [np, nq, zs, zw]; first | done | omega)) only [go_sem, reduceAdd, qab, lss0, qae, hg']
 cases hl : ltE d[j]! d[i]! with
 | true =>
  simp (disch := first | omega | (simp only [np, nq, zs, zw]; first | done | omega)) only [go_sem, reduceAdd, qab, lss0, qae, hpg]
  have fp : Fp pb H' (H'.put pb (qac 0 [.int .i64 (.ofNat (w + 1))])) := (Fm.refl _ _).put _ _ fun _ => rfl
  exact Ok.ret ⟨j, i, w + 1, rfl, hj1, hi1, Nat.le_refl _, hS'.fp fp hp.ne hp.nh, ⟨qah _ _ _, hp'.lt, hp.ne, hp.nh⟩, f'.fp.trans fp⟩
 | false =>
  simp (disch := first | omega | (simp only [np, nq, zs, zw]; first | done | omega)) only [go_sem, reduceAdd, qab, lss0, qae]
  unfold qrf
  exact Ok.ret ⟨i, j, w, rfl, hi1, hj1, Nat.le_succ _, hS', hp', f'.fp⟩
theorem qz3 (hC : qby C) {k : Nat} (hk : 2 ≤ k) {fc : FuncId} (hc : CmpE E (C (k - 2)) fc) {s : Sl} {d : Array E} {pb w a b c lo hi : Nat} {H : Hp} (hS : St s d H) (hp : Cnt E s pb w H) (hw : w < 900)
  (ha : lo ≤ a ∧ a < hi) (hb : lo ≤ b ∧ b < hi) (hc1 : lo ≤ c ∧ c < hi) (hh : hi ≤ s.n) :
  Ok (C k (.f qmp) [s.v, .int .i64 (.ofNat a), .int .i64 (.ofNat b), .int .i64 (.ofNat c), .ptr pb 0, .fn fc [] []] H) fun r H' =>
   ∃ i' w', r = .int .i64 (.ofNat i') ∧ (lo ≤ i' ∧ i' < hi) ∧ w' ≤ w + 3 ∧ St s d H' ∧ Cnt E s pb w' H' ∧ Fp pb H H' := by
 obtain ⟨k, rfl⟩ : ∃ j, k = j + 2 := ⟨k - 2, by omega⟩
 rw [(hC (k + 1)).s_med]
 unfold s_med q1e
 refine Ok.ve (qk7 hC (k := k + 1) (by omega) hc hS hp (by omega) ha hb hh) ?_
 rintro r H1 ⟨a1, b1, w1, rfl, ha1, hb1, hw1, hS1, hp1, f1⟩
 simp (disch := omega) only [go_sem, reduceAdd]
 refine Ok.ve (qk7 hC (k := k + 1) (by omega) hc hS1 hp1 (by omega) hb1 hc1 hh) ?_
 rintro r H2 ⟨b2, c2, w2, rfl, hb2, hc2, hw2, hS2, hp2, f2⟩
 simp (disch := omega) only [go_sem, reduceAdd]
 refine Ok.ve (qk7 hC (k := k + 1) (by omega) hc hS2 hp2 (by omega) ha1 hb2 hh) ?_
 rintro r H3 ⟨a3, b3, w3, rfl, ha3, hb3, hw3, hS3, hp3, f3⟩
 simp (disch := omega) only [go_sem, reduceAdd]
 exact Ok.ret ⟨b3, w3, rfl, hb3, by omega, hS3, hp3, (f1.trans f2).trans f3⟩
theorem qfp (hC : qby C) {k : Nat} (hk : 3 ≤ k) {fc : FuncId} (hc : CmpE E (C (k - 3)) fc) {s : Sl} (hn : s.n < 900000) {d : Array E} {pb w a lo hi : Nat} {H : Hp} (hS : St s d H) (hp : Cnt E s pb w H) (hw : w < 900)
  (ha : lo + 1 ≤ a ∧ a + 1 < hi) (hh : hi ≤ s.n) :
  Ok (C k (.f qee) [s.v, .int .i64 (.ofNat a), .ptr pb 0, .fn fc [] []] H) fun r H' =>
   ∃ i' w', r = .int .i64 (.ofNat i') ∧ (lo ≤ i' ∧ i' < hi) ∧ w' ≤ w + 3 ∧ St s d H' ∧ Cnt E s pb w' H' ∧ Fp pb H H' := by
 obtain ⟨k, rfl⟩ : ∃ j, k = j + 3 := ⟨k - 3, by omega⟩
 rw [(hC (k + 2)).s_medadj]
 unfold s_medadj qnt
 simp (disch := omega) only [go_sem, reduceAdd]
 refine Ok.ve (qz3 hC (k := k + 2) (by omega) hc hS hp hw (lo := lo) (hi := hi) ⟨by omega, by omega⟩ ⟨by omega, by omega⟩ ⟨by omega, by omega⟩ hh) ?_
 rintro r H1 ⟨a1, w1, rfl, ha1, hw1, hS1, hp1, f1⟩
 exact Ok.ret ⟨a1, w1, rfl, ha1, hw1, hS1, hp1, f1⟩
theorem qr2 {call : Ev.Call} {s : Sl} {d : Array E} {pb w i lo hi : Nat} {H0 H : Hp} (hS : St s d H) (hp : Cnt E s pb w H) (hi1 : lo ≤ i ∧ i < hi) (hF : Fm No H0 H) :
  Ok (qik call (.ptr pb 0) (.int .i64 (.ofNat i)) H) fun r H' => ∃ i' h, r = .tup [.int .i64 (.ofNat i'), .int .i64 (.ofNat h)] ∧ (lo ≤ i' ∧ i' < hi) ∧ h < 3 ∧ St s d H' ∧ Fm No H0 H' := by
 unfold qik
 have hg := hp.get
 by_cases h0 : w = 0
 ·simp (disch := omega) only [go_sem, reduceAdd, hg, h0]
  exact Ok.ret ⟨i, 1, rfl, hi1, by omega, hS, hF⟩
 ·by_cases h1 : w = 12
  ·simp (disch := omega) only [go_sem, reduceAdd, hg, h0, h1]
   exact Ok.ret ⟨i, 2, rfl, hi1, by omega, hS, hF⟩
  ·simp (disch := omega) only [go_sem, reduceAdd, hg, h0, h1]
   exact Ok.ret ⟨i, 0, rfl, hi1, by omega, hS, hF⟩
theorem q9l (hC : qby C) {k : Nat} (hk : 4 ≤ k) {fc : FuncId} (hc : CmpE E (C (k - 4)) fc) (hc2 : CmpE E (C (k - 3)) fc) {s : Sl} (hn : s.n < 900000) {d : Array E} {a b : Nat} {H : Hp} (hS : St s d H) (ha : a < b) (hb : b ≤ s.n) :
  Ok (C k (.f qqg) [s.v, .int .i64 (.ofNat a), .int .i64 (.ofNat b), .fn fc [] []] H) fun r H' =>
   ∃ i h, r = .tup [.int .i64 (.ofNat i), .int .i64 (.ofNat h)] ∧ (a ≤ i ∧ i < b) ∧ h < 3 ∧ St s d H' ∧ Fm No H H' := by
 obtain ⟨k, rfl⟩ : ∃ j, k = j + 4 := ⟨k - 4, by omega⟩
 rw [(hC (k + 3)).s_piv]
 unfold s_piv q08
 have fH : Fm No H (qau H (qac 0 [.int .i64 (.ofNat 0)])) := (Fm.refl _ _).push _
 have hS0 := hS.no fH
 have hp0 : Cnt E s H.nx 0 (qau H (qac 0 [.int .i64 (.ofNat 0)])) := ⟨qaq _ _, Nat.lt_succ_self _, Nat.ne_of_lt hS.lt, fun h => Nat.lt_irrefl _ (El.homeLt hS.iv h)⟩
 have back : ∀ {H'}, Fp H.nx (qau H (qac 0 [.int .i64 (.ofNat 0)])) H' → Fm No H H' := fun f => fH.then f fun c h1 h2 => by omega
 have fin : ∀ {i j m w : Nat} {H1 : Hp}, a ≤ i ∧ i < b → a ≤ j ∧ j < b → a ≤ m ∧ m < b → w < 900 → St s d H1 → Cnt E s H.nx w H1 → Fm No H H1 →
   Ok (qij (C (k + 3)) s.v (.fn fc [] []) (.ptr H.nx 0) (.int .i64 (.ofNat i)) (.int .i64 (.ofNat j)) (.int .i64 (.ofNat m)) H1) fun r H' =>
    ∃ i h, r = .tup [.int .i64 (.ofNat i), .int .i64 (.ofNat h)] ∧ (a ≤ i ∧ i < b) ∧ h < 3 ∧ St s d H' ∧ Fm No H H' := by
  intro i j m w H1 hi hj hm hw hS1 hp1 f1
  unfold qij
  refine Ok.ve (qz3 hC (k := k + 3) (by omega) hc2 hS1 hp1 hw hi hj hm hb) ?_
  rintro r H2 ⟨i2, w2, rfl, hi2, hw2, hS2, hp2, f2⟩
  exact qr2 hS2 hp2 hi2 (f1.then f2 fun c h1 h2 => by omega)
 by_cases h8 : 8 ≤ b - a
 ·by_cases h50 : 50 ≤ b - a
  ·simp (disch := omega) only [go_sem, reduceAdd, h8, h50]
   refine Ok.ve (qfp hC (k := k + 3) (by omega) hc hn hS0 hp0 (by omega) (lo := a) (hi := b) ⟨by omega, by omega⟩ hb) ?_
   rintro r H1 ⟨i1, w1, rfl, hi1, hw1, hS1, hp1, f1⟩
   refine Ok.ve (qfp hC (k := k + 3) (by omega) hc hn hS1 hp1 (by omega) (lo := a) (hi := b) ⟨by omega, by omega⟩ hb) ?_
   rintro r H2 ⟨i2, w2, rfl, hi2, hw2, hS2, hp2, f2⟩
   refine Ok.ve (qfp hC (k := k + 3) (by omega) hc hn hS2 hp2 (by omega) (lo := a) (hi := b) ⟨by omega, by omega⟩ hb) ?_
   rintro r H3 ⟨i3, w3, rfl, hi3, hw3, hS3, hp3, f3⟩
   exact fin hi1 hi2 hi3 (by omega) hS3 hp3 (back ((f1.trans f2).trans f3))
  ·simp (disch := omega) only [go_sem, reduceAdd, h8, h50]
   exact fin ⟨by omega, by omega⟩ ⟨by omega, by omega⟩ ⟨by omega, by omega⟩ (w := 0) (by omega) hS0 hp0 fH
 ·simp (disch := omega) only [go_sem, reduceAdd, h8]
  exact qr2 hS0 hp0 ⟨by omega, by omega⟩ fH
end Go.Di.F
end
noncomputable section
/-
 The sort: the heap.
-/
namespace Go.Di.F
open Go.Ev Go.Sort
variable {C : Nat → Ev.Call} {E : Type} [El E]
theorem qkj {call : Ev.Call} {fc : FuncId} (hc : CmpE E call fc) {s : Sl} (hn : s.n < 900000) {first root c : Nat} (h1 : first + root < s.n) (h2 : first + c < s.n) {d : Array E} {H0 H : Hp} {qr : Hp → R1} {g0 : AV → Hp → R1} {Q : AV → Hp → Prop}
  (hS : St s d H) (hF : Fs s H0 H) (hr : ltE d[first + root]! d[first + c]! = false → ∀ H', St s d H' → Fs s H0 H' → Ok (qr H') Q)
  (hg0 : ltE d[first + root]! d[first + c]! = true → ∀ H', St s (swp d (first + root) (first + c)) H' → Fs s H0 H' → Ok (g0 (.int .i64 (.ofNat c)) H') Q) :
  Ok (qgm call qr g0 s.v (.int .i64 (.ofNat first)) (.fn fc [] []) (.int .i64 (.ofNat root)) (.int .i64 (.ofNat c)) H) Q := by
 unfold qgm
 have hsz := hS.sz
 have hg := hS.get
 simp (disch := first | omega | (simp only [np, nq, zs, zw]; first | done | omega)) only [go_sem, reduceAdd, qab, lss0, qae, hg]
 refine Ok.deO (hc _ _ _ hS.iv) ?_
 rintro v H' ⟨rfl, f'⟩
 have hS' := hS.no f'
 have hg' := hS'.get
 simp (disch := first | omega | (simp only [np, nq, zs, zw]; first | done | omega)) only [go_sem, reduceAdd, qab, lss0, qae, hg']
 cases hl : ltE d[first + root]! d[first + c]! with
 | false =>
  simp (disch := first | omega | (simp only [np, nq, zs, zw]; first | done | omega)) only [go_sem, reduceAdd, qab, lss0, qae]
  exact hr hl H' hS' (hF.trans f'.fs)
 | true =>
  simp (disch := first | omega | (simp only [np, nq, zs, zw]; first | done | omega)) only [go_sem, reduceAdd, qab, lss0, qae]
  unfold qnf
  simp (disch := first | omega | (simp only [np, nq, zs, zw]; first | done | omega)) only [go_sem, reduceAdd, qab, lss0, qae, hg']
  exact hg0 hl _ (hS'.put2 (swp_size _ _ _)) (Fs.put2 (hF.trans f'.fs))
theorem qhh {call : Ev.Call} {fc : FuncId} (hc : CmpE E call fc) {s : Sl} (hn : s.n < 900000) {first hi : Nat} (hh : first + hi ≤ s.n) {H0 : Hp} {qe qr : Hp → R1} {Q : AV → Hp → Prop} :
  ∀ (k root : Nat) (d : Array E) (H : Hp), hi - root < k → root < 900000 → St s d H → Fs s H0 H →
   (∀ H', St s (siftDown ltE hi first root d) H' → Fs s H0 H' → Ok (qe H') Q) → (∀ H', St s (siftDown ltE hi first root d) H' → Fs s H0 H' → Ok (qr H') Q) →
   Ok (qfb call qe qr s.v (.int .i64 (.ofNat hi)) (.int .i64 (.ofNat first)) (.fn fc [] []) k (.int .i64 (.ofNat root)) H) Q
 | 0, _, _, _, h, _, _, _, _, _ => by omega
 | k + 1, root, d, H, hk, hr1, hS, hF, hqe, hqr => by
  show Ok (qq1 call _ _ _ _ _ _ (qfb call _ _ _ _ _ _ k) _ H) Q
  unfold qq1
  have hsz := hS.sz
  have hg := hS.get
  by_cases h : hi ≤ 2 * root + 1
  ·simp (disch := first | omega | (simp only [np, nq, zs, zw]; first | done | omega)) only [go_sem, reduceAdd, qab, lss0, qae, h]
   exact hqe H (by rw [siftDown]; simpa [h] using hS) hF
  ·simp (disch := first | omega | (simp only [np, nq, zs, zw]; first | done | omega)) only [go_sem, reduceAdd, qab, lss0, qae, h]
   unfold qne
   by_cases h2 : 2 * root + 1 + 1 < hi
   ·simp (disch := first | omega | (simp only [np, nq, zs, zw]; first | done | omega)) only [go_sem, reduceAdd, qab, lss0, qae, hg, h2]
    refine Ok.deO (hc _ _ _ hS.iv) ?_
    rintro v H' ⟨rfl, f'⟩
    have hS' := hS.no f'
    have hg' := hS'.get
    simp (disch := first | omega | (simp only [np, nq, zs, zw]; first | done | omega)) only [go_sem, reduceAdd, qab, lss0, qae, hg']
    have h3 : 2 * root + 2 < hi := h2
    cases hl : ltE d[first + (2 * root + 1)]! d[first + (2 * root + 1) + 1]! with
    | true =>
     simp (disch := first | omega | (simp only [np, nq, zs, zw]; first | done | omega)) only [go_sem, reduceAdd, qab, lss0, qae]
     refine qkj hc hn (c := 2 * root + 2) (by omega) (by omega) hS' (hF.trans f'.fs) (fun hl2 H2 hS2 hF2 => hqr H2 ?_ hF2) fun hl2 H2 hS2 hF2 => ?_
     ·rw [siftDown, dif_neg (by omega), if_pos (by rw [hl]; simp [h3]), if_pos (by rw [hl2]; rfl)]
      exact hS2
     ·have e : siftDown ltE hi first root d = siftDown ltE hi first (2 * root + 2) (swp d (first + root) (first + (2 * root + 2))) := by
       rw [siftDown, dif_neg (by omega), if_pos (by rw [hl]; simp [h3]), if_neg (by rw [hl2]; simp), dif_pos h3]
      rw [e] at hqe hqr
      exact qhh hc hn hh k (2 * root + 2) _ H2 (by omega) (by omega) hS2 hF2 hqe hqr
    | false =>
     simp (disch := first | omega | (simp only [np, nq, zs, zw]; first | done | omega)) only [go_sem, reduceAdd, qab, lss0, qae]
     refine qkj hc hn (c := 2 * root + 1) (by omega) (by omega) hS' (hF.trans f'.fs) (fun hl2 H2 hS2 hF2 => hqr H2 ?_ hF2) fun hl2 H2 hS2 hF2 => ?_
     ·rw [siftDown, dif_neg (by omega), if_neg (by rw [hl]; simp), if_pos (by rw [hl2]; rfl)]
      exact hS2
     ·have e : siftDown ltE hi first root d = siftDown ltE hi first (2 * root + 1) (swp d (first + root) (first + (2 * root + 1))) := by
       rw [siftDown, dif_neg (by omega), if_neg (by rw [hl]; simp), if_neg (by rw [hl2]; simp)]
      rw [e] at hqe hqr
      exact qhh hc hn hh k (2 * root + 1) _ H2 (by omega) (by omega) hS2 hF2 hqe hqr
   ·simp (disch := first | omega | (simp only [np, nq, zs, zw]; first | done | omega)) only [go_sem, reduceAdd, qab, lss0, qae, hg, h2]
    have hcond : ¬ ((decide (2 * root + 1 + 1 < hi) && ltE d[first + (2 * root + 1)]! d[first + (2 * root + 1) + 1]!) = true) := by simp [h2]
    refine qkj hc hn (c := 2 * root + 1) (by omega) (by omega) hS hF (fun hl2 H2 hS2 hF2 => hqr H2 ?_ hF2) fun hl2 H2 hS2 hF2 => ?_
    ·rw [siftDown, dif_neg (by omega), if_neg hcond, if_pos (by rw [hl2]; rfl)]
     exact hS2
    ·have e : siftDown ltE hi first root d = siftDown ltE hi first (2 * root + 1) (swp d (first + root) (first + (2 * root + 1))) := by
      rw [siftDown, dif_neg (by omega), if_neg hcond, if_neg (by rw [hl2]; simp)]
     rw [e] at hqe hqr
     exact qhh hc hn hh k (2 * root + 1) _ H2 (by omega) (by omega) hS2 hF2 hqe hqr
theorem qqy (hC : qby C) {k : Nat} (hk : 1 ≤ k) {fc : FuncId} (hc : CmpE E (C (k - 1)) fc) {s : Sl} (hn : s.n < 900000) {root hi first : Nat} (hh : first + hi ≤ s.n) (hr : root < 900000) {d : Array E} {H : Hp} (hS : St s d H) :
  Ok (C k (.f qjc) [s.v, .int .i64 (.ofNat root), .int .i64 (.ofNat hi), .int .i64 (.ofNat first), .fn fc [] []] H) fun r H' => r = .tup [] ∧ St s (siftDown ltE hi first root d) H' ∧ Fs s H H' := by
 obtain ⟨j, rfl⟩ : ∃ j, k = j + 1 := ⟨k - 1, by omega⟩
 rw [(hC j).s_sift]
 unfold s_sift qvw qq2
 rw [qam]
 exact qhh hc hn hh qal root d H (by rw [qag]; omega) hr hS (Fm.refl _ _) (fun H' hS' hF' => Ok.ret ⟨rfl, hS', hF'⟩) fun H' hS' hF' => Ok.ret ⟨rfl, hS', hF'⟩
theorem qhb (hC : qby C) {j : Nat} (hj : 1 ≤ j) {fc : FuncId} (hc : CmpE E (C (j - 1)) fc) {s : Sl} (hn : s.n < 900000) {first hi : Nat} (hh : first + hi ≤ s.n) {H0 : Hp} {q : Hp → R1} {Q : AV → Hp → Prop} :
  ∀ (k r : Nat) (d : Array E) (H : Hp), r < k → r < 900000 → St s d H → Fs s H0 H → (∀ H', St s (heapBuild ltE hi first r d) H' → Fs s H0 H' → Ok (q H') Q) →
   Ok (qd4 (C j) q s.v (.fn fc [] []) (.int .i64 (.ofNat first)) (.int .i64 (.ofNat hi)) k (dn r) H) Q
 | 0, _, _, _, h, _, _, _, _ => by omega
 | k + 1, 0, d, H, hk, hr, hS, hF, hq => by
  show Ok (qgs (C j) _ _ _ _ _ (qd4 (C j) _ _ _ _ _ k) _ H) Q
  unfold qgs
  simp (disch := omega) only [go_sem, reduceAdd, dn]
  exact hq H hS hF
 | k + 1, r + 1, d, H, hk, hr, hS, hF, hq => by
  show Ok (qgs (C j) _ _ _ _ _ (qd4 (C j) _ _ _ _ _ k) _ H) Q
  unfold qgs
  simp (disch := omega) only [go_sem, reduceAdd, dn, Nat.zero_le]
  unfold qnu
  refine Ok.ve (qqy hC hj hc hn hh (by omega) hS) ?_
  rintro v H' ⟨rfl, hS', hF'⟩
  unfold qnv
  have e := quq r (by omega)
  simp only [e, qly]
  exact qhb hC hj hc hn hh k r _ H' (by omega) (by omega) hS' (hF.trans hF') hq
theorem qmz (hC : qby C) {j : Nat} (hj : 1 ≤ j) {fc : FuncId} (hc : CmpE E (C (j - 1)) fc) {s : Sl} (hn : s.n < 900000) {first : Nat} {H0 : Hp} {q : Hp → R1} {Q : AV → Hp → Prop} :
  ∀ (k r : Nat) (d : Array E) (H : Hp), r < k → first + r ≤ s.n → St s d H → Fs s H0 H → (∀ H', St s (heapPop ltE first r d) H' → Fs s H0 H' → Ok (q H') Q) →
   Ok (qfh (C j) q s.v (.fn fc [] []) (.int .i64 (.ofNat first)) (.int .i64 (.ofNat 0)) k (dn r) H) Q
 | 0, _, _, _, h, _, _, _, _ => by omega
 | k + 1, 0, d, H, hk, hr, hS, hF, hq => by
  show Ok (qiq (C j) _ _ _ _ _ (qfh (C j) _ _ _ _ _ k) _ H) Q
  unfold qiq
  simp (disch := omega) only [go_sem, reduceAdd, dn]
  exact hq H hS hF
 | k + 1, r + 1, d, H, hk, hr, hS, hF, hq => by
  show Ok (qiq (C j) _ _ _ _ _ (qfh (C j) _ _ _ _ _ k) _ H) Q
  unfold qiq
  have hsz := hS.sz
  have hg := hS.get
  simp (disch := omega) only [go_sem, reduceAdd, dn, Nat.zero_le]
  unfold qnw
  simp (disch := first | omega | (simp only [np, nq, zs, zw]; first | done | omega)) only [go_sem, reduceAdd, qab, lss0, qae, hg]
  have hS1 := hS.put2 (d1 := d.setIfInBounds first d[first + r]!) (swp_size d first (first + r))
  refine Ok.ve (qqy hC hj hc hn (by omega) (by omega) hS1) ?_
  rintro v H' ⟨rfl, hS', hF'⟩
  unfold qri
  have e := quq r (by omega)
  simp only [e, qly]
  exact qmz hC hj hc hn k r _ H' (by omega) (by omega) hS' ((Fs.put2 hF).trans hF') hq
theorem q2o (hC : qby C) {k : Nat} (hk : 2 ≤ k) {fc : FuncId} (hc : CmpE E (C (k - 2)) fc) {s : Sl} (hn : s.n < 900000) {a b : Nat} (ha : a < b) (hb : b ≤ s.n) {d : Array E} {H : Hp} (hS : St s d H) :
  Ok (C k (.f qmr) [s.v, .int .i64 (.ofNat a), .int .i64 (.ofNat b), .fn fc [] []] H) fun r H' => r = .tup [] ∧ St s (heapSort ltE d a b) H' ∧ Fs s H H' := by
 obtain ⟨j, rfl⟩ : ∃ j, k = j + 2 := ⟨k - 2, by omega⟩
 rw [(hC (j + 1)).s_heap]
 unfold s_heap qv9 qnx
 rw [qam]
 have e1 : (b - a - 1) / 2 < 900000 := by omega
 simp (disch := omega) only [go_sem, reduceAdd]
 refine qhb hC (j := j + 1) (by omega) hc hn (by omega) qal ((b - a - 1) / 2 + 1) d H (by rw [qag]; omega) (by omega) hS (Fm.refl _ _) fun H' hS' hF' => ?_
 unfold qd5 qrj
 rw [qam]
 have e := quq (b - a) (by omega)
 simp only [e, qly]
 exact qmz hC (j := j + 1) (by omega) hc hn qal (b - a) _ H' (by rw [qag]; omega) (by omega) hS' hF' fun H2 hS2 hF2 => Ok.ret ⟨rfl, hS2, hF2⟩
end Go.Di.F
end
noncomputable section
/-
 The sort: turning round, and insertion of a few.
-/
namespace Go.Di.F
open Go.Ev Go.Sort
variable {C : Nat → Ev.Call} {E : Type} [El E]
theorem qzl {call : Ev.Call} {s : Sl} (hn : s.n < 900000) {H0 : Hp} {q : Hp → R1} {Q : AV → Hp → Prop} :
  ∀ (k i j : Nat) (d : Array E) (H : Hp), j - i < k → i < 900000 → j < s.n → St s d H → Fs s H0 H → (∀ H', St s (reverseLoop i j d) H' → Fs s H0 H' → Ok (q H') Q) →
   Ok (qlz call q s.v k (.int .i64 (.ofNat i)) (.int .i64 (.ofNat j)) H) Q
 | 0, _, _, _, _, h, _, _, _, _, _ => by omega
 | k + 1, i, j, d, H, hk, hi, hj, hS, hF, hq => by
  show Ok (qvx call _ _ (qlz call _ _ k) _ _ H) Q
  unfold qvx
  have hsz := hS.sz
  have hg := hS.get
  rw [reverseLoop] at hq
  by_cases h : i < j
  ·rw [if_pos h] at hq
   simp (disch := first | omega | (simp only [np, nq, zs, zw]; first | done | omega)) only [go_sem, reduceAdd, qab, lss0, qae, h]
   unfold qq3
   simp (disch := first | omega | (simp only [np, nq, zs, zw]; first | done | omega)) only [go_sem, reduceAdd, qab, lss0, qae, hg]
   exact qzl hn k (i + 1) (j - 1) _ _ (by omega) (by omega) (by omega) (hS.put2 (swp_size _ _ _)) (Fs.put2 hF) hq
  ·rw [if_neg h] at hq
   simp (disch := first | omega | (simp only [np, nq, zs, zw]; first | done | omega)) only [go_sem, reduceAdd, qab, lss0, qae, h]
   exact hq H hS hF
theorem q8z (hC : qby C) {k : Nat} (hk : 1 ≤ k) {s : Sl} (hn : s.n < 900000) {a b : Nat} (ha : a < b) (hb : b ≤ s.n) {d : Array E} {H : Hp} (hS : St s d H) (c : AV) :
  Ok (C k (.f qqf) [s.v, .int .i64 (.ofNat a), .int .i64 (.ofNat b), c] H) fun r H' => r = .tup [] ∧ St s (reverseRange d a b) H' ∧ Fs s H H' := by
 obtain ⟨j, rfl⟩ : ∃ j, k = j + 1 := ⟨k - 1, by omega⟩
 rw [(hC j).s_rev]
 unfold s_rev q07 qvy
 rw [qam]
 simp (disch := omega) only [go_sem, reduceAdd]
 exact qzl hn qal a (b - 1) d H (by rw [qag]; omega) (by omega) (by omega) hS (Fm.refl _ _) fun H' hS' hF' => Ok.ret ⟨rfl, hS', hF'⟩
theorem qiv {call : Ev.Call} {fc : FuncId} (hc : CmpE E call fc) {s : Sl} (hn : s.n < 900000) {b : Nat} (hb : b ≤ s.n) {d : Array E} {H0 : Hp} {q : AV → Hp → R1} {Q : AV → Hp → Prop} :
  ∀ (k i : Nat) (H : Hp), b - i < k → 1 ≤ i → i ≤ b → St s d H → Fs s H0 H → (∀ i' H', i ≤ i' → i' ≤ b → scanSorted ltE d b i = i' → St s d H' → Fs s H0 H' → Ok (q (.int .i64 (.ofNat i')) H') Q) →
   Ok (qfc call q s.v (.int .i64 (.ofNat b)) (.fn fc [] []) k (.int .i64 (.ofNat i)) H) Q
 | 0, _, _, h, _, _, _, _, _ => by omega
 | k + 1, i, H, hk, h1, hib, hS, hF, hq => by
  show Ok (qkq call _ _ _ _ (qfc call _ _ _ _ k) _ H) Q
  unfold qkq
  have hsz := hS.sz
  have hg := hS.get
  rw [scanSorted] at hq
  by_cases h : i < b
  ·simp (disch := first | omega | (simp only [np, nq, zs, zw]; first | done | omega)) only [go_sem, reduceAdd, qab, lss0, qae, hg, h]
   refine Ok.deO (hc _ _ _ hS.iv) ?_
   rintro v H' ⟨rfl, f'⟩
   have hS' := hS.no f'
   have hg' := hS'.get
   simp (disch := first | omega | (simp only [np, nq, zs, zw]; first | done | omega)) only [go_sem, reduceAdd, qab, lss0, qae, hg']
   cases hl : ltE d[i]! d[i - 1]! with
   | true =>
    rw [hl] at hq
    simp (disch := first | omega | (simp only [np, nq, zs, zw]; first | done | omega)) only [go_sem, reduceAdd, qab, lss0, qae]
    exact hq i H' (Nat.le_refl _) hib (by simp) hS' (hF.trans f'.fs)
   | false =>
    rw [hl] at hq
    simp (disch := first | omega | (simp only [np, nq, zs, zw]; first | done | omega)) only [go_sem, reduceAdd, qab, lss0, qae]
    unfold qkm
    simp (disch := first | omega | (simp only [np, nq, zs, zw]; first | done | omega)) only [go_sem, reduceAdd, qab, lss0, qae]
    exact qiv hc hn hb k (i + 1) H' (by omega) (by omega) (by omega) hS' (hF.trans f'.fs) fun i' H2 h2 h3 h4 => hq i' H2 (by omega) h3 (by simpa [h] using h4)
  ·simp (disch := first | omega | (simp only [np, nq, zs, zw]; first | done | omega)) only [go_sem, reduceAdd, qab, lss0, qae, h]
   exact hq i H (Nat.le_refl _) hib (by simp [h]) hS hF
theorem qiw {call : Ev.Call} {fc : FuncId} (hc : CmpE E call fc) {s : Sl} (hn : s.n < 900000) {H0 : Hp} {q : Hp → R1} {Q : AV → Hp → Prop} :
  ∀ (k j : Nat) (d : Array E) (H : Hp), j < k → j < s.n → St s d H → Fs s H0 H → (∀ H', St s (shiftDown ltE j d) H' → Fs s H0 H' → Ok (q H') Q) →
   Ok (qdm call q s.v (.fn fc [] []) k (.int .i64 (.ofNat j)) H) Q
 | 0, _, _, _, h, _, _, _, _ => by omega
 | k + 1, 0, d, H, hk, hj, hS, hF, hq => by
  show Ok (qgn call _ _ _ (qdm call _ _ _ k) _ H) Q
  unfold qgn
  simp (disch := omega) only [go_sem, reduceAdd, Nat.not_succ_le_zero]
  exact hq H hS hF
 | k + 1, j + 1, d, H, hk, hj, hS, hF, hq => by
  show Ok (qgn call _ _ _ (qdm call _ _ _ k) _ H) Q
  unfold qgn
  have hsz := hS.sz
  have hg := hS.get
  have h1 : 1 ≤ j + 1 := by omega
  rw [shiftDown] at hq
  simp (disch := first | omega | (simp only [np, nq, zs, zw]; first | done | omega)) only [go_sem, reduceAdd, qab, lss0, qae, h1]
  unfold qkp
  simp (disch := first | omega | (simp only [np, nq, zs, zw]; first | done | omega)) only [go_sem, reduceAdd, qab, lss0, qae, hg, Nat.add_sub_cancel]
  refine Ok.deO (hc _ _ _ hS.iv) ?_
  rintro v H' ⟨rfl, f'⟩
  have hS' := hS.no f'
  have hg' := hS'.get
  simp (disch := first | omega | (simp only [np, nq, zs, zw]; first | done | omega)) only [go_sem, reduceAdd, qab, lss0, qae, hg', Nat.add_sub_cancel]
  cases hl : ltE d[j + 1]! d[j]! with
  | false =>
   rw [hl] at hq
   simp (disch := first | omega | (simp only [np, nq, zs, zw]; first | done | omega)) only [go_sem, reduceAdd, qab, lss0, qae]
   exact hq H' (by simpa using hS') (hF.trans f'.fs)
  | true =>
   rw [hl] at hq
   simp (disch := first | omega | (simp only [np, nq, zs, zw]; first | done | omega)) only [go_sem, reduceAdd, qab, lss0, qae]
   unfold qng
   simp (disch := first | omega | (simp only [np, nq, zs, zw]; first | done | omega)) only [go_sem, reduceAdd, qab, lss0, qae, hg', Nat.add_sub_cancel]
   unfold qnh
   simp (disch := first | omega | (simp only [np, nq, zs, zw]; first | done | omega)) only [go_sem, reduceAdd, qab, lss0, qae, Nat.add_sub_cancel]
   exact qiw hc hn k j (swp d (j + 1) j) _ (by omega) (by omega) (hS'.put2 (swp_size _ _ _)) (Fs.put2 (hF.trans f'.fs)) (by simpa using hq)
theorem qr3 {call : Ev.Call} {fc : FuncId} (hc : CmpE E call fc) {s : Sl} (hn : s.n < 900000) {b : Nat} (hb : b ≤ s.n) {H0 : Hp} {q : Hp → R1} {Q : AV → Hp → Prop} :
  ∀ (k j : Nat) (d : Array E) (H : Hp), b - j < k → 1 ≤ j → j < 900000 → St s d H → Fs s H0 H → (∀ H', St s (shiftUp ltE b j d) H' → Fs s H0 H' → Ok (q H') Q) →
   Ok (qdy call q s.v (.int .i64 (.ofNat b)) (.fn fc [] []) k (.int .i64 (.ofNat j)) H) Q
 | 0, _, _, _, h, _, _, _, _, _ => by omega
 | k + 1, j, d, H, hk, h1, h2, hS, hF, hq => by
  show Ok (qnl call _ _ _ _ (qdy call _ _ _ _ k) _ H) Q
  unfold qnl
  have hsz := hS.sz
  have hg := hS.get
  rw [shiftUp] at hq
  by_cases h : j < b
  ·rw [if_pos h] at hq
   simp (disch := first | omega | (simp only [np, nq, zs, zw]; first | done | omega)) only [go_sem, reduceAdd, qab, lss0, qae, h]
   unfold qni
   simp (disch := first | omega | (simp only [np, nq, zs, zw]; first | done | omega)) only [go_sem, reduceAdd, qab, lss0, qae, hg]
   refine Ok.deO (hc _ _ _ hS.iv) ?_
   rintro v H' ⟨rfl, f'⟩
   have hS' := hS.no f'
   have hg' := hS'.get
   simp (disch := first | omega | (simp only [np, nq, zs, zw]; first | done | omega)) only [go_sem, reduceAdd, qab, lss0, qae, hg']
   cases hl : ltE d[j]! d[j - 1]! with
   | false =>
    rw [hl] at hq
    simp (disch := first | omega | (simp only [np, nq, zs, zw]; first | done | omega)) only [go_sem, reduceAdd, qab, lss0, qae]
    exact hq H' (by simpa using hS') (hF.trans f'.fs)
   | true =>
    rw [hl] at hq
    simp (disch := first | omega | (simp only [np, nq, zs, zw]; first | done | omega)) only [go_sem, reduceAdd, qab, lss0, qae]
    unfold qnj
    simp (disch := first | omega | (simp only [np, nq, zs, zw]; first | done | omega)) only [go_sem, reduceAdd, qab, lss0, qae, hg']
    unfold qnk
    simp (disch := first | omega | (simp only [np, nq, zs, zw]; first | done | omega)) only [go_sem, reduceAdd, qab, lss0, qae]
    exact qr3 hc hn hb k (j + 1) (swp d j (j - 1)) _ (by omega) (by omega) (by omega) (hS'.put2 (swp_size _ _ _)) (Fs.put2 (hF.trans f'.fs)) (by simpa using hq)
  ·rw [if_neg h] at hq
   simp (disch := first | omega | (simp only [np, nq, zs, zw]; first | done | omega)) only [go_sem, reduceAdd, qab, lss0, qae, h]
   exact hq H hS hF
theorem qr4 {call : Ev.Call} {fc : FuncId} (hc : CmpE E call fc) {s : Sl} (hn : s.n < 900000) {a b : Nat} (hb : b ≤ s.n) {H0 : Hp} {qr : AV → Hp → R1} {qe : Hp → R1} {Q : AV → Hp → Prop} :
  ∀ (k st i : Nat) (d : Array E) (H : Hp), st < k → st ≤ 5 → a + 1 ≤ i → i ≤ b → St s d H → Fs s H0 H →
   (∀ r d' H', partialIns ltE a b st i d = (d', r) → St s d' H' → Fs s H0 H' → Ok (qr (.bool r) H') Q) → (∀ d' H', partialIns ltE a b st i d = (d', false) → St s d' H' → Fs s H0 H' → Ok (qe H') Q) →
   Ok (qa1 call qr qe s.v (.int .i64 (.ofNat a)) (.int .i64 (.ofNat b)) (.fn fc [] []) k (.int .i64 (.ofNat i)) (.int .i64 (.ofNat (5 - st))) H) Q
 | 0, _, _, _, _, h, _, _, _, _, _, _, _ => by omega
 | k + 1, 0, i, d, H, hk, h5, hi, hib, hS, hF, hqr, hqe => by
  show Ok (qil call _ _ _ _ _ _ (qa1 call _ _ _ _ _ _ k) _ _ H) Q
  unfold qil
  simp (disch := omega) only [go_sem, reduceAdd, show ¬ (5 < 5) by omega]
  exact hqe d H (by rw [partialIns]) hS hF
 | k + 1, st + 1, i, d, H, hk, h5, hi, hib, hS, hF, hqr, hqe => by
  show Ok (qil call _ _ _ _ _ _ (qa1 call _ _ _ _ _ _ k) _ _ H) Q
  unfold qil
  rw [partialIns] at hqr hqe
  have h50 : 5 - (st + 1) < 5 := by omega
  simp (disch := omega) only [go_sem, reduceAdd, h50]
  unfold qkl qkr
  rw [qam]
  refine qiv hc hn hb qal i H (by rw [qag]; omega) (by omega) hib hS hF fun i' H1 h1 h2 h3 hS1 hF1 => ?_
  simp only [h3] at hqr hqe
  unfold qdz
  by_cases hb1 : i' = b
  ·simp (disch := omega) only [go_sem, reduceAdd, hb1]
   exact hqr true d H1 (by simp [hb1]) hS1 hF1
  ·simp (disch := omega) only [go_sem, reduceAdd, hb1]
   unfold qkn
   by_cases hb2 : b - a < 50
   ·simp (disch := omega) only [go_sem, reduceAdd, hb2]
    exact hqr false d H1 (by simp [hb1, hb2]) hS1 hF1
   ·simp (disch := omega) only [go_sem, reduceAdd, hb2]
    simp only [if_neg hb1, if_neg hb2] at hqr hqe
    unfold qko
    have hsz := hS1.sz
    have hg := hS1.get
    simp (disch := first | omega | (simp only [np, nq, zs, zw]; first | done | omega)) only [go_sem, reduceAdd, qab, lss0, qae, hg]
    have hS2 := hS1.put2 (d1 := d.setIfInBounds i' d[i' - 1]!) (swp_size d i' (i' - 1))
    have hF2 := Fs.put2 (d1 := d.setIfInBounds i' d[i' - 1]!) (d2 := swp d i' (i' - 1)) hF1
    have last : ∀ {d2 : Array E} {H2 : Hp}, St s d2 H2 → Fs s H0 H2 → (if b - i' ≥ 2 then shiftUp ltE b (i' + 1) (if i' - a ≥ 2 then shiftDown ltE (i' - 1) (swp d i' (i' - 1)) else swp d i' (i' - 1)) else (if i' - a ≥ 2 then shiftDown ltE (i' - 1) (swp d i' (i' - 1)) else swp d i' (i' - 1))) = d2 →
      Ok (qc7 call (qa1 call qr qe s.v (.int .i64 (.ofNat a)) (.int .i64 (.ofNat b)) (.fn fc [] []) k) (.int .i64 (.ofNat i')) (.int .i64 (.ofNat (5 - (st + 1)))) H2) Q := by
     intro d2 H2 hS2 hF2 e
     unfold qc7
     have e5 : 5 - (st + 1) + 1 = 5 - st := by omega
     simp (disch := omega) only [go_sem, reduceAdd, e5]
     subst e
     exact qr4 hc hn hb k st i' _ H2 (by omega) (by omega) (by omega) h2 hS2 hF2 hqr hqe
    have mid : ∀ {d2 : Array E} {H2 : Hp}, St s d2 H2 → Fs s H0 H2 → (if i' - a ≥ 2 then shiftDown ltE (i' - 1) (swp d i' (i' - 1)) else swp d i' (i' - 1)) = d2 →
      Ok (qci call (qa1 call qr qe s.v (.int .i64 (.ofNat a)) (.int .i64 (.ofNat b)) (.fn fc [] []) k) s.v (.int .i64 (.ofNat b)) (.fn fc [] []) (.int .i64 (.ofNat i')) (.int .i64 (.ofNat (5 - (st + 1)))) H2) Q := by
     intro d2 H2 hS2 hF2 e
     unfold qci
     rw [e] at last
     by_cases h3 : 2 ≤ b - i'
     ·simp (disch := omega) only [go_sem, reduceAdd, h3]
      unfold qnn
      rw [qam]
      exact qr3 hc hn hb qal (i' + 1) _ H2 (by rw [qag]; omega) (by omega) (by omega) hS2 hF2 fun H3 hS3 hF3 => last hS3 hF3 (by simp [h3])
     ·simp (disch := omega) only [go_sem, reduceAdd, h3]
      exact last hS2 hF2 (by simp [h3])
    by_cases h3 : 2 ≤ i' - a
    ·simp (disch := omega) only [go_sem, reduceAdd, h3]
     unfold qnm
     rw [qam]
     exact qiw hc hn qal (i' - 1) _ _ (by rw [qag]; omega) (by omega) hS2 hF2 fun H3 hS3 hF3 => mid hS3 hF3 (by simp [h3])
    ·simp (disch := omega) only [go_sem, reduceAdd, h3]
     exact mid hS2 hF2 (by simp [h3, swp])
theorem q12 (hC : qby C) {k : Nat} (hk : 1 ≤ k) {fc : FuncId} (hc : CmpE E (C (k - 1)) fc) {s : Sl} (hn : s.n < 900000) {a b : Nat} (ha : a < b) (hb : b ≤ s.n) {d : Array E} {H : Hp} (hS : St s d H) :
  Ok (C k (.f qjd) [s.v, .int .i64 (.ofNat a), .int .i64 (.ofNat b), .fn fc [] []] H) fun r H' => r = .bool (partialInsertionSort ltE d a b).2 ∧ St s (partialInsertionSort ltE d a b).1 H' ∧ Fs s H H' := by
 obtain ⟨j, rfl⟩ : ∃ j, k = j + 1 := ⟨k - 1, by omega⟩
 rw [(hC j).s_pins]
 unfold s_pins qvz qq4
 rw [qam]
 simp (disch := omega) only [go_sem, reduceAdd]
 refine qr4 hc hn hb qal 5 (a + 1) d H (by rw [qag]; omega) (by omega) (by omega) (by omega) hS (Fm.refl _ _) (fun r d' H' e hS' hF' => ?_) fun d' H' e hS' hF' => ?_
 ·have e' : partialInsertionSort ltE d a b = (d', r) := e
  rw [e']
  exact Ok.ret ⟨rfl, hS', hF'⟩
 ·have e' : partialInsertionSort ltE d a b = (d', false) := e
  rw [e']
  unfold qbe
  exact Ok.ret ⟨rfl, hS', hF'⟩
end Go.Di.F
end
noncomputable section
/-
 The sort: the scans.
-/
namespace Go.Di.F
open Go.Ev Go.Sort
variable {C : Nat → Ev.Call} {E : Type} [El E]
theorem qmd {call : Ev.Call} {fc : FuncId} (hc : CmpE E call fc) {s : Sl} (hn : s.n < 900000) {a j : Nat} (ha : a < s.n) (hj : j < s.n) {d : Array E} {H0 : Hp} {q : AV → Hp → R1} {Q : AV → Hp → Prop} :
  ∀ (k i : Nat) (H : Hp), j + 1 - i < k → i ≤ 900001 → St s d H → Fs s H0 H → (∀ i' H', i ≤ i' → (i ≤ j → i' ≤ j + 1) → (j < i → i' = i) → scanUp (fun x => ltE x d[a]!) d j i = i' → St s d H' → Fs s H0 H' → Ok (q (.int .i64 (.ofNat i')) H') Q) →
   Ok (qfe call q s.v (.int .i64 (.ofNat a)) (.fn fc [] []) (.int .i64 (.ofNat j)) k (.int .i64 (.ofNat i)) H) Q
 | 0, _, _, h, _, _, _, _ => by omega
 | k + 1, i, H, hk, hi, hS, hF, hq => by
  show Ok (qkw call _ _ _ _ _ (qfe call _ _ _ _ _ k) _ H) Q
  unfold qkw
  have hsz := hS.sz
  have hg := hS.get
  rw [scanUp] at hq
  by_cases h : i ≤ j
  ·simp (disch := first | omega | (simp only [np, nq, zs, zw]; first | done | omega)) only [go_sem, reduceAdd, qab, lss0, qae, hg, h]
   refine Ok.deO (hc _ _ _ hS.iv) ?_
   rintro v H' ⟨rfl, f'⟩
   have hS' := hS.no f'
   have hg' := hS'.get
   simp (disch := first | omega | (simp only [np, nq, zs, zw]; first | done | omega)) only [go_sem, reduceAdd, qab, lss0, qae, hg']
   cases hl : ltE d[i]! d[a]! with
   | false =>
    simp (disch := first | omega | (simp only [np, nq, zs, zw]; first | done | omega)) only [go_sem, reduceAdd, qab, lss0, qae]
    exact hq i H' (Nat.le_refl _) (fun _ => by omega) (fun _ => rfl) (by simp [hl]) hS' (hF.trans f'.fs)
   | true =>
    simp (disch := first | omega | (simp only [np, nq, zs, zw]; first | done | omega)) only [go_sem, reduceAdd, qab, lss0, qae]
    unfold qks
    simp (disch := first | omega | (simp only [np, nq, zs, zw]; first | done | omega)) only [go_sem, reduceAdd, qab, lss0, qae]
    exact qmd hc hn ha hj k (i + 1) H' (by omega) (by omega) hS' (hF.trans f'.fs) fun i' H2 h1 h2 h3 h4 => hq i' H2 (by omega) (fun _ => by by_cases hij : i + 1 ≤ j; exact h2 hij; have := h3 (by omega); omega) (fun _ => by omega) (by simpa [h, hl] using h4)
  ·simp (disch := first | omega | (simp only [np, nq, zs, zw]; first | done | omega)) only [go_sem, reduceAdd, qab, lss0, qae, h]
   exact hq i H (Nat.le_refl _) (fun hh => absurd hh h) (fun _ => rfl) (by simp [h]) hS hF
theorem qmc {call : Ev.Call} {fc : FuncId} (hc : CmpE E call fc) {s : Sl} (hn : s.n < 900000) {a j : Nat} (ha : a < s.n) (hj : j < s.n) {d : Array E} {H0 : Hp} {q : AV → Hp → R1} {Q : AV → Hp → Prop} :
  ∀ (k i : Nat) (H : Hp), j + 1 - i < k → i ≤ 900001 → St s d H → Fs s H0 H → (∀ i' H', i ≤ i' → (i ≤ j → i' ≤ j + 1) → (j < i → i' = i) → scanUp (fun x => ltE x d[a]!) d j i = i' → St s d H' → Fs s H0 H' → Ok (q (.int .i64 (.ofNat i')) H') Q) →
   Ok (qff call q s.v (.int .i64 (.ofNat a)) (.fn fc [] []) (.int .i64 (.ofNat j)) k (.int .i64 (.ofNat i)) H) Q
 | 0, _, _, h, _, _, _, _ => by omega
 | k + 1, i, H, hk, hi, hS, hF, hq => by
  show Ok (qkx call _ _ _ _ _ (qff call _ _ _ _ _ k) _ H) Q
  unfold qkx
  have hsz := hS.sz
  have hg := hS.get
  rw [scanUp] at hq
  by_cases h : i ≤ j
  ·simp (disch := first | omega | (simp only [np, nq, zs, zw]; first | done | omega)) only [go_sem, reduceAdd, qab, lss0, qae, hg, h]
   refine Ok.deO (hc _ _ _ hS.iv) ?_
   rintro v H' ⟨rfl, f'⟩
   have hS' := hS.no f'
   have hg' := hS'.get
   simp (disch := first | omega | (simp only [np, nq, zs, zw]; first | done | omega)) only [go_sem, reduceAdd, qab, lss0, qae, hg']
   cases hl : ltE d[i]! d[a]! with
   | false =>
    simp (disch := first | omega | (simp only [np, nq, zs, zw]; first | done | omega)) only [go_sem, reduceAdd, qab, lss0, qae]
    exact hq i H' (Nat.le_refl _) (fun _ => by omega) (fun _ => rfl) (by simp [hl]) hS' (hF.trans f'.fs)
   | true =>
    simp (disch := first | omega | (simp only [np, nq, zs, zw]; first | done | omega)) only [go_sem, reduceAdd, qab, lss0, qae]
    unfold qkv
    simp (disch := first | omega | (simp only [np, nq, zs, zw]; first | done | omega)) only [go_sem, reduceAdd, qab, lss0, qae]
    exact qmc hc hn ha hj k (i + 1) H' (by omega) (by omega) hS' (hF.trans f'.fs) fun i' H2 h1 h2 h3 h4 => hq i' H2 (by omega) (fun _ => by by_cases hij : i + 1 ≤ j; exact h2 hij; have := h3 (by omega); omega) (fun _ => by omega) (by simpa [h, hl] using h4)
  ·simp (disch := first | omega | (simp only [np, nq, zs, zw]; first | done | omega)) only [go_sem, reduceAdd, qab, lss0, qae, h]
   exact hq i H (Nat.le_refl _) (fun hh => absurd hh h) (fun _ => rfl) (by simp [h]) hS hF
theorem qzt {call : Ev.Call} {fc : FuncId} (hc : CmpE E call fc) {s : Sl} (hn : s.n < 900000) {a j : Nat} (ha : a < s.n) (hj : j < s.n) {d : Array E} {H0 : Hp} {q : AV → Hp → R1} {Q : AV → Hp → Prop} :
  ∀ (k i : Nat) (H : Hp), j + 1 - i < k → i ≤ 900001 → St s d H → Fs s H0 H → (∀ i' H', i ≤ i' → (i ≤ j → i' ≤ j + 1) → (j < i → i' = i) → scanUp (fun x => !ltE d[a]! x) d j i = i' → St s d H' → Fs s H0 H' → Ok (q (.int .i64 (.ofNat i')) H') Q) →
   Ok (qim call q s.v (.int .i64 (.ofNat a)) (.fn fc [] []) (.int .i64 (.ofNat j)) k (.int .i64 (.ofNat i)) H) Q
 | 0, _, _, h, _, _, _, _ => by omega
 | k + 1, i, H, hk, hi, hS, hF, hq => by
  show Ok (qq8 call _ _ _ _ _ (qim call _ _ _ _ _ k) _ H) Q
  unfold qq8
  have hsz := hS.sz
  have hg := hS.get
  rw [scanUp] at hq
  by_cases h : i ≤ j
  ·simp (disch := first | omega | (simp only [np, nq, zs, zw]; first | done | omega)) only [go_sem, reduceAdd, qab, lss0, qae, hg, h]
   refine Ok.deO (hc _ _ _ hS.iv) ?_
   rintro v H' ⟨rfl, f'⟩
   have hS' := hS.no f'
   have hg' := hS'.get
   simp (disch := first | omega | (simp only [np, nq, zs, zw]; first | done | omega)) only [go_sem, reduceAdd, qab, lss0, qae, hg']
   cases hl : ltE d[a]! d[i]! with
   | true =>
    simp (disch := first | omega | (simp only [np, nq, zs, zw]; first | done | omega)) only [go_sem, reduceAdd, qab, lss0, qae]
    exact hq i H' (Nat.le_refl _) (fun _ => by omega) (fun _ => rfl) (by simp [hl]) hS' (hF.trans f'.fs)
   | false =>
    simp (disch := first | omega | (simp only [np, nq, zs, zw]; first | done | omega)) only [go_sem, reduceAdd, qab, lss0, qae]
    unfold qq5
    simp (disch := first | omega | (simp only [np, nq, zs, zw]; first | done | omega)) only [go_sem, reduceAdd, qab, lss0, qae]
    exact qzt hc hn ha hj k (i + 1) H' (by omega) (by omega) hS' (hF.trans f'.fs) fun i' H2 h1 h2 h3 h4 => hq i' H2 (by omega) (fun _ => by by_cases hij : i + 1 ≤ j; exact h2 hij; have := h3 (by omega); omega) (fun _ => by omega) (by simpa [h, hl] using h4)
  ·simp (disch := first | omega | (simp only [np, nq, zs, zw]; first | done | omega)) only [go_sem, reduceAdd, qab, lss0, qae, h]
   exact hq i H (Nat.le_refl _) (fun hh => absurd hh h) (fun _ => rfl) (by simp [h]) hS hF
theorem qmf {call : Ev.Call} {fc : FuncId} (hc : CmpE E call fc) {s : Sl} (hn : s.n < 900000) {a i : Nat} (ha : a < s.n) (hi : 1 ≤ i) {d : Array E} {H0 : Hp} {q : AV → Hp → R1} {Q : AV → Hp → Prop} :
  ∀ (k j : Nat) (H : Hp), j < k → j < s.n → St s d H → Fs s H0 H → (∀ j' H', j' ≤ j → (i ≤ j → i ≤ j' + 1) → (j < i → j' = j) → scanDown (fun x => !ltE x d[a]!) d i j = j' → St s d H' → Fs s H0 H' → Ok (q (.int .i64 (.ofNat j')) H') Q) →
   Ok (qd0 call q s.v (.int .i64 (.ofNat a)) (.fn fc [] []) (.int .i64 (.ofNat i)) k (.int .i64 (.ofNat j)) H) Q
 | 0, _, _, h, _, _, _, _ => by omega
 | k + 1, 0, H, hk, hj, hS, hF, hq => by
  show Ok (qfg call _ _ _ _ _ (qd0 call _ _ _ _ _ k) _ H) Q
  unfold qfg
  have h : ¬ i ≤ 0 := by omega
  simp (disch := first | omega | (simp only [np, nq, zs, zw]; first | done | omega)) only [go_sem, reduceAdd, qab, lss0, qae, h]
  exact hq 0 H (Nat.le_refl _) (fun _ => by omega) (fun _ => rfl) rfl hS hF
 | k + 1, j + 1, H, hk, hj, hS, hF, hq => by
  show Ok (qfg call _ _ _ _ _ (qd0 call _ _ _ _ _ k) _ H) Q
  unfold qfg
  have hsz := hS.sz
  have hg := hS.get
  rw [scanDown] at hq
  by_cases h : i ≤ j + 1
  ·simp (disch := first | omega | (simp only [np, nq, zs, zw]; first | done | omega)) only [go_sem, reduceAdd, qab, lss0, qae, hg, h]
   refine Ok.deO (hc _ _ _ hS.iv) ?_
   rintro v H' ⟨rfl, f'⟩
   have hS' := hS.no f'
   have hg' := hS'.get
   simp (disch := first | omega | (simp only [np, nq, zs, zw]; first | done | omega)) only [go_sem, reduceAdd, qab, lss0, qae, hg']
   cases hl : ltE d[j + 1]! d[a]! with
   | true =>
    simp (disch := first | omega | (simp only [np, nq, zs, zw]; first | done | omega)) only [go_sem, reduceAdd, qab, lss0, qae]
    exact hq (j + 1) H' (Nat.le_refl _) (fun _ => by omega) (fun _ => rfl) (by simp [hl]) hS' (hF.trans f'.fs)
   | false =>
    simp (disch := first | omega | (simp only [np, nq, zs, zw]; first | done | omega)) only [go_sem, reduceAdd, qab, lss0, qae]
    unfold qkt
    simp (disch := first | omega | (simp only [np, nq, zs, zw]; first | done | omega)) only [go_sem, reduceAdd, qab, lss0, qae, Nat.add_sub_cancel]
    exact qmf hc hn ha hi k j H' (by omega) (by omega) hS' (hF.trans f'.fs) fun j' H2 h1 h2 h3 h4 => hq j' H2 (by omega) (fun _ => by by_cases hij : i ≤ j; exact h2 hij; have := h3 (by omega); omega) (fun _ => by omega) (by simpa [h, hl] using h4)
  ·simp (disch := first | omega | (simp only [np, nq, zs, zw]; first | done | omega)) only [go_sem, reduceAdd, qab, lss0, qae, h]
   exact hq (j + 1) H (Nat.le_refl _) (fun hh => absurd hh h) (fun _ => rfl) (by simp [h]) hS hF
theorem qme {call : Ev.Call} {fc : FuncId} (hc : CmpE E call fc) {s : Sl} (hn : s.n < 900000) {a i : Nat} (ha : a < s.n) (hi : 1 ≤ i) {d : Array E} {H0 : Hp} {q : AV → Hp → R1} {Q : AV → Hp → Prop} :
  ∀ (k j : Nat) (H : Hp), j < k → j < s.n → St s d H → Fs s H0 H → (∀ j' H', j' ≤ j → (i ≤ j → i ≤ j' + 1) → (j < i → j' = j) → scanDown (fun x => !ltE x d[a]!) d i j = j' → St s d H' → Fs s H0 H' → Ok (q (.int .i64 (.ofNat j')) H') Q) →
   Ok (qe0 call q s.v (.int .i64 (.ofNat a)) (.fn fc [] []) (.int .i64 (.ofNat i)) k (.int .i64 (.ofNat j)) H) Q
 | 0, _, _, h, _, _, _, _ => by omega
 | k + 1, 0, H, hk, hj, hS, hF, hq => by
  show Ok (qgr call _ _ _ _ _ (qe0 call _ _ _ _ _ k) _ H) Q
  unfold qgr
  have h : ¬ i ≤ 0 := by omega
  simp (disch := first | omega | (simp only [np, nq, zs, zw]; first | done | omega)) only [go_sem, reduceAdd, qab, lss0, qae, h]
  exact hq 0 H (Nat.le_refl _) (fun _ => by omega) (fun _ => rfl) rfl hS hF
 | k + 1, j + 1, H, hk, hj, hS, hF, hq => by
  show Ok (qgr call _ _ _ _ _ (qe0 call _ _ _ _ _ k) _ H) Q
  unfold qgr
  have hsz := hS.sz
  have hg := hS.get
  rw [scanDown] at hq
  by_cases h : i ≤ j + 1
  ·simp (disch := first | omega | (simp only [np, nq, zs, zw]; first | done | omega)) only [go_sem, reduceAdd, qab, lss0, qae, hg, h]
   refine Ok.deO (hc _ _ _ hS.iv) ?_
   rintro v H' ⟨rfl, f'⟩
   have hS' := hS.no f'
   have hg' := hS'.get
   simp (disch := first | omega | (simp only [np, nq, zs, zw]; first | done | omega)) only [go_sem, reduceAdd, qab, lss0, qae, hg']
   cases hl : ltE d[j + 1]! d[a]! with
   | true =>
    simp (disch := first | omega | (simp only [np, nq, zs, zw]; first | done | omega)) only [go_sem, reduceAdd, qab, lss0, qae]
    exact hq (j + 1) H' (Nat.le_refl _) (fun _ => by omega) (fun _ => rfl) (by simp [hl]) hS' (hF.trans f'.fs)
   | false =>
    simp (disch := first | omega | (simp only [np, nq, zs, zw]; first | done | omega)) only [go_sem, reduceAdd, qab, lss0, qae]
    unfold qno
    simp (disch := first | omega | (simp only [np, nq, zs, zw]; first | done | omega)) only [go_sem, reduceAdd, qab, lss0, qae, Nat.add_sub_cancel]
    exact qme hc hn ha hi k j H' (by omega) (by omega) hS' (hF.trans f'.fs) fun j' H2 h1 h2 h3 h4 => hq j' H2 (by omega) (fun _ => by by_cases hij : i ≤ j; exact h2 hij; have := h3 (by omega); omega) (fun _ => by omega) (by simpa [h, hl] using h4)
  ·simp (disch := first | omega | (simp only [np, nq, zs, zw]; first | done | omega)) only [go_sem, reduceAdd, qab, lss0, qae, h]
   exact hq (j + 1) H (Nat.le_refl _) (fun hh => absurd hh h) (fun _ => rfl) (by simp [h]) hS hF
theorem qzv {call : Ev.Call} {fc : FuncId} (hc : CmpE E call fc) {s : Sl} (hn : s.n < 900000) {a i : Nat} (ha : a < s.n) (hi : 1 ≤ i) {d : Array E} {H0 : Hp} {q : AV → Hp → R1} {Q : AV → Hp → Prop} :
  ∀ (k j : Nat) (H : Hp), j < k → j < s.n → St s d H → Fs s H0 H → (∀ j' H', j' ≤ j → (i ≤ j → i ≤ j' + 1) → (j < i → j' = j) → scanDown (fun x => ltE d[a]! x) d i j = j' → St s d H' → Fs s H0 H' → Ok (q (.int .i64 (.ofNat j')) H') Q) →
   Ok (qgo call q s.v (.int .i64 (.ofNat a)) (.fn fc [] []) (.int .i64 (.ofNat i)) k (.int .i64 (.ofNat j)) H) Q
 | 0, _, _, h, _, _, _, _ => by omega
 | k + 1, 0, H, hk, hj, hS, hF, hq => by
  show Ok (qin call _ _ _ _ _ (qgo call _ _ _ _ _ k) _ H) Q
  unfold qin
  have h : ¬ i ≤ 0 := by omega
  simp (disch := first | omega | (simp only [np, nq, zs, zw]; first | done | omega)) only [go_sem, reduceAdd, qab, lss0, qae, h]
  exact hq 0 H (Nat.le_refl _) (fun _ => by omega) (fun _ => rfl) rfl hS hF
 | k + 1, j + 1, H, hk, hj, hS, hF, hq => by
  show Ok (qin call _ _ _ _ _ (qgo call _ _ _ _ _ k) _ H) Q
  unfold qin
  have hsz := hS.sz
  have hg := hS.get
  rw [scanDown] at hq
  by_cases h : i ≤ j + 1
  ·simp (disch := first | omega | (simp only [np, nq, zs, zw]; first | done | omega)) only [go_sem, reduceAdd, qab, lss0, qae, hg, h]
   refine Ok.deO (hc _ _ _ hS.iv) ?_
   rintro v H' ⟨rfl, f'⟩
   have hS' := hS.no f'
   have hg' := hS'.get
   simp (disch := first | omega | (simp only [np, nq, zs, zw]; first | done | omega)) only [go_sem, reduceAdd, qab, lss0, qae, hg']
   cases hl : ltE d[a]! d[j + 1]! with
   | false =>
    simp (disch := first | omega | (simp only [np, nq, zs, zw]; first | done | omega)) only [go_sem, reduceAdd, qab, lss0, qae]
    exact hq (j + 1) H' (Nat.le_refl _) (fun _ => by omega) (fun _ => rfl) (by simp [hl]) hS' (hF.trans f'.fs)
   | true =>
    simp (disch := first | omega | (simp only [np, nq, zs, zw]; first | done | omega)) only [go_sem, reduceAdd, qab, lss0, qae]
    unfold qq6
    simp (disch := first | omega | (simp only [np, nq, zs, zw]; first | done | omega)) only [go_sem, reduceAdd, qab, lss0, qae, Nat.add_sub_cancel]
    exact qzv hc hn ha hi k j H' (by omega) (by omega) hS' (hF.trans f'.fs) fun j' H2 h1 h2 h3 h4 => hq j' H2 (by omega) (fun _ => by by_cases hij : i ≤ j; exact h2 hij; have := h3 (by omega); omega) (fun _ => by omega) (by simpa [h, hl] using h4)
  ·simp (disch := first | omega | (simp only [np, nq, zs, zw]; first | done | omega)) only [go_sem, reduceAdd, qab, lss0, qae, h]
   exact hq (j + 1) H (Nat.le_refl _) (fun hh => absurd hh h) (fun _ => rfl) (by simp [h]) hS hF
end Go.Di.F
end
noncomputable section
/-
 The sort: the partitions.
-/
namespace Go.Di.F
open Go.Ev Go.Sort
variable {C : Nat → Ev.Call} {E : Type} [El E]
theorem partLoop_eq (a i j i2 j2 : Nat) (d : Array E) (h1 : scanUp (fun x => ltE x d[a]!) d j i = i2) (h2 : scanDown (fun x => !ltE x d[a]!) d i2 j = j2) (h3 : i ≤ i2) (h4 : j2 ≤ j) (h5 : 1 ≤ i) :
  partLoop ltE a i j d = if i2 > j2 then (j2, d) else partLoop ltE a (i2 + 1) (j2 - 1) (swp d i2 j2) := by
 rw [partLoop]
 simp only [h1, h2]
 by_cases h : i2 > j2
 ·rw [if_pos h, if_pos h]
 ·rw [if_neg h, if_neg h, dif_pos (by omega)]
theorem partEqLoop_eq (a i j i2 j2 : Nat) (d : Array E) (h1 : scanUp (fun x => !ltE d[a]! x) d j i = i2) (h2 : scanDown (fun x => ltE d[a]! x) d i2 j = j2) (h3 : i ≤ i2) (h4 : j2 ≤ j) (h5 : 1 ≤ i) :
  partEqLoop ltE a i j d = if i2 > j2 then (i2, d) else partEqLoop ltE a (i2 + 1) (j2 - 1) (swp d i2 j2) := by
 rw [partEqLoop]
 simp only [h1, h2]
 by_cases h : i2 > j2
 ·rw [if_pos h, if_pos h]
 ·rw [if_neg h, if_neg h, dif_pos (by omega)]
theorem qr7 {call : Ev.Call} {fc : FuncId} (hc : CmpE E call fc) {s : Sl} (hn : s.n < 900000) {a : Nat} (ha : a < s.n) {H0 : Hp} {q : AV → Hp → R1} {Q : AV → Hp → Prop} :
  ∀ (k i j : Nat) (d : Array E) (H : Hp), j + 1 - i < k → 1 ≤ i → i ≤ 900000 → j < s.n → St s d H → Fs s H0 H →
   (∀ j' d' H', partLoop ltE a i j d = (j', d') → j' < s.n → St s d' H' → Fs s H0 H' → Ok (q (.int .i64 (.ofNat j')) H') Q) →
   Ok (qcb call q s.v (.int .i64 (.ofNat a)) (.fn fc [] []) k (.int .i64 (.ofNat i)) (.int .i64 (.ofNat j)) H) Q
 | 0, _, _, _, _, h, _, _, _, _, _, _ => by omega
 | k + 1, i, j, d, H, hk, h1, hi, hj, hS, hF, hq => by
  show Ok (qnq call _ _ _ _ (qcb call _ _ _ _ k) _ _ H) Q
  unfold qnq qk0
  rw [qam]
  refine qmc hc hn ha hj qal i H (by rw [qag]; omega) (by omega) hS hF fun i2 H1 g1 g2 g3 g4 hS1 hF1 => ?_
  unfold qd3 qnr
  rw [qam]
  refine qme hc hn ha (by omega) qal j H1 (by rw [qag]; omega) hj hS1 hF1 fun j2 H2 e1 e2 e3 e4 hS2 hF2 => ?_
  rw [partLoop_eq a i j i2 j2 d g4 e4 g1 e1 h1] at hq
  unfold qe1
  by_cases h : j2 < i2
  ·rw [if_pos h] at hq
   simp (disch := first | omega | (simp only [np, nq, zs, zw]; first | done | omega)) only [go_sem, reduceAdd, qab, lss0, qae, h]
   exact hq j2 d H2 rfl (by omega) hS2 hF2
  ·rw [if_neg h] at hq
   simp (disch := first | omega | (simp only [np, nq, zs, zw]; first | done | omega)) only [go_sem, reduceAdd, qab, lss0, qae, h]
   unfold qnp
   have hsz := hS2.sz
   have hg := hS2.get
   have b1 : i2 ≤ 900000 := by omega
   simp (disch := first | omega | (simp only [np, nq, zs, zw]; first | done | omega)) only [go_sem, reduceAdd, qab, lss0, qae, hg]
   exact qr7 hc hn ha k (i2 + 1) (j2 - 1) (swp d i2 j2) _ (by omega) (by omega) (by omega) (by omega) (hS2.put2 (swp_size _ _ _)) (Fs.put2 hF2) hq
theorem qgf (hC : qby C) {k : Nat} (hk : 1 ≤ k) {fc : FuncId} (hc : CmpE E (C (k - 1)) fc) {s : Sl} (hn : s.n < 900000) {a b p : Nat} (ha : a < b) (hb : b ≤ s.n) (hp : a ≤ p ∧ p < b) {d : Array E} {H : Hp} (hS : St s d H) :
  Ok (C k (.f qmo) [s.v, .int .i64 (.ofNat a), .int .i64 (.ofNat b), .int .i64 (.ofNat p), .fn fc [] []] H) fun r H' =>
   ∃ m al d', partition ltE d a b p = (m, al, d') ∧ r = .tup [.int .i64 (.ofNat m), .bool al] ∧ St s d' H' ∧ Fs s H H' := by
 obtain ⟨k, rfl⟩ : ∃ j, k = j + 1 := ⟨k - 1, by omega⟩
 have hc : CmpE E (C k) fc := hc
 rw [(hC k).s_part]
 unfold s_part qv1
 have hsz := hS.sz
 have hg := hS.get
 have hpn : p < s.n := by omega
 simp (disch := first | omega | (simp only [np, nq, zs, zw]; first | done | omega)) only [go_sem, reduceAdd, qab, lss0, qae, hg]
 unfold qky
 rw [qam]
 have hS0 : St s (swp d a p) _ := hS.put2 (d1 := d.setIfInBounds a d[p]!) (swp_size d a p)
 have hF0 : Fs s H _ := Fs.put2 (d1 := d.setIfInBounds a d[p]!) (d2 := swp d a p) (Fm.refl _ H)
 refine qmd hc hn (by omega) (j := b - 1) (by omega) qal (a + 1) _ (by rw [qag]; omega) (by omega) hS0 hF0 fun i2 H1 g1 g2 g3 g4 hS1 hF1 => ?_
 unfold qd1 qkz
 rw [qam]
 refine qmf hc hn (by omega) (i := i2) (by omega) qal (b - 1) _ (by rw [qag]; omega) (by omega) hS1 hF1 fun j2 H2 e1 e2 e3 e4 hS2 hF2 => ?_
 unfold qd2
 have hsz2 := hS2.sz
 have hg2 := hS2.get
 by_cases h : j2 < i2
 ·simp (disch := first | omega | (simp only [np, nq, zs, zw]; first | done | omega)) only [go_sem, reduceAdd, qab, lss0, qae, h, hg2]
  exact Ok.ret ⟨j2, true, swp (swp d a p) j2 a, by unfold partition; simp only [g4, e4]; rw [if_pos h], rfl, hS2.put2 (swp_size _ _ _), Fs.put2 hF2⟩
 ·simp (disch := first | omega | (simp only [np, nq, zs, zw]; first | done | omega)) only [go_sem, reduceAdd, qab, lss0, qae, h]
  unfold qku
  have b1 : i2 ≤ 900000 := by omega
  simp (disch := first | omega | (simp only [np, nq, zs, zw]; first | done | omega)) only [go_sem, reduceAdd, qab, lss0, qae, hg2]
  unfold qns
  rw [qam]
  refine qr7 hc hn (by omega) qal (i2 + 1) (j2 - 1) (swp (swp d a p) i2 j2) _ (by rw [qag]; omega) (by omega) (by omega) (by omega) (hS2.put2 (swp_size _ _ _)) (Fs.put2 hF2) fun j3 d3 H3 e5 hj3 hS3 hF3 => ?_
  unfold qbg
  have hsz3 := hS3.sz
  have hg3 := hS3.get
  simp (disch := first | omega | (simp only [np, nq, zs, zw]; first | done | omega)) only [go_sem, reduceAdd, qab, lss0, qae, hg3]
  exact Ok.ret ⟨j3, false, swp d3 j3 a, by unfold partition; simp only [g4, e4]; rw [if_neg h, e5], rfl, hS3.put2 (swp_size _ _ _), Fs.put2 hF3⟩
theorem qzu {call : Ev.Call} {fc : FuncId} (hc : CmpE E call fc) {s : Sl} (hn : s.n < 900000) {a : Nat} (ha : a < s.n) {H0 : Hp} {q : AV → Hp → R1} {Q : AV → Hp → Prop} :
  ∀ (k i j : Nat) (d : Array E) (H : Hp), j + 1 - i < k → 1 ≤ i → i ≤ 900000 → j < s.n → St s d H → Fs s H0 H →
   (∀ i' d' H', partEqLoop ltE a i j d = (i', d') → St s d' H' → Fs s H0 H' → Ok (q (.int .i64 (.ofNat i')) H') Q) →
   Ok (qcj call q s.v (.int .i64 (.ofNat a)) (.fn fc [] []) k (.int .i64 (.ofNat i)) (.int .i64 (.ofNat j)) H) Q
 | 0, _, _, _, _, h, _, _, _, _, _, _ => by omega
 | k + 1, i, j, d, H, hk, h1, hi, hj, hS, hF, hq => by
  show Ok (qq9 call _ _ _ _ (qcj call _ _ _ _ k) _ _ H) Q
  unfold qq9 qra
  rw [qam]
  refine qzt hc hn ha hj qal i H (by rw [qag]; omega) (by omega) hS hF fun i2 H1 g1 g2 g3 g4 hS1 hF1 => ?_
  unfold qgp qrb
  rw [qam]
  refine qzv hc hn ha (by omega) qal j H1 (by rw [qag]; omega) hj hS1 hF1 fun j2 H2 e1 e2 e3 e4 hS2 hF2 => ?_
  rw [partEqLoop_eq a i j i2 j2 d g4 e4 g1 e1 h1] at hq
  unfold qgq
  by_cases h : j2 < i2
  ·rw [if_pos h] at hq
   simp (disch := first | omega | (simp only [np, nq, zs, zw]; first | done | omega)) only [go_sem, reduceAdd, qab, lss0, qae, h]
   exact hq i2 d H2 rfl hS2 hF2
  ·rw [if_neg h] at hq
   simp (disch := first | omega | (simp only [np, nq, zs, zw]; first | done | omega)) only [go_sem, reduceAdd, qab, lss0, qae, h]
   unfold qq7
   have hsz := hS2.sz
   have hg := hS2.get
   have b1 : i2 ≤ 900000 := by omega
   simp (disch := first | omega | (simp only [np, nq, zs, zw]; first | done | omega)) only [go_sem, reduceAdd, qab, lss0, qae, hg]
   exact qzu hc hn ha k (i2 + 1) (j2 - 1) (swp d i2 j2) _ (by omega) (by omega) (by omega) (by omega) (hS2.put2 (swp_size _ _ _)) (Fs.put2 hF2) hq
theorem q9n (hC : qby C) {k : Nat} (hk : 1 ≤ k) {fc : FuncId} (hc : CmpE E (C (k - 1)) fc) {s : Sl} (hn : s.n < 900000) {a b p : Nat} (ha : a < b) (hb : b ≤ s.n) (hp : a ≤ p ∧ p < b) {d : Array E} {H : Hp} (hS : St s d H) :
  Ok (C k (.f qqh) [s.v, .int .i64 (.ofNat a), .int .i64 (.ofNat b), .int .i64 (.ofNat p), .fn fc [] []] H) fun r H' =>
   ∃ m d', partitionEqual ltE d a b p = (m, d') ∧ r = .int .i64 (.ofNat m) ∧ St s d' H' ∧ Fs s H H' := by
 obtain ⟨k, rfl⟩ : ∃ j, k = j + 1 := ⟨k - 1, by omega⟩
 have hc : CmpE E (C k) fc := hc
 rw [(hC k).s_peq]
 unfold s_peq q1a
 have hsz := hS.sz
 have hg := hS.get
 have hpn : p < s.n := by omega
 simp (disch := first | omega | (simp only [np, nq, zs, zw]; first | done | omega)) only [go_sem, reduceAdd, qab, lss0, qae, hg]
 unfold qrc
 rw [qam]
 refine qzu hc hn (by omega) qal (a + 1) (b - 1) (swp d a p) _ (by rw [qag]; omega) (by omega) (by omega) (by omega) (hS.put2 (d1 := d.setIfInBounds a d[p]!) (swp_size d a p)) (Fs.put2 (Fm.refl _ H)) fun i' d' H' e hS' hF' => ?_
 unfold qbv
 exact Ok.ret ⟨i', d', e, rfl, hS', hF'⟩
end Go.Di.F
end
noncomputable section
/-
 The sort: how many bits a number has; breaking patterns.
-/
namespace Go.Di.F
open Go.Ev Go.Sort
variable {C : Nat → Ev.Call} {E : Type} [El E]
theorem q0n (hC : qby C) {j : Nat} (hj : 1 ≤ j) {s : Sl} (hn : s.n < 900000) {a b rb : Nat} (hab : a + 8 ≤ b) (hb : b ≤ s.n) {d0 : Array E} {H0 : Hp} (hrb : s.b ≠ rb) (hrn : ¬ El.home (E := E) rb) (hr0 : H0.nx ≤ rb) {q : Hp → R1} {Q : AV → Hp → Prop}
  (hq : ∀ d H, PermIn a b d0 d → St s d H → Fs s H0 H → Ok (q H) Q) :
  ∀ (k i : Nat) (d : Array E) (w : Int) (H : Hp), a + (b - a) / 4 * 2 + 2 - i < k → a ≤ i → i ≤ 900000 → PermIn a b d0 d → St s d H → Fs s H0 H → H.get rb = qac 0 [.int .u64 w] →
   Ok (qeo (C j) q s.v (.int .i64 (.ofNat a)) (.int .i64 (.ofNat (b - a))) (.ptr rb 0) (.int .u64 (.ofNat (2 ^ bitsLen (b - a)))) k (.int .i64 (.ofNat i)) H) Q
 | 0, _, _, _, _, h, _, _, _, _, _, _ => by omega
 | k + 1, i, d, w, H, hk, hai, hi, hP, hS, hF, hw => by
  show Ok (qrm (C j) _ _ _ _ _ _ (qeo (C j) _ _ _ _ _ _ k) _ H) Q
  unfold qrm
  have e0 : (b - a) / 4 * 2 ≤ 900000 := by omega
  by_cases h : i ≤ a + (b - a) / 4 * 2 + 1
  ·simp (disch := first | omega | exact ti rfl) only [go_sem, reduceAdd, h]
   unfold qrk
   obtain ⟨w', H1, e1, e2, f1, e3⟩ := qun hC hj hw
   have hpos : 0 < 2 ^ bitsLen (b - a) := Nat.two_pow_pos _
   have hle : 2 ^ bitsLen (b - a) ≤ 2 * (b - a) := two_pow_bitsLen_le (by omega)
   obtain ⟨o, ho, e4⟩ := zca w' (2 ^ bitsLen (b - a) - 1) (by omega)
   have e5 := q72 (2 ^ bitsLen (b - a)) 1 (by omega) (by omega)
   have e6 := qx5 .u64 o (by omega)
   have hS1 := hS.fp f1 hrb hrn
   have hF1 : Fs s H0 H1 := hF.then f1 fun c h1 h2 => by omega
   have go : ∀ o, o < b - a → Ok (qir (C j) (qeo (C j) q s.v (.int .i64 (.ofNat a)) (.int .i64 (.ofNat (b - a))) (.ptr rb 0) (.int .u64 (.ofNat (2 ^ bitsLen (b - a)))) k) s.v (.int .i64 (.ofNat a)) (.int .i64 (.ofNat i)) (.int .i64 (.ofNat o)) H1) Q := by
    intro o ho
    unfold qir
    have hsz := hS1.sz
    have hg := hS1.get
    have hib : i < b := by omega
    simp (disch := first | omega | (simp only [np, nq, zs, zw]; first | done | omega)) only [go_sem, reduceAdd, qab, lss0, qae, hg]
    unfold qrl
    simp (disch := first | omega | exact ti rfl) only [go_sem, reduceAdd]
    have hg2 : ((H1.put s.b (s.blk (d.setIfInBounds i d[a + o]!))).put s.b (s.blk (swp d i (a + o)))).get rb = qac 0 [.int .u64 w'] := by
     rw [qap _ _ _ _ (Ne.symm hrb), qap _ _ _ _ (Ne.symm hrb), e2]
    exact q0n hC hj hn hab hb hrb hrn hr0 hq k (i + 1) (swp d i (a + o)) w' _ (by omega) (by omega) (by omega) (permIn_trans _ _ _ _ _ hP (swp_permIn _ _ _ _ _ hai hib (by omega) (by omega) (by omega))) (hS1.put2 (swp_size _ _ _)) (Fs.put2 hF1) hg2
   by_cases h3 : b - a ≤ o
   ·simp (disch := first | omega | exact ti rfl) only [go_sem, reduceAdd, e1, e4, e5, e6, h3]
    exact go (o - (b - a)) (by omega)
   ·simp (disch := first | omega | exact ti rfl) only [go_sem, reduceAdd, e1, e4, e5, e6, h3]
    exact go o (by omega)
  ·simp (disch := first | omega | exact ti rfl) only [go_sem, reduceAdd, h]
   exact hq d H hP hS hF
theorem zb4 (hC : qby C) {k : Nat} (hk : 4 ≤ k) {s : Sl} (hn : s.n < 900000) {a b : Nat} (ha : a + 8 ≤ b) (hb : b ≤ s.n) {d : Array E} {H : Hp} (hS : St s d H) (c : AV) :
  Ok (C k (.f qqi) [s.v, .int .i64 (.ofNat a), .int .i64 (.ofNat b), c] H) fun r H' => r = .tup [] ∧ ∃ d', PermIn a b d d' ∧ St s d' H' ∧ Fs s H H' := by
 obtain ⟨k, rfl⟩ : ∃ j, k = j + 4 := ⟨k - 4, by omega⟩
 rw [(hC (k + 3)).s_brk]
 unfold s_brk q1g
 have h8 : 8 ≤ b - a := by omega
 have e1 := qh6 .i64 (b - a) (by omega)
 have e2 := q9v hC (k := k + 3) (by omega) (b - a) (by omega)
 have hlt := hS.lt
 have e0 : (b - a) / 4 * 2 ≤ 900000 := by omega
 have e3 : 1 ≤ (b - a) / 4 * 2 := by omega
 simp (disch := first | omega | exact ti rfl) only [go_sem, reduceAdd, h8, e1, e2]
 unfold qrn
 rw [qam]
 have f1 : Fm No H ((qau H (qac 0 [.int .u64 (.ofNat 0)])).put H.nx (qac 0 [.int .u64 (.ofNat (b - a))])) := by (repeat (first | exact Fm.refl _ _ | assumption | refine Fm.push ?_ _ | refine Fm.up2 ?_ (by (first | omega | (simp only [np, nq]; omega))) | refine Fm.put_new ?_ _ _ (by (first | omega | (simp only [np, nq]; omega)))))
 refine q0n hC (j := k + 3) (by omega) hn ha hb (d0 := d) (H0 := H) (rb := H.nx) (by omega) (fun h => Nat.lt_irrefl _ (El.homeLt hS.iv h)) (Nat.le_refl _) (fun d' H' hP hS' hF' => Ok.ret ⟨rfl, d', hP, hS', hF'⟩) qal (a + (b - a) / 4 * 2 - 1) d (.ofNat (b - a)) _ (by rw [qag]; omega) (by omega) (by omega) (permIn_refl _ _ _) (hS.no f1) f1.fs ?_
 rw [qah]
end Go.Di.F
end
noncomputable section
/-
 The sort: pdqsort, and SortFunc.
-/
namespace Go.Di.F
open Go.Ev Go.Sort
variable {C : Nat → Ev.Call} {E : Type} [El E]
def Sd (a b : Nat) (d R : Array E) : Prop := PermIn a b d R ∧ SortedIn ltE a b R
theorem Sd.of {a b : Nat} {d d' R : Array E} (h : PermIn a b d d') (k : Sd a b d' R) : Sd a b d R := ⟨permIn_trans _ _ _ _ _ h k.1, k.2⟩
def PdqR (E : Type) [El E] (C : Nat → Ev.Call) (fc : FuncId) (s : Sl) (k m : Nat) : Prop := ∀ (a b l : Nat) (d : Array E) (H : Hp), b - a < m → a ≤ b → b ≤ s.n → l < 900000 → Go.Sort.Below (ltE (E := E)) a b d → St s d H →
 Ok (C k (.f qhy) [s.v, .int .i64 (.ofNat a), .int .i64 (.ofNat b), .int .i64 (.ofNat l), .fn fc [] []] H) fun r H' => r = .tup [] ∧ ∃ R, Sd a b d R ∧ St s R H' ∧ Fs s H H'
theorem qmb (hC : qby C) {j : Nat} (hj : 7 ≤ j) {fc : FuncId} (hc : ∀ k, 3 ≤ k → CmpE E (C k) fc) {s : Sl} (hn : s.n < 900000) (hl : SWO (ltE (E := E))) {m : Nat} (hR : PdqR E C fc s j m) {H0 : Hp} {q : Hp → R1} {Q : AV → Hp → Prop} :
  ∀ (k a b l : Nat) (wb wp : Bool) (d : Array E) (H : Hp), b - a < k → b - a ≤ m → a ≤ b → b ≤ s.n → l < 900000 → Go.Sort.Below (ltE (E := E)) a b d → St s d H → Fs s H0 H → (∀ R H', Sd a b d R → St s R H' → Fs s H0 H' → Ok (q H') Q) →
   Ok (qcf (C j) q s.v (.fn fc [] []) k (.int .i64 (.ofNat a)) (.int .i64 (.ofNat b)) (.int .i64 (.ofNat l)) (.bool wb) (.bool wp) H) Q
 | 0, _, _, _, _, _, _, _, h, _, _, _, _, _, _, _, _ => by omega
 | k + 1, a, b, l, wb, wp, d, H, hk, hm, hab, hb, hln, hB, hS, hF, hq => by
  show Ok (ql1 (C j) _ _ _ (qcf (C j) _ _ _ k) _ _ _ _ _ H) Q
  unfold ql1
  by_cases h12 : b - a ≤ 12
  ·simp (disch := first | omega | exact ti rfl | (simp only [np, nq]; first | done | omega)) only [go_sem, reduceAdd, reduceMul, reduceSub, reduceLeDiff, reduceEqDiff, reduceShiftRight, reduceAnd, h12]
   refine Ok.ve (zai hC (by omega) (hc _ (by omega)) hn hab hb hS) ?_
   rintro r H1 ⟨rfl, hS1, hF1⟩
   have hi := insertionSort_holds (lt := ltE) hl d a b hab (by rw [hS.sz]; exact hb)
   exact hq _ H1 ⟨hi.1, hi.2⟩ hS1 (hF.trans hF1)
  ·simp (disch := first | omega | exact ti rfl | (simp only [np, nq]; first | done | omega)) only [go_sem, reduceAdd, reduceMul, reduceSub, reduceLeDiff, reduceEqDiff, reduceShiftRight, reduceAnd, h12]
   unfold qrd
   by_cases hl0 : l = 0
   ·simp (disch := first | omega | exact ti rfl | (simp only [np, nq]; first | done | omega)) only [go_sem, reduceAdd, reduceMul, reduceSub, reduceLeDiff, reduceEqDiff, reduceShiftRight, reduceAnd, hl0]
    refine Ok.ve (q2o hC (by omega) (hc _ (by omega)) hn (by omega) hb hS) ?_
    rintro r H1 ⟨rfl, hS1, hF1⟩
    have hi := heapSort_holds (lt := ltE) hl d a b hab (by rw [hS.sz]; exact hb)
    exact hq _ H1 ⟨hi.1, hi.2⟩ hS1 (hF.trans hF1)
   ·simp (disch := first | omega | exact ti rfl | (simp only [np, nq]; first | done | omega)) only [go_sem, reduceAdd, reduceMul, reduceSub, reduceLeDiff, reduceEqDiff, reduceShiftRight, reduceAnd, hl0]
    -- the round's last part
    have j18 : ∀ (l p : Nat) (d3 : Array E) (H3 : Hp), l < 900000 → a ≤ p ∧ p < b → PermIn a b d d3 → St s d3 H3 → Fs s H0 H3 →
      Ok (ql0 (C j) (qcf (C j) q s.v (.fn fc [] []) k) s.v (.int .i64 (.ofNat a)) (.int .i64 (.ofNat b)) (.int .i64 (.ofNat l)) (.fn fc [] []) (.int .i64 (.ofNat (b - a))) (.int .i64 (.ofNat p)) H3) Q := by
     intro l p d3 H3 hl3 hp hP hS3 hF3
     have hb3 : b ≤ d3.size := by rw [hS3.sz]; exact hb
     have hB3 : Go.Sort.Below (ltE (E := E)) a b d3 := hB.perm (by rw [hS.sz]; exact hb) hP
     unfold ql0
     refine Ok.ve (qgf hC (by omega) (hc _ (by omega)) hn (by omega) hb hp hS3) ?_
     rintro r H4 ⟨mid, al, d4, hx, rfl, hS4, hF4⟩
     obtain ⟨h1, h2, h3, hBa, hBr, hL, hRt⟩ := round_part hl (partition_holds (lt := ltE)) hp.1 hp.2 hb3 hB3 hx
     have hF4' := hF3.trans hF4
     by_cases hlt : mid - a < b - mid
     ·simp (disch := first | omega | exact ti rfl | (simp only [np, nq]; first | done | omega)) only [go_sem, reduceAdd, reduceMul, reduceSub, reduceLeDiff, reduceEqDiff, reduceShiftRight, reduceAnd, hlt]
      refine Ok.ve (hR a mid l d4 H4 (by omega) (by omega) (by omega) hl3 hBa hS4) ?_
      rintro r H5 ⟨rfl, L, hLs, hS5, hF5⟩
      obtain ⟨hB5, hfin⟩ := hL L hLs.1 hLs.2
      have hmn : mid < 900000 := by omega
      skip
      exact qmb hC hj hc hn hl hR k (mid + 1) b l _ al L H5 (by omega) (by omega) (by omega) hb hl3 hB5 hS5 (hF4'.trans hF5) fun R H' hRs hS' hF' => hq R H' (Sd.of hP (hfin R hRs.1 hRs.2)) hS' hF'
     ·have hmn : mid < 900000 := by omega
      simp (disch := first | omega | exact ti rfl | (simp only [np, nq]; first | done | omega)) only [go_sem, reduceAdd, reduceMul, reduceSub, reduceLeDiff, reduceEqDiff, reduceShiftRight, reduceAnd, hlt]
      refine Ok.ve (hR (mid + 1) b l d4 H4 (by omega) (by omega) (by omega) hl3 hBr hS4) ?_
      rintro r H5 ⟨rfl, L, hLs, hS5, hF5⟩
      obtain ⟨hB5, hfin⟩ := hRt L hLs.1 hLs.2
      exact qmb hC hj hc hn hl hR k a mid l _ al L H5 (by omega) (by omega) (by omega) (by omega) hl3 hB5 hS5 (hF4'.trans hF5) fun R H' hRs hS' hF' => hq R H' (Sd.of hP (hfin R hRs.1 hRs.2)) hS' hF'
    have j38 : ∀ (l p : Nat) (d3 : Array E) (H3 : Hp), l < 900000 → a ≤ p ∧ p < b → PermIn a b d d3 → St s d3 H3 → Fs s H0 H3 →
      Ok (qfd (C j) (qcf (C j) q s.v (.fn fc [] []) k) s.v (.int .i64 (.ofNat a)) (.int .i64 (.ofNat b)) (.int .i64 (.ofNat l)) (.fn fc [] []) (.bool wb) (.bool wp) (.int .i64 (.ofNat (b - a))) (.int .i64 (.ofNat p)) H3) Q := by
     intro l p d3 H3 hl3 hp hP hS3 hF3
     have hb3 : b ≤ d3.size := by rw [hS3.sz]; exact hb
     have hB3 : Go.Sort.Below (ltE (E := E)) a b d3 := hB.perm (by rw [hS.sz]; exact hb) hP
     have hsz := hS3.sz
     have hg := hS3.get
     have hpn : p < s.n := by omega
     unfold qfd
     by_cases ha0 : 0 < a
     ·simp (disch := first | omega | exact ti rfl | (simp only [np, nq, zs, zw]; first | done | omega)) only [go_sem, reduceAdd, reduceMul, reduceSub, reduceLeDiff, reduceEqDiff, reduceShiftRight, reduceAnd, qab, lss0, qae, hg, ha0]
      refine Ok.deO (hc j (by omega) _ _ _ hS3.iv) ?_
      rintro v H4 ⟨rfl, f4⟩
      have hS4 := hS3.no f4
      have hg4 := hS4.get
      simp (disch := first | omega | exact ti rfl | (simp only [np, nq, zs, zw]; first | done | omega)) only [go_sem, reduceAdd, reduceMul, reduceSub, reduceLeDiff, reduceEqDiff, reduceShiftRight, reduceAnd, qab, lss0, qae, hg4]
      cases hx : ltE d3[a - 1]! d3[p]! with
      | true =>
       simp (disch := first | omega | exact ti rfl | (simp only [np, nq, zs, zw]; first | done | omega)) only [go_sem, reduceAdd, reduceMul, reduceSub, reduceLeDiff, reduceEqDiff, reduceShiftRight, reduceAnd, qab, lss0, qae]
       exact j18 l p d3 H4 hl3 hp hP hS4 (hF3.trans f4.fs)
      | false =>
       simp (disch := first | omega | exact ti rfl | (simp only [np, nq, zs, zw]; first | done | omega)) only [go_sem, reduceAdd, reduceMul, reduceSub, reduceLeDiff, reduceEqDiff, reduceShiftRight, reduceAnd, qab, lss0, qae]
       refine Ok.ve (q9n hC (by omega) (hc _ (by omega)) hn (by omega) hb hp hS4) ?_
       rintro r H5 ⟨mid, d5, hx5, rfl, hS5, hF5⟩
       obtain ⟨h1, h2, h3, hB5, hfin⟩ := round_eq hl (partitionEqual_holds (lt := ltE)) ha0 hp.1 hp.2 hb3 hB3 hx hx5
       exact qmb hC hj hc hn hl hR k mid b l wb wp d5 H5 (by omega) (by omega) h2 hb hl3 hB5 hS5 ((hF3.trans f4.fs).trans hF5) fun R H' hRs hS' hF' => hq R H' (Sd.of hP (hfin R hRs.1 hRs.2)) hS' hF'
     ·simp (disch := first | omega | exact ti rfl | (simp only [np, nq, zs, zw]; first | done | omega)) only [go_sem, reduceAdd, reduceMul, reduceSub, reduceLeDiff, reduceEqDiff, reduceShiftRight, reduceAnd, qab, lss0, qae, hg, ha0]
      exact j18 l p d3 H3 hl3 hp hP hS3 hF3
    have j45 : ∀ (l p hint : Nat) (d3 : Array E) (H3 : Hp), l < 900000 → a ≤ p ∧ p < b → PermIn a b d d3 → St s d3 H3 → Fs s H0 H3 →
      Ok (qip (C j) q (qcf (C j) q s.v (.fn fc [] []) k) s.v (.int .i64 (.ofNat a)) (.int .i64 (.ofNat b)) (.int .i64 (.ofNat l)) (.fn fc [] []) (.bool wb) (.bool wp) (.int .i64 (.ofNat (b - a))) (.int .i64 (.ofNat p)) (.int .i64 (.ofNat hint)) H3) Q := by
     intro l p hint d3 H3 hl3 hp hP hS3 hF3
     have hb3 : b ≤ d3.size := by rw [hS3.sz]; exact hb
     have hB3 : Go.Sort.Below (ltE (E := E)) a b d3 := hB.perm (by rw [hS.sz]; exact hb) hP
     have goP : Ok (ve (C j (.f qjd) [s.v, .int .i64 (.ofNat a), .int .i64 (.ofNat b), .fn fc [] []] H3) fun a44 H => cd a44 (q H) (qfd (C j) (qcf (C j) q s.v (.fn fc [] []) k) s.v (.int .i64 (.ofNat a)) (.int .i64 (.ofNat b)) (.int .i64 (.ofNat l)) (.fn fc [] []) (.bool wb) (.bool wp) (.int .i64 (.ofNat (b - a))) (.int .i64 (.ofNat p)) H)) Q := by
      refine Ok.ve (q12 hC (by omega) (hc _ (by omega)) hn (by omega) hb hS3) ?_
      rintro r H4 ⟨rfl, hS4, hF4⟩
      obtain ⟨h1, h2⟩ := partialInsertionSort_holds (lt := ltE) hl d3 a b (by omega) hb3 hB3
      cases hx : (partialInsertionSort ltE d3 a b).2 with
      | true =>
       simp (disch := first | omega | exact ti rfl | (simp only [np, nq]; first | done | omega)) only [go_sem, reduceAdd, reduceMul, reduceSub, reduceLeDiff, reduceEqDiff, reduceShiftRight, reduceAnd]
       exact hq _ H4 (Sd.of hP ⟨h1, h2 hx⟩) hS4 (hF3.trans hF4)
      | false =>
       simp (disch := first | omega | exact ti rfl | (simp only [np, nq]; first | done | omega)) only [go_sem, reduceAdd, reduceMul, reduceSub, reduceLeDiff, reduceEqDiff, reduceShiftRight, reduceAnd]
       exact j38 l p _ H4 hl3 hp (permIn_trans _ _ _ _ _ hP h1) hS4 (hF3.trans hF4)
     unfold qip
     have no : Ok (qfd (C j) (qcf (C j) q s.v (.fn fc [] []) k) s.v (.int .i64 (.ofNat a)) (.int .i64 (.ofNat b)) (.int .i64 (.ofNat l)) (.fn fc [] []) (.bool wb) (.bool wp) (.int .i64 (.ofNat (b - a))) (.int .i64 (.ofNat p)) H3) Q := j38 l p d3 H3 hl3 hp hP hS3 hF3
     cases wb with
     | false => simp (disch := first | omega | exact ti rfl | (simp only [np, nq]; first | done | omega)) only [go_sem, reduceAdd, reduceMul, reduceSub, reduceLeDiff, reduceEqDiff, reduceShiftRight, reduceAnd]; exact no
     | true =>
      cases wp with
      | false => simp (disch := first | omega | exact ti rfl | (simp only [np, nq]; first | done | omega)) only [go_sem, reduceAdd, reduceMul, reduceSub, reduceLeDiff, reduceEqDiff, reduceShiftRight, reduceAnd]; exact no
      | true =>
       by_cases h1 : hint = 1
       ·simp (disch := first | omega | exact ti rfl | (simp only [np, nq]; first | done | omega)) only [go_sem, reduceAdd, reduceMul, reduceSub, reduceLeDiff, reduceEqDiff, reduceShiftRight, reduceAnd, h1]; exact goP
       ·simp (disch := first | omega | exact ti rfl | (simp only [np, nq]; first | done | omega)) only [go_sem, reduceAdd, reduceMul, reduceSub, reduceLeDiff, reduceEqDiff, reduceShiftRight, reduceAnd, h1]; exact no
    have j51 : ∀ (l : Nat) (d3 : Array E) (H3 : Hp), l < 900000 → PermIn a b d d3 → St s d3 H3 → Fs s H0 H3 →
      Ok (qio (C j) q (qcf (C j) q s.v (.fn fc [] []) k) s.v (.int .i64 (.ofNat a)) (.int .i64 (.ofNat b)) (.int .i64 (.ofNat l)) (.fn fc [] []) (.bool wb) (.bool wp) (.int .i64 (.ofNat (b - a))) H3) Q := by
     intro l d3 H3 hl3 hP hS3 hF3
     unfold qio
     refine Ok.ve (q9l hC (by omega) (hc _ (by omega)) (hc _ (by omega)) hn hS3 (by omega) hb) ?_
     rintro r H4 ⟨p, hint, rfl, hp, hh, hS4, f4⟩
     by_cases h2 : hint = 2
     ·simp (disch := first | omega | exact ti rfl | (simp only [np, nq]; first | done | omega)) only [go_sem, reduceAdd, reduceMul, reduceSub, reduceLeDiff, reduceEqDiff, reduceShiftRight, reduceAnd, h2]
      refine Ok.ve (q8z hC (by omega) hn (by omega) hb hS4 _) ?_
      rintro r H5 ⟨rfl, hS5, hF5⟩
      have hpb : p < b := hp.2
      have hpa : a ≤ p := hp.1
      have hbp : p - a ≤ b - 1 := by omega
      skip
      exact j45 l _ 1 _ H5 hl3 ⟨by omega, by omega⟩ (permIn_trans _ _ _ _ _ hP (reverseRange_holds _ a b hab (by rw [hS4.sz]; exact hb))) hS5 ((hF3.trans f4.fs).trans hF5)
     ·simp (disch := first | omega | exact ti rfl | (simp only [np, nq]; first | done | omega)) only [go_sem, reduceAdd, reduceMul, reduceSub, reduceLeDiff, reduceEqDiff, reduceShiftRight, reduceAnd, h2]
      exact j45 l p hint d3 H4 hl3 hp hP hS4 (hF3.trans f4.fs)
    unfold qre
    cases wb with
    | true =>
     simp (disch := first | omega | exact ti rfl | (simp only [np, nq]; first | done | omega)) only [go_sem, reduceAdd, reduceMul, reduceSub, reduceLeDiff, reduceEqDiff, reduceShiftRight, reduceAnd]
     exact j51 l d H hln (permIn_refl _ _ _) hS hF
    | false =>
     simp (disch := first | omega | exact ti rfl | (simp only [np, nq]; first | done | omega)) only [go_sem, reduceAdd, reduceMul, reduceSub, reduceLeDiff, reduceEqDiff, reduceShiftRight, reduceAnd]
     refine Ok.ve (zb4 hC (by omega) hn (by omega) hb hS _) ?_
     rintro r H4 ⟨rfl, d4, hP4, hS4, hF4⟩
     skip
     exact j51 (l - 1) d4 H4 (by omega) hP4 hS4 (hF.trans hF4)
theorem q9o (hC : qby C) {fc : FuncId} (hc : ∀ k, 3 ≤ k → CmpE E (C k) fc) {s : Sl} (hn : s.n < 900000) (hl : SWO (ltE (E := E))) : ∀ (m k : Nat), m + 8 ≤ k → PdqR E C fc s k m
 | 0, k, hk => fun a b l d H h => by omega
 | m + 1, k, hk => by
  intro a b l d H h hab hb hln hB hS
  obtain ⟨k, rfl⟩ : ∃ j, k = j + 1 := ⟨k - 1, by omega⟩
  rw [(hC k).s_pdq]
  unfold s_pdq qv0 qp1
  rw [qam]
  exact qmb hC (by omega) hc hn hl (q9o hC hc hn hl m k (by omega)) qal a b l true true d H (by rw [qag]; omega) (by omega) hab hb hln hB hS (Fm.refl _ _) fun R H' hs hS' hF' => Ok.ret ⟨rfl, R, hs, hS', hF'⟩
theorem SortFunc_ok (hC : qby C) {k : Nat} {fc : FuncId} (hc : ∀ k, 3 ≤ k → CmpE E (C k) fc) {s : Sl} (hn : s.n < 900000) (hk : s.n + 10 ≤ k) (hl : SWO (ltE (E := E))) {d : Array E} {H : Hp} (hS : St s d H) :
  Ok (C k (.f qcu) [s.v, .fn fc [] []] H) fun r H' => r = .tup [] ∧ ∃ R, Sd 0 s.n d R ∧ St s R H' ∧ Fs s H H' := by
 obtain ⟨k, rfl⟩ : ∃ j, k = j + 1 := ⟨k - 1, by omega⟩
 rw [(hC k).s_SortFunc]
 unfold s_SortFunc qf2
 have e0 : qbu s.v = .val (.int .i64 (.ofNat s.n)) := rfl
 have e1 := qh6 .i64 s.n (by omega)
 have e2 := q0w hC (k := k) (by omega) s.n (by omega) H
 have e3 : bitsLen s.n ≤ 20 := (bitsLen_le_iff s.n 20).2 (by omega)
 simp (disch := first | omega | exact ti rfl | (simp only [np, nq]; first | done | omega)) only [go_sem, reduceAdd, reduceMul, reduceSub, reduceLeDiff, reduceEqDiff, reduceShiftRight, reduceAnd, e0, e1, e2]
 refine Ok.ve (q9o hC hc hn hl (s.n + 1) k (by omega) 0 s.n (bitsLen s.n) d H (by omega) (by omega) (by omega) (by omega) (Or.inl rfl) hS) ?_
 rintro r H1 ⟨rfl, R, h1, h2, h3⟩
 exact Ok.ret ⟨rfl, R, h1, h2, h3⟩
end Go.Di.F
end
noncomputable section
/-
 The sort: insertion.
-/
namespace Go.Di.O
open Go.Ev Go.Sort
variable {E : Type} [El E]
abbrev qdw (C : Nat → Ev.Call) : Prop := qdj C ∧ qby C
theorem qz8 {call : Ev.Call} (hc : CmpL E call) {s : Sl} (hn : s.n < 900000) {a : Nat} {H0 : Hp} {q : Hp → R1} {Q : AV → Hp → Prop} :
  ∀ (k j : Nat) (d : Array E) (H : Hp), j < k → j < s.n → St s d H → Fs s H0 H → (∀ H', St s (insInner ltE a j d) H' → Fs s H0 H' → Ok (q H') Q) →
   Ok (qjx call q s.v (.int .i64 (.ofNat a)) k (.int .i64 (.ofNat j)) H) Q
 | 0, j, _, _, h, _, _, _, _ => by omega
 | k + 1, j, d, H, hk, hj, hS, hF, hq => by
  show Ok (qw9 call _ _ _ (qjx call _ _ _ k) _ H) Q
  unfold qw9
  have hsz := hS.sz
  have hg := hS.get
  by_cases h : a < j
  ·obtain ⟨p, rfl⟩ : ∃ p, j = p + 1 := ⟨j - 1, by omega⟩
   rw [insInner] at hq
   simp (disch := first | omega | (simp only [np, nq, zs, zw]; first | done | omega)) only [go_sem, reduceAdd, qab, lss0, qae, hg, h, Nat.add_sub_cancel]
   refine Ok.deO (hc _ _ _ hS.iv) ?_
   rintro v H' ⟨rfl, f'⟩
   have hS' := hS.no f'
   have hg' := hS'.get
   simp (disch := first | omega | (simp only [np, nq, zs, zw]; first | done | omega)) only [go_sem, reduceAdd, qab, lss0, qae, hg', Nat.add_sub_cancel]
   cases hl : ltE d[p + 1]! d[p]! with
   | false =>
    rw [hl] at hq
    simp (disch := first | omega | (simp only [np, nq, zs, zw]; first | done | omega)) only [go_sem, reduceAdd, qab, lss0, qae]
    exact hq H' (by simpa using hS') (hF.trans f'.fs)
   | true =>
    rw [hl] at hq
    unfold qst
    simp (disch := first | omega | (simp only [np, nq, zs, zw]; first | done | omega)) only [go_sem, reduceAdd, qab, lss0, qae, hg', Nat.add_sub_cancel]
    unfold qw7
    simp (disch := first | omega | (simp only [np, nq, zs, zw]; first | done | omega)) only [go_sem, reduceAdd, qab, lss0, qae, Nat.add_sub_cancel]
    exact qz8 hc hn k p (swp d (p + 1) p) _ (by omega) (by omega) (hS'.put2 (swp_size _ _ _)) (Fs.put2 (hF.trans f'.fs)) (by simpa [h] using hq)
  ·simp (disch := first | omega | (simp only [np, nq, zs, zw]; first | done | omega)) only [go_sem, reduceAdd, qab, lss0, qae, h]
   refine hq H ?_ hF
   cases j with
   | zero => exact hS
   | succ j => rw [insInner]; simpa [show ¬ a < j + 1 from h] using hS
theorem qhx (lt : E → E → Bool) (a : Nat) : ∀ (j : Nat) (d : Array E), (insInner lt a j d).size = d.size
 | 0, d => rfl
 | j + 1, d => by
  rw [insInner]
  split
  ·rw [qhx lt a j, swp_size]
  ·rfl
theorem qs6 {call : Ev.Call} (hc : CmpL E call) {s : Sl} (hn : s.n < 900000) {a b : Nat} (hb : b ≤ s.n) {H0 : Hp} {q : Hp → R1} {Q : AV → Hp → Prop} :
  ∀ (k i : Nat) (d : Array E) (H : Hp), b - i < k → i ≤ 900001 → St s d H → Fs s H0 H → (∀ H', St s (insOuter ltE a b i d) H' → Fs s H0 H' → Ok (q H') Q) →
   Ok (qds call q s.v (.int .i64 (.ofNat a)) (.int .i64 (.ofNat b)) k (.int .i64 (.ofNat i)) H) Q
 | 0, i, _, _, h, _, _, _, _ => by omega
 | k + 1, i, d, H, hk, hi, hS, hF, hq => by
  show Ok (qml call _ _ _ _ (qds call _ _ _ _ k) _ H) Q
  unfold qml
  rw [insOuter] at hq
  by_cases h : i < b
  ·rw [if_pos h] at hq
   simp (disch := first | omega | (simp only [np, nq, zs, zw]; first | done | omega)) only [go_sem, reduceAdd, qab, lss0, qae, h]
   unfold qss qxa
   rw [qam]
   refine qz8 hc hn qal i d H (by rw [qag]; omega) (by omega) hS hF fun H' hS' hF' => ?_
   unfold qhr
   simp (disch := first | omega | (simp only [np, nq, zs, zw]; first | done | omega)) only [go_sem, reduceAdd, qab, lss0, qae]
   exact qs6 hc hn hb k (i + 1) _ H' (by omega) (by omega) hS' hF' hq
  ·rw [if_neg h] at hq
   simp (disch := first | omega | (simp only [np, nq, zs, zw]; first | done | omega)) only [go_sem, reduceAdd, qab, lss0, qae, h]
   exact hq H hS hF
theorem zai {C : Nat → Ev.Call} (hC : qdw C) {k : Nat} (hk : 1 ≤ k) (hc : CmpL E (C (k - 1))) {s : Sl} (hn : s.n < 900000) {a b : Nat} (ha : a ≤ b) (hb : b ≤ s.n) {d : Array E} {H : Hp} (hS : St s d H) :
  Ok (C k (.f qmv) [s.v, .int .i64 (.ofNat a), .int .i64 (.ofNat b)] H) fun r H' => r = .tup [] ∧ St s (insertionSort ltE d a b) H' ∧ Fs s H H' := by
 obtain ⟨j, rfl⟩ : ∃ j, k = j + 1 := ⟨k - 1, by omega⟩
 rw [(hC.1 j).o_ins]
 unfold o_ins qw8
 simp (disch := first | omega | (simp only [np, nq, zs, zw]; first | done | omega)) only [go_sem, reduceAdd, qab, lss0, qae]
 unfold qp9
 rw [qam]
 exact qs6 hc hn hb qal (a + 1) d H (by rw [qag]; omega) (by omega) hS (Fm.refl _ _) fun H' hS' hF' => Ok.ret ⟨rfl, hS', hF'⟩
end Go.Di.O
end
noncomputable section
/-
 The sort: the pivot.
-/
namespace Go.Di.O
open Go.Ev Go.Sort
variable {C : Nat → Ev.Call} {E : Type} [El E]
theorem qk7 (hC : qdw C) {k : Nat} (hk : 1 ≤ k) (hc : CmpL E (C (k - 1))) {s : Sl} {d : Array E} {pb w i j lo hi : Nat} {H : Hp} (hS : St s d H) (hp : Cnt E s pb w H) (hw : w < 900000)
  (hi1 : lo ≤ i ∧ i < hi) (hj1 : lo ≤ j ∧ j < hi) (hh : hi ≤ s.n) :
  Ok (C k (.f qg9) [s.v, .int .i64 (.ofNat i), .int .i64 (.ofNat j), .ptr pb 0] H) fun r H' =>
   ∃ i' j' w', r = .tup [.int .i64 (.ofNat i'), .int .i64 (.ofNat j')] ∧ (lo ≤ i' ∧ i' < hi) ∧ (lo ≤ j' ∧ j' < hi) ∧ w' ≤ w + 1 ∧ St s d H' ∧ Cnt E s pb w' H' ∧ Fp pb H H' := by
 obtain ⟨k, rfl⟩ : ∃ j, k = j + 1 := ⟨k - 1, by omega⟩
 rw [(hC.1 k).o_ord2]
 unfold o_ord2 qw4
 have hsz := hS.sz
 have hg := hS.get
 simp (disch := first | omega | (simp only [np, nq, zs, zw]; first | done | omega)) only [go_sem, reduceAdd, qab, lss0, qae, hg]
 refine Ok.deO (hc _ _ _ hS.iv) ?_
 rintro v H' ⟨rfl, f'⟩
 have hS' := hS.no f'
 have hp' := hp.no f'
 have hg' := hS'.get
 have hpg := hp'.get
 simp (disch := first | omega | (simp only [np, nq, zs, zw]; first | done | omega)) only [go_sem, reduceAdd, qab, lss0, qae, hg']
 cases hl : ltE d[j]! d[i]! with
 | true =>
  simp (disch := first | omega | (simp only [np, nq, zs, zw]; first | done | omega)) only [go_sem, reduceAdd, qab, lss0, qae, hpg]
  have fp : Fp pb H' (H'.put pb (qac 0 [.int .i64 (.ofNat (w + 1))])) := (Fm.refl _ _).put _ _ fun _ => rfl
  exact Ok.ret ⟨j, i, w + 1, rfl, hj1, hi1, Nat.le_refl _, hS'.fp fp hp.ne hp.nh, ⟨qah _ _ _, hp'.lt, hp.ne, hp.nh⟩, f'.fp.trans fp⟩
 | false =>
  simp (disch := first | omega | (simp only [np, nq, zs, zw]; first | done | omega)) only [go_sem, reduceAdd, qab, lss0, qae]
  unfold qsr
  exact Ok.ret ⟨i, j, w, rfl, hi1, hj1, Nat.le_succ _, hS', hp', f'.fp⟩
theorem qz3 (hC : qdw C) {k : Nat} (hk : 2 ≤ k) (hc : CmpL E (C (k - 2))) {s : Sl} {d : Array E} {pb w a b c lo hi : Nat} {H : Hp} (hS : St s d H) (hp : Cnt E s pb w H) (hw : w < 900)
  (ha : lo ≤ a ∧ a < hi) (hb : lo ≤ b ∧ b < hi) (hc1 : lo ≤ c ∧ c < hi) (hh : hi ≤ s.n) :
  Ok (C k (.f qmu) [s.v, .int .i64 (.ofNat a), .int .i64 (.ofNat b), .int .i64 (.ofNat c), .ptr pb 0] H) fun r H' =>
   ∃ i' w', r = .int .i64 (.ofNat i') ∧ (lo ≤ i' ∧ i' < hi) ∧ w' ≤ w + 3 ∧ St s d H' ∧ Cnt E s pb w' H' ∧ Fp pb H H' := by
 obtain ⟨k, rfl⟩ : ∃ j, k = j + 2 := ⟨k - 2, by omega⟩
 rw [(hC.1 (k + 1)).o_med]
 unfold o_med q2d
 refine Ok.ve (qk7 hC (k := k + 1) (by omega) hc hS hp (by omega) ha hb hh) ?_
 rintro r H1 ⟨a1, b1, w1, rfl, ha1, hb1, hw1, hS1, hp1, f1⟩
 simp (disch := omega) only [go_sem, reduceAdd]
 refine Ok.ve (qk7 hC (k := k + 1) (by omega) hc hS1 hp1 (by omega) hb1 hc1 hh) ?_
 rintro r H2 ⟨b2, c2, w2, rfl, hb2, hc2, hw2, hS2, hp2, f2⟩
 simp (disch := omega) only [go_sem, reduceAdd]
 refine Ok.ve (qk7 hC (k := k + 1) (by omega) hc hS2 hp2 (by omega) ha1 hb2 hh) ?_
 rintro r H3 ⟨a3, b3, w3, rfl, ha3, hb3, hw3, hS3, hp3, f3⟩
 simp (disch := omega) only [go_sem, reduceAdd]
 exact Ok.ret ⟨b3, w3, rfl, hb3, by omega, hS3, hp3, (f1.trans f2).trans f3⟩
theorem qfp (hC : qdw C) {k : Nat} (hk : 3 ≤ k) (hc : CmpL E (C (k - 3))) {s : Sl} (hn : s.n < 900000) {d : Array E} {pb w a lo hi : Nat} {H : Hp} (hS : St s d H) (hp : Cnt E s pb w H) (hw : w < 900)
  (ha : lo + 1 ≤ a ∧ a + 1 < hi) (hh : hi ≤ s.n) :
  Ok (C k (.f qef) [s.v, .int .i64 (.ofNat a), .ptr pb 0] H) fun r H' =>
   ∃ i' w', r = .int .i64 (.ofNat i') ∧ (lo ≤ i' ∧ i' < hi) ∧ w' ≤ w + 3 ∧ St s d H' ∧ Cnt E s pb w' H' ∧ Fp pb H H' := by
 obtain ⟨k, rfl⟩ : ∃ j, k = j + 3 := ⟨k - 3, by omega⟩
 rw [(hC.1 (k + 2)).o_medadj]
 unfold o_medadj qop
 simp (disch := omega) only [go_sem, reduceAdd]
 refine Ok.ve (qz3 hC (k := k + 2) (by omega) hc hS hp hw (lo := lo) (hi := hi) ⟨by omega, by omega⟩ ⟨by omega, by omega⟩ ⟨by omega, by omega⟩ hh) ?_
 rintro r H1 ⟨a1, w1, rfl, ha1, hw1, hS1, hp1, f1⟩
 exact Ok.ret ⟨a1, w1, rfl, ha1, hw1, hS1, hp1, f1⟩
theorem qr2 {call : Ev.Call} {s : Sl} {d : Array E} {pb w i lo hi : Nat} {H0 H : Hp} (hS : St s d H) (hp : Cnt E s pb w H) (hi1 : lo ≤ i ∧ i < hi) (hF : Fm No H0 H) :
  Ok (qi0 call (.ptr pb 0) (.int .i64 (.ofNat i)) H) fun r H' => ∃ i' h, r = .tup [.int .i64 (.ofNat i'), .int .i64 (.ofNat h)] ∧ (lo ≤ i' ∧ i' < hi) ∧ h < 3 ∧ St s d H' ∧ Fm No H0 H' := by
 unfold qi0
 have hg := hp.get
 by_cases h0 : w = 0
 ·simp (disch := omega) only [go_sem, reduceAdd, hg, h0]
  exact Ok.ret ⟨i, 1, rfl, hi1, by omega, hS, hF⟩
 ·by_cases h1 : w = 12
  ·simp (disch := omega) only [go_sem, reduceAdd, hg, h0, h1]
   exact Ok.ret ⟨i, 2, rfl, hi1, by omega, hS, hF⟩
  ·simp (disch := omega) only [go_sem, reduceAdd, hg, h0, h1]
   exact Ok.ret ⟨i, 0, rfl, hi1, by omega, hS, hF⟩
theorem q9l (hC : qdw C) {k : Nat} (hk : 4 ≤ k) (hc : CmpL E (C (k - 4))) (hc2 : CmpL E (C (k - 3))) {s : Sl} (hn : s.n < 900000) {d : Array E} {a b : Nat} {H : Hp} (hS : St s d H) (ha : a < b) (hb : b ≤ s.n) :
  Ok (C k (.f qql) [s.v, .int .i64 (.ofNat a), .int .i64 (.ofNat b)] H) fun r H' =>
   ∃ i h, r = .tup [.int .i64 (.ofNat i), .int .i64 (.ofNat h)] ∧ (a ≤ i ∧ i < b) ∧ h < 3 ∧ St s d H' ∧ Fm No H H' := by
 obtain ⟨k, rfl⟩ : ∃ j, k = j + 4 := ⟨k - 4, by omega⟩
 rw [(hC.1 (k + 3)).o_piv]
 unfold o_piv q18
 have fH : Fm No H (qau H (qac 0 [.int .i64 (.ofNat 0)])) := (Fm.refl _ _).push _
 have hS0 := hS.no fH
 have hp0 : Cnt E s H.nx 0 (qau H (qac 0 [.int .i64 (.ofNat 0)])) := ⟨qaq _ _, Nat.lt_succ_self _, Nat.ne_of_lt hS.lt, fun h => Nat.lt_irrefl _ (El.homeLt hS.iv h)⟩
 have back : ∀ {H'}, Fp H.nx (qau H (qac 0 [.int .i64 (.ofNat 0)])) H' → Fm No H H' := fun f => fH.then f fun c h1 h2 => by omega
 have fin : ∀ {i j m w : Nat} {H1 : Hp}, a ≤ i ∧ i < b → a ≤ j ∧ j < b → a ≤ m ∧ m < b → w < 900 → St s d H1 → Cnt E s H.nx w H1 → Fm No H H1 →
   Ok (qiz (C (k + 3)) s.v (.ptr H.nx 0) (.int .i64 (.ofNat i)) (.int .i64 (.ofNat j)) (.int .i64 (.ofNat m)) H1) fun r H' =>
    ∃ i h, r = .tup [.int .i64 (.ofNat i), .int .i64 (.ofNat h)] ∧ (a ≤ i ∧ i < b) ∧ h < 3 ∧ St s d H' ∧ Fm No H H' := by
  intro i j m w H1 hi hj hm hw hS1 hp1 f1
  unfold qiz
  refine Ok.ve (qz3 hC (k := k + 3) (by omega) hc2 hS1 hp1 hw hi hj hm hb) ?_
  rintro r H2 ⟨i2, w2, rfl, hi2, hw2, hS2, hp2, f2⟩
  exact qr2 hS2 hp2 hi2 (f1.then f2 fun c h1 h2 => by omega)
 by_cases h8 : 8 ≤ b - a
 ·by_cases h50 : 50 ≤ b - a
  ·simp (disch := omega) only [go_sem, reduceAdd, h8, h50]
   refine Ok.ve (qfp hC (k := k + 3) (by omega) hc hn hS0 hp0 (by omega) (lo := a) (hi := b) ⟨by omega, by omega⟩ hb) ?_
   rintro r H1 ⟨i1, w1, rfl, hi1, hw1, hS1, hp1, f1⟩
   refine Ok.ve (qfp hC (k := k + 3) (by omega) hc hn hS1 hp1 (by omega) (lo := a) (hi := b) ⟨by omega, by omega⟩ hb) ?_
   rintro r H2 ⟨i2, w2, rfl, hi2, hw2, hS2, hp2, f2⟩
   refine Ok.ve (qfp hC (k := k + 3) (by omega) hc hn hS2 hp2 (by omega) (lo := a) (hi := b) ⟨by omega, by omega⟩ hb) ?_
   rintro r H3 ⟨i3, w3, rfl, hi3, hw3, hS3, hp3, f3⟩
   exact fin hi1 hi2 hi3 (by omega) hS3 hp3 (back ((f1.trans f2).trans f3))
  ·simp (disch := omega) only [go_sem, reduceAdd, h8, h50]
   exact fin ⟨by omega, by omega⟩ ⟨by omega, by omega⟩ ⟨by omega, by omega⟩ (w := 0) (by omega) hS0 hp0 fH
 ·simp (disch := omega) only [go_sem, reduceAdd, h8]
  exact qr2 hS0 hp0 ⟨by omega, by omega⟩ fH
end Go.Di.O
end
noncomputable section
/-
 The sort: the heap.
-/
namespace Go.Di.O
open Go.Ev Go.Sort
variable {C : Nat → Ev.Call} {E : Type} [El E]
theorem qkj {call : Ev.Call} (hc : CmpL E call) {s : Sl} (hn : s.n < 900000) {first root c : Nat} (h1 : first + root < s.n) (h2 : first + c < s.n) {d : Array E} {H0 H : Hp} {qr : Hp → R1} {g0 : AV → Hp → R1} {Q : AV → Hp → Prop}
  (hS : St s d H) (hF : Fs s H0 H) (hr : ltE d[first + root]! d[first + c]! = false → ∀ H', St s d H' → Fs s H0 H' → Ok (qr H') Q)
  (hg0 : ltE d[first + root]! d[first + c]! = true → ∀ H', St s (swp d (first + root) (first + c)) H' → Fs s H0 H' → Ok (g0 (.int .i64 (.ofNat c)) H') Q) :
  Ok (qg0 call qr g0 s.v (.int .i64 (.ofNat first)) (.int .i64 (.ofNat root)) (.int .i64 (.ofNat c)) H) Q := by
 unfold qg0
 have hsz := hS.sz
 have hg := hS.get
 simp (disch := first | omega | (simp only [np, nq, zs, zw]; first | done | omega)) only [go_sem, reduceAdd, qab, lss0, qae, hg]
 refine Ok.deO (hc _ _ _ hS.iv) ?_
 rintro v H' ⟨rfl, f'⟩
 have hS' := hS.no f'
 have hg' := hS'.get
 simp (disch := first | omega | (simp only [np, nq, zs, zw]; first | done | omega)) only [go_sem, reduceAdd, qab, lss0, qae, hg']
 cases hl : ltE d[first + root]! d[first + c]! with
 | false =>
  simp (disch := first | omega | (simp only [np, nq, zs, zw]; first | done | omega)) only [go_sem, reduceAdd, qab, lss0, qae]
  exact hr hl H' hS' (hF.trans f'.fs)
 | true =>
  simp (disch := first | omega | (simp only [np, nq, zs, zw]; first | done | omega)) only [go_sem, reduceAdd, qab, lss0, qae]
  unfold qn9
  simp (disch := first | omega | (simp only [np, nq, zs, zw]; first | done | omega)) only [go_sem, reduceAdd, qab, lss0, qae, hg']
  exact hg0 hl _ (hS'.put2 (swp_size _ _ _)) (Fs.put2 (hF.trans f'.fs))
theorem qhh {call : Ev.Call} (hc : CmpL E call) {s : Sl} (hn : s.n < 900000) {first hi : Nat} (hh : first + hi ≤ s.n) {H0 : Hp} {qe qr : Hp → R1} {Q : AV → Hp → Prop} :
  ∀ (k root : Nat) (d : Array E) (H : Hp), hi - root < k → root < 900000 → St s d H → Fs s H0 H →
   (∀ H', St s (siftDown ltE hi first root d) H' → Fs s H0 H' → Ok (qe H') Q) → (∀ H', St s (siftDown ltE hi first root d) H' → Fs s H0 H' → Ok (qr H') Q) →
   Ok (qfj call qe qr s.v (.int .i64 (.ofNat hi)) (.int .i64 (.ofNat first)) k (.int .i64 (.ofNat root)) H) Q
 | 0, _, _, _, h, _, _, _, _, _ => by omega
 | k + 1, root, d, H, hk, hr1, hS, hF, hqe, hqr => by
  show Ok (qsd call _ _ _ _ _ (qfj call _ _ _ _ _ k) _ H) Q
  unfold qsd
  have hsz := hS.sz
  have hg := hS.get
  by_cases h : hi ≤ 2 * root + 1
  ·simp (disch := first | omega | (simp only [np, nq, zs, zw]; first | done | omega)) only [go_sem, reduceAdd, qab, lss0, qae, h]
   exact hqe H (by rw [siftDown]; simpa [h] using hS) hF
  ·simp (disch := first | omega | (simp only [np, nq, zs, zw]; first | done | omega)) only [go_sem, reduceAdd, qab, lss0, qae, h]
   unfold qn8
   by_cases h2 : 2 * root + 1 + 1 < hi
   ·simp (disch := first | omega | (simp only [np, nq, zs, zw]; first | done | omega)) only [go_sem, reduceAdd, qab, lss0, qae, hg, h2]
    refine Ok.deO (hc _ _ _ hS.iv) ?_
    rintro v H' ⟨rfl, f'⟩
    have hS' := hS.no f'
    have hg' := hS'.get
    simp (disch := first | omega | (simp only [np, nq, zs, zw]; first | done | omega)) only [go_sem, reduceAdd, qab, lss0, qae, hg']
    have h3 : 2 * root + 2 < hi := h2
    cases hl : ltE d[first + (2 * root + 1)]! d[first + (2 * root + 1) + 1]! with
    | true =>
     simp (disch := first | omega | (simp only [np, nq, zs, zw]; first | done | omega)) only [go_sem, reduceAdd, qab, lss0, qae]
     refine qkj hc hn (c := 2 * root + 2) (by omega) (by omega) hS' (hF.trans f'.fs) (fun hl2 H2 hS2 hF2 => hqr H2 ?_ hF2) fun hl2 H2 hS2 hF2 => ?_
     ·rw [siftDown, dif_neg (by omega), if_pos (by rw [hl]; simp [h3]), if_pos (by rw [hl2]; rfl)]
      exact hS2
     ·have e : siftDown ltE hi first root d = siftDown ltE hi first (2 * root + 2) (swp d (first + root) (first + (2 * root + 2))) := by
       rw [siftDown, dif_neg (by omega), if_pos (by rw [hl]; simp [h3]), if_neg (by rw [hl2]; simp), dif_pos h3]
      rw [e] at hqe hqr
      exact qhh hc hn hh k (2 * root + 2) _ H2 (by omega) (by omega) hS2 hF2 hqe hqr
    | false =>
     simp (disch := first | omega | (simp only [np, nq, zs, zw]; first | done | omega)) only [go_sem, reduceAdd, qab, lss0, qae]
     refine qkj hc hn (c := 2 * root + 1) (by omega) (by omega) hS' (hF.trans f'.fs) (fun hl2 H2 hS2 hF2 => hqr H2 ?_ hF2) fun hl2 H2 hS2 hF2 => ?_
     ·rw [siftDown, dif_neg (by omega), if_neg (by rw [hl]; simp), if_pos (by rw [hl2]; rfl)]
      exact hS2
     ·have e : siftDown ltE hi first root d = siftDown ltE hi first (2 * root + 1) (swp d (first + root) (first + (2 * root + 1))) := by
       rw [siftDown, dif_neg (by omega), if_neg (by rw [hl]; simp), if_neg (by rw [hl2]; simp)]
      rw [e] at hqe hqr
      exact qhh hc hn hh k (2 * root + 1) _ H2 (by omega) (by omega) hS2 hF2 hqe hqr
   ·simp (disch := first | omega | (simp only [np, nq, zs, zw]; first | done | omega)) only [go_sem, reduceAdd, qab, lss0, qae, hg, h2]
    have hcond : ¬ ((decide (2 * root + 1 + 1 < hi) && ltE d[first + (2 * root + 1)]! d[first + (2 * root + 1) + 1]!) = true) := by simp [h2]
    refine qkj hc hn (c := 2 * root + 1) (by omega) (by omega) hS hF (fun hl2 H2 hS2 hF2 => hqr H2 ?_ hF2) fun hl2 H2 hS2 hF2 => ?_
    ·rw [siftDown, dif_neg (by omega), if_neg hcond, if_pos (by rw [hl2]; rfl)]
     exact hS2
    ·have e : siftDown ltE hi first root d = siftDown ltE hi first (2 * root + 1) (swp d (first + root) (first + (2 * root + 1))) := by
      rw [siftDown, dif_neg (by omega), if_neg hcond, if_neg (by rw [hl2]; simp)]
     rw [e] at hqe hqr
     exact qhh hc hn hh k (2 * root + 1) _ H2 (by omega) (by omega) hS2 hF2 hqe hqr
theorem qqy (hC : qdw C) {k : Nat} (hk : 1 ≤ k) (hc : CmpL E (C (k - 1))) {s : Sl} (hn : s.n < 900000) {root hi first : Nat} (hh : first + hi ≤ s.n) (hr : root < 900000) {d : Array E} {H : Hp} (hS : St s d H) :
  Ok (C k (.f qjg) [s.v, .int .i64 (.ofNat root), .int .i64 (.ofNat hi), .int .i64 (.ofNat first)] H) fun r H' => r = .tup [] ∧ St s (siftDown ltE hi first root d) H' ∧ Fs s H H' := by
 obtain ⟨j, rfl⟩ : ∃ j, k = j + 1 := ⟨k - 1, by omega⟩
 rw [(hC.1 j).o_sift]
 unfold o_sift qwy qse
 rw [qam]
 exact qhh hc hn hh qal root d H (by rw [qag]; omega) hr hS (Fm.refl _ _) (fun H' hS' hF' => Ok.ret ⟨rfl, hS', hF'⟩) fun H' hS' hF' => Ok.ret ⟨rfl, hS', hF'⟩
theorem qhb (hC : qdw C) {j : Nat} (hj : 1 ≤ j) (hc : CmpL E (C (j - 1))) {s : Sl} (hn : s.n < 900000) {first hi : Nat} (hh : first + hi ≤ s.n) {H0 : Hp} {q : Hp → R1} {Q : AV → Hp → Prop} :
  ∀ (k r : Nat) (d : Array E) (H : Hp), r < k → r < 900000 → St s d H → Fs s H0 H → (∀ H', St s (heapBuild ltE hi first r d) H' → Fs s H0 H' → Ok (q H') Q) →
   Ok (qec (C j) q s.v (.int .i64 (.ofNat first)) (.int .i64 (.ofNat hi)) k (dn r) H) Q
 | 0, _, _, _, h, _, _, _, _ => by omega
 | k + 1, 0, d, H, hk, hr, hS, hF, hq => by
  show Ok (qg7 (C j) _ _ _ _ (qec (C j) _ _ _ _ k) _ H) Q
  unfold qg7
  simp (disch := omega) only [go_sem, reduceAdd, dn]
  exact hq H hS hF
 | k + 1, r + 1, d, H, hk, hr, hS, hF, hq => by
  show Ok (qg7 (C j) _ _ _ _ (qec (C j) _ _ _ _ k) _ H) Q
  unfold qg7
  simp (disch := omega) only [go_sem, reduceAdd, dn, Nat.zero_le]
  unfold qoq
  refine Ok.ve (qqy hC hj hc hn hh (by omega) hS) ?_
  rintro v H' ⟨rfl, hS', hF'⟩
  unfold qor
  have e := quq r (by omega)
  simp only [e, qly]
  exact qhb hC hj hc hn hh k r _ H' (by omega) (by omega) hS' (hF.trans hF') hq
theorem qmz (hC : qdw C) {j : Nat} (hj : 1 ≤ j) (hc : CmpL E (C (j - 1))) {s : Sl} (hn : s.n < 900000) {first : Nat} {H0 : Hp} {q : Hp → R1} {Q : AV → Hp → Prop} :
  ∀ (k r : Nat) (d : Array E) (H : Hp), r < k → first + r ≤ s.n → St s d H → Fs s H0 H → (∀ H', St s (heapPop ltE first r d) H' → Fs s H0 H' → Ok (q H') Q) →
   Ok (qfo (C j) q s.v (.int .i64 (.ofNat first)) (.int .i64 (.ofNat 0)) k (dn r) H) Q
 | 0, _, _, _, h, _, _, _, _ => by omega
 | k + 1, 0, d, H, hk, hr, hS, hF, hq => by
  show Ok (qi6 (C j) _ _ _ _ (qfo (C j) _ _ _ _ k) _ H) Q
  unfold qi6
  simp (disch := omega) only [go_sem, reduceAdd, dn]
  exact hq H hS hF
 | k + 1, r + 1, d, H, hk, hr, hS, hF, hq => by
  show Ok (qi6 (C j) _ _ _ _ (qfo (C j) _ _ _ _ k) _ H) Q
  unfold qi6
  have hsz := hS.sz
  have hg := hS.get
  simp (disch := omega) only [go_sem, reduceAdd, dn, Nat.zero_le]
  unfold qot
  simp (disch := first | omega | (simp only [np, nq, zs, zw]; first | done | omega)) only [go_sem, reduceAdd, qab, lss0, qae, hg]
  have hS1 := hS.put2 (d1 := d.setIfInBounds first d[first + r]!) (swp_size d first (first + r))
  refine Ok.ve (qqy hC hj hc hn (by omega) (by omega) hS1) ?_
  rintro v H' ⟨rfl, hS', hF'⟩
  unfold qsu
  have e := quq r (by omega)
  simp only [e, qly]
  exact qmz hC hj hc hn k r _ H' (by omega) (by omega) hS' ((Fs.put2 hF).trans hF') hq
theorem q2o (hC : qdw C) {k : Nat} (hk : 2 ≤ k) (hc : CmpL E (C (k - 2))) {s : Sl} (hn : s.n < 900000) {a b : Nat} (ha : a < b) (hb : b ≤ s.n) {d : Array E} {H : Hp} (hS : St s d H) :
  Ok (C k (.f qmw) [s.v, .int .i64 (.ofNat a), .int .i64 (.ofNat b)] H) fun r H' => r = .tup [] ∧ St s (heapSort ltE d a b) H' ∧ Fs s H H' := by
 obtain ⟨j, rfl⟩ : ∃ j, k = j + 2 := ⟨k - 2, by omega⟩
 rw [(hC.1 (j + 1)).o_heap]
 unfold o_heap qxb qou
 rw [qam]
 have e1 : (b - a - 1) / 2 < 900000 := by omega
 simp (disch := omega) only [go_sem, reduceAdd]
 refine qhb hC (j := j + 1) (by omega) hc hn (by omega) qal ((b - a - 1) / 2 + 1) d H (by rw [qag]; omega) (by omega) hS (Fm.refl _ _) fun H' hS' hF' => ?_
 unfold qed qsv
 rw [qam]
 have e := quq (b - a) (by omega)
 simp only [e, qly]
 exact qmz hC (j := j + 1) (by omega) hc hn qal (b - a) _ H' (by rw [qag]; omega) (by omega) hS' hF' fun H2 hS2 hF2 => Ok.ret ⟨rfl, hS2, hF2⟩
end Go.Di.O
end
noncomputable section
/-
 The sort: turning round, and insertion of a few.
-/
namespace Go.Di.O
open Go.Ev Go.Sort
variable {C : Nat → Ev.Call} {E : Type} [El E]
theorem qzl {call : Ev.Call} {s : Sl} (hn : s.n < 900000) {H0 : Hp} {q : Hp → R1} {Q : AV → Hp → Prop} :
  ∀ (k i j : Nat) (d : Array E) (H : Hp), j - i < k → i < 900000 → j < s.n → St s d H → Fs s H0 H → (∀ H', St s (reverseLoop i j d) H' → Fs s H0 H' → Ok (q H') Q) →
   Ok (qmi call q s.v k (.int .i64 (.ofNat i)) (.int .i64 (.ofNat j)) H) Q
 | 0, _, _, _, _, h, _, _, _, _, _ => by omega
 | k + 1, i, j, d, H, hk, hi, hj, hS, hF, hq => by
  show Ok (qwz call _ _ (qmi call _ _ k) _ _ H) Q
  unfold qwz
  have hsz := hS.sz
  have hg := hS.get
  rw [reverseLoop] at hq
  by_cases h : i < j
  ·rw [if_pos h] at hq
   simp (disch := first | omega | (simp only [np, nq, zs, zw]; first | done | omega)) only [go_sem, reduceAdd, qab, lss0, qae, h]
   unfold qsf
   simp (disch := first | omega | (simp only [np, nq, zs, zw]; first | done | omega)) only [go_sem, reduceAdd, qab, lss0, qae, hg]
   exact qzl hn k (i + 1) (j - 1) _ _ (by omega) (by omega) (by omega) (hS.put2 (swp_size _ _ _)) (Fs.put2 hF) hq
  ·rw [if_neg h] at hq
   simp (disch := first | omega | (simp only [np, nq, zs, zw]; first | done | omega)) only [go_sem, reduceAdd, qab, lss0, qae, h]
   exact hq H hS hF
theorem q8z (hC : qdw C) {k : Nat} (hk : 1 ≤ k) {s : Sl} (hn : s.n < 900000) {a b : Nat} (ha : a < b) (hb : b ≤ s.n) {d : Array E} {H : Hp} (hS : St s d H) :
  Ok (C k (.f qqk) [s.v, .int .i64 (.ofNat a), .int .i64 (.ofNat b)] H) fun r H' => r = .tup [] ∧ St s (reverseRange d a b) H' ∧ Fs s H H' := by
 obtain ⟨j, rfl⟩ : ∃ j, k = j + 1 := ⟨k - 1, by omega⟩
 rw [(hC.1 j).o_rev]
 unfold o_rev q17 qw0
 rw [qam]
 simp (disch := omega) only [go_sem, reduceAdd]
 exact qzl hn qal a (b - 1) d H (by rw [qag]; omega) (by omega) (by omega) hS (Fm.refl _ _) fun H' hS' hF' => Ok.ret ⟨rfl, hS', hF'⟩
theorem qiv {call : Ev.Call} (hc : CmpL E call) {s : Sl} (hn : s.n < 900000) {b : Nat} (hb : b ≤ s.n) {d : Array E} {H0 : Hp} {q : AV → Hp → R1} {Q : AV → Hp → Prop} :
  ∀ (k i : Nat) (H : Hp), b - i < k → 1 ≤ i → i ≤ b → St s d H → Fs s H0 H → (∀ i' H', i ≤ i' → i' ≤ b → scanSorted ltE d b i = i' → St s d H' → Fs s H0 H' → Ok (q (.int .i64 (.ofNat i')) H') Q) →
   Ok (qfk call q s.v (.int .i64 (.ofNat b)) k (.int .i64 (.ofNat i)) H) Q
 | 0, _, _, h, _, _, _, _, _ => by omega
 | k + 1, i, H, hk, h1, hib, hS, hF, hq => by
  show Ok (qld call _ _ _ (qfk call _ _ _ k) _ H) Q
  unfold qld
  have hsz := hS.sz
  have hg := hS.get
  rw [scanSorted] at hq
  by_cases h : i < b
  ·simp (disch := first | omega | (simp only [np, nq, zs, zw]; first | done | omega)) only [go_sem, reduceAdd, qab, lss0, qae, hg, h]
   refine Ok.deO (hc _ _ _ hS.iv) ?_
   rintro v H' ⟨rfl, f'⟩
   have hS' := hS.no f'
   have hg' := hS'.get
   simp (disch := first | omega | (simp only [np, nq, zs, zw]; first | done | omega)) only [go_sem, reduceAdd, qab, lss0, qae, hg']
   cases hl : ltE d[i]! d[i - 1]! with
   | true =>
    rw [hl] at hq
    simp (disch := first | omega | (simp only [np, nq, zs, zw]; first | done | omega)) only [go_sem, reduceAdd, qab, lss0, qae]
    exact hq i H' (Nat.le_refl _) hib (by simp) hS' (hF.trans f'.fs)
   | false =>
    rw [hl] at hq
    simp (disch := first | omega | (simp only [np, nq, zs, zw]; first | done | omega)) only [go_sem, reduceAdd, qab, lss0, qae]
    unfold qk9
    simp (disch := first | omega | (simp only [np, nq, zs, zw]; first | done | omega)) only [go_sem, reduceAdd, qab, lss0, qae]
    exact qiv hc hn hb k (i + 1) H' (by omega) (by omega) (by omega) hS' (hF.trans f'.fs) fun i' H2 h2 h3 h4 => hq i' H2 (by omega) h3 (by simpa [h] using h4)
  ·simp (disch := first | omega | (simp only [np, nq, zs, zw]; first | done | omega)) only [go_sem, reduceAdd, qab, lss0, qae, h]
   exact hq i H (Nat.le_refl _) hib (by simp [h]) hS hF
theorem qiw {call : Ev.Call} (hc : CmpL E call) {s : Sl} (hn : s.n < 900000) {H0 : Hp} {q : Hp → R1} {Q : AV → Hp → Prop} :
  ∀ (k j : Nat) (d : Array E) (H : Hp), j < k → j < s.n → St s d H → Fs s H0 H → (∀ H', St s (shiftDown ltE j d) H' → Fs s H0 H' → Ok (q H') Q) →
   Ok (qdn call q s.v k (.int .i64 (.ofNat j)) H) Q
 | 0, _, _, _, h, _, _, _, _ => by omega
 | k + 1, 0, d, H, hk, hj, hS, hF, hq => by
  show Ok (qg1 call _ _ (qdn call _ _ k) _ H) Q
  unfold qg1
  simp (disch := omega) only [go_sem, reduceAdd, Nat.not_succ_le_zero]
  exact hq H hS hF
 | k + 1, j + 1, d, H, hk, hj, hS, hF, hq => by
  show Ok (qg1 call _ _ (qdn call _ _ k) _ H) Q
  unfold qg1
  have hsz := hS.sz
  have hg := hS.get
  have h1 : 1 ≤ j + 1 := by omega
  rw [shiftDown] at hq
  simp (disch := first | omega | (simp only [np, nq, zs, zw]; first | done | omega)) only [go_sem, reduceAdd, qab, lss0, qae, h1]
  unfold qlc
  simp (disch := first | omega | (simp only [np, nq, zs, zw]; first | done | omega)) only [go_sem, reduceAdd, qab, lss0, qae, hg, Nat.add_sub_cancel]
  refine Ok.deO (hc _ _ _ hS.iv) ?_
  rintro v H' ⟨rfl, f'⟩
  have hS' := hS.no f'
  have hg' := hS'.get
  simp (disch := first | omega | (simp only [np, nq, zs, zw]; first | done | omega)) only [go_sem, reduceAdd, qab, lss0, qae, hg', Nat.add_sub_cancel]
  cases hl : ltE d[j + 1]! d[j]! with
  | false =>
   rw [hl] at hq
   simp (disch := first | omega | (simp only [np, nq, zs, zw]; first | done | omega)) only [go_sem, reduceAdd, qab, lss0, qae]
   exact hq H' (by simpa using hS') (hF.trans f'.fs)
  | true =>
   rw [hl] at hq
   simp (disch := first | omega | (simp only [np, nq, zs, zw]; first | done | omega)) only [go_sem, reduceAdd, qab, lss0, qae]
   unfold qoa
   simp (disch := first | omega | (simp only [np, nq, zs, zw]; first | done | omega)) only [go_sem, reduceAdd, qab, lss0, qae, hg', Nat.add_sub_cancel]
   unfold qob
   simp (disch := first | omega | (simp only [np, nq, zs, zw]; first | done | omega)) only [go_sem, reduceAdd, qab, lss0, qae, Nat.add_sub_cancel]
   exact qiw hc hn k j (swp d (j + 1) j) _ (by omega) (by omega) (hS'.put2 (swp_size _ _ _)) (Fs.put2 (hF.trans f'.fs)) (by simpa using hq)
theorem qr3 {call : Ev.Call} (hc : CmpL E call) {s : Sl} (hn : s.n < 900000) {b : Nat} (hb : b ≤ s.n) {H0 : Hp} {q : Hp → R1} {Q : AV → Hp → Prop} :
  ∀ (k j : Nat) (d : Array E) (H : Hp), b - j < k → 1 ≤ j → j < 900000 → St s d H → Fs s H0 H → (∀ H', St s (shiftUp ltE b j d) H' → Fs s H0 H' → Ok (q H') Q) →
   Ok (qd7 call q s.v (.int .i64 (.ofNat b)) k (.int .i64 (.ofNat j)) H) Q
 | 0, _, _, _, h, _, _, _, _, _ => by omega
 | k + 1, j, d, H, hk, h1, h2, hS, hF, hq => by
  show Ok (qof call _ _ _ (qd7 call _ _ _ k) _ H) Q
  unfold qof
  have hsz := hS.sz
  have hg := hS.get
  rw [shiftUp] at hq
  by_cases h : j < b
  ·rw [if_pos h] at hq
   simp (disch := first | omega | (simp only [np, nq, zs, zw]; first | done | omega)) only [go_sem, reduceAdd, qab, lss0, qae, h]
   unfold qoc
   simp (disch := first | omega | (simp only [np, nq, zs, zw]; first | done | omega)) only [go_sem, reduceAdd, qab, lss0, qae, hg]
   refine Ok.deO (hc _ _ _ hS.iv) ?_
   rintro v H' ⟨rfl, f'⟩
   have hS' := hS.no f'
   have hg' := hS'.get
   simp (disch := first | omega | (simp only [np, nq, zs, zw]; first | done | omega)) only [go_sem, reduceAdd, qab, lss0, qae, hg']
   cases hl : ltE d[j]! d[j - 1]! with
   | false =>
    rw [hl] at hq
    simp (disch := first | omega | (simp only [np, nq, zs, zw]; first | done | omega)) only [go_sem, reduceAdd, qab, lss0, qae]
    exact hq H' (by simpa using hS') (hF.trans f'.fs)
   | true =>
    rw [hl] at hq
    simp (disch := first | omega | (simp only [np, nq, zs, zw]; first | done | omega)) only [go_sem, reduceAdd, qab, lss0, qae]
    unfold qod
    simp (disch := first | omega | (simp only [np, nq, zs, zw]; first | done | omega)) only [go_sem, reduceAdd, qab, lss0, qae, hg']
    unfold qoe
    simp (disch := first | omega | (simp only [np, nq, zs, zw]; first | done | omega)) only [go_sem, reduceAdd, qab, lss0, qae]
    exact qr3 hc hn hb k (j + 1) (swp d j (j - 1)) _ (by omega) (by omega) (by omega) (hS'.put2 (swp_size _ _ _)) (Fs.put2 (hF.trans f'.fs)) (by simpa using hq)
  ·rw [if_neg h] at hq
   simp (disch := first | omega | (simp only [np, nq, zs, zw]; first | done | omega)) only [go_sem, reduceAdd, qab, lss0, qae, h]
   exact hq H hS hF
theorem qr4 {call : Ev.Call} (hc : CmpL E call) {s : Sl} (hn : s.n < 900000) {a b : Nat} (hb : b ≤ s.n) {H0 : Hp} {qr : AV → Hp → R1} {qe : Hp → R1} {Q : AV → Hp → Prop} :
  ∀ (k st i : Nat) (d : Array E) (H : Hp), st < k → st ≤ 5 → a + 1 ≤ i → i ≤ b → St s d H → Fs s H0 H →
   (∀ r d' H', partialIns ltE a b st i d = (d', r) → St s d' H' → Fs s H0 H' → Ok (qr (.bool r) H') Q) → (∀ d' H', partialIns ltE a b st i d = (d', false) → St s d' H' → Fs s H0 H' → Ok (qe H') Q) →
   Ok (qa2 call qr qe s.v (.int .i64 (.ofNat a)) (.int .i64 (.ofNat b)) k (.int .i64 (.ofNat i)) (.int .i64 (.ofNat (5 - st))) H) Q
 | 0, _, _, _, _, h, _, _, _, _, _, _, _ => by omega
 | k + 1, 0, i, d, H, hk, h5, hi, hib, hS, hF, hqr, hqe => by
  show Ok (qi1 call _ _ _ _ _ (qa2 call _ _ _ _ _ k) _ _ H) Q
  unfold qi1
  simp (disch := omega) only [go_sem, reduceAdd, show ¬ (5 < 5) by omega]
  exact hqe d H (by rw [partialIns]) hS hF
 | k + 1, st + 1, i, d, H, hk, h5, hi, hib, hS, hF, hqr, hqe => by
  show Ok (qi1 call _ _ _ _ _ (qa2 call _ _ _ _ _ k) _ _ H) Q
  unfold qi1
  rw [partialIns] at hqr hqe
  have h50 : 5 - (st + 1) < 5 := by omega
  simp (disch := omega) only [go_sem, reduceAdd, h50]
  unfold qk8 qle
  rw [qam]
  refine qiv hc hn hb qal i H (by rw [qag]; omega) (by omega) hib hS hF fun i' H1 h1 h2 h3 hS1 hF1 => ?_
  simp only [h3] at hqr hqe
  unfold qd8
  by_cases hb1 : i' = b
  ·simp (disch := omega) only [go_sem, reduceAdd, hb1]
   exact hqr true d H1 (by simp [hb1]) hS1 hF1
  ·simp (disch := omega) only [go_sem, reduceAdd, hb1]
   unfold qla
   by_cases hb2 : b - a < 50
   ·simp (disch := omega) only [go_sem, reduceAdd, hb2]
    exact hqr false d H1 (by simp [hb1, hb2]) hS1 hF1
   ·simp (disch := omega) only [go_sem, reduceAdd, hb2]
    simp only [if_neg hb1, if_neg hb2] at hqr hqe
    unfold qlb
    have hsz := hS1.sz
    have hg := hS1.get
    simp (disch := first | omega | (simp only [np, nq, zs, zw]; first | done | omega)) only [go_sem, reduceAdd, qab, lss0, qae, hg]
    have hS2 := hS1.put2 (d1 := d.setIfInBounds i' d[i' - 1]!) (swp_size d i' (i' - 1))
    have hF2 := Fs.put2 (d1 := d.setIfInBounds i' d[i' - 1]!) (d2 := swp d i' (i' - 1)) hF1
    have last : ∀ {d2 : Array E} {H2 : Hp}, St s d2 H2 → Fs s H0 H2 → (if b - i' ≥ 2 then shiftUp ltE b (i' + 1) (if i' - a ≥ 2 then shiftDown ltE (i' - 1) (swp d i' (i' - 1)) else swp d i' (i' - 1)) else (if i' - a ≥ 2 then shiftDown ltE (i' - 1) (swp d i' (i' - 1)) else swp d i' (i' - 1))) = d2 →
      Ok (qc9 call (qa2 call qr qe s.v (.int .i64 (.ofNat a)) (.int .i64 (.ofNat b)) k) (.int .i64 (.ofNat i')) (.int .i64 (.ofNat (5 - (st + 1)))) H2) Q := by
     intro d2 H2 hS2 hF2 e
     unfold qc9
     have e5 : 5 - (st + 1) + 1 = 5 - st := by omega
     simp (disch := omega) only [go_sem, reduceAdd, e5]
     subst e
     exact qr4 hc hn hb k st i' _ H2 (by omega) (by omega) (by omega) h2 hS2 hF2 hqr hqe
    have mid : ∀ {d2 : Array E} {H2 : Hp}, St s d2 H2 → Fs s H0 H2 → (if i' - a ≥ 2 then shiftDown ltE (i' - 1) (swp d i' (i' - 1)) else swp d i' (i' - 1)) = d2 →
      Ok (qcl call (qa2 call qr qe s.v (.int .i64 (.ofNat a)) (.int .i64 (.ofNat b)) k) s.v (.int .i64 (.ofNat b)) (.int .i64 (.ofNat i')) (.int .i64 (.ofNat (5 - (st + 1)))) H2) Q := by
     intro d2 H2 hS2 hF2 e
     unfold qcl
     rw [e] at last
     by_cases h3 : 2 ≤ b - i'
     ·simp (disch := omega) only [go_sem, reduceAdd, h3]
      unfold qoh
      rw [qam]
      exact qr3 hc hn hb qal (i' + 1) _ H2 (by rw [qag]; omega) (by omega) (by omega) hS2 hF2 fun H3 hS3 hF3 => last hS3 hF3 (by simp [h3])
     ·simp (disch := omega) only [go_sem, reduceAdd, h3]
      exact last hS2 hF2 (by simp [h3])
    by_cases h3 : 2 ≤ i' - a
    ·simp (disch := omega) only [go_sem, reduceAdd, h3]
     unfold qog
     rw [qam]
     exact qiw hc hn qal (i' - 1) _ _ (by rw [qag]; omega) (by omega) hS2 hF2 fun H3 hS3 hF3 => mid hS3 hF3 (by simp [h3])
    ·simp (disch := omega) only [go_sem, reduceAdd, h3]
     exact mid hS2 hF2 (by simp [h3, swp])
theorem q12 (hC : qdw C) {k : Nat} (hk : 1 ≤ k) (hc : CmpL E (C (k - 1))) {s : Sl} (hn : s.n < 900000) {a b : Nat} (ha : a < b) (hb : b ≤ s.n) {d : Array E} {H : Hp} (hS : St s d H) :
  Ok (C k (.f qjh) [s.v, .int .i64 (.ofNat a), .int .i64 (.ofNat b)] H) fun r H' => r = .bool (partialInsertionSort ltE d a b).2 ∧ St s (partialInsertionSort ltE d a b).1 H' ∧ Fs s H H' := by
 obtain ⟨j, rfl⟩ : ∃ j, k = j + 1 := ⟨k - 1, by omega⟩
 rw [(hC.1 j).o_pins]
 unfold o_pins qw1 qsg
 rw [qam]
 simp (disch := omega) only [go_sem, reduceAdd]
 refine qr4 hc hn hb qal 5 (a + 1) d H (by rw [qag]; omega) (by omega) (by omega) (by omega) hS (Fm.refl _ _) (fun r d' H' e hS' hF' => ?_) fun d' H' e hS' hF' => ?_
 ·have e' : partialInsertionSort ltE d a b = (d', r) := e
  rw [e']
  exact Ok.ret ⟨rfl, hS', hF'⟩
 ·have e' : partialInsertionSort ltE d a b = (d', false) := e
  rw [e']
  unfold qbf
  exact Ok.ret ⟨rfl, hS', hF'⟩
end Go.Di.O
end
noncomputable section
/-
 The sort: the scans.
-/
namespace Go.Di.O
open Go.Ev Go.Sort
variable {C : Nat → Ev.Call} {E : Type} [El E]
theorem qmd {call : Ev.Call} (hc : CmpL E call) {s : Sl} (hn : s.n < 900000) {a j : Nat} (ha : a < s.n) (hj : j < s.n) {d : Array E} {H0 : Hp} {q : AV → Hp → R1} {Q : AV → Hp → Prop} :
  ∀ (k i : Nat) (H : Hp), j + 1 - i < k → i ≤ 900001 → St s d H → Fs s H0 H → (∀ i' H', i ≤ i' → (i ≤ j → i' ≤ j + 1) → (j < i → i' = i) → scanUp (fun x => ltE x d[a]!) d j i = i' → St s d H' → Fs s H0 H' → Ok (q (.int .i64 (.ofNat i')) H') Q) →
   Ok (qfm call q s.v (.int .i64 (.ofNat a)) (.int .i64 (.ofNat j)) k (.int .i64 (.ofNat i)) H) Q
 | 0, _, _, h, _, _, _, _ => by omega
 | k + 1, i, H, hk, hi, hS, hF, hq => by
  show Ok (qlj call _ _ _ _ (qfm call _ _ _ _ k) _ H) Q
  unfold qlj
  have hsz := hS.sz
  have hg := hS.get
  rw [scanUp] at hq
  by_cases h : i ≤ j
  ·simp (disch := first | omega | (simp only [np, nq, zs, zw]; first | done | omega)) only [go_sem, reduceAdd, qab, lss0, qae, hg, h]
   refine Ok.deO (hc _ _ _ hS.iv) ?_
   rintro v H' ⟨rfl, f'⟩
   have hS' := hS.no f'
   have hg' := hS'.get
   simp (disch := first | omega | (simp only [np, nq, zs, zw]; first | done | omega)) only [go_sem, reduceAdd, qab, lss0, qae, hg']
   cases hl : ltE d[i]! d[a]! with
   | false =>
    simp (disch := first | omega | (simp only [np, nq, zs, zw]; first | done | omega)) only [go_sem, reduceAdd, qab, lss0, qae]
    exact hq i H' (Nat.le_refl _) (fun _ => by omega) (fun _ => rfl) (by simp [hl]) hS' (hF.trans f'.fs)
   | true =>
    simp (disch := first | omega | (simp only [np, nq, zs, zw]; first | done | omega)) only [go_sem, reduceAdd, qab, lss0, qae]
    unfold qlf
    simp (disch := first | omega | (simp only [np, nq, zs, zw]; first | done | omega)) only [go_sem, reduceAdd, qab, lss0, qae]
    exact qmd hc hn ha hj k (i + 1) H' (by omega) (by omega) hS' (hF.trans f'.fs) fun i' H2 h1 h2 h3 h4 => hq i' H2 (by omega) (fun _ => by by_cases hij : i + 1 ≤ j; exact h2 hij; have := h3 (by omega); omega) (fun _ => by omega) (by simpa [h, hl] using h4)
  ·simp (disch := first | omega | (simp only [np, nq, zs, zw]; first | done | omega)) only [go_sem, reduceAdd, qab, lss0, qae, h]
   exact hq i H (Nat.le_refl _) (fun hh => absurd hh h) (fun _ => rfl) (by simp [h]) hS hF
theorem qmc {call : Ev.Call} (hc : CmpL E call) {s : Sl} (hn : s.n < 900000) {a j : Nat} (ha : a < s.n) (hj : j < s.n) {d : Array E} {H0 : Hp} {q : AV → Hp → R1} {Q : AV → Hp → Prop} :
  ∀ (k i : Nat) (H : Hp), j + 1 - i < k → i ≤ 900001 → St s d H → Fs s H0 H → (∀ i' H', i ≤ i' → (i ≤ j → i' ≤ j + 1) → (j < i → i' = i) → scanUp (fun x => ltE x d[a]!) d j i = i' → St s d H' → Fs s H0 H' → Ok (q (.int .i64 (.ofNat i')) H') Q) →
   Ok (qg5 call q s.v (.int .i64 (.ofNat a)) (.int .i64 (.ofNat j)) k (.int .i64 (.ofNat i)) H) Q
 | 0, _, _, h, _, _, _, _ => by omega
 | k + 1, i, H, hk, hi, hS, hF, hq => by
  show Ok (qok call _ _ _ _ (qg5 call _ _ _ _ k) _ H) Q
  unfold qok
  have hsz := hS.sz
  have hg := hS.get
  rw [scanUp] at hq
  by_cases h : i ≤ j
  ·simp (disch := first | omega | (simp only [np, nq, zs, zw]; first | done | omega)) only [go_sem, reduceAdd, qab, lss0, qae, hg, h]
   refine Ok.deO (hc _ _ _ hS.iv) ?_
   rintro v H' ⟨rfl, f'⟩
   have hS' := hS.no f'
   have hg' := hS'.get
   simp (disch := first | omega | (simp only [np, nq, zs, zw]; first | done | omega)) only [go_sem, reduceAdd, qab, lss0, qae, hg']
   cases hl : ltE d[i]! d[a]! with
   | false =>
    simp (disch := first | omega | (simp only [np, nq, zs, zw]; first | done | omega)) only [go_sem, reduceAdd, qab, lss0, qae]
    exact hq i H' (Nat.le_refl _) (fun _ => by omega) (fun _ => rfl) (by simp [hl]) hS' (hF.trans f'.fs)
   | true =>
    simp (disch := first | omega | (simp only [np, nq, zs, zw]; first | done | omega)) only [go_sem, reduceAdd, qab, lss0, qae]
    unfold qli
    simp (disch := first | omega | (simp only [np, nq, zs, zw]; first | done | omega)) only [go_sem, reduceAdd, qab, lss0, qae]
    exact qmc hc hn ha hj k (i + 1) H' (by omega) (by omega) hS' (hF.trans f'.fs) fun i' H2 h1 h2 h3 h4 => hq i' H2 (by omega) (fun _ => by by_cases hij : i + 1 ≤ j; exact h2 hij; have := h3 (by omega); omega) (fun _ => by omega) (by simpa [h, hl] using h4)
  ·simp (disch := first | omega | (simp only [np, nq, zs, zw]; first | done | omega)) only [go_sem, reduceAdd, qab, lss0, qae, h]
   exact hq i H (Nat.le_refl _) (fun hh => absurd hh h) (fun _ => rfl) (by simp [h]) hS hF
theorem qzt {call : Ev.Call} (hc : CmpL E call) {s : Sl} (hn : s.n < 900000) {a j : Nat} (ha : a < s.n) (hj : j < s.n) {d : Array E} {H0 : Hp} {q : AV → Hp → R1} {Q : AV → Hp → Prop} :
  ∀ (k i : Nat) (H : Hp), j + 1 - i < k → i ≤ 900001 → St s d H → Fs s H0 H → (∀ i' H', i ≤ i' → (i ≤ j → i' ≤ j + 1) → (j < i → i' = i) → scanUp (fun x => !ltE d[a]! x) d j i = i' → St s d H' → Fs s H0 H' → Ok (q (.int .i64 (.ofNat i')) H') Q) →
   Ok (qi2 call q s.v (.int .i64 (.ofNat a)) (.int .i64 (.ofNat j)) k (.int .i64 (.ofNat i)) H) Q
 | 0, _, _, h, _, _, _, _ => by omega
 | k + 1, i, H, hk, hi, hS, hF, hq => by
  show Ok (qsk call _ _ _ _ (qi2 call _ _ _ _ k) _ H) Q
  unfold qsk
  have hsz := hS.sz
  have hg := hS.get
  rw [scanUp] at hq
  by_cases h : i ≤ j
  ·simp (disch := first | omega | (simp only [np, nq, zs, zw]; first | done | omega)) only [go_sem, reduceAdd, qab, lss0, qae, hg, h]
   refine Ok.deO (hc _ _ _ hS.iv) ?_
   rintro v H' ⟨rfl, f'⟩
   have hS' := hS.no f'
   have hg' := hS'.get
   simp (disch := first | omega | (simp only [np, nq, zs, zw]; first | done | omega)) only [go_sem, reduceAdd, qab, lss0, qae, hg']
   cases hl : ltE d[a]! d[i]! with
   | true =>
    simp (disch := first | omega | (simp only [np, nq, zs, zw]; first | done | omega)) only [go_sem, reduceAdd, qab, lss0, qae]
    exact hq i H' (Nat.le_refl _) (fun _ => by omega) (fun _ => rfl) (by simp [hl]) hS' (hF.trans f'.fs)
   | false =>
    simp (disch := first | omega | (simp only [np, nq, zs, zw]; first | done | omega)) only [go_sem, reduceAdd, qab, lss0, qae]
    unfold qsh
    simp (disch := first | omega | (simp only [np, nq, zs, zw]; first | done | omega)) only [go_sem, reduceAdd, qab, lss0, qae]
    exact qzt hc hn ha hj k (i + 1) H' (by omega) (by omega) hS' (hF.trans f'.fs) fun i' H2 h1 h2 h3 h4 => hq i' H2 (by omega) (fun _ => by by_cases hij : i + 1 ≤ j; exact h2 hij; have := h3 (by omega); omega) (fun _ => by omega) (by simpa [h, hl] using h4)
  ·simp (disch := first | omega | (simp only [np, nq, zs, zw]; first | done | omega)) only [go_sem, reduceAdd, qab, lss0, qae, h]
   exact hq i H (Nat.le_refl _) (fun hh => absurd hh h) (fun _ => rfl) (by simp [h]) hS hF
theorem qmf {call : Ev.Call} (hc : CmpL E call) {s : Sl} (hn : s.n < 900000) {a i : Nat} (ha : a < s.n) (hi : 1 ≤ i) {d : Array E} {H0 : Hp} {q : AV → Hp → R1} {Q : AV → Hp → Prop} :
  ∀ (k j : Nat) (H : Hp), j < k → j < s.n → St s d H → Fs s H0 H → (∀ j' H', j' ≤ j → (i ≤ j → i ≤ j' + 1) → (j < i → j' = j) → scanDown (fun x => !ltE x d[a]!) d i j = j' → St s d H' → Fs s H0 H' → Ok (q (.int .i64 (.ofNat j')) H') Q) →
   Ok (qd9 call q s.v (.int .i64 (.ofNat a)) (.int .i64 (.ofNat i)) k (.int .i64 (.ofNat j)) H) Q
 | 0, _, _, h, _, _, _, _ => by omega
 | k + 1, 0, H, hk, hj, hS, hF, hq => by
  show Ok (qfn call _ _ _ _ (qd9 call _ _ _ _ k) _ H) Q
  unfold qfn
  have h : ¬ i ≤ 0 := by omega
  simp (disch := first | omega | (simp only [np, nq, zs, zw]; first | done | omega)) only [go_sem, reduceAdd, qab, lss0, qae, h]
  exact hq 0 H (Nat.le_refl _) (fun _ => by omega) (fun _ => rfl) rfl hS hF
 | k + 1, j + 1, H, hk, hj, hS, hF, hq => by
  show Ok (qfn call _ _ _ _ (qd9 call _ _ _ _ k) _ H) Q
  unfold qfn
  have hsz := hS.sz
  have hg := hS.get
  rw [scanDown] at hq
  by_cases h : i ≤ j + 1
  ·simp (disch := first | omega | (simp only [np, nq, zs, zw]; first | done | omega)) only [go_sem, reduceAdd, qab, lss0, qae, hg, h]
   refine Ok.deO (hc _ _ _ hS.iv) ?_
   rintro v H' ⟨rfl, f'⟩
   have hS' := hS.no f'
   have hg' := hS'.get
   simp (disch := first | omega | (simp only [np, nq, zs, zw]; first | done | omega)) only [go_sem, reduceAdd, qab, lss0, qae, hg']
   cases hl : ltE d[j + 1]! d[a]! with
   | true =>
    simp (disch := first | omega | (simp only [np, nq, zs, zw]; first | done | omega)) only [go_sem, reduceAdd, qab, lss0, qae]
    exact hq (j + 1) H' (Nat.le_refl _) (fun _ => by omega) (fun _ => rfl) (by simp [hl]) hS' (hF.trans f'.fs)
   | false =>
    simp (disch := first | omega | (simp only [np, nq, zs, zw]; first | done | omega)) only [go_sem, reduceAdd, qab, lss0, qae]
    unfold qlg
    simp (disch := first | omega | (simp only [np, nq, zs, zw]; first | done | omega)) only [go_sem, reduceAdd, qab, lss0, qae, Nat.add_sub_cancel]
    exact qmf hc hn ha hi k j H' (by omega) (by omega) hS' (hF.trans f'.fs) fun j' H2 h1 h2 h3 h4 => hq j' H2 (by omega) (fun _ => by by_cases hij : i ≤ j; exact h2 hij; have := h3 (by omega); omega) (fun _ => by omega) (by simpa [h, hl] using h4)
  ·simp (disch := first | omega | (simp only [np, nq, zs, zw]; first | done | omega)) only [go_sem, reduceAdd, qab, lss0, qae, h]
   exact hq (j + 1) H (Nat.le_refl _) (fun hh => absurd hh h) (fun _ => rfl) (by simp [h]) hS hF
theorem qme {call : Ev.Call} (hc : CmpL E call) {s : Sl} (hn : s.n < 900000) {a i : Nat} (ha : a < s.n) (hi : 1 ≤ i) {d : Array E} {H0 : Hp} {q : AV → Hp → R1} {Q : AV → Hp → Prop} :
  ∀ (k j : Nat) (H : Hp), j < k → j < s.n → St s d H → Fs s H0 H → (∀ j' H', j' ≤ j → (i ≤ j → i ≤ j' + 1) → (j < i → j' = j) → scanDown (fun x => !ltE x d[a]!) d i j = j' → St s d H' → Fs s H0 H' → Ok (q (.int .i64 (.ofNat j')) H') Q) →
   Ok (qe3 call q s.v (.int .i64 (.ofNat a)) (.int .i64 (.ofNat i)) k (.int .i64 (.ofNat j)) H) Q
 | 0, _, _, h, _, _, _, _ => by omega
 | k + 1, 0, H, hk, hj, hS, hF, hq => by
  show Ok (qg6 call _ _ _ _ (qe3 call _ _ _ _ k) _ H) Q
  unfold qg6
  have h : ¬ i ≤ 0 := by omega
  simp (disch := first | omega | (simp only [np, nq, zs, zw]; first | done | omega)) only [go_sem, reduceAdd, qab, lss0, qae, h]
  exact hq 0 H (Nat.le_refl _) (fun _ => by omega) (fun _ => rfl) rfl hS hF
 | k + 1, j + 1, H, hk, hj, hS, hF, hq => by
  show Ok (qg6 call _ _ _ _ (qe3 call _ _ _ _ k) _ H) Q
  unfold qg6
  have hsz := hS.sz
  have hg := hS.get
  rw [scanDown] at hq
  by_cases h : i ≤ j + 1
  ·simp (disch := first | omega | (simp only [np, nq, zs, zw]; first | done | omega)) only [go_sem, reduceAdd, qab, lss0, qae, hg, h]
   refine Ok.deO (hc _ _ _ hS.iv) ?_
   rintro v H' ⟨rfl, f'⟩
   have hS' := hS.no f'
   have hg' := hS'.get
   simp (disch := first | omega | (simp only [np, nq, zs, zw]; first | done | omega)) only [go_sem, reduceAdd, qab, lss0, qae, hg']
   cases hl : ltE d[j + 1]! d[a]! with
   | true =>
    simp (disch := first | omega | (simp only [np, nq, zs, zw]; first | done | omega)) only [go_sem, reduceAdd, qab, lss0, qae]
    exact hq (j + 1) H' (Nat.le_refl _) (fun _ => by omega) (fun _ => rfl) (by simp [hl]) hS' (hF.trans f'.fs)
   | false =>
    simp (disch := first | omega | (simp only [np, nq, zs, zw]; first | done | omega)) only [go_sem, reduceAdd, qab, lss0, qae]
    unfold qoi
    simp (disch := first | omega | (simp only [np, nq, zs, zw]; first | done | omega)) only [go_sem, reduceAdd, qab, lss0, qae, Nat.add_sub_cancel]
    exact qme hc hn ha hi k j H' (by omega) (by omega) hS' (hF.trans f'.fs) fun j' H2 h1 h2 h3 h4 => hq j' H2 (by omega) (fun _ => by by_cases hij : i ≤ j; exact h2 hij; have := h3 (by omega); omega) (fun _ => by omega) (by simpa [h, hl] using h4)
  ·simp (disch := first | omega | (simp only [np, nq, zs, zw]; first | done | omega)) only [go_sem, reduceAdd, qab, lss0, qae, h]
   exact hq (j + 1) H (Nat.le_refl _) (fun hh => absurd hh h) (fun _ => rfl) (by simp [h]) hS hF
theorem qzv {call : Ev.Call} (hc : CmpL E call) {s : Sl} (hn : s.n < 900000) {a i : Nat} (ha : a < s.n) (hi : 1 ≤ i) {d : Array E} {H0 : Hp} {q : AV → Hp → R1} {Q : AV → Hp → Prop} :
  ∀ (k j : Nat) (H : Hp), j < k → j < s.n → St s d H → Fs s H0 H → (∀ j' H', j' ≤ j → (i ≤ j → i ≤ j' + 1) → (j < i → j' = j) → scanDown (fun x => ltE d[a]! x) d i j = j' → St s d H' → Fs s H0 H' → Ok (q (.int .i64 (.ofNat j')) H') Q) →
   Ok (qg2 call q s.v (.int .i64 (.ofNat a)) (.int .i64 (.ofNat i)) k (.int .i64 (.ofNat j)) H) Q
 | 0, _, _, h, _, _, _, _ => by omega
 | k + 1, 0, H, hk, hj, hS, hF, hq => by
  show Ok (qi3 call _ _ _ _ (qg2 call _ _ _ _ k) _ H) Q
  unfold qi3
  have h : ¬ i ≤ 0 := by omega
  simp (disch := first | omega | (simp only [np, nq, zs, zw]; first | done | omega)) only [go_sem, reduceAdd, qab, lss0, qae, h]
  exact hq 0 H (Nat.le_refl _) (fun _ => by omega) (fun _ => rfl) rfl hS hF
 | k + 1, j + 1, H, hk, hj, hS, hF, hq => by
  show Ok (qi3 call _ _ _ _ (qg2 call _ _ _ _ k) _ H) Q
  unfold qi3
  have hsz := hS.sz
  have hg := hS.get
  rw [scanDown] at hq
  by_cases h : i ≤ j + 1
  ·simp (disch := first | omega | (simp only [np, nq, zs, zw]; first | done | omega)) only [go_sem, reduceAdd, qab, lss0, qae, hg, h]
   refine Ok.deO (hc _ _ _ hS.iv) ?_
   rintro v H' ⟨rfl, f'⟩
   have hS' := hS.no f'
   have hg' := hS'.get
   simp (disch := first | omega | (simp only [np, nq, zs, zw]; first | done | omega)) only [go_sem, reduceAdd, qab, lss0, qae, hg']
   cases hl : ltE d[a]! d[j + 1]! with
   | false =>
    simp (disch := first | omega | (simp only [np, nq, zs, zw]; first | done | omega)) only [go_sem, reduceAdd, qab, lss0, qae]
    exact hq (j + 1) H' (Nat.le_refl _) (fun _ => by omega) (fun _ => rfl) (by simp [hl]) hS' (hF.trans f'.fs)
   | true =>
    simp (disch := first | omega | (simp only [np, nq, zs, zw]; first | done | omega)) only [go_sem, reduceAdd, qab, lss0, qae]
    unfold qsi
    simp (disch := first | omega | (simp only [np, nq, zs, zw]; first | done | omega)) only [go_sem, reduceAdd, qab, lss0, qae, Nat.add_sub_cancel]
    exact qzv hc hn ha hi k j H' (by omega) (by omega) hS' (hF.trans f'.fs) fun j' H2 h1 h2 h3 h4 => hq j' H2 (by omega) (fun _ => by by_cases hij : i ≤ j; exact h2 hij; have := h3 (by omega); omega) (fun _ => by omega) (by simpa [h, hl] using h4)
  ·simp (disch := first | omega | (simp only [np, nq, zs, zw]; first | done | omega)) only [go_sem, reduceAdd, qab, lss0, qae, h]
   exact hq (j + 1) H (Nat.le_refl _) (fun hh => absurd hh h) (fun _ => rfl) (by simp [h]) hS hF
end Go.Di.O
end
noncomputable section
/-
 The sort: the partitions.
-/
namespace Go.Di.O
open Go.Ev Go.Sort
variable {C : Nat → Ev.Call} {E : Type} [El E]
theorem partLoop_eq (a i j i2 j2 : Nat) (d : Array E) (h1 : scanUp (fun x => ltE x d[a]!) d j i = i2) (h2 : scanDown (fun x => !ltE x d[a]!) d i2 j = j2) (h3 : i ≤ i2) (h4 : j2 ≤ j) (h5 : 1 ≤ i) :
  partLoop ltE a i j d = if i2 > j2 then (j2, d) else partLoop ltE a (i2 + 1) (j2 - 1) (swp d i2 j2) := by
 rw [partLoop]
 simp only [h1, h2]
 by_cases h : i2 > j2
 ·rw [if_pos h, if_pos h]
 ·rw [if_neg h, if_neg h, dif_pos (by omega)]
theorem partEqLoop_eq (a i j i2 j2 : Nat) (d : Array E) (h1 : scanUp (fun x => !ltE d[a]! x) d j i = i2) (h2 : scanDown (fun x => ltE d[a]! x) d i2 j = j2) (h3 : i ≤ i2) (h4 : j2 ≤ j) (h5 : 1 ≤ i) :
  partEqLoop ltE a i j d = if i2 > j2 then (i2, d) else partEqLoop ltE a (i2 + 1) (j2 - 1) (swp d i2 j2) := by
 rw [partEqLoop]
 simp only [h1, h2]
 by_cases h : i2 > j2
 ·rw [if_pos h, if_pos h]
 ·rw [if_neg h, if_neg h, dif_pos (by omega)]
theorem qr7 {call : Ev.Call} (hc : CmpL E call) {s : Sl} (hn : s.n < 900000) {a : Nat} (ha : a < s.n) {H0 : Hp} {q : AV → Hp → R1} {Q : AV → Hp → Prop} :
  ∀ (k i j : Nat) (d : Array E) (H : Hp), j + 1 - i < k → 1 ≤ i → i ≤ 900000 → j < s.n → St s d H → Fs s H0 H →
   (∀ j' d' H', partLoop ltE a i j d = (j', d') → j' < s.n → St s d' H' → Fs s H0 H' → Ok (q (.int .i64 (.ofNat j')) H') Q) →
   Ok (qcc call q s.v (.int .i64 (.ofNat a)) k (.int .i64 (.ofNat i)) (.int .i64 (.ofNat j)) H) Q
 | 0, _, _, _, _, h, _, _, _, _, _, _ => by omega
 | k + 1, i, j, d, H, hk, h1, hi, hj, hS, hF, hq => by
  show Ok (qol call _ _ _ (qcc call _ _ _ k) _ _ H) Q
  unfold qol qom
  rw [qam]
  refine qmc hc hn ha hj qal i H (by rw [qag]; omega) (by omega) hS hF fun i2 H1 g1 g2 g3 g4 hS1 hF1 => ?_
  unfold qe4 qon
  rw [qam]
  refine qme hc hn ha (by omega) qal j H1 (by rw [qag]; omega) hj hS1 hF1 fun j2 H2 e1 e2 e3 e4 hS2 hF2 => ?_
  rw [partLoop_eq a i j i2 j2 d g4 e4 g1 e1 h1] at hq
  unfold qe5
  by_cases h : j2 < i2
  ·rw [if_pos h] at hq
   simp (disch := first | omega | (simp only [np, nq, zs, zw]; first | done | omega)) only [go_sem, reduceAdd, qab, lss0, qae, h]
   exact hq j2 d H2 rfl (by omega) hS2 hF2
  ·rw [if_neg h] at hq
   simp (disch := first | omega | (simp only [np, nq, zs, zw]; first | done | omega)) only [go_sem, reduceAdd, qab, lss0, qae, h]
   unfold qoj
   have hsz := hS2.sz
   have hg := hS2.get
   have b1 : i2 ≤ 900000 := by omega
   simp (disch := first | omega | (simp only [np, nq, zs, zw]; first | done | omega)) only [go_sem, reduceAdd, qab, lss0, qae, hg]
   exact qr7 hc hn ha k (i2 + 1) (j2 - 1) (swp d i2 j2) _ (by omega) (by omega) (by omega) (by omega) (hS2.put2 (swp_size _ _ _)) (Fs.put2 hF2) hq
theorem qgf (hC : qdw C) {k : Nat} (hk : 1 ≤ k) (hc : CmpL E (C (k - 1))) {s : Sl} (hn : s.n < 900000) {a b p : Nat} (ha : a < b) (hb : b ≤ s.n) (hp : a ≤ p ∧ p < b) {d : Array E} {H : Hp} (hS : St s d H) :
  Ok (C k (.f qmt) [s.v, .int .i64 (.ofNat a), .int .i64 (.ofNat b), .int .i64 (.ofNat p)] H) fun r H' =>
   ∃ m al d', partition ltE d a b p = (m, al, d') ∧ r = .tup [.int .i64 (.ofNat m), .bool al] ∧ St s d' H' ∧ Fs s H H' := by
 obtain ⟨k, rfl⟩ : ∃ j, k = j + 1 := ⟨k - 1, by omega⟩
 have hc : CmpL E (C k) := hc
 rw [(hC.1 k).o_part]
 unfold o_part qw3
 have hsz := hS.sz
 have hg := hS.get
 have hpn : p < s.n := by omega
 simp (disch := first | omega | (simp only [np, nq, zs, zw]; first | done | omega)) only [go_sem, reduceAdd, qab, lss0, qae, hg]
 unfold qlk
 rw [qam]
 have hS0 : St s (swp d a p) _ := hS.put2 (d1 := d.setIfInBounds a d[p]!) (swp_size d a p)
 have hF0 : Fs s H _ := Fs.put2 (d1 := d.setIfInBounds a d[p]!) (d2 := swp d a p) (Fm.refl _ H)
 refine qmd hc hn (by omega) (j := b - 1) (by omega) qal (a + 1) _ (by rw [qag]; omega) (by omega) hS0 hF0 fun i2 H1 g1 g2 g3 g4 hS1 hF1 => ?_
 unfold qea qll
 rw [qam]
 refine qmf hc hn (by omega) (i := i2) (by omega) qal (b - 1) _ (by rw [qag]; omega) (by omega) hS1 hF1 fun j2 H2 e1 e2 e3 e4 hS2 hF2 => ?_
 unfold qeb
 have hsz2 := hS2.sz
 have hg2 := hS2.get
 by_cases h : j2 < i2
 ·simp (disch := first | omega | (simp only [np, nq, zs, zw]; first | done | omega)) only [go_sem, reduceAdd, qab, lss0, qae, h, hg2]
  exact Ok.ret ⟨j2, true, swp (swp d a p) j2 a, by unfold partition; simp only [g4, e4]; rw [if_pos h], rfl, hS2.put2 (swp_size _ _ _), Fs.put2 hF2⟩
 ·simp (disch := first | omega | (simp only [np, nq, zs, zw]; first | done | omega)) only [go_sem, reduceAdd, qab, lss0, qae, h]
  unfold qlh
  have b1 : i2 ≤ 900000 := by omega
  simp (disch := first | omega | (simp only [np, nq, zs, zw]; first | done | omega)) only [go_sem, reduceAdd, qab, lss0, qae, hg2]
  unfold qoo
  rw [qam]
  refine qr7 hc hn (by omega) qal (i2 + 1) (j2 - 1) (swp (swp d a p) i2 j2) _ (by rw [qag]; omega) (by omega) (by omega) (by omega) (hS2.put2 (swp_size _ _ _)) (Fs.put2 hF2) fun j3 d3 H3 e5 hj3 hS3 hF3 => ?_
  unfold qbh
  have hsz3 := hS3.sz
  have hg3 := hS3.get
  simp (disch := first | omega | (simp only [np, nq, zs, zw]; first | done | omega)) only [go_sem, reduceAdd, qab, lss0, qae, hg3]
  exact Ok.ret ⟨j3, false, swp d3 j3 a, by unfold partition; simp only [g4, e4]; rw [if_neg h, e5], rfl, hS3.put2 (swp_size _ _ _), Fs.put2 hF3⟩
theorem qzu {call : Ev.Call} (hc : CmpL E call) {s : Sl} (hn : s.n < 900000) {a : Nat} (ha : a < s.n) {H0 : Hp} {q : AV → Hp → R1} {Q : AV → Hp → Prop} :
  ∀ (k i j : Nat) (d : Array E) (H : Hp), j + 1 - i < k → 1 ≤ i → i ≤ 900000 → j < s.n → St s d H → Fs s H0 H →
   (∀ i' d' H', partEqLoop ltE a i j d = (i', d') → St s d' H' → Fs s H0 H' → Ok (q (.int .i64 (.ofNat i')) H') Q) →
   Ok (qcm call q s.v (.int .i64 (.ofNat a)) k (.int .i64 (.ofNat i)) (.int .i64 (.ofNat j)) H) Q
 | 0, _, _, _, _, h, _, _, _, _, _, _ => by omega
 | k + 1, i, j, d, H, hk, h1, hi, hj, hS, hF, hq => by
  show Ok (qsl call _ _ _ (qcm call _ _ _ k) _ _ H) Q
  unfold qsl qsm
  rw [qam]
  refine qzt hc hn ha hj qal i H (by rw [qag]; omega) (by omega) hS hF fun i2 H1 g1 g2 g3 g4 hS1 hF1 => ?_
  unfold qg3 qsn
  rw [qam]
  refine qzv hc hn ha (by omega) qal j H1 (by rw [qag]; omega) hj hS1 hF1 fun j2 H2 e1 e2 e3 e4 hS2 hF2 => ?_
  rw [partEqLoop_eq a i j i2 j2 d g4 e4 g1 e1 h1] at hq
  unfold qg4
  by_cases h : j2 < i2
  ·rw [if_pos h] at hq
   simp (disch := first | omega | (simp only [np, nq, zs, zw]; first | done | omega)) only [go_sem, reduceAdd, qab, lss0, qae, h]
   exact hq i2 d H2 rfl hS2 hF2
  ·rw [if_neg h] at hq
   simp (disch := first | omega | (simp only [np, nq, zs, zw]; first | done | omega)) only [go_sem, reduceAdd, qab, lss0, qae, h]
   unfold qsj
   have hsz := hS2.sz
   have hg := hS2.get
   have b1 : i2 ≤ 900000 := by omega
   simp (disch := first | omega | (simp only [np, nq, zs, zw]; first | done | omega)) only [go_sem, reduceAdd, qab, lss0, qae, hg]
   exact qzu hc hn ha k (i2 + 1) (j2 - 1) (swp d i2 j2) _ (by omega) (by omega) (by omega) (by omega) (hS2.put2 (swp_size _ _ _)) (Fs.put2 hF2) hq
theorem q9n (hC : qdw C) {k : Nat} (hk : 1 ≤ k) (hc : CmpL E (C (k - 1))) {s : Sl} (hn : s.n < 900000) {a b p : Nat} (ha : a < b) (hb : b ≤ s.n) (hp : a ≤ p ∧ p < b) {d : Array E} {H : Hp} (hS : St s d H) :
  Ok (C k (.f qqm) [s.v, .int .i64 (.ofNat a), .int .i64 (.ofNat b), .int .i64 (.ofNat p)] H) fun r H' =>
   ∃ m d', partitionEqual ltE d a b p = (m, d') ∧ r = .int .i64 (.ofNat m) ∧ St s d' H' ∧ Fs s H H' := by
 obtain ⟨k, rfl⟩ : ∃ j, k = j + 1 := ⟨k - 1, by omega⟩
 have hc : CmpL E (C k) := hc
 rw [(hC.1 k).o_peq]
 unfold o_peq q2a
 have hsz := hS.sz
 have hg := hS.get
 have hpn : p < s.n := by omega
 simp (disch := first | omega | (simp only [np, nq, zs, zw]; first | done | omega)) only [go_sem, reduceAdd, qab, lss0, qae, hg]
 unfold qso
 rw [qam]
 refine qzu hc hn (by omega) qal (a + 1) (b - 1) (swp d a p) _ (by rw [qag]; omega) (by omega) (by omega) (by omega) (hS.put2 (d1 := d.setIfInBounds a d[p]!) (swp_size d a p)) (Fs.put2 (Fm.refl _ H)) fun i' d' H' e hS' hF' => ?_
 unfold qbw
 exact Ok.ret ⟨i', d', e, rfl, hS', hF'⟩
end Go.Di.O
end
noncomputable section
/-
 The sort: how many bits a number has; breaking patterns.
-/
namespace Go.Di.O
open Go.Ev Go.Sort
variable {C : Nat → Ev.Call} {E : Type} [El E]
theorem q0n (hC : qdw C) {j : Nat} (hj : 1 ≤ j) {s : Sl} (hn : s.n < 900000) {a b rb : Nat} (hab : a + 8 ≤ b) (hb : b ≤ s.n) {d0 : Array E} {H0 : Hp} (hrb : s.b ≠ rb) (hrn : ¬ El.home (E := E) rb) (hr0 : H0.nx ≤ rb) {q : Hp → R1} {Q : AV → Hp → Prop}
  (hq : ∀ d H, PermIn a b d0 d → St s d H → Fs s H0 H → Ok (q H) Q) :
  ∀ (k i : Nat) (d : Array E) (w : Int) (H : Hp), a + (b - a) / 4 * 2 + 2 - i < k → a ≤ i → i ≤ 900000 → PermIn a b d0 d → St s d H → Fs s H0 H → H.get rb = qac 0 [.int .u64 w] →
   Ok (qeq (C j) q s.v (.int .i64 (.ofNat a)) (.int .i64 (.ofNat (b - a))) (.ptr rb 0) (.int .u64 (.ofNat (2 ^ bitsLen (b - a)))) k (.int .i64 (.ofNat i)) H) Q
 | 0, _, _, _, _, h, _, _, _, _, _, _ => by omega
 | k + 1, i, d, w, H, hk, hai, hi, hP, hS, hF, hw => by
  show Ok (qsy (C j) _ _ _ _ _ _ (qeq (C j) _ _ _ _ _ _ k) _ H) Q
  unfold qsy
  have e0 : (b - a) / 4 * 2 ≤ 900000 := by omega
  by_cases h : i ≤ a + (b - a) / 4 * 2 + 1
  ·simp (disch := first | omega | exact ti rfl) only [go_sem, reduceAdd, h]
   unfold qsw
   obtain ⟨w', H1, e1, e2, f1, e3⟩ := qun hC.2 hj hw
   have hpos : 0 < 2 ^ bitsLen (b - a) := Nat.two_pow_pos _
   have hle : 2 ^ bitsLen (b - a) ≤ 2 * (b - a) := two_pow_bitsLen_le (by omega)
   obtain ⟨o, ho, e4⟩ := zca w' (2 ^ bitsLen (b - a) - 1) (by omega)
   have e5 := q72 (2 ^ bitsLen (b - a)) 1 (by omega) (by omega)
   have e6 := qx5 .u64 o (by omega)
   have hS1 := hS.fp f1 hrb hrn
   have hF1 : Fs s H0 H1 := hF.then f1 fun c h1 h2 => by omega
   have go : ∀ o, o < b - a → Ok (qi7 (C j) (qeq (C j) q s.v (.int .i64 (.ofNat a)) (.int .i64 (.ofNat (b - a))) (.ptr rb 0) (.int .u64 (.ofNat (2 ^ bitsLen (b - a)))) k) s.v (.int .i64 (.ofNat a)) (.int .i64 (.ofNat i)) (.int .i64 (.ofNat o)) H1) Q := by
    intro o ho
    unfold qi7
    have hsz := hS1.sz
    have hg := hS1.get
    have hib : i < b := by omega
    simp (disch := first | omega | (simp only [np, nq, zs, zw]; first | done | omega)) only [go_sem, reduceAdd, qab, lss0, qae, hg]
    unfold qsx
    simp (disch := first | omega | exact ti rfl) only [go_sem, reduceAdd]
    have hg2 : ((H1.put s.b (s.blk (d.setIfInBounds i d[a + o]!))).put s.b (s.blk (swp d i (a + o)))).get rb = qac 0 [.int .u64 w'] := by
     rw [qap _ _ _ _ (Ne.symm hrb), qap _ _ _ _ (Ne.symm hrb), e2]
    exact q0n hC hj hn hab hb hrb hrn hr0 hq k (i + 1) (swp d i (a + o)) w' _ (by omega) (by omega) (by omega) (permIn_trans _ _ _ _ _ hP (swp_permIn _ _ _ _ _ hai hib (by omega) (by omega) (by omega))) (hS1.put2 (swp_size _ _ _)) (Fs.put2 hF1) hg2
   by_cases h3 : b - a ≤ o
   ·simp (disch := first | omega | exact ti rfl) only [go_sem, reduceAdd, e1, e4, e5, e6, h3]
    exact go (o - (b - a)) (by omega)
   ·simp (disch := first | omega | exact ti rfl) only [go_sem, reduceAdd, e1, e4, e5, e6, h3]
    exact go o (by omega)
  ·simp (disch := first | omega | exact ti rfl) only [go_sem, reduceAdd, h]
   exact hq d H hP hS hF
theorem zb4 (hC : qdw C) {k : Nat} (hk : 4 ≤ k) {s : Sl} (hn : s.n < 900000) {a b : Nat} (ha : a + 8 ≤ b) (hb : b ≤ s.n) {d : Array E} {H : Hp} (hS : St s d H) :
  Ok (C k (.f qqn) [s.v, .int .i64 (.ofNat a), .int .i64 (.ofNat b)] H) fun r H' => r = .tup [] ∧ ∃ d', PermIn a b d d' ∧ St s d' H' ∧ Fs s H H' := by
 obtain ⟨k, rfl⟩ : ∃ j, k = j + 4 := ⟨k - 4, by omega⟩
 rw [(hC.1 (k + 3)).o_brk]
 unfold o_brk q2h
 have h8 : 8 ≤ b - a := by omega
 have e1 := qh6 .i64 (b - a) (by omega)
 have e2 := q9v hC.2 (k := k + 3) (by omega) (b - a) (by omega)
 have hlt := hS.lt
 have e0 : (b - a) / 4 * 2 ≤ 900000 := by omega
 have e3 : 1 ≤ (b - a) / 4 * 2 := by omega
 simp (disch := first | omega | exact ti rfl) only [go_sem, reduceAdd, h8, e1, e2]
 unfold qsz
 rw [qam]
 have f1 : Fm No H ((qau H (qac 0 [.int .u64 (.ofNat 0)])).put H.nx (qac 0 [.int .u64 (.ofNat (b - a))])) := by (repeat (first | exact Fm.refl _ _ | assumption | refine Fm.push ?_ _ | refine Fm.up2 ?_ (by (first | omega | (simp only [np, nq]; omega))) | refine Fm.put_new ?_ _ _ (by (first | omega | (simp only [np, nq]; omega)))))
 refine q0n hC (j := k + 3) (by omega) hn ha hb (d0 := d) (H0 := H) (rb := H.nx) (by omega) (fun h => Nat.lt_irrefl _ (El.homeLt hS.iv h)) (Nat.le_refl _) (fun d' H' hP hS' hF' => Ok.ret ⟨rfl, d', hP, hS', hF'⟩) qal (a + (b - a) / 4 * 2 - 1) d (.ofNat (b - a)) _ (by rw [qag]; omega) (by omega) (by omega) (permIn_refl _ _ _) (hS.no f1) f1.fs ?_
 rw [qah]
end Go.Di.O
end
noncomputable section
/-
 The sort: pdqsort, and SortFunc.
-/
namespace Go.Di.O
open Go.Ev Go.Sort
variable {C : Nat → Ev.Call} {E : Type} [El E]
def Sd (a b : Nat) (d R : Array E) : Prop := PermIn a b d R ∧ SortedIn ltE a b R
theorem Sd.of {a b : Nat} {d d' R : Array E} (h : PermIn a b d d') (k : Sd a b d' R) : Sd a b d R := ⟨permIn_trans _ _ _ _ _ h k.1, k.2⟩
def PdqR (E : Type) [El E] (C : Nat → Ev.Call) (s : Sl) (k m : Nat) : Prop := ∀ (a b l : Nat) (d : Array E) (H : Hp), b - a < m → a ≤ b → b ≤ s.n → l < 900000 → Go.Sort.Below (ltE (E := E)) a b d → St s d H →
 Ok (C k (.f qhz) [s.v, .int .i64 (.ofNat a), .int .i64 (.ofNat b), .int .i64 (.ofNat l)] H) fun r H' => r = .tup [] ∧ ∃ R, Sd a b d R ∧ St s R H' ∧ Fs s H H'
theorem qmb (hC : qdw C) {j : Nat} (hj : 7 ≤ j) (hc : ∀ k, 3 ≤ k → CmpL E (C k)) {s : Sl} (hn : s.n < 900000) (hl : SWO (ltE (E := E))) {m : Nat} (hR : PdqR E C s j m) {H0 : Hp} {q : Hp → R1} {Q : AV → Hp → Prop} :
  ∀ (k a b l : Nat) (wb wp : Bool) (d : Array E) (H : Hp), b - a < k → b - a ≤ m → a ≤ b → b ≤ s.n → l < 900000 → Go.Sort.Below (ltE (E := E)) a b d → St s d H → Fs s H0 H → (∀ R H', Sd a b d R → St s R H' → Fs s H0 H' → Ok (q H') Q) →
   Ok (qcg (C j) q s.v k (.int .i64 (.ofNat a)) (.int .i64 (.ofNat b)) (.int .i64 (.ofNat l)) (.bool wb) (.bool wp) H) Q
 | 0, _, _, _, _, _, _, _, h, _, _, _, _, _, _, _, _ => by omega
 | k + 1, a, b, l, wb, wp, d, H, hk, hm, hab, hb, hln, hB, hS, hF, hq => by
  show Ok (qmk (C j) _ _ (qcg (C j) _ _ k) _ _ _ _ _ H) Q
  unfold qmk
  by_cases h12 : b - a ≤ 12
  ·simp (disch := omega) only [go_sem, reduceAdd, h12]
   refine Ok.ve (zai hC (by omega) (hc _ (by omega)) hn hab hb hS) ?_
   rintro r H1 ⟨rfl, hS1, hF1⟩
   have hi := insertionSort_holds (lt := ltE) hl d a b hab (by rw [hS.sz]; exact hb)
   exact hq _ H1 ⟨hi.1, hi.2⟩ hS1 (hF.trans hF1)
  ·simp (disch := omega) only [go_sem, reduceAdd, h12]
   unfold qsp
   by_cases hl0 : l = 0
   ·simp (disch := omega) only [go_sem, reduceAdd, hl0]
    refine Ok.ve (q2o hC (by omega) (hc _ (by omega)) hn (by omega) hb hS) ?_
    rintro r H1 ⟨rfl, hS1, hF1⟩
    have hi := heapSort_holds (lt := ltE) hl d a b hab (by rw [hS.sz]; exact hb)
    exact hq _ H1 ⟨hi.1, hi.2⟩ hS1 (hF.trans hF1)
   ·simp (disch := omega) only [go_sem, reduceAdd, hl0]
    -- the round's last part
    have j18 : ∀ (l p : Nat) (d3 : Array E) (H3 : Hp), l < 900000 → a ≤ p ∧ p < b → PermIn a b d d3 → St s d3 H3 → Fs s H0 H3 →
      Ok (qmj (C j) (qcg (C j) q s.v k) s.v (.int .i64 (.ofNat a)) (.int .i64 (.ofNat b)) (.int .i64 (.ofNat l)) (.int .i64 (.ofNat (b - a))) (.int .i64 (.ofNat p)) H3) Q := by
     intro l p d3 H3 hl3 hp hP hS3 hF3
     have hb3 : b ≤ d3.size := by rw [hS3.sz]; exact hb
     have hB3 : Go.Sort.Below (ltE (E := E)) a b d3 := hB.perm (by rw [hS.sz]; exact hb) hP
     unfold qmj
     refine Ok.ve (qgf hC (by omega) (hc _ (by omega)) hn (by omega) hb hp hS3) ?_
     rintro r H4 ⟨mid, al, d4, hx, rfl, hS4, hF4⟩
     obtain ⟨h1, h2, h3, hBa, hBr, hL, hRt⟩ := round_part hl (partition_holds (lt := ltE)) hp.1 hp.2 hb3 hB3 hx
     have hF4' := hF3.trans hF4
     by_cases hlt : mid - a < b - mid
     ·simp (disch := omega) only [go_sem, reduceAdd, hlt]
      refine Ok.ve (hR a mid l d4 H4 (by omega) (by omega) (by omega) hl3 hBa hS4) ?_
      rintro r H5 ⟨rfl, L, hLs, hS5, hF5⟩
      obtain ⟨hB5, hfin⟩ := hL L hLs.1 hLs.2
      have hmn : mid < 900000 := by omega
      skip
      exact qmb hC hj hc hn hl hR k (mid + 1) b l _ al L H5 (by omega) (by omega) (by omega) hb hl3 hB5 hS5 (hF4'.trans hF5) fun R H' hRs hS' hF' => hq R H' (Sd.of hP (hfin R hRs.1 hRs.2)) hS' hF'
     ·have hmn : mid < 900000 := by omega
      simp (disch := omega) only [go_sem, reduceAdd, hlt]
      refine Ok.ve (hR (mid + 1) b l d4 H4 (by omega) (by omega) (by omega) hl3 hBr hS4) ?_
      rintro r H5 ⟨rfl, L, hLs, hS5, hF5⟩
      obtain ⟨hB5, hfin⟩ := hRt L hLs.1 hLs.2
      exact qmb hC hj hc hn hl hR k a mid l _ al L H5 (by omega) (by omega) (by omega) (by omega) hl3 hB5 hS5 (hF4'.trans hF5) fun R H' hRs hS' hF' => hq R H' (Sd.of hP (hfin R hRs.1 hRs.2)) hS' hF'
    have j38 : ∀ (l p : Nat) (d3 : Array E) (H3 : Hp), l < 900000 → a ≤ p ∧ p < b → PermIn a b d d3 → St s d3 H3 → Fs s H0 H3 →
      Ok (qfl (C j) (qcg (C j) q s.v k) s.v (.int .i64 (.ofNat a)) (.int .i64 (.ofNat b)) (.int .i64 (.ofNat l)) (.bool wb) (.bool wp) (.int .i64 (.ofNat (b - a))) (.int .i64 (.ofNat p)) H3) Q := by
     intro l p d3 H3 hl3 hp hP hS3 hF3
     have hb3 : b ≤ d3.size := by rw [hS3.sz]; exact hb
     have hB3 : Go.Sort.Below (ltE (E := E)) a b d3 := hB.perm (by rw [hS.sz]; exact hb) hP
     have hsz := hS3.sz
     have hg := hS3.get
     have hpn : p < s.n := by omega
     unfold qfl
     by_cases ha0 : 0 < a
     ·simp (disch := first | omega | (simp only [np, nq, zs, zw]; first | done | omega)) only [go_sem, reduceAdd, qab, lss0, qae, hg, ha0]
      refine Ok.deO (hc j (by omega) _ _ _ hS3.iv) ?_
      rintro v H4 ⟨rfl, f4⟩
      have hS4 := hS3.no f4
      have hg4 := hS4.get
      simp (disch := first | omega | (simp only [np, nq, zs, zw]; first | done | omega)) only [go_sem, reduceAdd, qab, lss0, qae, hg4]
      cases hx : ltE d3[a - 1]! d3[p]! with
      | true =>
       simp (disch := first | omega | (simp only [np, nq, zs, zw]; first | done | omega)) only [go_sem, reduceAdd, qab, lss0, qae]
       exact j18 l p d3 H4 hl3 hp hP hS4 (hF3.trans f4.fs)
      | false =>
       simp (disch := first | omega | (simp only [np, nq, zs, zw]; first | done | omega)) only [go_sem, reduceAdd, qab, lss0, qae]
       refine Ok.ve (q9n hC (by omega) (hc _ (by omega)) hn (by omega) hb hp hS4) ?_
       rintro r H5 ⟨mid, d5, hx5, rfl, hS5, hF5⟩
       obtain ⟨h1, h2, h3, hB5, hfin⟩ := round_eq hl (partitionEqual_holds (lt := ltE)) ha0 hp.1 hp.2 hb3 hB3 hx hx5
       exact qmb hC hj hc hn hl hR k mid b l wb wp d5 H5 (by omega) (by omega) h2 hb hl3 hB5 hS5 ((hF3.trans f4.fs).trans hF5) fun R H' hRs hS' hF' => hq R H' (Sd.of hP (hfin R hRs.1 hRs.2)) hS' hF'
     ·simp (disch := first | omega | (simp only [np, nq, zs, zw]; first | done | omega)) only [go_sem, reduceAdd, qab, lss0, qae, hg, ha0]
      exact j18 l p d3 H3 hl3 hp hP hS3 hF3
    have j45 : ∀ (l p hint : Nat) (d3 : Array E) (H3 : Hp), l < 900000 → a ≤ p ∧ p < b → PermIn a b d d3 → St s d3 H3 → Fs s H0 H3 →
      Ok (qi5 (C j) q (qcg (C j) q s.v k) s.v (.int .i64 (.ofNat a)) (.int .i64 (.ofNat b)) (.int .i64 (.ofNat l)) (.bool wb) (.bool wp) (.int .i64 (.ofNat (b - a))) (.int .i64 (.ofNat p)) (.int .i64 (.ofNat hint)) H3) Q := by
     intro l p hint d3 H3 hl3 hp hP hS3 hF3
     have hb3 : b ≤ d3.size := by rw [hS3.sz]; exact hb
     have hB3 : Go.Sort.Below (ltE (E := E)) a b d3 := hB.perm (by rw [hS.sz]; exact hb) hP
     have goP : Ok (ve (C j (.f qjh) [s.v, .int .i64 (.ofNat a), .int .i64 (.ofNat b)] H3) fun a44 H => cd a44 (q H) (qfl (C j) (qcg (C j) q s.v k) s.v (.int .i64 (.ofNat a)) (.int .i64 (.ofNat b)) (.int .i64 (.ofNat l)) (.bool wb) (.bool wp) (.int .i64 (.ofNat (b - a))) (.int .i64 (.ofNat p)) H)) Q := by
      refine Ok.ve (q12 hC (by omega) (hc _ (by omega)) hn (by omega) hb hS3) ?_
      rintro r H4 ⟨rfl, hS4, hF4⟩
      obtain ⟨h1, h2⟩ := partialInsertionSort_holds (lt := ltE) hl d3 a b (by omega) hb3 hB3
      cases hx : (partialInsertionSort ltE d3 a b).2 with
      | true =>
       simp (disch := omega) only [go_sem, reduceAdd]
       exact hq _ H4 (Sd.of hP ⟨h1, h2 hx⟩) hS4 (hF3.trans hF4)
      | false =>
       simp (disch := omega) only [go_sem, reduceAdd]
       exact j38 l p _ H4 hl3 hp (permIn_trans _ _ _ _ _ hP h1) hS4 (hF3.trans hF4)
     unfold qi5
     have no : Ok (qfl (C j) (qcg (C j) q s.v k) s.v (.int .i64 (.ofNat a)) (.int .i64 (.ofNat b)) (.int .i64 (.ofNat l)) (.bool wb) (.bool wp) (.int .i64 (.ofNat (b - a))) (.int .i64 (.ofNat p)) H3) Q := j38 l p d3 H3 hl3 hp hP hS3 hF3
     cases wb with
     | false => simp (disch := omega) only [go_sem, reduceAdd]; exact no
     | true =>
      cases wp with
      | false => simp (disch := omega) only [go_sem, reduceAdd]; exact no
      | true =>
       by_cases h1 : hint = 1
       ·simp (disch := omega) only [go_sem, reduceAdd, h1]; exact goP
       ·simp (disch := omega) only [go_sem, reduceAdd, h1]; exact no
    have j51 : ∀ (l : Nat) (d3 : Array E) (H3 : Hp), l < 900000 → PermIn a b d d3 → St s d3 H3 → Fs s H0 H3 →
      Ok (qi4 (C j) q (qcg (C j) q s.v k) s.v (.int .i64 (.ofNat a)) (.int .i64 (.ofNat b)) (.int .i64 (.ofNat l)) (.bool wb) (.bool wp) (.int .i64 (.ofNat (b - a))) H3) Q := by
     intro l d3 H3 hl3 hP hS3 hF3
     unfold qi4
     refine Ok.ve (q9l hC (by omega) (hc _ (by omega)) (hc _ (by omega)) hn hS3 (by omega) hb) ?_
     rintro r H4 ⟨p, hint, rfl, hp, hh, hS4, f4⟩
     by_cases h2 : hint = 2
     ·simp (disch := omega) only [go_sem, reduceAdd, h2]
      refine Ok.ve (q8z hC (by omega) hn (by omega) hb hS4) ?_
      rintro r H5 ⟨rfl, hS5, hF5⟩
      have hpb : p < b := hp.2
      have hpa : a ≤ p := hp.1
      have hbp : p - a ≤ b - 1 := by omega
      skip
      exact j45 l _ 1 _ H5 hl3 ⟨by omega, by omega⟩ (permIn_trans _ _ _ _ _ hP (reverseRange_holds _ a b hab (by rw [hS4.sz]; exact hb))) hS5 ((hF3.trans f4.fs).trans hF5)
     ·simp (disch := omega) only [go_sem, reduceAdd, h2]
      exact j45 l p hint d3 H4 hl3 hp hP hS4 (hF3.trans f4.fs)
    unfold qsq
    cases wb with
    | true =>
     simp (disch := omega) only [go_sem, reduceAdd]
     exact j51 l d H hln (permIn_refl _ _ _) hS hF
    | false =>
     simp (disch := omega) only [go_sem, reduceAdd]
     refine Ok.ve (zb4 hC (by omega) hn (by omega) hb hS) ?_
     rintro r H4 ⟨rfl, d4, hP4, hS4, hF4⟩
     skip
     exact j51 (l - 1) d4 H4 (by omega) hP4 hS4 (hF.trans hF4)
theorem q9o (hC : qdw C) (hc : ∀ k, 3 ≤ k → CmpL E (C k)) {s : Sl} (hn : s.n < 900000) (hl : SWO (ltE (E := E))) : ∀ (m k : Nat), m + 8 ≤ k → PdqR E C s k m
 | 0, k, hk => fun a b l d H h => by omega
 | m + 1, k, hk => by
  intro a b l d H h hab hb hln hB hS
  obtain ⟨k, rfl⟩ : ∃ j, k = j + 1 := ⟨k - 1, by omega⟩
  rw [(hC.1 k).o_pdq]
  unfold o_pdq qw2 qp8
  rw [qam]
  exact qmb hC (by omega) hc hn hl (q9o hC hc hn hl m k (by omega)) qal a b l true true d H (by rw [qag]; omega) (by omega) hab hb hln hB hS (Fm.refl _ _) fun R H' hs hS' hF' => Ok.ret ⟨rfl, R, hs, hS', hF'⟩
theorem Sort_ok (hC : qdw C) {k : Nat} (hc : ∀ k, 3 ≤ k → CmpL E (C k)) {s : Sl} (hn : s.n < 900000) (hk : s.n + 10 ≤ k) (hl : SWO (ltE (E := E))) {d : Array E} {H : Hp} (hS : St s d H) :
  Ok (C k (.f qes) [s.v] H) fun r H' => r = .tup [] ∧ ∃ R, Sd 0 s.n d R ∧ St s R H' ∧ Fs s H H' := by
 obtain ⟨k, rfl⟩ : ∃ j, k = j + 1 := ⟨k - 1, by omega⟩
 rw [(hC.1 k).o_Sort]
 unfold o_Sort qqa
 have e0 : qbu s.v = .val (.int .i64 (.ofNat s.n)) := rfl
 have e1 := qh6 .i64 s.n (by omega)
 have e2 := q0w hC.2 (k := k) (by omega) s.n (by omega) H
 have e3 : bitsLen s.n ≤ 20 := (bitsLen_le_iff s.n 20).2 (by omega)
 simp (disch := omega) only [go_sem, reduceAdd, e0, e1, e2]
 refine Ok.ve (q9o hC hc hn hl (s.n + 1) k (by omega) 0 s.n (bitsLen s.n) d H (by omega) (by omega) (by omega) (by omega) (Or.inl rfl) hS) ?_
 rintro r H1 ⟨rfl, R, h1, h2, h3⟩
 exact Ok.ret ⟨rfl, R, h1, h2, h3⟩
end Go.Di.O
end
