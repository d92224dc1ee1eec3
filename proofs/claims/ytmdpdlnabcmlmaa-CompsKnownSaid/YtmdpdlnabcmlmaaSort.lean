/-
 For countersignlaw17.CompsKnown: contracts of the sorts. No conditions beyond those that each theorem states.
-/
import Derived.Test.YtmdpdlnabcmlmaaDir
import Derived.Sort.AssemblyPlain
set_option linter.unusedSimpArgs false
set_option linter.unusedVariables false
open Nat (reduceAdd reduceMul reduceSub reduceLeDiff reduceEqDiff reduceShiftRight reduceAnd)
noncomputable section
/-
 The sort: an array of one-celled elements in memory, and what is done with it.
-/
namespace Go.Di
open Go.Ev
theorem qag : qak = 1000000 := rfl
class El (E : Type) extends Inhabited E where
 enc : E → AV
 cmp : E → E → Int
 home : Nat → Prop
 iv : Hp → Prop
 ivK : ∀ {S : Nat → Prop} {H H' : Hp}, iv H → Fm S H H' → (∀ b, home b → ¬ S b) → iv H'
 homeLt : ∀ {H : Hp} {b : Nat}, iv H → home b → b < H.nx
 stE : ∀ (H : Hp) (b o : Nat) (x : E), qao H (.ptr b o) (enc x) = storeAt H b o [enc x] .undef
 eqE : ∀ x : E, eqF 64 (enc x) (enc x) = true
variable {E : Type} [El E]
open El (enc cmp home iv)
def ltE (x y : E) : Bool := decide (cmp x y < 0)
structure Sl where
 b : Nat
 q : Nat
 n : Nat
 m : Nat
 e : Bool
 pre : List AV
 suf : List AV
def Sl.v (s : Sl) : AV := .sl s.b s.pre.length s.n s.m s.e
def Sl.blk (s : Sl) (d : Array E) : Blk := qae s.q (s.pre ++ (d.toList.map enc ++ s.suf))
theorem Sl.idx (s : Sl) {i : Nat} (h : i < s.n) : idxS 1 s.v (.int .i64 (.ofNat i)) = .val (.ptr s.b (s.pre.length + i)) := by
 have := qi5 1 s.b s.pre.length s.n s.m s.e .i64 i h
 rw [Nat.mul_one] at this
 exact this
theorem Sl.rd (s : Sl) {d : Array E} {i : Nat} (h : i < d.size) : qbl (s.blk d) (s.pre.length + i) = .val (enc d[i]!) := by
 unfold Sl.blk
 rw [qcl, List.getElem?_append_right (by omega), Nat.add_sub_cancel_left, List.getElem?_append_left (by simpa using h)]
 simp [h]
theorem Sl.wr (s : Sl) {d : Array E} {i : Nat} (x : E) (h : i < d.size) : qj0 (s.blk d) (s.pre.length + i) [enc x] = some (s.blk (d.setIfInBounds i x)) := by
 unfold Sl.blk
 rw [qjh, if_pos (by simp only [List.length_append, List.length_map, Array.length_toList, List.length_cons, List.length_nil]; omega)]
 congr 2
 unfold setL
 rw [List.take_append, List.take_of_length_le (by omega), List.drop_append, List.drop_eq_nil_of_le (by simp; omega)]
 rw [show s.pre.length + i - s.pre.length = i by omega, show s.pre.length + i + [enc x].length - s.pre.length = i + 1 by simp; omega]
 rw [List.take_append_of_le_length (by simp; omega), List.drop_append_of_le_length (by simp; omega)]
 rw [Array.toList_setIfInBounds, List.map_set]
 rw [List.set_eq_take_append_cons_drop, if_pos (by simpa using h)]
 simp
theorem zhj (x : E) : eqF 64 (enc x) (enc x) = true := El.eqE x
theorem stE (H : Hp) (b o : Nat) (x : E) : qao H (.ptr b o) (enc x) = storeAt H b o [enc x] .undef := El.stE H b o x
theorem qab (call : Ev.Call) (f : FuncId) (args : List AV) (H : Hp) : qfm call (.fn f [] []) args H = call (.f f) args H := by
 show call (.f f) ([] ++ args ++ []) H = _
 rw [List.nil_append, List.append_nil]
structure St (s : Sl) (d : Array E) (H : Hp) : Prop where
 get : H.get s.b = s.blk d
 lt : s.b < H.nx
 sz : d.size = s.n
 iv : El.iv E H
 nh : ¬ home (E := E) s.b
theorem St.no {s : Sl} {d : Array E} {H H' : Hp} (h : St s d H) (f : Fm No H H') : St s d H' := ⟨(f.keep h.lt).trans h.get, Nat.lt_of_lt_of_le h.lt f.nx, h.sz, El.ivK h.iv f fun _ _ => id, h.nh⟩
abbrev Fs (s : Sl) (H H' : Hp) : Prop := Fm (fun b => b = s.b) H H'
theorem Fm.fs {s : Sl} {H H' : Hp} (f : Fm No H H') : Fs s H H' := f.mono fun _ _ h => h.elim
def CmpE (E : Type) [El E] (call : Ev.Call) (fc : FuncId) : Prop := ∀ (x y : E) (H : Hp), iv E H → Ok (call (.f fc) [enc x, enc y] H) fun v H' => v = .int .i64 (cmp x y) ∧ Fm No H H'
def CmpL (E : Type) [El E] (call : Ev.Call) : Prop := ∀ (x y : E) (H : Hp), iv E H → Ok (call (.f qbk) [enc x, enc y] H) fun v H' => v = .bool (ltE x y) ∧ Fm No H H'
theorem lss0 (n : Int) : (n < Int.ofNat 0) = (n < 0) := id rfl
theorem qad (x y : E) : (decide (cmp x y < 0)) = ltE x y := id rfl
open Go.Sort in
theorem swp_size (d : Array E) (i j : Nat) : (swp d i j).size = d.size := by simp [swp]
open Go.Sort in
theorem St.put2 {s : Sl} {d d1 d2 : Array E} {H : Hp} (h : St s d H) (hz : d2.size = d.size) : St s d2 ((H.put s.b (s.blk d1)).put s.b (s.blk d2)) :=
 ⟨qai _ _ _, h.lt, hz.trans h.sz, El.ivK h.iv (((Fm.refl (fun b => b = s.b) H).put _ _ fun _ => rfl).put _ _ fun _ => rfl) fun b hb e => h.nh (e ▸ hb), h.nh⟩
theorem Fs.put2 {s : Sl} {d1 d2 : Array E} {H0 H : Hp} (h : Fs s H0 H) : Fs s H0 ((H.put s.b (s.blk d1)).put s.b (s.blk d2)) := (h.put _ _ fun _ => rfl).put _ _ fun _ => rfl
structure Cnt (E : Type) [El E] (s : Sl) (pb w : Nat) (H : Hp) : Prop where
 get : H.get pb = qae 0 [.int .i64 (.ofNat w)]
 lt : pb < H.nx
 ne : s.b ≠ pb
 nh : ¬ home (E := E) pb
abbrev Fp (pb : Nat) (H H' : Hp) : Prop := Fm (fun b => b = pb) H H'
theorem Fm.fp {pb : Nat} {H H' : Hp} (f : Fm No H H') : Fp pb H H' := f.mono fun _ _ h => h.elim
theorem Cnt.no {s : Sl} {pb w : Nat} {H H' : Hp} (h : Cnt E s pb w H) (f : Fm No H H') : Cnt E s pb w H' := ⟨(f.keep h.lt).trans h.get, Nat.lt_of_lt_of_le h.lt f.nx, h.ne, h.nh⟩
theorem St.fp {s : Sl} {d : Array E} {pb : Nat} {H H' : Hp} (h : St s d H) (f : Fp pb H H') (hne : s.b ≠ pb) (hn : ¬ home (E := E) pb) : St s d H' := ⟨(f.get _ h.lt hne).trans h.get, Nat.lt_of_lt_of_le h.lt f.nx, h.sz, El.ivK h.iv f fun b hb e => hn (e ▸ hb), h.nh⟩
def dn : Nat → AV
 | 0 => .int .i64 (.negSucc 0)
 | r + 1 => .int .i64 (.ofNat r)
theorem quj (i : Nat) (h : i < 900000) : intV (qaa .sub).f (.int .i64 (.ofNat i)) (.int .i64 (.ofNat 1)) = .val (dn i) := by
 cases i with
 | zero => rfl
 | succ i => rw [q8g _ _ (by omega) (by omega)]; rfl
theorem zs {α : Type} (a : Array α) (i : Nat) (v : α) : (a.setIfInBounds i v).size = a.size := Array.size_setIfInBounds
theorem zw (a : Array E) (i j : Nat) : (Go.Sort.swp a i j).size = a.size := swp_size a i j
attribute [go_sem] Sl.idx Sl.rd Sl.wr stE zs zw zhj
end Go.Di
end
noncomputable section
/-
 How many bits a number has; the next random number.
-/
namespace Go.Di
open Go.Ev Go.Sort
variable {C : Nat → Ev.Call}
theorem ze5 (n : Nat) (h : n < 256) : qfh .u8 (.ofNat n) = .ofNat n := by
 show (bif Nat.blt n 256 then _ else _) = _
 rw [qh7, decide_eq_true h]; rfl
theorem qt3 (n : Nat) (h : n < 18446744073709551616) : qfh .u64 (.ofNat n) = .ofNat n := by
 show (bif Nat.blt n 18446744073709551616 then _ else _) = _
 rw [qh7, decide_eq_true h]; rfl
theorem zhs (k : IntKind) (n : Nat) (h : n < 256) : qh9 .u8 (.int k (.ofNat n)) = .val (.int .u8 (.ofNat n)) := congrArg (fun x => R0.val (.int .u8 x)) (ze5 n h)
theorem qh3 (k : IntKind) (n : Nat) (h : n < 18446744073709551616) : qh9 .u64 (.int k (.ofNat n)) = .val (.int .u64 (.ofNat n)) := congrArg (fun x => R0.val (.int .u64 x)) (qt3 n h)
theorem qx2 (k : IntKind) (n : Nat) (h : n < 9223372036854775808) : qh9 .i64 (.int k (.ofNat n)) = .val (.int .i64 (.ofNat n)) := congrArg (fun x => R0.val (.int .i64 x)) (qhd n h)
theorem q8q (n j : Nat) (k : IntKind) (h : j ≤ 64) : qew (qb0 .shr).f (.int .u64 (.ofNat n)) (.int k (.ofNat j)) = .val (.int .u64 (.ofNat (n / 2 ^ j))) := by
 show (bif ltI (.ofNat j) 0 then R0.bad else .val (.int .u64 ((Int.ofNat n).fdiv (2 ^ (min j 64))))) = _
 rw [qfz, Nat.min_eq_left h]
 have h0 : decide ((Int.ofNat j) < 0) = false := by simp
 rw [h0]
 show R0.val (.int .u64 ((Int.ofNat n).fdiv (2 ^ j))) = _
 congr 2
 have h2 : ((2 : Int) ^ j) = Int.ofNat (2 ^ j) := by simp
 rw [h2]
 show Int.fdiv (n : Int) ((2 ^ j : Nat) : Int) = ((n / 2 ^ j : Nat) : Int)
 rw [Int.fdiv_eq_ediv_of_nonneg _ (Int.natCast_nonneg _)]
 rfl
theorem shr_u (a : Int) (j : Nat) (k : IntKind) : qew (qb0 .shr).f (.int .u64 a) (.int k (.ofNat j)) = .val (.int .u64 (a.fdiv (2 ^ (min j 64)))) := by
 show (bif ltI (.ofNat j) 0 then R0.bad else .val (.int .u64 (a.fdiv (2 ^ (min j 64))))) = _
 rw [qfz]
 have h0 : decide ((Int.ofNat j) < 0) = false := by simp
 rw [h0]; rfl
theorem zie (a : Int) (j : Nat) (k : IntKind) : qew (qb0 .shl).f (.int .u64 a) (.int k (.ofNat j)) = .val (.int .u64 (qfh .u64 (a * 2 ^ (min j 64)))) := by
 show (bif ltI (.ofNat j) 0 then R0.bad else .val (.int .u64 (qfh .u64 (a * 2 ^ (min j 64))))) = _
 rw [qfz]
 have h0 : decide ((Int.ofNat j) < 0) = false := by simp
 rw [h0]; rfl
def xorI (a b : Int) : Int := IntKind.u64.wrap (BitVec.ofInt IntKind.u64.bits a ^^^ BitVec.ofInt IntKind.u64.bits b).toNat
theorem xor_u (a b : Int) : intV (qaa .xor).f (.int .u64 a) (.int .u64 b) = .val (.int .u64 (xorI a b)) := id rfl
theorem q8f (a b : Nat) (h : b ≤ a) (h2 : a < 18446744073709551616) : intV (qaa .sub).f (.int .u64 (.ofNat a)) (.int .u64 (.ofNat b)) = .val (.int .u64 (.ofNat (a - b))) := by
 show R0.val (.int .u64 (qfh .u64 (Int.ofNat a - Int.ofNat b))) = _
 rw [show (Int.ofNat a - Int.ofNat b) = Int.ofNat (a - b) by simp only [Int.ofNat_eq_natCast]; omega, qt3 _ (by omega)]
theorem zcp (a : Int) (b : Nat) (h : b < 18446744073709551616) : ∃ o, o ≤ b ∧ intV (qaa .and).f (.int .u64 a) (.int .u64 (.ofNat b)) = .val (.int .u64 (.ofNat o)) := by
 refine ⟨(BitVec.ofInt 64 a &&& BitVec.ofInt 64 (.ofNat b)).toNat, ?_, ?_⟩
 ·rw [BitVec.toNat_and]
  refine Nat.le_trans Nat.and_le_right ?_
  rw [BitVec.toNat_ofInt]
  simp only [Int.ofNat_eq_natCast]
  omega
 ·show R0.val (.int .u64 (IntKind.u64.wrap ((BitVec.ofInt 64 a &&& BitVec.ofInt 64 (.ofNat b)).toNat : Nat))) = _
  have hlt := (BitVec.ofInt 64 a &&& BitVec.ofInt 64 (.ofNat b)).isLt
  generalize (BitVec.ofInt 64 a &&& BitVec.ofInt 64 (.ofNat b)).toNat = o at hlt
  congr 2
  simp only [IntKind.wrap, IntKind.signed, IntKind.bits, Int.ofNat_eq_natCast, Bool.false_and, Bool.false_eq_true, if_false]
  omega
theorem qt2 (n k : Nat) (h : 2 ^ k ≤ n) : bitsLen n = k + bitsLen (n / 2 ^ k) := by
 have hp : 0 < 2 ^ k := Nat.two_pow_pos k
 have key : ∀ m, bitsLen n ≤ k + m ↔ bitsLen (n / 2 ^ k) ≤ m := fun m => by
  rw [bitsLen_le_iff, bitsLen_le_iff, Nat.div_lt_iff_lt_mul hp, Nat.pow_add, Nat.mul_comm]
 have hk : k ≤ bitsLen n := by
  rcases Nat.lt_or_ge (bitsLen n) k with h1 | h1
  ·exact absurd ((bitsLen_le_iff n k).1 (by omega)) (by omega)
  ·exact h1
 have h1 := (key (bitsLen (n / 2 ^ k))).2 (Nat.le_refl _)
 have h2 := (key (bitsLen n - k)).1 (by omega)
 omega
def tab8 : Nat := 1013866857139168856493015739252390649739422828853819106890363778118420553376247557433637691341895324351018602695588957474325319502760499485336098898398377509666851054660423406800006203933793007272033180812049178612605246075062580585469430410618860250057463399279570354286669047577758927328864388992123306212451509403152394148136105363817402562688186708175358218852349079190158732807302672745370040257219644697201681238697346923541678507645485296520536209706771857694240900605172937619415410180424934769249448772944216470541052485265558808433676546390051204254346932932316488017972311616136051587427851453983453479168
theorem zf8 : ((List.range 256).all fun x => Nat.beq (qmv tab8 x) (bitsLen x)) = true := by decide +kernel
theorem zhb (x : Nat) (h : x < 256) : qtd (.str 256 1013866857139168856493015739252390649739422828853819106890363778118420553376247557433637691341895324351018602695588957474325319502760499485336098898398377509666851054660423406800006203933793007272033180812049178612605246075062580585469430410618860250057463399279570354286669047577758927328864388992123306212451509403152394148136105363817402562688186708175358218852349079190158732807302672745370040257219644697201681238697346923541678507645485296520536209706771857694240900605172937619415410180424934769249448772944216470541052485265558808433676546390051204254346932932316488017972311616136051587427851453983453479168) (.int .u8 (.ofNat x)) = .val (.int .u8 (.ofNat (bitsLen x))) := by
 show (bif Nat.blt x 256 then R0.val (.int .u8 (.ofNat (qmv tab8 x))) else .bad) = _
 rw [qh7, decide_eq_true h]
 have := List.all_eq_true.1 zf8 x (List.mem_range.2 h)
 rw [Nat.eq_of_beq_eq_true this]; rfl
theorem bl8 (x : Nat) (h : x < 256) : bitsLen x ≤ 8 := (bitsLen_le_iff x 8).2 h
theorem zar {call : Ev.Call} (x m : Nat) (h : x < 256) (hm : m < 1000) (H : Hp) : qgr call (.int .u64 (.ofNat x)) (.int .i64 (.ofNat m)) H = .ok (.int .i64 (.ofNat (m + bitsLen x))) H := by
 unfold qgr
 have h8 := bl8 x h
 simp only [zhs _ _ h, qj3, zhb x h, qx2 .u8 (bitsLen x) (by omega), zfv m (bitsLen x) (by omega)]
theorem zaq {call : Ev.Call} (x m : Nat) (h : x < 65536) (hm : m < 900) (H : Hp) : qgq call (.int .u64 (.ofNat x)) (.int .i64 (.ofNat m)) H = .ok (.int .i64 (.ofNat (m + bitsLen x))) H := by
 unfold qgq
 by_cases h1 : 256 ≤ x
 ·simp (disch := first | omega | exact ti rfl) only [go_sem, reduceAdd, reduceLeDiff, h1, q8q]
  rw [zar _ _ (by omega) (by omega), qt2 x 8 (by omega), Nat.add_assoc]
 ·simp (disch := first | omega | exact ti rfl) only [go_sem, reduceAdd, reduceLeDiff, h1]
  rw [zar _ _ (by omega) (by omega)]
theorem zd6 {call : Ev.Call} (x m : Nat) (h : x < 4294967296) (hm : m < 800) (H : Hp) : qe4 call (.int .u64 (.ofNat x)) (.int .i64 (.ofNat m)) H = .ok (.int .i64 (.ofNat (m + bitsLen x))) H := by
 unfold qe4
 by_cases h1 : 65536 ≤ x
 ·simp (disch := first | omega | exact ti rfl) only [go_sem, reduceAdd, reduceLeDiff, h1, q8q]
  rw [zaq _ _ (by omega) (by omega), qt2 x 16 (by omega), Nat.add_assoc]
 ·simp (disch := first | omega | exact ti rfl) only [go_sem, reduceAdd, reduceLeDiff, h1]
  rw [zaq _ _ (by omega) (by omega)]
theorem q0s (hC : qbe C) {k : Nat} (hk : 2 ≤ k) (x : Nat) (h : x < 4294967296) (H : Hp) : C k (.f qjt) [.int .u64 (.ofNat x)] H = .ok (.int .i64 (.ofNat (bitsLen x))) H := by
 obtain ⟨k, rfl⟩ : ∃ j, k = j + 2 := ⟨k - 2, by omega⟩
 rw [(hC (k + 1)).s_Len]
 unfold s_Len q1d
 simp (disch := first | omega | exact ti rfl) only [go_sem, reduceAdd, reduceLeDiff]
 unfold qv6
 rw [(hC k).s_Len64]
 unfold s_Len64 qrh
 have h1 : ¬ 4294967296 ≤ x := by omega
 simp (disch := first | omega | exact ti rfl) only [go_sem, reduceAdd, reduceLeDiff, h1]
 rw [zd6 _ _ h (by omega)]
 simp (disch := first | omega | exact ti rfl) only [go_sem, reduceAdd, reduceLeDiff]
theorem q93 (hC : qbe C) {k : Nat} (hk : 3 ≤ k) (x : Nat) (h : x < 900000) (H : Hp) : C k (.f qi8) [.int .i64 (.ofNat x)] H = .ok (.int .u64 (.ofNat (2 ^ bitsLen x))) H := by
 obtain ⟨k, rfl⟩ : ∃ j, k = j + 3 := ⟨k - 3, by omega⟩
 rw [(hC (k + 2)).s_npow]
 unfold s_npow qvz
 have h20 : bitsLen x ≤ 20 := (bitsLen_le_iff x 20).2 (by omega)
 have e : qfh .u64 (Int.ofNat 1 * 2 ^ (min (bitsLen x) 64)) = .ofNat (2 ^ bitsLen x) := by
  rw [Nat.min_eq_left (by omega)]
  have h2 : Int.ofNat 1 * (2 : Int) ^ bitsLen x = Int.ofNat (2 ^ bitsLen x) := by simp
  rw [h2, qt3 _ (Nat.lt_of_le_of_lt (Nat.pow_le_pow_right (by omega) h20) (by omega))]
 simp only [qh3 .i64 x (by omega), qj3, q0s hC (k := k + 2) (by omega) x (by omega), zh9, zie, e]
theorem quh (hC : qbe C) {k : Nat} (hk : 1 ≤ k) {rb : Nat} {w : Int} {H : Hp} (hg : H.get rb = qae 0 [.int .u64 w]) :
  ∃ w' H', C k (.f qed) [.ptr rb 0] H = .ok (.int .u64 w') H' ∧ H'.get rb = qae 0 [.int .u64 w'] ∧ Fp rb H H' ∧ H'.nx = H.nx := by
 obtain ⟨k, rfl⟩ : ∃ j, k = j + 1 := ⟨k - 1, by omega⟩
 rw [(hC k).s_xorNext]
 unfold s_xorNext qkc
 simp (disch := first | omega | exact ti rfl) only [go_sem, reduceAdd, reduceLeDiff, hg, zie, shr_u, xor_u]
 exact ⟨_, _, rfl, qai _ _ _, (((Fm.refl (fun b => b = rb) H).put _ _ fun _ => rfl).put _ _ fun _ => rfl).put _ _ fun _ => rfl, rfl⟩
end Go.Di
end
noncomputable section
/-
 The sort: insertion.
-/
namespace Go.Di.F
open Go.Ev Go.Sort
variable {E : Type} [El E]
theorem qzz {call : Ev.Call} {fc : FuncId} (hc : CmpE E call fc) {s : Sl} (hn : s.n < 900000) {a : Nat} {H0 : Hp} {q : Hp → R1} {Q : AV → Hp → Prop} :
  ∀ (k j : Nat) (d : Array E) (H : Hp), j < k → j < s.n → St s d H → Fs s H0 H → (∀ H', St s (insInner ltE a j d) H' → Fs s H0 H' → Ok (q H') Q) →
   Ok (qjl call q s.v (.int .i64 (.ofNat a)) (.fn fc [] []) k (.int .i64 (.ofNat j)) H) Q
 | 0, j, _, _, h, _, _, _, _ => by omega
 | k + 1, j, d, H, hk, hj, hS, hF, hq => by
  show Ok (qv3 call _ _ _ _ (qjl call _ _ _ _ k) _ H) Q
  unfold qv3
  have hsz := hS.sz
  have hg := hS.get
  by_cases h : a < j
  ·obtain ⟨p, rfl⟩ : ∃ p, j = p + 1 := ⟨j - 1, by omega⟩
   rw [insInner] at hq
   simp (disch := first | omega | (simp only [np, nq, zs, zw]; first | done | omega)) only [go_sem, reduceAdd, qab, lss0, qad, hg, h, Nat.add_sub_cancel]
   refine Ok.deO (hc _ _ _ hS.iv) ?_
   rintro v H' ⟨rfl, f'⟩
   have hS' := hS.no f'
   have hg' := hS'.get
   simp (disch := first | omega | (simp only [np, nq, zs, zw]; first | done | omega)) only [go_sem, reduceAdd, qab, lss0, qad, hg', Nat.add_sub_cancel]
   cases hl : ltE d[p + 1]! d[p]! with
   | false =>
    rw [hl] at hq
    simp (disch := first | omega | (simp only [np, nq, zs, zw]; first | done | omega)) only [go_sem, reduceAdd, qab, lss0, qad]
    exact hq H' (by simpa using hS') (hF.trans f'.fs)
   | true =>
    rw [hl] at hq
    unfold qq9
    simp (disch := first | omega | (simp only [np, nq, zs, zw]; first | done | omega)) only [go_sem, reduceAdd, qab, lss0, qad, hg', Nat.add_sub_cancel]
    unfold qv1
    simp (disch := first | omega | (simp only [np, nq, zs, zw]; first | done | omega)) only [go_sem, reduceAdd, qab, lss0, qad, Nat.add_sub_cancel]
    exact qzz hc hn k p (swp d (p + 1) p) _ (by omega) (by omega) (hS'.put2 (swp_size _ _ _)) (Fs.put2 (hF.trans f'.fs)) (by simpa [h] using hq)
  ·simp (disch := first | omega | (simp only [np, nq, zs, zw]; first | done | omega)) only [go_sem, reduceAdd, qab, lss0, qad, h]
   refine hq H ?_ hF
   cases j with
   | zero => exact hS
   | succ j => rw [insInner]; simpa [show ¬ a < j + 1 from h] using hS
theorem qhv (lt : E → E → Bool) (a : Nat) : ∀ (j : Nat) (d : Array E), (insInner lt a j d).size = d.size
 | 0, d => rfl
 | j + 1, d => by
  rw [insInner]
  split
  ·rw [qhv lt a j, swp_size]
  ·rfl
theorem qtc {call : Ev.Call} {fc : FuncId} (hc : CmpE E call fc) {s : Sl} (hn : s.n < 900000) {a b : Nat} (hb : b ≤ s.n) {H0 : Hp} {q : Hp → R1} {Q : AV → Hp → Prop} :
  ∀ (k i : Nat) (d : Array E) (H : Hp), b - i < k → i ≤ 900001 → St s d H → Fs s H0 H → (∀ H', St s (insOuter ltE a b i d) H' → Fs s H0 H' → Ok (q H') Q) →
   Ok (qcv call q s.v (.int .i64 (.ofNat a)) (.int .i64 (.ofNat b)) (.fn fc [] []) k (.int .i64 (.ofNat i)) H) Q
 | 0, i, _, _, h, _, _, _, _ => by omega
 | k + 1, i, d, H, hk, hi, hS, hF, hq => by
  show Ok (qlt call _ _ _ _ _ (qcv call _ _ _ _ _ k) _ H) Q
  unfold qlt
  rw [insOuter] at hq
  by_cases h : i < b
  ·rw [if_pos h] at hq
   simp (disch := first | omega | (simp only [np, nq, zs, zw]; first | done | omega)) only [go_sem, reduceAdd, qab, lss0, qad, h]
   unfold qq8 qv4
   rw [qam]
   refine qzz hc hn qak i d H (by rw [qag]; omega) (by omega) hS hF fun H' hS' hF' => ?_
   unfold qhh
   simp (disch := first | omega | (simp only [np, nq, zs, zw]; first | done | omega)) only [go_sem, reduceAdd, qab, lss0, qad]
   exact qtc hc hn hb k (i + 1) _ H' (by omega) (by omega) hS' hF' hq
  ·rw [if_neg h] at hq
   simp (disch := first | omega | (simp only [np, nq, zs, zw]; first | done | omega)) only [go_sem, reduceAdd, qab, lss0, qad, h]
   exact hq H hS hF
theorem zay {C : Nat → Ev.Call} (hC : qbe C) {k : Nat} (hk : 1 ≤ k) {fc : FuncId} (hc : CmpE E (C (k - 1)) fc) {s : Sl} (hn : s.n < 900000) {a b : Nat} (ha : a ≤ b) (hb : b ≤ s.n) {d : Array E} {H : Hp} (hS : St s d H) :
  Ok (C k (.f qmj) [s.v, .int .i64 (.ofNat a), .int .i64 (.ofNat b), .fn fc [] []] H) fun r H' => r = .tup [] ∧ St s (insertionSort ltE d a b) H' ∧ Fs s H H' := by
 obtain ⟨j, rfl⟩ : ∃ j, k = j + 1 := ⟨k - 1, by omega⟩
 rw [(hC j).s_ins]
 unfold s_ins qv2
 simp (disch := first | omega | (simp only [np, nq, zs, zw]; first | done | omega)) only [go_sem, reduceAdd, qab, lss0, qad]
 unfold qpo
 rw [qam]
 exact qtc hc hn hb qak (a + 1) d H (by rw [qag]; omega) (by omega) hS (Fm.refl _ _) fun H' hS' hF' => Ok.ret ⟨rfl, hS', hF'⟩
end Go.Di.F
end
noncomputable section
/-
 The sort: the pivot.
-/
namespace Go.Di.F
open Go.Ev Go.Sort
variable {C : Nat → Ev.Call} {E : Type} [El E]
theorem qky (hC : qbe C) {k : Nat} (hk : 1 ≤ k) {fc : FuncId} (hc : CmpE E (C (k - 1)) fc) {s : Sl} {d : Array E} {pb w i j lo hi : Nat} {H : Hp} (hS : St s d H) (hp : Cnt E s pb w H) (hw : w < 900000)
  (hi1 : lo ≤ i ∧ i < hi) (hj1 : lo ≤ j ∧ j < hi) (hh : hi ≤ s.n) :
  Ok (C k (.f qg5) [s.v, .int .i64 (.ofNat i), .int .i64 (.ofNat j), .ptr pb 0, .fn fc [] []] H) fun r H' =>
   ∃ i' j' w', r = .tup [.int .i64 (.ofNat i'), .int .i64 (.ofNat j')] ∧ (lo ≤ i' ∧ i' < hi) ∧ (lo ≤ j' ∧ j' < hi) ∧ w' ≤ w + 1 ∧ St s d H' ∧ Cnt E s pb w' H' ∧ Fp pb H H' := by
 obtain ⟨k, rfl⟩ : ∃ j, k = j + 1 := ⟨k - 1, by omega⟩
 rw [(hC k).s_ord2]
 unfold s_ord2 qvy
 have hsz := hS.sz
 have hg := hS.get
 simp (disch := first | omega | (simp only [np, nq, zs, zw]; first | done | omega)) only [go_sem, reduceAdd, qab, lss0, qad, hg]
 refine Ok.deO (hc _ _ _ hS.iv) ?_
 rintro v H' ⟨rfl, f'⟩
 have hS' := hS.no f'
 have hp' := hp.no f'
 have hg' := hS'.get
 have hpg := hp'.get
 simp (disch := first | omega | (simp only [np, nq, zs, zw]; first | done | omega)) only [go_sem, reduceAdd, qab, lss0, qad, hg']
 cases hl : ltE d[j]! d[i]! with
 | true =>
  simp (disch := first | omega | (simp only [np, nq, zs, zw]; first | done | omega)) only [go_sem, reduceAdd, qab, lss0, qad, hpg]
  have fp : Fp pb H' (H'.put pb (qae 0 [.int .i64 (.ofNat (w + 1))])) := (Fm.refl _ _).put _ _ fun _ => rfl
  exact Ok.ret ⟨j, i, w + 1, rfl, hj1, hi1, Nat.le_refl _, hS'.fp fp hp.ne hp.nh, ⟨qai _ _ _, hp'.lt, hp.ne, hp.nh⟩, f'.fp.trans fp⟩
 | false =>
  simp (disch := first | omega | (simp only [np, nq, zs, zw]; first | done | omega)) only [go_sem, reduceAdd, qab, lss0, qad]
  unfold qq7
  exact Ok.ret ⟨i, j, w, rfl, hi1, hj1, Nat.le_succ _, hS', hp', f'.fp⟩
theorem qzu (hC : qbe C) {k : Nat} (hk : 2 ≤ k) {fc : FuncId} (hc : CmpE E (C (k - 2)) fc) {s : Sl} {d : Array E} {pb w a b c lo hi : Nat} {H : Hp} (hS : St s d H) (hp : Cnt E s pb w H) (hw : w < 900)
  (ha : lo ≤ a ∧ a < hi) (hb : lo ≤ b ∧ b < hi) (hc1 : lo ≤ c ∧ c < hi) (hh : hi ≤ s.n) :
  Ok (C k (.f qmi) [s.v, .int .i64 (.ofNat a), .int .i64 (.ofNat b), .int .i64 (.ofNat c), .ptr pb 0, .fn fc [] []] H) fun r H' =>
   ∃ i' w', r = .int .i64 (.ofNat i') ∧ (lo ≤ i' ∧ i' < hi) ∧ w' ≤ w + 3 ∧ St s d H' ∧ Cnt E s pb w' H' ∧ Fp pb H H' := by
 obtain ⟨k, rfl⟩ : ∃ j, k = j + 2 := ⟨k - 2, by omega⟩
 rw [(hC (k + 1)).s_med]
 unfold s_med q1a
 refine Ok.ve (qky hC (k := k + 1) (by omega) hc hS hp (by omega) ha hb hh) ?_
 rintro r H1 ⟨a1, b1, w1, rfl, ha1, hb1, hw1, hS1, hp1, f1⟩
 simp (disch := omega) only [go_sem, reduceAdd]
 refine Ok.ve (qky hC (k := k + 1) (by omega) hc hS1 hp1 (by omega) hb1 hc1 hh) ?_
 rintro r H2 ⟨b2, c2, w2, rfl, hb2, hc2, hw2, hS2, hp2, f2⟩
 simp (disch := omega) only [go_sem, reduceAdd]
 refine Ok.ve (qky hC (k := k + 1) (by omega) hc hS2 hp2 (by omega) ha1 hb2 hh) ?_
 rintro r H3 ⟨a3, b3, w3, rfl, ha3, hb3, hw3, hS3, hp3, f3⟩
 simp (disch := omega) only [go_sem, reduceAdd]
 exact Ok.ret ⟨b3, w3, rfl, hb3, by omega, hS3, hp3, (f1.trans f2).trans f3⟩
theorem qfc (hC : qbe C) {k : Nat} (hk : 3 ≤ k) {fc : FuncId} (hc : CmpE E (C (k - 3)) fc) {s : Sl} (hn : s.n < 900000) {d : Array E} {pb w a lo hi : Nat} {H : Hp} (hS : St s d H) (hp : Cnt E s pb w H) (hw : w < 900)
  (ha : lo + 1 ≤ a ∧ a + 1 < hi) (hh : hi ≤ s.n) :
  Ok (C k (.f qdr) [s.v, .int .i64 (.ofNat a), .ptr pb 0, .fn fc [] []] H) fun r H' =>
   ∃ i' w', r = .int .i64 (.ofNat i') ∧ (lo ≤ i' ∧ i' < hi) ∧ w' ≤ w + 3 ∧ St s d H' ∧ Cnt E s pb w' H' ∧ Fp pb H H' := by
 obtain ⟨k, rfl⟩ : ∃ j, k = j + 3 := ⟨k - 3, by omega⟩
 rw [(hC (k + 2)).s_medadj]
 unfold s_medadj qnj
 simp (disch := omega) only [go_sem, reduceAdd]
 refine Ok.ve (qzu hC (k := k + 2) (by omega) hc hS hp hw (lo := lo) (hi := hi) ⟨by omega, by omega⟩ ⟨by omega, by omega⟩ ⟨by omega, by omega⟩ hh) ?_
 rintro r H1 ⟨a1, w1, rfl, ha1, hw1, hS1, hp1, f1⟩
 exact Ok.ret ⟨a1, w1, rfl, ha1, hw1, hS1, hp1, f1⟩
theorem qru {call : Ev.Call} {s : Sl} {d : Array E} {pb w i lo hi : Nat} {H0 H : Hp} (hS : St s d H) (hp : Cnt E s pb w H) (hi1 : lo ≤ i ∧ i < hi) (hF : Fm No H0 H) :
  Ok (qie call (.ptr pb 0) (.int .i64 (.ofNat i)) H) fun r H' => ∃ i' h, r = .tup [.int .i64 (.ofNat i'), .int .i64 (.ofNat h)] ∧ (lo ≤ i' ∧ i' < hi) ∧ h < 3 ∧ St s d H' ∧ Fm No H0 H' := by
 unfold qie
 have hg := hp.get
 by_cases h0 : w = 0
 ·simp (disch := omega) only [go_sem, reduceAdd, hg, h0]
  exact Ok.ret ⟨i, 1, rfl, hi1, by omega, hS, hF⟩
 ·by_cases h1 : w = 12
  ·simp (disch := omega) only [go_sem, reduceAdd, hg, h0, h1]
   exact Ok.ret ⟨i, 2, rfl, hi1, by omega, hS, hF⟩
  ·simp (disch := omega) only [go_sem, reduceAdd, hg, h0, h1]
   exact Ok.ret ⟨i, 0, rfl, hi1, by omega, hS, hF⟩
theorem q9s (hC : qbe C) {k : Nat} (hk : 4 ≤ k) {fc : FuncId} (hc : CmpE E (C (k - 4)) fc) (hc2 : CmpE E (C (k - 3)) fc) {s : Sl} (hn : s.n < 900000) {d : Array E} {a b : Nat} {H : Hp} (hS : St s d H) (ha : a < b) (hb : b ≤ s.n) :
  Ok (C k (.f qp9) [s.v, .int .i64 (.ofNat a), .int .i64 (.ofNat b), .fn fc [] []] H) fun r H' =>
   ∃ i h, r = .tup [.int .i64 (.ofNat i), .int .i64 (.ofNat h)] ∧ (a ≤ i ∧ i < b) ∧ h < 3 ∧ St s d H' ∧ Fm No H H' := by
 obtain ⟨k, rfl⟩ : ∃ j, k = j + 4 := ⟨k - 4, by omega⟩
 rw [(hC (k + 3)).s_piv]
 unfold s_piv q04
 have fH : Fm No H (qaw H (qae 0 [.int .i64 (.ofNat 0)])) := (Fm.refl _ _).push _
 have hS0 := hS.no fH
 have hp0 : Cnt E s H.nx 0 (qaw H (qae 0 [.int .i64 (.ofNat 0)])) := ⟨qar _ _, Nat.lt_succ_self _, Nat.ne_of_lt hS.lt, fun h => Nat.lt_irrefl _ (El.homeLt hS.iv h)⟩
 have back : ∀ {H'}, Fp H.nx (qaw H (qae 0 [.int .i64 (.ofNat 0)])) H' → Fm No H H' := fun f => fH.then f fun c h1 h2 => by omega
 have fin : ∀ {i j m w : Nat} {H1 : Hp}, a ≤ i ∧ i < b → a ≤ j ∧ j < b → a ≤ m ∧ m < b → w < 900 → St s d H1 → Cnt E s H.nx w H1 → Fm No H H1 →
   Ok (qid (C (k + 3)) s.v (.fn fc [] []) (.ptr H.nx 0) (.int .i64 (.ofNat i)) (.int .i64 (.ofNat j)) (.int .i64 (.ofNat m)) H1) fun r H' =>
    ∃ i h, r = .tup [.int .i64 (.ofNat i), .int .i64 (.ofNat h)] ∧ (a ≤ i ∧ i < b) ∧ h < 3 ∧ St s d H' ∧ Fm No H H' := by
  intro i j m w H1 hi hj hm hw hS1 hp1 f1
  unfold qid
  refine Ok.ve (qzu hC (k := k + 3) (by omega) hc2 hS1 hp1 hw hi hj hm hb) ?_
  rintro r H2 ⟨i2, w2, rfl, hi2, hw2, hS2, hp2, f2⟩
  exact qru hS2 hp2 hi2 (f1.then f2 fun c h1 h2 => by omega)
 by_cases h8 : 8 ≤ b - a
 ·by_cases h50 : 50 ≤ b - a
  ·simp (disch := omega) only [go_sem, reduceAdd, h8, h50]
   refine Ok.ve (qfc hC (k := k + 3) (by omega) hc hn hS0 hp0 (by omega) (lo := a) (hi := b) ⟨by omega, by omega⟩ hb) ?_
   rintro r H1 ⟨i1, w1, rfl, hi1, hw1, hS1, hp1, f1⟩
   refine Ok.ve (qfc hC (k := k + 3) (by omega) hc hn hS1 hp1 (by omega) (lo := a) (hi := b) ⟨by omega, by omega⟩ hb) ?_
   rintro r H2 ⟨i2, w2, rfl, hi2, hw2, hS2, hp2, f2⟩
   refine Ok.ve (qfc hC (k := k + 3) (by omega) hc hn hS2 hp2 (by omega) (lo := a) (hi := b) ⟨by omega, by omega⟩ hb) ?_
   rintro r H3 ⟨i3, w3, rfl, hi3, hw3, hS3, hp3, f3⟩
   exact fin hi1 hi2 hi3 (by omega) hS3 hp3 (back ((f1.trans f2).trans f3))
  ·simp (disch := omega) only [go_sem, reduceAdd, h8, h50]
   exact fin ⟨by omega, by omega⟩ ⟨by omega, by omega⟩ ⟨by omega, by omega⟩ (w := 0) (by omega) hS0 hp0 fH
 ·simp (disch := omega) only [go_sem, reduceAdd, h8]
  exact qru hS0 hp0 ⟨by omega, by omega⟩ fH
end Go.Di.F
end
noncomputable section
/-
 The sort: the heap.
-/
namespace Go.Di.F
open Go.Ev Go.Sort
variable {C : Nat → Ev.Call} {E : Type} [El E]
theorem qkb {call : Ev.Call} {fc : FuncId} (hc : CmpE E call fc) {s : Sl} (hn : s.n < 900000) {first root c : Nat} (h1 : first + root < s.n) (h2 : first + c < s.n) {d : Array E} {H0 H : Hp} {qr : Hp → R1} {g0 : AV → Hp → R1} {Q : AV → Hp → Prop}
  (hS : St s d H) (hF : Fs s H0 H) (hr : ltE d[first + root]! d[first + c]! = false → ∀ H', St s d H' → Fs s H0 H' → Ok (qr H') Q)
  (hg0 : ltE d[first + root]! d[first + c]! = true → ∀ H', St s (swp d (first + root) (first + c)) H' → Fs s H0 H' → Ok (g0 (.int .i64 (.ofNat c)) H') Q) :
  Ok (qgj call qr g0 s.v (.int .i64 (.ofNat first)) (.fn fc [] []) (.int .i64 (.ofNat root)) (.int .i64 (.ofNat c)) H) Q := by
 unfold qgj
 have hsz := hS.sz
 have hg := hS.get
 simp (disch := first | omega | (simp only [np, nq, zs, zw]; first | done | omega)) only [go_sem, reduceAdd, qab, lss0, qad, hg]
 refine Ok.deO (hc _ _ _ hS.iv) ?_
 rintro v H' ⟨rfl, f'⟩
 have hS' := hS.no f'
 have hg' := hS'.get
 simp (disch := first | omega | (simp only [np, nq, zs, zw]; first | done | omega)) only [go_sem, reduceAdd, qab, lss0, qad, hg']
 cases hl : ltE d[first + root]! d[first + c]! with
 | false =>
  simp (disch := first | omega | (simp only [np, nq, zs, zw]; first | done | omega)) only [go_sem, reduceAdd, qab, lss0, qad]
  exact hr hl H' hS' (hF.trans f'.fs)
 | true =>
  simp (disch := first | omega | (simp only [np, nq, zs, zw]; first | done | omega)) only [go_sem, reduceAdd, qab, lss0, qad]
  unfold qm5
  simp (disch := first | omega | (simp only [np, nq, zs, zw]; first | done | omega)) only [go_sem, reduceAdd, qab, lss0, qad, hg']
  exact hg0 hl _ (hS'.put2 (swp_size _ _ _)) (Fs.put2 (hF.trans f'.fs))
theorem qhf {call : Ev.Call} {fc : FuncId} (hc : CmpE E call fc) {s : Sl} (hn : s.n < 900000) {first hi : Nat} (hh : first + hi ≤ s.n) {H0 : Hp} {qe qr : Hp → R1} {Q : AV → Hp → Prop} :
  ∀ (k root : Nat) (d : Array E) (H : Hp), hi - root < k → root < 900000 → St s d H → Fs s H0 H →
   (∀ H', St s (siftDown ltE hi first root d) H' → Fs s H0 H' → Ok (qe H') Q) → (∀ H', St s (siftDown ltE hi first root d) H' → Fs s H0 H' → Ok (qr H') Q) →
   Ok (qex call qe qr s.v (.int .i64 (.ofNat hi)) (.int .i64 (.ofNat first)) (.fn fc [] []) k (.int .i64 (.ofNat root)) H) Q
 | 0, _, _, _, h, _, _, _, _, _ => by omega
 | k + 1, root, d, H, hk, hr1, hS, hF, hqe, hqr => by
  show Ok (qqt call _ _ _ _ _ _ (qex call _ _ _ _ _ _ k) _ H) Q
  unfold qqt
  have hsz := hS.sz
  have hg := hS.get
  by_cases h : hi ≤ 2 * root + 1
  ·simp (disch := first | omega | (simp only [np, nq, zs, zw]; first | done | omega)) only [go_sem, reduceAdd, qab, lss0, qad, h]
   exact hqe H (by rw [siftDown]; simpa [h] using hS) hF
  ·simp (disch := first | omega | (simp only [np, nq, zs, zw]; first | done | omega)) only [go_sem, reduceAdd, qab, lss0, qad, h]
   unfold qm4
   by_cases h2 : 2 * root + 1 + 1 < hi
   ·simp (disch := first | omega | (simp only [np, nq, zs, zw]; first | done | omega)) only [go_sem, reduceAdd, qab, lss0, qad, hg, h2]
    refine Ok.deO (hc _ _ _ hS.iv) ?_
    rintro v H' ⟨rfl, f'⟩
    have hS' := hS.no f'
    have hg' := hS'.get
    simp (disch := first | omega | (simp only [np, nq, zs, zw]; first | done | omega)) only [go_sem, reduceAdd, qab, lss0, qad, hg']
    have h3 : 2 * root + 2 < hi := h2
    cases hl : ltE d[first + (2 * root + 1)]! d[first + (2 * root + 1) + 1]! with
    | true =>
     simp (disch := first | omega | (simp only [np, nq, zs, zw]; first | done | omega)) only [go_sem, reduceAdd, qab, lss0, qad]
     refine qkb hc hn (c := 2 * root + 2) (by omega) (by omega) hS' (hF.trans f'.fs) (fun hl2 H2 hS2 hF2 => hqr H2 ?_ hF2) fun hl2 H2 hS2 hF2 => ?_
     ·rw [siftDown, dif_neg (by omega), if_pos (by rw [hl]; simp [h3]), if_pos (by rw [hl2]; rfl)]
      exact hS2
     ·have e : siftDown ltE hi first root d = siftDown ltE hi first (2 * root + 2) (swp d (first + root) (first + (2 * root + 2))) := by
       rw [siftDown, dif_neg (by omega), if_pos (by rw [hl]; simp [h3]), if_neg (by rw [hl2]; simp), dif_pos h3]
      rw [e] at hqe hqr
      exact qhf hc hn hh k (2 * root + 2) _ H2 (by omega) (by omega) hS2 hF2 hqe hqr
    | false =>
     simp (disch := first | omega | (simp only [np, nq, zs, zw]; first | done | omega)) only [go_sem, reduceAdd, qab, lss0, qad]
     refine qkb hc hn (c := 2 * root + 1) (by omega) (by omega) hS' (hF.trans f'.fs) (fun hl2 H2 hS2 hF2 => hqr H2 ?_ hF2) fun hl2 H2 hS2 hF2 => ?_
     ·rw [siftDown, dif_neg (by omega), if_neg (by rw [hl]; simp), if_pos (by rw [hl2]; rfl)]
      exact hS2
     ·have e : siftDown ltE hi first root d = siftDown ltE hi first (2 * root + 1) (swp d (first + root) (first + (2 * root + 1))) := by
       rw [siftDown, dif_neg (by omega), if_neg (by rw [hl]; simp), if_neg (by rw [hl2]; simp)]
      rw [e] at hqe hqr
      exact qhf hc hn hh k (2 * root + 1) _ H2 (by omega) (by omega) hS2 hF2 hqe hqr
   ·simp (disch := first | omega | (simp only [np, nq, zs, zw]; first | done | omega)) only [go_sem, reduceAdd, qab, lss0, qad, hg, h2]
    have hcond : ¬ ((decide (2 * root + 1 + 1 < hi) && ltE d[first + (2 * root + 1)]! d[first + (2 * root + 1) + 1]!) = true) := by simp [h2]
    refine qkb hc hn (c := 2 * root + 1) (by omega) (by omega) hS hF (fun hl2 H2 hS2 hF2 => hqr H2 ?_ hF2) fun hl2 H2 hS2 hF2 => ?_
    ·rw [siftDown, dif_neg (by omega), if_neg hcond, if_pos (by rw [hl2]; rfl)]
     exact hS2
    ·have e : siftDown ltE hi first root d = siftDown ltE hi first (2 * root + 1) (swp d (first + root) (first + (2 * root + 1))) := by
      rw [siftDown, dif_neg (by omega), if_neg hcond, if_neg (by rw [hl2]; simp)]
     rw [e] at hqe hqr
     exact qhf hc hn hh k (2 * root + 1) _ H2 (by omega) (by omega) hS2 hF2 hqe hqr
theorem qqq (hC : qbe C) {k : Nat} (hk : 1 ≤ k) {fc : FuncId} (hc : CmpE E (C (k - 1)) fc) {s : Sl} (hn : s.n < 900000) {root hi first : Nat} (hh : first + hi ≤ s.n) (hr : root < 900000) {d : Array E} {H : Hp} (hS : St s d H) :
  Ok (C k (.f qi6) [s.v, .int .i64 (.ofNat root), .int .i64 (.ofNat hi), .int .i64 (.ofNat first), .fn fc [] []] H) fun r H' => r = .tup [] ∧ St s (siftDown ltE hi first root d) H' ∧ Fs s H H' := by
 obtain ⟨j, rfl⟩ : ∃ j, k = j + 1 := ⟨k - 1, by omega⟩
 rw [(hC j).s_sift]
 unfold s_sift qvs qqu
 rw [qam]
 exact qhf hc hn hh qak root d H (by rw [qag]; omega) hr hS (Fm.refl _ _) (fun H' hS' hF' => Ok.ret ⟨rfl, hS', hF'⟩) fun H' hS' hF' => Ok.ret ⟨rfl, hS', hF'⟩
theorem qg8 (hC : qbe C) {j : Nat} (hj : 1 ≤ j) {fc : FuncId} (hc : CmpE E (C (j - 1)) fc) {s : Sl} (hn : s.n < 900000) {first hi : Nat} (hh : first + hi ≤ s.n) {H0 : Hp} {q : Hp → R1} {Q : AV → Hp → Prop} :
  ∀ (k r : Nat) (d : Array E) (H : Hp), r < k → r < 900000 → St s d H → Fs s H0 H → (∀ H', St s (heapBuild ltE hi first r d) H' → Fs s H0 H' → Ok (q H') Q) →
   Ok (qdh (C j) q s.v (.fn fc [] []) (.int .i64 (.ofNat first)) (.int .i64 (.ofNat hi)) k (dn r) H) Q
 | 0, _, _, _, h, _, _, _, _ => by omega
 | k + 1, 0, d, H, hk, hr, hS, hF, hq => by
  show Ok (qgp (C j) _ _ _ _ _ (qdh (C j) _ _ _ _ _ k) _ H) Q
  unfold qgp
  simp (disch := omega) only [go_sem, reduceAdd, dn]
  exact hq H hS hF
 | k + 1, r + 1, d, H, hk, hr, hS, hF, hq => by
  show Ok (qgp (C j) _ _ _ _ _ (qdh (C j) _ _ _ _ _ k) _ H) Q
  unfold qgp
  simp (disch := omega) only [go_sem, reduceAdd, dn, Nat.zero_le]
  unfold qnk
  refine Ok.ve (qqq hC hj hc hn hh (by omega) hS) ?_
  rintro v H' ⟨rfl, hS', hF'⟩
  unfold qnl
  have e := quj r (by omega)
  simp only [e, qj3]
  exact qg8 hC hj hc hn hh k r _ H' (by omega) (by omega) hS' (hF.trans hF') hq
theorem qmr (hC : qbe C) {j : Nat} (hj : 1 ≤ j) {fc : FuncId} (hc : CmpE E (C (j - 1)) fc) {s : Sl} (hn : s.n < 900000) {first : Nat} {H0 : Hp} {q : Hp → R1} {Q : AV → Hp → Prop} :
  ∀ (k r : Nat) (d : Array E) (H : Hp), r < k → first + r ≤ s.n → St s d H → Fs s H0 H → (∀ H', St s (heapPop ltE first r d) H' → Fs s H0 H' → Ok (q H') Q) →
   Ok (qe3 (C j) q s.v (.fn fc [] []) (.int .i64 (.ofNat first)) (.int .i64 (.ofNat 0)) k (dn r) H) Q
 | 0, _, _, _, h, _, _, _, _ => by omega
 | k + 1, 0, d, H, hk, hr, hS, hF, hq => by
  show Ok (qik (C j) _ _ _ _ _ (qe3 (C j) _ _ _ _ _ k) _ H) Q
  unfold qik
  simp (disch := omega) only [go_sem, reduceAdd, dn]
  exact hq H hS hF
 | k + 1, r + 1, d, H, hk, hr, hS, hF, hq => by
  show Ok (qik (C j) _ _ _ _ _ (qe3 (C j) _ _ _ _ _ k) _ H) Q
  unfold qik
  have hsz := hS.sz
  have hg := hS.get
  simp (disch := omega) only [go_sem, reduceAdd, dn, Nat.zero_le]
  unfold qnm
  simp (disch := first | omega | (simp only [np, nq, zs, zw]; first | done | omega)) only [go_sem, reduceAdd, qab, lss0, qad, hg]
  have hS1 := hS.put2 (d1 := d.setIfInBounds first d[first + r]!) (swp_size d first (first + r))
  refine Ok.ve (qqq hC hj hc hn (by omega) (by omega) hS1) ?_
  rintro v H' ⟨rfl, hS', hF'⟩
  unfold qra
  have e := quj r (by omega)
  simp only [e, qj3]
  exact qmr hC hj hc hn k r _ H' (by omega) (by omega) hS' ((Fs.put2 hF).trans hF') hq
theorem q2w (hC : qbe C) {k : Nat} (hk : 2 ≤ k) {fc : FuncId} (hc : CmpE E (C (k - 2)) fc) {s : Sl} (hn : s.n < 900000) {a b : Nat} (ha : a < b) (hb : b ≤ s.n) {d : Array E} {H : Hp} (hS : St s d H) :
  Ok (C k (.f qmk) [s.v, .int .i64 (.ofNat a), .int .i64 (.ofNat b), .fn fc [] []] H) fun r H' => r = .tup [] ∧ St s (heapSort ltE d a b) H' ∧ Fs s H H' := by
 obtain ⟨j, rfl⟩ : ∃ j, k = j + 2 := ⟨k - 2, by omega⟩
 rw [(hC (j + 1)).s_heap]
 unfold s_heap qv5 qnn
 rw [qam]
 have e1 : (b - a - 1) / 2 < 900000 := by omega
 simp (disch := omega) only [go_sem, reduceAdd]
 refine qg8 hC (j := j + 1) (by omega) hc hn (by omega) qak ((b - a - 1) / 2 + 1) d H (by rw [qag]; omega) (by omega) hS (Fm.refl _ _) fun H' hS' hF' => ?_
 unfold qdi qrb
 rw [qam]
 have e := quj (b - a) (by omega)
 simp only [e, qj3]
 exact qmr hC (j := j + 1) (by omega) hc hn qak (b - a) _ H' (by rw [qag]; omega) (by omega) hS' hF' fun H2 hS2 hF2 => Ok.ret ⟨rfl, hS2, hF2⟩
end Go.Di.F
end
noncomputable section
/-
 The sort: turning round, and insertion of a few.
-/
namespace Go.Di.F
open Go.Ev Go.Sort
variable {C : Nat → Ev.Call} {E : Type} [El E]
theorem qzb {call : Ev.Call} {s : Sl} (hn : s.n < 900000) {H0 : Hp} {q : Hp → R1} {Q : AV → Hp → Prop} :
  ∀ (k i j : Nat) (d : Array E) (H : Hp), j - i < k → i < 900000 → j < s.n → St s d H → Fs s H0 H → (∀ H', St s (reverseLoop i j d) H' → Fs s H0 H' → Ok (q H') Q) →
   Ok (qlq call q s.v k (.int .i64 (.ofNat i)) (.int .i64 (.ofNat j)) H) Q
 | 0, _, _, _, _, h, _, _, _, _, _ => by omega
 | k + 1, i, j, d, H, hk, hi, hj, hS, hF, hq => by
  show Ok (qvt call _ _ (qlq call _ _ k) _ _ H) Q
  unfold qvt
  have hsz := hS.sz
  have hg := hS.get
  rw [reverseLoop] at hq
  by_cases h : i < j
  ·rw [if_pos h] at hq
   simp (disch := first | omega | (simp only [np, nq, zs, zw]; first | done | omega)) only [go_sem, reduceAdd, qab, lss0, qad, h]
   unfold qqv
   simp (disch := first | omega | (simp only [np, nq, zs, zw]; first | done | omega)) only [go_sem, reduceAdd, qab, lss0, qad, hg]
   exact qzb hn k (i + 1) (j - 1) _ _ (by omega) (by omega) (by omega) (hS.put2 (swp_size _ _ _)) (Fs.put2 hF) hq
  ·rw [if_neg h] at hq
   simp (disch := first | omega | (simp only [np, nq, zs, zw]; first | done | omega)) only [go_sem, reduceAdd, qab, lss0, qad, h]
   exact hq H hS hF
theorem q87 (hC : qbe C) {k : Nat} (hk : 1 ≤ k) {s : Sl} (hn : s.n < 900000) {a b : Nat} (ha : a < b) (hb : b ≤ s.n) {d : Array E} {H : Hp} (hS : St s d H) (c : AV) :
  Ok (C k (.f qp8) [s.v, .int .i64 (.ofNat a), .int .i64 (.ofNat b), c] H) fun r H' => r = .tup [] ∧ St s (reverseRange d a b) H' ∧ Fs s H H' := by
 obtain ⟨j, rfl⟩ : ∃ j, k = j + 1 := ⟨k - 1, by omega⟩
 rw [(hC j).s_rev]
 unfold s_rev q03 qvu
 rw [qam]
 simp (disch := omega) only [go_sem, reduceAdd]
 exact qzb hn qak a (b - 1) d H (by rw [qag]; omega) (by omega) (by omega) hS (Fm.refl _ _) fun H' hS' hF' => Ok.ret ⟨rfl, hS', hF'⟩
theorem qio {call : Ev.Call} {fc : FuncId} (hc : CmpE E call fc) {s : Sl} (hn : s.n < 900000) {b : Nat} (hb : b ≤ s.n) {d : Array E} {H0 : Hp} {q : AV → Hp → R1} {Q : AV → Hp → Prop} :
  ∀ (k i : Nat) (H : Hp), b - i < k → 1 ≤ i → i ≤ b → St s d H → Fs s H0 H → (∀ i' H', i ≤ i' → i' ≤ b → scanSorted ltE d b i = i' → St s d H' → Fs s H0 H' → Ok (q (.int .i64 (.ofNat i')) H') Q) →
   Ok (qey call q s.v (.int .i64 (.ofNat b)) (.fn fc [] []) k (.int .i64 (.ofNat i)) H) Q
 | 0, _, _, h, _, _, _, _, _ => by omega
 | k + 1, i, H, hk, h1, hib, hS, hF, hq => by
  show Ok (qki call _ _ _ _ (qey call _ _ _ _ k) _ H) Q
  unfold qki
  have hsz := hS.sz
  have hg := hS.get
  rw [scanSorted] at hq
  by_cases h : i < b
  ·simp (disch := first | omega | (simp only [np, nq, zs, zw]; first | done | omega)) only [go_sem, reduceAdd, qab, lss0, qad, hg, h]
   refine Ok.deO (hc _ _ _ hS.iv) ?_
   rintro v H' ⟨rfl, f'⟩
   have hS' := hS.no f'
   have hg' := hS'.get
   simp (disch := first | omega | (simp only [np, nq, zs, zw]; first | done | omega)) only [go_sem, reduceAdd, qab, lss0, qad, hg']
   cases hl : ltE d[i]! d[i - 1]! with
   | true =>
    rw [hl] at hq
    simp (disch := first | omega | (simp only [np, nq, zs, zw]; first | done | omega)) only [go_sem, reduceAdd, qab, lss0, qad]
    exact hq i H' (Nat.le_refl _) hib (by simp) hS' (hF.trans f'.fs)
   | false =>
    rw [hl] at hq
    simp (disch := first | omega | (simp only [np, nq, zs, zw]; first | done | omega)) only [go_sem, reduceAdd, qab, lss0, qad]
    unfold qke
    simp (disch := first | omega | (simp only [np, nq, zs, zw]; first | done | omega)) only [go_sem, reduceAdd, qab, lss0, qad]
    exact qio hc hn hb k (i + 1) H' (by omega) (by omega) (by omega) hS' (hF.trans f'.fs) fun i' H2 h2 h3 h4 => hq i' H2 (by omega) h3 (by simpa [h] using h4)
  ·simp (disch := first | omega | (simp only [np, nq, zs, zw]; first | done | omega)) only [go_sem, reduceAdd, qab, lss0, qad, h]
   exact hq i H (Nat.le_refl _) hib (by simp [h]) hS hF
theorem qip {call : Ev.Call} {fc : FuncId} (hc : CmpE E call fc) {s : Sl} (hn : s.n < 900000) {H0 : Hp} {q : Hp → R1} {Q : AV → Hp → Prop} :
  ∀ (k j : Nat) (d : Array E) (H : Hp), j < k → j < s.n → St s d H → Fs s H0 H → (∀ H', St s (shiftDown ltE j d) H' → Fs s H0 H' → Ok (q H') Q) →
   Ok (qcr call q s.v (.fn fc [] []) k (.int .i64 (.ofNat j)) H) Q
 | 0, _, _, _, h, _, _, _, _ => by omega
 | k + 1, 0, d, H, hk, hj, hS, hF, hq => by
  show Ok (qgk call _ _ _ (qcr call _ _ _ k) _ H) Q
  unfold qgk
  simp (disch := omega) only [go_sem, reduceAdd, Nat.not_succ_le_zero]
  exact hq H hS hF
 | k + 1, j + 1, d, H, hk, hj, hS, hF, hq => by
  show Ok (qgk call _ _ _ (qcr call _ _ _ k) _ H) Q
  unfold qgk
  have hsz := hS.sz
  have hg := hS.get
  have h1 : 1 ≤ j + 1 := by omega
  rw [shiftDown] at hq
  simp (disch := first | omega | (simp only [np, nq, zs, zw]; first | done | omega)) only [go_sem, reduceAdd, qab, lss0, qad, h1]
  unfold qkh
  simp (disch := first | omega | (simp only [np, nq, zs, zw]; first | done | omega)) only [go_sem, reduceAdd, qab, lss0, qad, hg, Nat.add_sub_cancel]
  refine Ok.deO (hc _ _ _ hS.iv) ?_
  rintro v H' ⟨rfl, f'⟩
  have hS' := hS.no f'
  have hg' := hS'.get
  simp (disch := first | omega | (simp only [np, nq, zs, zw]; first | done | omega)) only [go_sem, reduceAdd, qab, lss0, qad, hg', Nat.add_sub_cancel]
  cases hl : ltE d[j + 1]! d[j]! with
  | false =>
   rw [hl] at hq
   simp (disch := first | omega | (simp only [np, nq, zs, zw]; first | done | omega)) only [go_sem, reduceAdd, qab, lss0, qad]
   exact hq H' (by simpa using hS') (hF.trans f'.fs)
  | true =>
   rw [hl] at hq
   simp (disch := first | omega | (simp only [np, nq, zs, zw]; first | done | omega)) only [go_sem, reduceAdd, qab, lss0, qad]
   unfold qm6
   simp (disch := first | omega | (simp only [np, nq, zs, zw]; first | done | omega)) only [go_sem, reduceAdd, qab, lss0, qad, hg', Nat.add_sub_cancel]
   unfold qm7
   simp (disch := first | omega | (simp only [np, nq, zs, zw]; first | done | omega)) only [go_sem, reduceAdd, qab, lss0, qad, Nat.add_sub_cancel]
   exact qip hc hn k j (swp d (j + 1) j) _ (by omega) (by omega) (hS'.put2 (swp_size _ _ _)) (Fs.put2 (hF.trans f'.fs)) (by simpa using hq)
theorem qrv {call : Ev.Call} {fc : FuncId} (hc : CmpE E call fc) {s : Sl} (hn : s.n < 900000) {b : Nat} (hb : b ≤ s.n) {H0 : Hp} {q : Hp → R1} {Q : AV → Hp → Prop} :
  ∀ (k j : Nat) (d : Array E) (H : Hp), b - j < k → 1 ≤ j → j < 900000 → St s d H → Fs s H0 H → (∀ H', St s (shiftUp ltE b j d) H' → Fs s H0 H' → Ok (q H') Q) →
   Ok (qdb call q s.v (.int .i64 (.ofNat b)) (.fn fc [] []) k (.int .i64 (.ofNat j)) H) Q
 | 0, _, _, _, h, _, _, _, _, _ => by omega
 | k + 1, j, d, H, hk, h1, h2, hS, hF, hq => by
  show Ok (qnb call _ _ _ _ (qdb call _ _ _ _ k) _ H) Q
  unfold qnb
  have hsz := hS.sz
  have hg := hS.get
  rw [shiftUp] at hq
  by_cases h : j < b
  ·rw [if_pos h] at hq
   simp (disch := first | omega | (simp only [np, nq, zs, zw]; first | done | omega)) only [go_sem, reduceAdd, qab, lss0, qad, h]
   unfold qm8
   simp (disch := first | omega | (simp only [np, nq, zs, zw]; first | done | omega)) only [go_sem, reduceAdd, qab, lss0, qad, hg]
   refine Ok.deO (hc _ _ _ hS.iv) ?_
   rintro v H' ⟨rfl, f'⟩
   have hS' := hS.no f'
   have hg' := hS'.get
   simp (disch := first | omega | (simp only [np, nq, zs, zw]; first | done | omega)) only [go_sem, reduceAdd, qab, lss0, qad, hg']
   cases hl : ltE d[j]! d[j - 1]! with
   | false =>
    rw [hl] at hq
    simp (disch := first | omega | (simp only [np, nq, zs, zw]; first | done | omega)) only [go_sem, reduceAdd, qab, lss0, qad]
    exact hq H' (by simpa using hS') (hF.trans f'.fs)
   | true =>
    rw [hl] at hq
    simp (disch := first | omega | (simp only [np, nq, zs, zw]; first | done | omega)) only [go_sem, reduceAdd, qab, lss0, qad]
    unfold qm9
    simp (disch := first | omega | (simp only [np, nq, zs, zw]; first | done | omega)) only [go_sem, reduceAdd, qab, lss0, qad, hg']
    unfold qna
    simp (disch := first | omega | (simp only [np, nq, zs, zw]; first | done | omega)) only [go_sem, reduceAdd, qab, lss0, qad]
    exact qrv hc hn hb k (j + 1) (swp d j (j - 1)) _ (by omega) (by omega) (by omega) (hS'.put2 (swp_size _ _ _)) (Fs.put2 (hF.trans f'.fs)) (by simpa using hq)
  ·rw [if_neg h] at hq
   simp (disch := first | omega | (simp only [np, nq, zs, zw]; first | done | omega)) only [go_sem, reduceAdd, qab, lss0, qad, h]
   exact hq H hS hF
theorem qrw {call : Ev.Call} {fc : FuncId} (hc : CmpE E call fc) {s : Sl} (hn : s.n < 900000) {a b : Nat} (hb : b ≤ s.n) {H0 : Hp} {qr : AV → Hp → R1} {qe : Hp → R1} {Q : AV → Hp → Prop} :
  ∀ (k st i : Nat) (d : Array E) (H : Hp), st < k → st ≤ 5 → a + 1 ≤ i → i ≤ b → St s d H → Fs s H0 H →
   (∀ r d' H', partialIns ltE a b st i d = (d', r) → St s d' H' → Fs s H0 H' → Ok (qr (.bool r) H') Q) → (∀ d' H', partialIns ltE a b st i d = (d', false) → St s d' H' → Fs s H0 H' → Ok (qe H') Q) →
   Ok (qay call qr qe s.v (.int .i64 (.ofNat a)) (.int .i64 (.ofNat b)) (.fn fc [] []) k (.int .i64 (.ofNat i)) (.int .i64 (.ofNat (5 - st))) H) Q
 | 0, _, _, _, _, h, _, _, _, _, _, _, _ => by omega
 | k + 1, 0, i, d, H, hk, h5, hi, hib, hS, hF, hqr, hqe => by
  show Ok (qif call _ _ _ _ _ _ (qay call _ _ _ _ _ _ k) _ _ H) Q
  unfold qif
  simp (disch := omega) only [go_sem, reduceAdd, show ¬ (5 < 5) by omega]
  exact hqe d H (by rw [partialIns]) hS hF
 | k + 1, st + 1, i, d, H, hk, h5, hi, hib, hS, hF, hqr, hqe => by
  show Ok (qif call _ _ _ _ _ _ (qay call _ _ _ _ _ _ k) _ _ H) Q
  unfold qif
  rw [partialIns] at hqr hqe
  have h50 : 5 - (st + 1) < 5 := by omega
  simp (disch := omega) only [go_sem, reduceAdd, h50]
  unfold qkd qkj
  rw [qam]
  refine qio hc hn hb qak i H (by rw [qag]; omega) (by omega) hib hS hF fun i' H1 h1 h2 h3 hS1 hF1 => ?_
  simp only [h3] at hqr hqe
  unfold qdc
  by_cases hb1 : i' = b
  ·simp (disch := omega) only [go_sem, reduceAdd, hb1]
   exact hqr true d H1 (by simp [hb1]) hS1 hF1
  ·simp (disch := omega) only [go_sem, reduceAdd, hb1]
   unfold qkf
   by_cases hb2 : b - a < 50
   ·simp (disch := omega) only [go_sem, reduceAdd, hb2]
    exact hqr false d H1 (by simp [hb1, hb2]) hS1 hF1
   ·simp (disch := omega) only [go_sem, reduceAdd, hb2]
    simp only [if_neg hb1, if_neg hb2] at hqr hqe
    unfold qkg
    have hsz := hS1.sz
    have hg := hS1.get
    simp (disch := first | omega | (simp only [np, nq, zs, zw]; first | done | omega)) only [go_sem, reduceAdd, qab, lss0, qad, hg]
    have hS2 := hS1.put2 (d1 := d.setIfInBounds i' d[i' - 1]!) (swp_size d i' (i' - 1))
    have hF2 := Fs.put2 (d1 := d.setIfInBounds i' d[i' - 1]!) (d2 := swp d i' (i' - 1)) hF1
    have last : ∀ {d2 : Array E} {H2 : Hp}, St s d2 H2 → Fs s H0 H2 → (if b - i' ≥ 2 then shiftUp ltE b (i' + 1) (if i' - a ≥ 2 then shiftDown ltE (i' - 1) (swp d i' (i' - 1)) else swp d i' (i' - 1)) else (if i' - a ≥ 2 then shiftDown ltE (i' - 1) (swp d i' (i' - 1)) else swp d i' (i' - 1))) = d2 →
      Ok (qb9 call (qay call qr qe s.v (.int .i64 (.ofNat a)) (.int .i64 (.ofNat b)) (.fn fc [] []) k) (.int .i64 (.ofNat i')) (.int .i64 (.ofNat (5 - (st + 1)))) H2) Q := by
     intro d2 H2 hS2 hF2 e
     unfold qb9
     have e5 : 5 - (st + 1) + 1 = 5 - st := by omega
     simp (disch := omega) only [go_sem, reduceAdd, e5]
     subst e
     exact qrw hc hn hb k st i' _ H2 (by omega) (by omega) (by omega) h2 hS2 hF2 hqr hqe
    have mid : ∀ {d2 : Array E} {H2 : Hp}, St s d2 H2 → Fs s H0 H2 → (if i' - a ≥ 2 then shiftDown ltE (i' - 1) (swp d i' (i' - 1)) else swp d i' (i' - 1)) = d2 →
      Ok (qbu call (qay call qr qe s.v (.int .i64 (.ofNat a)) (.int .i64 (.ofNat b)) (.fn fc [] []) k) s.v (.int .i64 (.ofNat b)) (.fn fc [] []) (.int .i64 (.ofNat i')) (.int .i64 (.ofNat (5 - (st + 1)))) H2) Q := by
     intro d2 H2 hS2 hF2 e
     unfold qbu
     rw [e] at last
     by_cases h3 : 2 ≤ b - i'
     ·simp (disch := omega) only [go_sem, reduceAdd, h3]
      unfold qnd
      rw [qam]
      exact qrv hc hn hb qak (i' + 1) _ H2 (by rw [qag]; omega) (by omega) (by omega) hS2 hF2 fun H3 hS3 hF3 => last hS3 hF3 (by simp [h3])
     ·simp (disch := omega) only [go_sem, reduceAdd, h3]
      exact last hS2 hF2 (by simp [h3])
    by_cases h3 : 2 ≤ i' - a
    ·simp (disch := omega) only [go_sem, reduceAdd, h3]
     unfold qnc
     rw [qam]
     exact qip hc hn qak (i' - 1) _ _ (by rw [qag]; omega) (by omega) hS2 hF2 fun H3 hS3 hF3 => mid hS3 hF3 (by simp [h3])
    ·simp (disch := omega) only [go_sem, reduceAdd, h3]
     exact mid hS2 hF2 (by simp [h3, swp])
theorem q1t (hC : qbe C) {k : Nat} (hk : 1 ≤ k) {fc : FuncId} (hc : CmpE E (C (k - 1)) fc) {s : Sl} (hn : s.n < 900000) {a b : Nat} (ha : a < b) (hb : b ≤ s.n) {d : Array E} {H : Hp} (hS : St s d H) :
  Ok (C k (.f qi7) [s.v, .int .i64 (.ofNat a), .int .i64 (.ofNat b), .fn fc [] []] H) fun r H' => r = .bool (partialInsertionSort ltE d a b).2 ∧ St s (partialInsertionSort ltE d a b).1 H' ∧ Fs s H H' := by
 obtain ⟨j, rfl⟩ : ∃ j, k = j + 1 := ⟨k - 1, by omega⟩
 rw [(hC j).s_pins]
 unfold s_pins qvv qqw
 rw [qam]
 simp (disch := omega) only [go_sem, reduceAdd]
 refine qrw hc hn hb qak 5 (a + 1) d H (by rw [qag]; omega) (by omega) (by omega) (by omega) hS (Fm.refl _ _) (fun r d' H' e hS' hF' => ?_) fun d' H' e hS' hF' => ?_
 ·have e' : partialInsertionSort ltE d a b = (d', r) := e
  rw [e']
  exact Ok.ret ⟨rfl, hS', hF'⟩
 ·have e' : partialInsertionSort ltE d a b = (d', false) := e
  rw [e']
  unfold qa0
  exact Ok.ret ⟨rfl, hS', hF'⟩
end Go.Di.F
end
noncomputable section
/-
 The sort: the scans.
-/
namespace Go.Di.F
open Go.Ev Go.Sort
variable {C : Nat → Ev.Call} {E : Type} [El E]
theorem ql4 {call : Ev.Call} {fc : FuncId} (hc : CmpE E call fc) {s : Sl} (hn : s.n < 900000) {a j : Nat} (ha : a < s.n) (hj : j < s.n) {d : Array E} {H0 : Hp} {q : AV → Hp → R1} {Q : AV → Hp → Prop} :
  ∀ (k i : Nat) (H : Hp), j + 1 - i < k → i ≤ 900001 → St s d H → Fs s H0 H → (∀ i' H', i ≤ i' → (i ≤ j → i' ≤ j + 1) → (j < i → i' = i) → scanUp (fun x => ltE x d[a]!) d j i = i' → St s d H' → Fs s H0 H' → Ok (q (.int .i64 (.ofNat i')) H') Q) →
   Ok (qe0 call q s.v (.int .i64 (.ofNat a)) (.fn fc [] []) (.int .i64 (.ofNat j)) k (.int .i64 (.ofNat i)) H) Q
 | 0, _, _, h, _, _, _, _ => by omega
 | k + 1, i, H, hk, hi, hS, hF, hq => by
  show Ok (qko call _ _ _ _ _ (qe0 call _ _ _ _ _ k) _ H) Q
  unfold qko
  have hsz := hS.sz
  have hg := hS.get
  rw [scanUp] at hq
  by_cases h : i ≤ j
  ·simp (disch := first | omega | (simp only [np, nq, zs, zw]; first | done | omega)) only [go_sem, reduceAdd, qab, lss0, qad, hg, h]
   refine Ok.deO (hc _ _ _ hS.iv) ?_
   rintro v H' ⟨rfl, f'⟩
   have hS' := hS.no f'
   have hg' := hS'.get
   simp (disch := first | omega | (simp only [np, nq, zs, zw]; first | done | omega)) only [go_sem, reduceAdd, qab, lss0, qad, hg']
   cases hl : ltE d[i]! d[a]! with
   | false =>
    simp (disch := first | omega | (simp only [np, nq, zs, zw]; first | done | omega)) only [go_sem, reduceAdd, qab, lss0, qad]
    exact hq i H' (Nat.le_refl _) (fun _ => by omega) (fun _ => rfl) (by simp [hl]) hS' (hF.trans f'.fs)
   | true =>
    simp (disch := first | omega | (simp only [np, nq, zs, zw]; first | done | omega)) only [go_sem, reduceAdd, qab, lss0, qad]
    unfold qkk
    simp (disch := first | omega | (simp only [np, nq, zs, zw]; first | done | omega)) only [go_sem, reduceAdd, qab, lss0, qad]
    exact ql4 hc hn ha hj k (i + 1) H' (by omega) (by omega) hS' (hF.trans f'.fs) fun i' H2 h1 h2 h3 h4 => hq i' H2 (by omega) (fun _ => by by_cases hij : i + 1 ≤ j; exact h2 hij; have := h3 (by omega); omega) (fun _ => by omega) (by simpa [h, hl] using h4)
  ·simp (disch := first | omega | (simp only [np, nq, zs, zw]; first | done | omega)) only [go_sem, reduceAdd, qab, lss0, qad, h]
   exact hq i H (Nat.le_refl _) (fun hh => absurd hh h) (fun _ => rfl) (by simp [h]) hS hF
theorem ql3 {call : Ev.Call} {fc : FuncId} (hc : CmpE E call fc) {s : Sl} (hn : s.n < 900000) {a j : Nat} (ha : a < s.n) (hj : j < s.n) {d : Array E} {H0 : Hp} {q : AV → Hp → R1} {Q : AV → Hp → Prop} :
  ∀ (k i : Nat) (H : Hp), j + 1 - i < k → i ≤ 900001 → St s d H → Fs s H0 H → (∀ i' H', i ≤ i' → (i ≤ j → i' ≤ j + 1) → (j < i → i' = i) → scanUp (fun x => ltE x d[a]!) d j i = i' → St s d H' → Fs s H0 H' → Ok (q (.int .i64 (.ofNat i')) H') Q) →
   Ok (qe1 call q s.v (.int .i64 (.ofNat a)) (.fn fc [] []) (.int .i64 (.ofNat j)) k (.int .i64 (.ofNat i)) H) Q
 | 0, _, _, h, _, _, _, _ => by omega
 | k + 1, i, H, hk, hi, hS, hF, hq => by
  show Ok (qkp call _ _ _ _ _ (qe1 call _ _ _ _ _ k) _ H) Q
  unfold qkp
  have hsz := hS.sz
  have hg := hS.get
  rw [scanUp] at hq
  by_cases h : i ≤ j
  ·simp (disch := first | omega | (simp only [np, nq, zs, zw]; first | done | omega)) only [go_sem, reduceAdd, qab, lss0, qad, hg, h]
   refine Ok.deO (hc _ _ _ hS.iv) ?_
   rintro v H' ⟨rfl, f'⟩
   have hS' := hS.no f'
   have hg' := hS'.get
   simp (disch := first | omega | (simp only [np, nq, zs, zw]; first | done | omega)) only [go_sem, reduceAdd, qab, lss0, qad, hg']
   cases hl : ltE d[i]! d[a]! with
   | false =>
    simp (disch := first | omega | (simp only [np, nq, zs, zw]; first | done | omega)) only [go_sem, reduceAdd, qab, lss0, qad]
    exact hq i H' (Nat.le_refl _) (fun _ => by omega) (fun _ => rfl) (by simp [hl]) hS' (hF.trans f'.fs)
   | true =>
    simp (disch := first | omega | (simp only [np, nq, zs, zw]; first | done | omega)) only [go_sem, reduceAdd, qab, lss0, qad]
    unfold qkn
    simp (disch := first | omega | (simp only [np, nq, zs, zw]; first | done | omega)) only [go_sem, reduceAdd, qab, lss0, qad]
    exact ql3 hc hn ha hj k (i + 1) H' (by omega) (by omega) hS' (hF.trans f'.fs) fun i' H2 h1 h2 h3 h4 => hq i' H2 (by omega) (fun _ => by by_cases hij : i + 1 ≤ j; exact h2 hij; have := h3 (by omega); omega) (fun _ => by omega) (by simpa [h, hl] using h4)
  ·simp (disch := first | omega | (simp only [np, nq, zs, zw]; first | done | omega)) only [go_sem, reduceAdd, qab, lss0, qad, h]
   exact hq i H (Nat.le_refl _) (fun hh => absurd hh h) (fun _ => rfl) (by simp [h]) hS hF
theorem qzj {call : Ev.Call} {fc : FuncId} (hc : CmpE E call fc) {s : Sl} (hn : s.n < 900000) {a j : Nat} (ha : a < s.n) (hj : j < s.n) {d : Array E} {H0 : Hp} {q : AV → Hp → R1} {Q : AV → Hp → Prop} :
  ∀ (k i : Nat) (H : Hp), j + 1 - i < k → i ≤ 900001 → St s d H → Fs s H0 H → (∀ i' H', i ≤ i' → (i ≤ j → i' ≤ j + 1) → (j < i → i' = i) → scanUp (fun x => !ltE d[a]! x) d j i = i' → St s d H' → Fs s H0 H' → Ok (q (.int .i64 (.ofNat i')) H') Q) →
   Ok (qig call q s.v (.int .i64 (.ofNat a)) (.fn fc [] []) (.int .i64 (.ofNat j)) k (.int .i64 (.ofNat i)) H) Q
 | 0, _, _, h, _, _, _, _ => by omega
 | k + 1, i, H, hk, hi, hS, hF, hq => by
  show Ok (qq0 call _ _ _ _ _ (qig call _ _ _ _ _ k) _ H) Q
  unfold qq0
  have hsz := hS.sz
  have hg := hS.get
  rw [scanUp] at hq
  by_cases h : i ≤ j
  ·simp (disch := first | omega | (simp only [np, nq, zs, zw]; first | done | omega)) only [go_sem, reduceAdd, qab, lss0, qad, hg, h]
   refine Ok.deO (hc _ _ _ hS.iv) ?_
   rintro v H' ⟨rfl, f'⟩
   have hS' := hS.no f'
   have hg' := hS'.get
   simp (disch := first | omega | (simp only [np, nq, zs, zw]; first | done | omega)) only [go_sem, reduceAdd, qab, lss0, qad, hg']
   cases hl : ltE d[a]! d[i]! with
   | true =>
    simp (disch := first | omega | (simp only [np, nq, zs, zw]; first | done | omega)) only [go_sem, reduceAdd, qab, lss0, qad]
    exact hq i H' (Nat.le_refl _) (fun _ => by omega) (fun _ => rfl) (by simp [hl]) hS' (hF.trans f'.fs)
   | false =>
    simp (disch := first | omega | (simp only [np, nq, zs, zw]; first | done | omega)) only [go_sem, reduceAdd, qab, lss0, qad]
    unfold qqx
    simp (disch := first | omega | (simp only [np, nq, zs, zw]; first | done | omega)) only [go_sem, reduceAdd, qab, lss0, qad]
    exact qzj hc hn ha hj k (i + 1) H' (by omega) (by omega) hS' (hF.trans f'.fs) fun i' H2 h1 h2 h3 h4 => hq i' H2 (by omega) (fun _ => by by_cases hij : i + 1 ≤ j; exact h2 hij; have := h3 (by omega); omega) (fun _ => by omega) (by simpa [h, hl] using h4)
  ·simp (disch := first | omega | (simp only [np, nq, zs, zw]; first | done | omega)) only [go_sem, reduceAdd, qab, lss0, qad, h]
   exact hq i H (Nat.le_refl _) (fun hh => absurd hh h) (fun _ => rfl) (by simp [h]) hS hF
theorem ql6 {call : Ev.Call} {fc : FuncId} (hc : CmpE E call fc) {s : Sl} (hn : s.n < 900000) {a i : Nat} (ha : a < s.n) (hi : 1 ≤ i) {d : Array E} {H0 : Hp} {q : AV → Hp → R1} {Q : AV → Hp → Prop} :
  ∀ (k j : Nat) (H : Hp), j < k → j < s.n → St s d H → Fs s H0 H → (∀ j' H', j' ≤ j → (i ≤ j → i ≤ j' + 1) → (j < i → j' = j) → scanDown (fun x => !ltE x d[a]!) d i j = j' → St s d H' → Fs s H0 H' → Ok (q (.int .i64 (.ofNat j')) H') Q) →
   Ok (qdd call q s.v (.int .i64 (.ofNat a)) (.fn fc [] []) (.int .i64 (.ofNat i)) k (.int .i64 (.ofNat j)) H) Q
 | 0, _, _, h, _, _, _, _ => by omega
 | k + 1, 0, H, hk, hj, hS, hF, hq => by
  show Ok (qe2 call _ _ _ _ _ (qdd call _ _ _ _ _ k) _ H) Q
  unfold qe2
  have h : ¬ i ≤ 0 := by omega
  simp (disch := first | omega | (simp only [np, nq, zs, zw]; first | done | omega)) only [go_sem, reduceAdd, qab, lss0, qad, h]
  exact hq 0 H (Nat.le_refl _) (fun _ => by omega) (fun _ => rfl) rfl hS hF
 | k + 1, j + 1, H, hk, hj, hS, hF, hq => by
  show Ok (qe2 call _ _ _ _ _ (qdd call _ _ _ _ _ k) _ H) Q
  unfold qe2
  have hsz := hS.sz
  have hg := hS.get
  rw [scanDown] at hq
  by_cases h : i ≤ j + 1
  ·simp (disch := first | omega | (simp only [np, nq, zs, zw]; first | done | omega)) only [go_sem, reduceAdd, qab, lss0, qad, hg, h]
   refine Ok.deO (hc _ _ _ hS.iv) ?_
   rintro v H' ⟨rfl, f'⟩
   have hS' := hS.no f'
   have hg' := hS'.get
   simp (disch := first | omega | (simp only [np, nq, zs, zw]; first | done | omega)) only [go_sem, reduceAdd, qab, lss0, qad, hg']
   cases hl : ltE d[j + 1]! d[a]! with
   | true =>
    simp (disch := first | omega | (simp only [np, nq, zs, zw]; first | done | omega)) only [go_sem, reduceAdd, qab, lss0, qad]
    exact hq (j + 1) H' (Nat.le_refl _) (fun _ => by omega) (fun _ => rfl) (by simp [hl]) hS' (hF.trans f'.fs)
   | false =>
    simp (disch := first | omega | (simp only [np, nq, zs, zw]; first | done | omega)) only [go_sem, reduceAdd, qab, lss0, qad]
    unfold qkl
    simp (disch := first | omega | (simp only [np, nq, zs, zw]; first | done | omega)) only [go_sem, reduceAdd, qab, lss0, qad, Nat.add_sub_cancel]
    exact ql6 hc hn ha hi k j H' (by omega) (by omega) hS' (hF.trans f'.fs) fun j' H2 h1 h2 h3 h4 => hq j' H2 (by omega) (fun _ => by by_cases hij : i ≤ j; exact h2 hij; have := h3 (by omega); omega) (fun _ => by omega) (by simpa [h, hl] using h4)
  ·simp (disch := first | omega | (simp only [np, nq, zs, zw]; first | done | omega)) only [go_sem, reduceAdd, qab, lss0, qad, h]
   exact hq (j + 1) H (Nat.le_refl _) (fun hh => absurd hh h) (fun _ => rfl) (by simp [h]) hS hF
theorem ql5 {call : Ev.Call} {fc : FuncId} (hc : CmpE E call fc) {s : Sl} (hn : s.n < 900000) {a i : Nat} (ha : a < s.n) (hi : 1 ≤ i) {d : Array E} {H0 : Hp} {q : AV → Hp → R1} {Q : AV → Hp → Prop} :
  ∀ (k j : Nat) (H : Hp), j < k → j < s.n → St s d H → Fs s H0 H → (∀ j' H', j' ≤ j → (i ≤ j → i ≤ j' + 1) → (j < i → j' = j) → scanDown (fun x => !ltE x d[a]!) d i j = j' → St s d H' → Fs s H0 H' → Ok (q (.int .i64 (.ofNat j')) H') Q) →
   Ok (qem call q s.v (.int .i64 (.ofNat a)) (.fn fc [] []) (.int .i64 (.ofNat i)) k (.int .i64 (.ofNat j)) H) Q
 | 0, _, _, h, _, _, _, _ => by omega
 | k + 1, 0, H, hk, hj, hS, hF, hq => by
  show Ok (qgo call _ _ _ _ _ (qem call _ _ _ _ _ k) _ H) Q
  unfold qgo
  have h : ¬ i ≤ 0 := by omega
  simp (disch := first | omega | (simp only [np, nq, zs, zw]; first | done | omega)) only [go_sem, reduceAdd, qab, lss0, qad, h]
  exact hq 0 H (Nat.le_refl _) (fun _ => by omega) (fun _ => rfl) rfl hS hF
 | k + 1, j + 1, H, hk, hj, hS, hF, hq => by
  show Ok (qgo call _ _ _ _ _ (qem call _ _ _ _ _ k) _ H) Q
  unfold qgo
  have hsz := hS.sz
  have hg := hS.get
  rw [scanDown] at hq
  by_cases h : i ≤ j + 1
  ·simp (disch := first | omega | (simp only [np, nq, zs, zw]; first | done | omega)) only [go_sem, reduceAdd, qab, lss0, qad, hg, h]
   refine Ok.deO (hc _ _ _ hS.iv) ?_
   rintro v H' ⟨rfl, f'⟩
   have hS' := hS.no f'
   have hg' := hS'.get
   simp (disch := first | omega | (simp only [np, nq, zs, zw]; first | done | omega)) only [go_sem, reduceAdd, qab, lss0, qad, hg']
   cases hl : ltE d[j + 1]! d[a]! with
   | true =>
    simp (disch := first | omega | (simp only [np, nq, zs, zw]; first | done | omega)) only [go_sem, reduceAdd, qab, lss0, qad]
    exact hq (j + 1) H' (Nat.le_refl _) (fun _ => by omega) (fun _ => rfl) (by simp [hl]) hS' (hF.trans f'.fs)
   | false =>
    simp (disch := first | omega | (simp only [np, nq, zs, zw]; first | done | omega)) only [go_sem, reduceAdd, qab, lss0, qad]
    unfold qne
    simp (disch := first | omega | (simp only [np, nq, zs, zw]; first | done | omega)) only [go_sem, reduceAdd, qab, lss0, qad, Nat.add_sub_cancel]
    exact ql5 hc hn ha hi k j H' (by omega) (by omega) hS' (hF.trans f'.fs) fun j' H2 h1 h2 h3 h4 => hq j' H2 (by omega) (fun _ => by by_cases hij : i ≤ j; exact h2 hij; have := h3 (by omega); omega) (fun _ => by omega) (by simpa [h, hl] using h4)
  ·simp (disch := first | omega | (simp only [np, nq, zs, zw]; first | done | omega)) only [go_sem, reduceAdd, qab, lss0, qad, h]
   exact hq (j + 1) H (Nat.le_refl _) (fun hh => absurd hh h) (fun _ => rfl) (by simp [h]) hS hF
theorem qzl {call : Ev.Call} {fc : FuncId} (hc : CmpE E call fc) {s : Sl} (hn : s.n < 900000) {a i : Nat} (ha : a < s.n) (hi : 1 ≤ i) {d : Array E} {H0 : Hp} {q : AV → Hp → R1} {Q : AV → Hp → Prop} :
  ∀ (k j : Nat) (H : Hp), j < k → j < s.n → St s d H → Fs s H0 H → (∀ j' H', j' ≤ j → (i ≤ j → i ≤ j' + 1) → (j < i → j' = j) → scanDown (fun x => ltE d[a]! x) d i j = j' → St s d H' → Fs s H0 H' → Ok (q (.int .i64 (.ofNat j')) H') Q) →
   Ok (qgl call q s.v (.int .i64 (.ofNat a)) (.fn fc [] []) (.int .i64 (.ofNat i)) k (.int .i64 (.ofNat j)) H) Q
 | 0, _, _, h, _, _, _, _ => by omega
 | k + 1, 0, H, hk, hj, hS, hF, hq => by
  show Ok (qih call _ _ _ _ _ (qgl call _ _ _ _ _ k) _ H) Q
  unfold qih
  have h : ¬ i ≤ 0 := by omega
  simp (disch := first | omega | (simp only [np, nq, zs, zw]; first | done | omega)) only [go_sem, reduceAdd, qab, lss0, qad, h]
  exact hq 0 H (Nat.le_refl _) (fun _ => by omega) (fun _ => rfl) rfl hS hF
 | k + 1, j + 1, H, hk, hj, hS, hF, hq => by
  show Ok (qih call _ _ _ _ _ (qgl call _ _ _ _ _ k) _ H) Q
  unfold qih
  have hsz := hS.sz
  have hg := hS.get
  rw [scanDown] at hq
  by_cases h : i ≤ j + 1
  ·simp (disch := first | omega | (simp only [np, nq, zs, zw]; first | done | omega)) only [go_sem, reduceAdd, qab, lss0, qad, hg, h]
   refine Ok.deO (hc _ _ _ hS.iv) ?_
   rintro v H' ⟨rfl, f'⟩
   have hS' := hS.no f'
   have hg' := hS'.get
   simp (disch := first | omega | (simp only [np, nq, zs, zw]; first | done | omega)) only [go_sem, reduceAdd, qab, lss0, qad, hg']
   cases hl : ltE d[a]! d[j + 1]! with
   | false =>
    simp (disch := first | omega | (simp only [np, nq, zs, zw]; first | done | omega)) only [go_sem, reduceAdd, qab, lss0, qad]
    exact hq (j + 1) H' (Nat.le_refl _) (fun _ => by omega) (fun _ => rfl) (by simp [hl]) hS' (hF.trans f'.fs)
   | true =>
    simp (disch := first | omega | (simp only [np, nq, zs, zw]; first | done | omega)) only [go_sem, reduceAdd, qab, lss0, qad]
    unfold qqy
    simp (disch := first | omega | (simp only [np, nq, zs, zw]; first | done | omega)) only [go_sem, reduceAdd, qab, lss0, qad, Nat.add_sub_cancel]
    exact qzl hc hn ha hi k j H' (by omega) (by omega) hS' (hF.trans f'.fs) fun j' H2 h1 h2 h3 h4 => hq j' H2 (by omega) (fun _ => by by_cases hij : i ≤ j; exact h2 hij; have := h3 (by omega); omega) (fun _ => by omega) (by simpa [h, hl] using h4)
  ·simp (disch := first | omega | (simp only [np, nq, zs, zw]; first | done | omega)) only [go_sem, reduceAdd, qab, lss0, qad, h]
   exact hq (j + 1) H (Nat.le_refl _) (fun hh => absurd hh h) (fun _ => rfl) (by simp [h]) hS hF
end Go.Di.F
end
noncomputable section
/-
 The sort: the partitions.
-/
namespace Go.Di.F
open Go.Ev Go.Sort
variable {C : Nat → Ev.Call} {E : Type} [El E]
theorem partLoop_eq (a i j i2 j2 : Nat) (d : Array E) (h1 : scanUp (fun x => ltE x d[a]!) d j i = i2) (h2 : scanDown (fun x => !ltE x d[a]!) d i2 j = j2) (h3 : i ≤ i2) (h4 : j2 ≤ j) (h5 : 1 ≤ i) :
  partLoop ltE a i j d = if i2 > j2 then (j2, d) else partLoop ltE a (i2 + 1) (j2 - 1) (swp d i2 j2) := by
 rw [partLoop]
 simp only [h1, h2]
 by_cases h : i2 > j2
 ·rw [if_pos h, if_pos h]
 ·rw [if_neg h, if_neg h, dif_pos (by omega)]
theorem partEqLoop_eq (a i j i2 j2 : Nat) (d : Array E) (h1 : scanUp (fun x => !ltE d[a]! x) d j i = i2) (h2 : scanDown (fun x => ltE d[a]! x) d i2 j = j2) (h3 : i ≤ i2) (h4 : j2 ≤ j) (h5 : 1 ≤ i) :
  partEqLoop ltE a i j d = if i2 > j2 then (i2, d) else partEqLoop ltE a (i2 + 1) (j2 - 1) (swp d i2 j2) := by
 rw [partEqLoop]
 simp only [h1, h2]
 by_cases h : i2 > j2
 ·rw [if_pos h, if_pos h]
 ·rw [if_neg h, if_neg h, dif_pos (by omega)]
theorem qrz {call : Ev.Call} {fc : FuncId} (hc : CmpE E call fc) {s : Sl} (hn : s.n < 900000) {a : Nat} (ha : a < s.n) {H0 : Hp} {q : AV → Hp → R1} {Q : AV → Hp → Prop} :
  ∀ (k i j : Nat) (d : Array E) (H : Hp), j + 1 - i < k → 1 ≤ i → i ≤ 900000 → j < s.n → St s d H → Fs s H0 H →
   (∀ j' d' H', partLoop ltE a i j d = (j', d') → j' < s.n → St s d' H' → Fs s H0 H' → Ok (q (.int .i64 (.ofNat j')) H') Q) →
   Ok (qbm call q s.v (.int .i64 (.ofNat a)) (.fn fc [] []) k (.int .i64 (.ofNat i)) (.int .i64 (.ofNat j)) H) Q
 | 0, _, _, _, _, h, _, _, _, _, _, _ => by omega
 | k + 1, i, j, d, H, hk, h1, hi, hj, hS, hF, hq => by
  show Ok (qng call _ _ _ _ (qbm call _ _ _ _ k) _ _ H) Q
  unfold qng qks
  rw [qam]
  refine ql3 hc hn ha hj qak i H (by rw [qag]; omega) (by omega) hS hF fun i2 H1 g1 g2 g3 g4 hS1 hF1 => ?_
  unfold qdg qnh
  rw [qam]
  refine ql5 hc hn ha (by omega) qak j H1 (by rw [qag]; omega) hj hS1 hF1 fun j2 H2 e1 e2 e3 e4 hS2 hF2 => ?_
  rw [partLoop_eq a i j i2 j2 d g4 e4 g1 e1 h1] at hq
  unfold qen
  by_cases h : j2 < i2
  ·rw [if_pos h] at hq
   simp (disch := first | omega | (simp only [np, nq, zs, zw]; first | done | omega)) only [go_sem, reduceAdd, qab, lss0, qad, h]
   exact hq j2 d H2 rfl (by omega) hS2 hF2
  ·rw [if_neg h] at hq
   simp (disch := first | omega | (simp only [np, nq, zs, zw]; first | done | omega)) only [go_sem, reduceAdd, qab, lss0, qad, h]
   unfold qnf
   have hsz := hS2.sz
   have hg := hS2.get
   have b1 : i2 ≤ 900000 := by omega
   simp (disch := first | omega | (simp only [np, nq, zs, zw]; first | done | omega)) only [go_sem, reduceAdd, qab, lss0, qad, hg]
   exact qrz hc hn ha k (i2 + 1) (j2 - 1) (swp d i2 j2) _ (by omega) (by omega) (by omega) (by omega) (hS2.put2 (swp_size _ _ _)) (Fs.put2 hF2) hq
theorem qga (hC : qbe C) {k : Nat} (hk : 1 ≤ k) {fc : FuncId} (hc : CmpE E (C (k - 1)) fc) {s : Sl} (hn : s.n < 900000) {a b p : Nat} (ha : a < b) (hb : b ≤ s.n) (hp : a ≤ p ∧ p < b) {d : Array E} {H : Hp} (hS : St s d H) :
  Ok (C k (.f qmh) [s.v, .int .i64 (.ofNat a), .int .i64 (.ofNat b), .int .i64 (.ofNat p), .fn fc [] []] H) fun r H' =>
   ∃ m al d', partition ltE d a b p = (m, al, d') ∧ r = .tup [.int .i64 (.ofNat m), .bool al] ∧ St s d' H' ∧ Fs s H H' := by
 obtain ⟨k, rfl⟩ : ∃ j, k = j + 1 := ⟨k - 1, by omega⟩
 have hc : CmpE E (C k) fc := hc
 rw [(hC k).s_part]
 unfold s_part qvx
 have hsz := hS.sz
 have hg := hS.get
 have hpn : p < s.n := by omega
 simp (disch := first | omega | (simp only [np, nq, zs, zw]; first | done | omega)) only [go_sem, reduceAdd, qab, lss0, qad, hg]
 unfold qkq
 rw [qam]
 have hS0 : St s (swp d a p) _ := hS.put2 (d1 := d.setIfInBounds a d[p]!) (swp_size d a p)
 have hF0 : Fs s H _ := Fs.put2 (d1 := d.setIfInBounds a d[p]!) (d2 := swp d a p) (Fm.refl _ H)
 refine ql4 hc hn (by omega) (j := b - 1) (by omega) qak (a + 1) _ (by rw [qag]; omega) (by omega) hS0 hF0 fun i2 H1 g1 g2 g3 g4 hS1 hF1 => ?_
 unfold qde qkr
 rw [qam]
 refine ql6 hc hn (by omega) (i := i2) (by omega) qak (b - 1) _ (by rw [qag]; omega) (by omega) hS1 hF1 fun j2 H2 e1 e2 e3 e4 hS2 hF2 => ?_
 unfold qdf
 have hsz2 := hS2.sz
 have hg2 := hS2.get
 by_cases h : j2 < i2
 ·simp (disch := first | omega | (simp only [np, nq, zs, zw]; first | done | omega)) only [go_sem, reduceAdd, qab, lss0, qad, h, hg2]
  exact Ok.ret ⟨j2, true, swp (swp d a p) j2 a, by unfold partition; simp only [g4, e4]; rw [if_pos h], rfl, hS2.put2 (swp_size _ _ _), Fs.put2 hF2⟩
 ·simp (disch := first | omega | (simp only [np, nq, zs, zw]; first | done | omega)) only [go_sem, reduceAdd, qab, lss0, qad, h]
  unfold qkm
  have b1 : i2 ≤ 900000 := by omega
  simp (disch := first | omega | (simp only [np, nq, zs, zw]; first | done | omega)) only [go_sem, reduceAdd, qab, lss0, qad, hg2]
  unfold qni
  rw [qam]
  refine qrz hc hn (by omega) qak (i2 + 1) (j2 - 1) (swp (swp d a p) i2 j2) _ (by rw [qag]; omega) (by omega) (by omega) (by omega) (hS2.put2 (swp_size _ _ _)) (Fs.put2 hF2) fun j3 d3 H3 e5 hj3 hS3 hF3 => ?_
  unfold qa3
  have hsz3 := hS3.sz
  have hg3 := hS3.get
  simp (disch := first | omega | (simp only [np, nq, zs, zw]; first | done | omega)) only [go_sem, reduceAdd, qab, lss0, qad, hg3]
  exact Ok.ret ⟨j3, false, swp d3 j3 a, by unfold partition; simp only [g4, e4]; rw [if_neg h, e5], rfl, hS3.put2 (swp_size _ _ _), Fs.put2 hF3⟩
theorem qzk {call : Ev.Call} {fc : FuncId} (hc : CmpE E call fc) {s : Sl} (hn : s.n < 900000) {a : Nat} (ha : a < s.n) {H0 : Hp} {q : AV → Hp → R1} {Q : AV → Hp → Prop} :
  ∀ (k i j : Nat) (d : Array E) (H : Hp), j + 1 - i < k → 1 ≤ i → i ≤ 900000 → j < s.n → St s d H → Fs s H0 H →
   (∀ i' d' H', partEqLoop ltE a i j d = (i', d') → St s d' H' → Fs s H0 H' → Ok (q (.int .i64 (.ofNat i')) H') Q) →
   Ok (qbv call q s.v (.int .i64 (.ofNat a)) (.fn fc [] []) k (.int .i64 (.ofNat i)) (.int .i64 (.ofNat j)) H) Q
 | 0, _, _, _, _, h, _, _, _, _, _, _ => by omega
 | k + 1, i, j, d, H, hk, h1, hi, hj, hS, hF, hq => by
  show Ok (qq1 call _ _ _ _ (qbv call _ _ _ _ k) _ _ H) Q
  unfold qq1 qq2
  rw [qam]
  refine qzj hc hn ha hj qak i H (by rw [qag]; omega) (by omega) hS hF fun i2 H1 g1 g2 g3 g4 hS1 hF1 => ?_
  unfold qgm qq3
  rw [qam]
  refine qzl hc hn ha (by omega) qak j H1 (by rw [qag]; omega) hj hS1 hF1 fun j2 H2 e1 e2 e3 e4 hS2 hF2 => ?_
  rw [partEqLoop_eq a i j i2 j2 d g4 e4 g1 e1 h1] at hq
  unfold qgn
  by_cases h : j2 < i2
  ·rw [if_pos h] at hq
   simp (disch := first | omega | (simp only [np, nq, zs, zw]; first | done | omega)) only [go_sem, reduceAdd, qab, lss0, qad, h]
   exact hq i2 d H2 rfl hS2 hF2
  ·rw [if_neg h] at hq
   simp (disch := first | omega | (simp only [np, nq, zs, zw]; first | done | omega)) only [go_sem, reduceAdd, qab, lss0, qad, h]
   unfold qqz
   have hsz := hS2.sz
   have hg := hS2.get
   have b1 : i2 ≤ 900000 := by omega
   simp (disch := first | omega | (simp only [np, nq, zs, zw]; first | done | omega)) only [go_sem, reduceAdd, qab, lss0, qad, hg]
   exact qzk hc hn ha k (i2 + 1) (j2 - 1) (swp d i2 j2) _ (by omega) (by omega) (by omega) (by omega) (hS2.put2 (swp_size _ _ _)) (Fs.put2 hF2) hq
theorem q9u (hC : qbe C) {k : Nat} (hk : 1 ≤ k) {fc : FuncId} (hc : CmpE E (C (k - 1)) fc) {s : Sl} (hn : s.n < 900000) {a b p : Nat} (ha : a < b) (hb : b ≤ s.n) (hp : a ≤ p ∧ p < b) {d : Array E} {H : Hp} (hS : St s d H) :
  Ok (C k (.f qqa) [s.v, .int .i64 (.ofNat a), .int .i64 (.ofNat b), .int .i64 (.ofNat p), .fn fc [] []] H) fun r H' =>
   ∃ m d', partitionEqual ltE d a b p = (m, d') ∧ r = .int .i64 (.ofNat m) ∧ St s d' H' ∧ Fs s H H' := by
 obtain ⟨k, rfl⟩ : ∃ j, k = j + 1 := ⟨k - 1, by omega⟩
 have hc : CmpE E (C k) fc := hc
 rw [(hC k).s_peq]
 unfold s_peq q06
 have hsz := hS.sz
 have hg := hS.get
 have hpn : p < s.n := by omega
 simp (disch := first | omega | (simp only [np, nq, zs, zw]; first | done | omega)) only [go_sem, reduceAdd, qab, lss0, qad, hg]
 unfold qq4
 rw [qam]
 refine qzk hc hn (by omega) qak (a + 1) (b - 1) (swp d a p) _ (by rw [qag]; omega) (by omega) (by omega) (by omega) (hS.put2 (d1 := d.setIfInBounds a d[p]!) (swp_size d a p)) (Fs.put2 (Fm.refl _ H)) fun i' d' H' e hS' hF' => ?_
 unfold qa7
 exact Ok.ret ⟨i', d', e, rfl, hS', hF'⟩
end Go.Di.F
end
noncomputable section
/-
 The sort: how many bits a number has; breaking patterns.
-/
namespace Go.Di.F
open Go.Ev Go.Sort
variable {C : Nat → Ev.Call} {E : Type} [El E]
theorem q0i (hC : qbe C) {j : Nat} (hj : 1 ≤ j) {s : Sl} (hn : s.n < 900000) {a b rb : Nat} (hab : a + 8 ≤ b) (hb : b ≤ s.n) {d0 : Array E} {H0 : Hp} (hrb : s.b ≠ rb) (hrn : ¬ El.home (E := E) rb) (hr0 : H0.nx ≤ rb) {q : Hp → R1} {Q : AV → Hp → Prop}
  (hq : ∀ d H, PermIn a b d0 d → St s d H → Fs s H0 H → Ok (q H) Q) :
  ∀ (k i : Nat) (d : Array E) (w : Int) (H : Hp), a + (b - a) / 4 * 2 + 2 - i < k → a ≤ i → i ≤ 900000 → PermIn a b d0 d → St s d H → Fs s H0 H → H.get rb = qae 0 [.int .u64 w] →
   Ok (qd0 (C j) q s.v (.int .i64 (.ofNat a)) (.int .i64 (.ofNat (b - a))) (.ptr rb 0) (.int .u64 (.ofNat (2 ^ bitsLen (b - a)))) k (.int .i64 (.ofNat i)) H) Q
 | 0, _, _, _, _, h, _, _, _, _, _, _ => by omega
 | k + 1, i, d, w, H, hk, hai, hi, hP, hS, hF, hw => by
  show Ok (qre (C j) _ _ _ _ _ _ (qd0 (C j) _ _ _ _ _ _ k) _ H) Q
  unfold qre
  have e0 : (b - a) / 4 * 2 ≤ 900000 := by omega
  by_cases h : i ≤ a + (b - a) / 4 * 2 + 1
  ·simp (disch := first | omega | exact ti rfl) only [go_sem, reduceAdd, h]
   unfold qrc
   obtain ⟨w', H1, e1, e2, f1, e3⟩ := quh hC hj hw
   have hpos : 0 < 2 ^ bitsLen (b - a) := Nat.two_pow_pos _
   have hle : 2 ^ bitsLen (b - a) ≤ 2 * (b - a) := two_pow_bitsLen_le (by omega)
   obtain ⟨o, ho, e4⟩ := zcp w' (2 ^ bitsLen (b - a) - 1) (by omega)
   have e5 := q8f (2 ^ bitsLen (b - a)) 1 (by omega) (by omega)
   have e6 := qx2 .u64 o (by omega)
   have hS1 := hS.fp f1 hrb hrn
   have hF1 : Fs s H0 H1 := hF.then f1 fun c h1 h2 => by omega
   have go : ∀ o, o < b - a → Ok (qil (C j) (qd0 (C j) q s.v (.int .i64 (.ofNat a)) (.int .i64 (.ofNat (b - a))) (.ptr rb 0) (.int .u64 (.ofNat (2 ^ bitsLen (b - a)))) k) s.v (.int .i64 (.ofNat a)) (.int .i64 (.ofNat i)) (.int .i64 (.ofNat o)) H1) Q := by
    intro o ho
    unfold qil
    have hsz := hS1.sz
    have hg := hS1.get
    have hib : i < b := by omega
    simp (disch := first | omega | (simp only [np, nq, zs, zw]; first | done | omega)) only [go_sem, reduceAdd, qab, lss0, qad, hg]
    unfold qrd
    simp (disch := first | omega | exact ti rfl) only [go_sem, reduceAdd]
    have hg2 : ((H1.put s.b (s.blk (d.setIfInBounds i d[a + o]!))).put s.b (s.blk (swp d i (a + o)))).get rb = qae 0 [.int .u64 w'] := by
     rw [qan _ _ _ _ (Ne.symm hrb), qan _ _ _ _ (Ne.symm hrb), e2]
    exact q0i hC hj hn hab hb hrb hrn hr0 hq k (i + 1) (swp d i (a + o)) w' _ (by omega) (by omega) (by omega) (permIn_trans _ _ _ _ _ hP (swp_permIn _ _ _ _ _ hai hib (by omega) (by omega) (by omega))) (hS1.put2 (swp_size _ _ _)) (Fs.put2 hF1) hg2
   by_cases h3 : b - a ≤ o
   ·simp (disch := first | omega | exact ti rfl) only [go_sem, reduceAdd, e1, e4, e5, e6, h3]
    exact go (o - (b - a)) (by omega)
   ·simp (disch := first | omega | exact ti rfl) only [go_sem, reduceAdd, e1, e4, e5, e6, h3]
    exact go o (by omega)
  ·simp (disch := first | omega | exact ti rfl) only [go_sem, reduceAdd, h]
   exact hq d H hP hS hF
theorem zcj (hC : qbe C) {k : Nat} (hk : 4 ≤ k) {s : Sl} (hn : s.n < 900000) {a b : Nat} (ha : a + 8 ≤ b) (hb : b ≤ s.n) {d : Array E} {H : Hp} (hS : St s d H) (c : AV) :
  Ok (C k (.f qqb) [s.v, .int .i64 (.ofNat a), .int .i64 (.ofNat b), c] H) fun r H' => r = .tup [] ∧ ∃ d', PermIn a b d d' ∧ St s d' H' ∧ Fs s H H' := by
 obtain ⟨k, rfl⟩ : ∃ j, k = j + 4 := ⟨k - 4, by omega⟩
 rw [(hC (k + 3)).s_brk]
 unfold s_brk q1c
 have h8 : 8 ≤ b - a := by omega
 have e1 := qh3 .i64 (b - a) (by omega)
 have e2 := q93 hC (k := k + 3) (by omega) (b - a) (by omega)
 have hlt := hS.lt
 have e0 : (b - a) / 4 * 2 ≤ 900000 := by omega
 have e3 : 1 ≤ (b - a) / 4 * 2 := by omega
 simp (disch := first | omega | exact ti rfl) only [go_sem, reduceAdd, h8, e1, e2]
 unfold qrf
 rw [qam]
 have f1 : Fm No H ((qaw H (qae 0 [.int .u64 (.ofNat 0)])).put H.nx (qae 0 [.int .u64 (.ofNat (b - a))])) := by (repeat (first | exact Fm.refl _ _ | assumption | refine Fm.push ?_ _ | refine Fm.up2 ?_ (by (first | omega | (simp only [np, nq]; omega))) | refine Fm.put_new ?_ _ _ (by (first | omega | (simp only [np, nq]; omega)))))
 refine q0i hC (j := k + 3) (by omega) hn ha hb (d0 := d) (H0 := H) (rb := H.nx) (by omega) (fun h => Nat.lt_irrefl _ (El.homeLt hS.iv h)) (Nat.le_refl _) (fun d' H' hP hS' hF' => Ok.ret ⟨rfl, d', hP, hS', hF'⟩) qak (a + (b - a) / 4 * 2 - 1) d (.ofNat (b - a)) _ (by rw [qag]; omega) (by omega) (by omega) (permIn_refl _ _ _) (hS.no f1) f1.fs ?_
 rw [qai]
end Go.Di.F
end
noncomputable section
/-
 The sort: pdqsort, and SortFunc.
-/
namespace Go.Di.F
open Go.Ev Go.Sort
variable {C : Nat → Ev.Call} {E : Type} [El E]
def Sd (a b : Nat) (d R : Array E) : Prop := PermIn a b d R ∧ SortedIn ltE a b R
theorem Sd.of {a b : Nat} {d d' R : Array E} (h : PermIn a b d d') (k : Sd a b d' R) : Sd a b d R := ⟨permIn_trans _ _ _ _ _ h k.1, k.2⟩
def PdqR (E : Type) [El E] (C : Nat → Ev.Call) (fc : FuncId) (s : Sl) (k m : Nat) : Prop := ∀ (a b l : Nat) (d : Array E) (H : Hp), b - a < m → a ≤ b → b ≤ s.n → l < 900000 → Go.Sort.Below (ltE (E := E)) a b d → St s d H →
 Ok (C k (.f qhw) [s.v, .int .i64 (.ofNat a), .int .i64 (.ofNat b), .int .i64 (.ofNat l), .fn fc [] []] H) fun r H' => r = .tup [] ∧ ∃ R, Sd a b d R ∧ St s R H' ∧ Fs s H H'
theorem ql2 (hC : qbe C) {j : Nat} (hj : 7 ≤ j) {fc : FuncId} (hc : ∀ k, 3 ≤ k → CmpE E (C k) fc) {s : Sl} (hn : s.n < 900000) (hl : SWO (ltE (E := E))) {m : Nat} (hR : PdqR E C fc s j m) {H0 : Hp} {q : Hp → R1} {Q : AV → Hp → Prop} :
  ∀ (k a b l : Nat) (wb wp : Bool) (d : Array E) (H : Hp), b - a < k → b - a ≤ m → a ≤ b → b ≤ s.n → l < 900000 → Go.Sort.Below (ltE (E := E)) a b d → St s d H → Fs s H0 H → (∀ R H', Sd a b d R → St s R H' → Fs s H0 H' → Ok (q H') Q) →
   Ok (qbr (C j) q s.v (.fn fc [] []) k (.int .i64 (.ofNat a)) (.int .i64 (.ofNat b)) (.int .i64 (.ofNat l)) (.bool wb) (.bool wp) H) Q
 | 0, _, _, _, _, _, _, _, h, _, _, _, _, _, _, _, _ => by omega
 | k + 1, a, b, l, wb, wp, d, H, hk, hm, hab, hb, hln, hB, hS, hF, hq => by
  show Ok (qls (C j) _ _ _ (qbr (C j) _ _ _ k) _ _ _ _ _ H) Q
  unfold qls
  by_cases h12 : b - a ≤ 12
  ·simp (disch := first | omega | exact ti rfl | (simp only [np, nq]; first | done | omega)) only [go_sem, reduceAdd, reduceMul, reduceSub, reduceLeDiff, reduceEqDiff, reduceShiftRight, reduceAnd, h12]
   refine Ok.ve (zay hC (by omega) (hc _ (by omega)) hn hab hb hS) ?_
   rintro r H1 ⟨rfl, hS1, hF1⟩
   have hi := insertionSort_holds (lt := ltE) hl d a b hab (by rw [hS.sz]; exact hb)
   exact hq _ H1 ⟨hi.1, hi.2⟩ hS1 (hF.trans hF1)
  ·simp (disch := first | omega | exact ti rfl | (simp only [np, nq]; first | done | omega)) only [go_sem, reduceAdd, reduceMul, reduceSub, reduceLeDiff, reduceEqDiff, reduceShiftRight, reduceAnd, h12]
   unfold qq5
   by_cases hl0 : l = 0
   ·simp (disch := first | omega | exact ti rfl | (simp only [np, nq]; first | done | omega)) only [go_sem, reduceAdd, reduceMul, reduceSub, reduceLeDiff, reduceEqDiff, reduceShiftRight, reduceAnd, hl0]
    refine Ok.ve (q2w hC (by omega) (hc _ (by omega)) hn (by omega) hb hS) ?_
    rintro r H1 ⟨rfl, hS1, hF1⟩
    have hi := heapSort_holds (lt := ltE) hl d a b hab (by rw [hS.sz]; exact hb)
    exact hq _ H1 ⟨hi.1, hi.2⟩ hS1 (hF.trans hF1)
   ·simp (disch := first | omega | exact ti rfl | (simp only [np, nq]; first | done | omega)) only [go_sem, reduceAdd, reduceMul, reduceSub, reduceLeDiff, reduceEqDiff, reduceShiftRight, reduceAnd, hl0]
    -- the round's last part
    have j18 : ∀ (l p : Nat) (d3 : Array E) (H3 : Hp), l < 900000 → a ≤ p ∧ p < b → PermIn a b d d3 → St s d3 H3 → Fs s H0 H3 →
      Ok (qlr (C j) (qbr (C j) q s.v (.fn fc [] []) k) s.v (.int .i64 (.ofNat a)) (.int .i64 (.ofNat b)) (.int .i64 (.ofNat l)) (.fn fc [] []) (.int .i64 (.ofNat (b - a))) (.int .i64 (.ofNat p)) H3) Q := by
     intro l p d3 H3 hl3 hp hP hS3 hF3
     have hb3 : b ≤ d3.size := by rw [hS3.sz]; exact hb
     have hB3 : Go.Sort.Below (ltE (E := E)) a b d3 := hB.perm (by rw [hS.sz]; exact hb) hP
     unfold qlr
     refine Ok.ve (qga hC (by omega) (hc _ (by omega)) hn (by omega) hb hp hS3) ?_
     rintro r H4 ⟨mid, al, d4, hx, rfl, hS4, hF4⟩
     obtain ⟨h1, h2, h3, hBa, hBr, hL, hRt⟩ := round_part hl (partition_holds (lt := ltE)) hp.1 hp.2 hb3 hB3 hx
     have hF4' := hF3.trans hF4
     by_cases hlt : mid - a < b - mid
     ·simp (disch := first | omega | exact ti rfl | (simp only [np, nq]; first | done | omega)) only [go_sem, reduceAdd, reduceMul, reduceSub, reduceLeDiff, reduceEqDiff, reduceShiftRight, reduceAnd, hlt]
      refine Ok.ve (hR a mid l d4 H4 (by omega) (by omega) (by omega) hl3 hBa hS4) ?_
      rintro r H5 ⟨rfl, L, hLs, hS5, hF5⟩
      obtain ⟨hB5, hfin⟩ := hL L hLs.1 hLs.2
      have hmn : mid < 900000 := by omega
      skip
      exact ql2 hC hj hc hn hl hR k (mid + 1) b l _ al L H5 (by omega) (by omega) (by omega) hb hl3 hB5 hS5 (hF4'.trans hF5) fun R H' hRs hS' hF' => hq R H' (Sd.of hP (hfin R hRs.1 hRs.2)) hS' hF'
     ·have hmn : mid < 900000 := by omega
      simp (disch := first | omega | exact ti rfl | (simp only [np, nq]; first | done | omega)) only [go_sem, reduceAdd, reduceMul, reduceSub, reduceLeDiff, reduceEqDiff, reduceShiftRight, reduceAnd, hlt]
      refine Ok.ve (hR (mid + 1) b l d4 H4 (by omega) (by omega) (by omega) hl3 hBr hS4) ?_
      rintro r H5 ⟨rfl, L, hLs, hS5, hF5⟩
      obtain ⟨hB5, hfin⟩ := hRt L hLs.1 hLs.2
      exact ql2 hC hj hc hn hl hR k a mid l _ al L H5 (by omega) (by omega) (by omega) (by omega) hl3 hB5 hS5 (hF4'.trans hF5) fun R H' hRs hS' hF' => hq R H' (Sd.of hP (hfin R hRs.1 hRs.2)) hS' hF'
    have j38 : ∀ (l p : Nat) (d3 : Array E) (H3 : Hp), l < 900000 → a ≤ p ∧ p < b → PermIn a b d d3 → St s d3 H3 → Fs s H0 H3 →
      Ok (qez (C j) (qbr (C j) q s.v (.fn fc [] []) k) s.v (.int .i64 (.ofNat a)) (.int .i64 (.ofNat b)) (.int .i64 (.ofNat l)) (.fn fc [] []) (.bool wb) (.bool wp) (.int .i64 (.ofNat (b - a))) (.int .i64 (.ofNat p)) H3) Q := by
     intro l p d3 H3 hl3 hp hP hS3 hF3
     have hb3 : b ≤ d3.size := by rw [hS3.sz]; exact hb
     have hB3 : Go.Sort.Below (ltE (E := E)) a b d3 := hB.perm (by rw [hS.sz]; exact hb) hP
     have hsz := hS3.sz
     have hg := hS3.get
     have hpn : p < s.n := by omega
     unfold qez
     by_cases ha0 : 0 < a
     ·simp (disch := first | omega | exact ti rfl | (simp only [np, nq, zs, zw]; first | done | omega)) only [go_sem, reduceAdd, reduceMul, reduceSub, reduceLeDiff, reduceEqDiff, reduceShiftRight, reduceAnd, qab, lss0, qad, hg, ha0]
      refine Ok.deO (hc j (by omega) _ _ _ hS3.iv) ?_
      rintro v H4 ⟨rfl, f4⟩
      have hS4 := hS3.no f4
      have hg4 := hS4.get
      simp (disch := first | omega | exact ti rfl | (simp only [np, nq, zs, zw]; first | done | omega)) only [go_sem, reduceAdd, reduceMul, reduceSub, reduceLeDiff, reduceEqDiff, reduceShiftRight, reduceAnd, qab, lss0, qad, hg4]
      cases hx : ltE d3[a - 1]! d3[p]! with
      | true =>
       simp (disch := first | omega | exact ti rfl | (simp only [np, nq, zs, zw]; first | done | omega)) only [go_sem, reduceAdd, reduceMul, reduceSub, reduceLeDiff, reduceEqDiff, reduceShiftRight, reduceAnd, qab, lss0, qad]
       exact j18 l p d3 H4 hl3 hp hP hS4 (hF3.trans f4.fs)
      | false =>
       simp (disch := first | omega | exact ti rfl | (simp only [np, nq, zs, zw]; first | done | omega)) only [go_sem, reduceAdd, reduceMul, reduceSub, reduceLeDiff, reduceEqDiff, reduceShiftRight, reduceAnd, qab, lss0, qad]
       refine Ok.ve (q9u hC (by omega) (hc _ (by omega)) hn (by omega) hb hp hS4) ?_
       rintro r H5 ⟨mid, d5, hx5, rfl, hS5, hF5⟩
       obtain ⟨h1, h2, h3, hB5, hfin⟩ := round_eq hl (partitionEqual_holds (lt := ltE)) ha0 hp.1 hp.2 hb3 hB3 hx hx5
       exact ql2 hC hj hc hn hl hR k mid b l wb wp d5 H5 (by omega) (by omega) h2 hb hl3 hB5 hS5 ((hF3.trans f4.fs).trans hF5) fun R H' hRs hS' hF' => hq R H' (Sd.of hP (hfin R hRs.1 hRs.2)) hS' hF'
     ·simp (disch := first | omega | exact ti rfl | (simp only [np, nq, zs, zw]; first | done | omega)) only [go_sem, reduceAdd, reduceMul, reduceSub, reduceLeDiff, reduceEqDiff, reduceShiftRight, reduceAnd, qab, lss0, qad, hg, ha0]
      exact j18 l p d3 H3 hl3 hp hP hS3 hF3
    have j45 : ∀ (l p hint : Nat) (d3 : Array E) (H3 : Hp), l < 900000 → a ≤ p ∧ p < b → PermIn a b d d3 → St s d3 H3 → Fs s H0 H3 →
      Ok (qij (C j) q (qbr (C j) q s.v (.fn fc [] []) k) s.v (.int .i64 (.ofNat a)) (.int .i64 (.ofNat b)) (.int .i64 (.ofNat l)) (.fn fc [] []) (.bool wb) (.bool wp) (.int .i64 (.ofNat (b - a))) (.int .i64 (.ofNat p)) (.int .i64 (.ofNat hint)) H3) Q := by
     intro l p hint d3 H3 hl3 hp hP hS3 hF3
     have hb3 : b ≤ d3.size := by rw [hS3.sz]; exact hb
     have hB3 : Go.Sort.Below (ltE (E := E)) a b d3 := hB.perm (by rw [hS.sz]; exact hb) hP
     have goP : Ok (ve (C j (.f qi7) [s.v, .int .i64 (.ofNat a), .int .i64 (.ofNat b), .fn fc [] []] H3) fun a44 H => cd a44 (q H) (qez (C j) (qbr (C j) q s.v (.fn fc [] []) k) s.v (.int .i64 (.ofNat a)) (.int .i64 (.ofNat b)) (.int .i64 (.ofNat l)) (.fn fc [] []) (.bool wb) (.bool wp) (.int .i64 (.ofNat (b - a))) (.int .i64 (.ofNat p)) H)) Q := by
      refine Ok.ve (q1t hC (by omega) (hc _ (by omega)) hn (by omega) hb hS3) ?_
      rintro r H4 ⟨rfl, hS4, hF4⟩
      obtain ⟨h1, h2⟩ := partialInsertionSort_holds (lt := ltE) hl d3 a b (by omega) hb3 hB3
      cases hx : (partialInsertionSort ltE d3 a b).2 with
      | true =>
       simp (disch := first | omega | exact ti rfl | (simp only [np, nq]; first | done | omega)) only [go_sem, reduceAdd, reduceMul, reduceSub, reduceLeDiff, reduceEqDiff, reduceShiftRight, reduceAnd]
       exact hq _ H4 (Sd.of hP ⟨h1, h2 hx⟩) hS4 (hF3.trans hF4)
      | false =>
       simp (disch := first | omega | exact ti rfl | (simp only [np, nq]; first | done | omega)) only [go_sem, reduceAdd, reduceMul, reduceSub, reduceLeDiff, reduceEqDiff, reduceShiftRight, reduceAnd]
       exact j38 l p _ H4 hl3 hp (permIn_trans _ _ _ _ _ hP h1) hS4 (hF3.trans hF4)
     unfold qij
     have no : Ok (qez (C j) (qbr (C j) q s.v (.fn fc [] []) k) s.v (.int .i64 (.ofNat a)) (.int .i64 (.ofNat b)) (.int .i64 (.ofNat l)) (.fn fc [] []) (.bool wb) (.bool wp) (.int .i64 (.ofNat (b - a))) (.int .i64 (.ofNat p)) H3) Q := j38 l p d3 H3 hl3 hp hP hS3 hF3
     cases wb with
     | false => simp (disch := first | omega | exact ti rfl | (simp only [np, nq]; first | done | omega)) only [go_sem, reduceAdd, reduceMul, reduceSub, reduceLeDiff, reduceEqDiff, reduceShiftRight, reduceAnd]; exact no
     | true =>
      cases wp with
      | false => simp (disch := first | omega | exact ti rfl | (simp only [np, nq]; first | done | omega)) only [go_sem, reduceAdd, reduceMul, reduceSub, reduceLeDiff, reduceEqDiff, reduceShiftRight, reduceAnd]; exact no
      | true =>
       by_cases h1 : hint = 1
       ·simp (disch := first | omega | exact ti rfl | (simp only [np, nq]; first | done | omega)) only [go_sem, reduceAdd, reduceMul, reduceSub, reduceLeDiff, reduceEqDiff, reduceShiftRight, reduceAnd, h1]; exact goP
       ·simp (disch := first | omega | exact ti rfl | (simp only [np, nq]; first | done | omega)) only [go_sem, reduceAdd, reduceMul, reduceSub, reduceLeDiff, reduceEqDiff, reduceShiftRight, reduceAnd, h1]; exact no
    have j51 : ∀ (l : Nat) (d3 : Array E) (H3 : Hp), l < 900000 → PermIn a b d d3 → St s d3 H3 → Fs s H0 H3 →
      Ok (qii (C j) q (qbr (C j) q s.v (.fn fc [] []) k) s.v (.int .i64 (.ofNat a)) (.int .i64 (.ofNat b)) (.int .i64 (.ofNat l)) (.fn fc [] []) (.bool wb) (.bool wp) (.int .i64 (.ofNat (b - a))) H3) Q := by
     intro l d3 H3 hl3 hP hS3 hF3
     unfold qii
     refine Ok.ve (q9s hC (by omega) (hc _ (by omega)) (hc _ (by omega)) hn hS3 (by omega) hb) ?_
     rintro r H4 ⟨p, hint, rfl, hp, hh, hS4, f4⟩
     by_cases h2 : hint = 2
     ·simp (disch := first | omega | exact ti rfl | (simp only [np, nq]; first | done | omega)) only [go_sem, reduceAdd, reduceMul, reduceSub, reduceLeDiff, reduceEqDiff, reduceShiftRight, reduceAnd, h2]
      refine Ok.ve (q87 hC (by omega) hn (by omega) hb hS4 _) ?_
      rintro r H5 ⟨rfl, hS5, hF5⟩
      have hpb : p < b := hp.2
      have hpa : a ≤ p := hp.1
      have hbp : p - a ≤ b - 1 := by omega
      skip
      exact j45 l _ 1 _ H5 hl3 ⟨by omega, by omega⟩ (permIn_trans _ _ _ _ _ hP (reverseRange_holds _ a b hab (by rw [hS4.sz]; exact hb))) hS5 ((hF3.trans f4.fs).trans hF5)
     ·simp (disch := first | omega | exact ti rfl | (simp only [np, nq]; first | done | omega)) only [go_sem, reduceAdd, reduceMul, reduceSub, reduceLeDiff, reduceEqDiff, reduceShiftRight, reduceAnd, h2]
      exact j45 l p hint d3 H4 hl3 hp hP hS4 (hF3.trans f4.fs)
    unfold qq6
    cases wb with
    | true =>
     simp (disch := first | omega | exact ti rfl | (simp only [np, nq]; first | done | omega)) only [go_sem, reduceAdd, reduceMul, reduceSub, reduceLeDiff, reduceEqDiff, reduceShiftRight, reduceAnd]
     exact j51 l d H hln (permIn_refl _ _ _) hS hF
    | false =>
     simp (disch := first | omega | exact ti rfl | (simp only [np, nq]; first | done | omega)) only [go_sem, reduceAdd, reduceMul, reduceSub, reduceLeDiff, reduceEqDiff, reduceShiftRight, reduceAnd]
     refine Ok.ve (zcj hC (by omega) hn (by omega) hb hS _) ?_
     rintro r H4 ⟨rfl, d4, hP4, hS4, hF4⟩
     skip
     exact j51 (l - 1) d4 H4 (by omega) hP4 hS4 (hF.trans hF4)
theorem q9v (hC : qbe C) {fc : FuncId} (hc : ∀ k, 3 ≤ k → CmpE E (C k) fc) {s : Sl} (hn : s.n < 900000) (hl : SWO (ltE (E := E))) : ∀ (m k : Nat), m + 8 ≤ k → PdqR E C fc s k m
 | 0, k, hk => fun a b l d H h => by omega
 | m + 1, k, hk => by
  intro a b l d H h hab hb hln hB hS
  obtain ⟨k, rfl⟩ : ∃ j, k = j + 1 := ⟨k - 1, by omega⟩
  rw [(hC k).s_pdq]
  unfold s_pdq qvw qpn
  rw [qam]
  exact ql2 hC (by omega) hc hn hl (q9v hC hc hn hl m k (by omega)) qak a b l true true d H (by rw [qag]; omega) (by omega) hab hb hln hB hS (Fm.refl _ _) fun R H' hs hS' hF' => Ok.ret ⟨rfl, R, hs, hS', hF'⟩
theorem SortFunc_ok (hC : qbe C) {k : Nat} {fc : FuncId} (hc : ∀ k, 3 ≤ k → CmpE E (C k) fc) {s : Sl} (hn : s.n < 900000) (hk : s.n + 10 ≤ k) (hl : SWO (ltE (E := E))) {d : Array E} {H : Hp} (hS : St s d H) :
  Ok (C k (.f qb3) [s.v, .fn fc [] []] H) fun r H' => r = .tup [] ∧ ∃ R, Sd 0 s.n d R ∧ St s R H' ∧ Fs s H H' := by
 obtain ⟨k, rfl⟩ : ∃ j, k = j + 1 := ⟨k - 1, by omega⟩
 rw [(hC k).s_SortFunc]
 unfold s_SortFunc qfo
 have e0 : qa9 s.v = .val (.int .i64 (.ofNat s.n)) := rfl
 have e1 := qh3 .i64 s.n (by omega)
 have e2 := q0s hC (k := k) (by omega) s.n (by omega) H
 have e3 : bitsLen s.n ≤ 20 := (bitsLen_le_iff s.n 20).2 (by omega)
 simp (disch := first | omega | exact ti rfl | (simp only [np, nq]; first | done | omega)) only [go_sem, reduceAdd, reduceMul, reduceSub, reduceLeDiff, reduceEqDiff, reduceShiftRight, reduceAnd, e0, e1, e2]
 refine Ok.ve (q9v hC hc hn hl (s.n + 1) k (by omega) 0 s.n (bitsLen s.n) d H (by omega) (by omega) (by omega) (by omega) (Or.inl rfl) hS) ?_
 rintro r H1 ⟨rfl, R, h1, h2, h3⟩
 exact Ok.ret ⟨rfl, R, h1, h2, h3⟩
end Go.Di.F
end
noncomputable section
/-
 The sort: insertion.
-/
namespace Go.Di.O
open Go.Ev Go.Sort
variable {E : Type} [El E]
abbrev qc9 (C : Nat → Ev.Call) : Prop := qc7 C ∧ qbe C
theorem qzz {call : Ev.Call} (hc : CmpL E call) {s : Sl} (hn : s.n < 900000) {a : Nat} {H0 : Hp} {q : Hp → R1} {Q : AV → Hp → Prop} :
  ∀ (k j : Nat) (d : Array E) (H : Hp), j < k → j < s.n → St s d H → Fs s H0 H → (∀ H', St s (insInner ltE a j d) H' → Fs s H0 H' → Ok (q H') Q) →
   Ok (qjq call q s.v (.int .i64 (.ofNat a)) k (.int .i64 (.ofNat j)) H) Q
 | 0, j, _, _, h, _, _, _, _ => by omega
 | k + 1, j, d, H, hk, hj, hS, hF, hq => by
  show Ok (qw5 call _ _ _ (qjq call _ _ _ k) _ H) Q
  unfold qw5
  have hsz := hS.sz
  have hg := hS.get
  by_cases h : a < j
  ·obtain ⟨p, rfl⟩ : ∃ p, j = p + 1 := ⟨j - 1, by omega⟩
   rw [insInner] at hq
   simp (disch := first | omega | (simp only [np, nq, zs, zw]; first | done | omega)) only [go_sem, reduceAdd, qab, lss0, qad, hg, h, Nat.add_sub_cancel]
   refine Ok.deO (hc _ _ _ hS.iv) ?_
   rintro v H' ⟨rfl, f'⟩
   have hS' := hS.no f'
   have hg' := hS'.get
   simp (disch := first | omega | (simp only [np, nq, zs, zw]; first | done | omega)) only [go_sem, reduceAdd, qab, lss0, qad, hg', Nat.add_sub_cancel]
   cases hl : ltE d[p + 1]! d[p]! with
   | false =>
    rw [hl] at hq
    simp (disch := first | omega | (simp only [np, nq, zs, zw]; first | done | omega)) only [go_sem, reduceAdd, qab, lss0, qad]
    exact hq H' (by simpa using hS') (hF.trans f'.fs)
   | true =>
    rw [hl] at hq
    unfold qsl
    simp (disch := first | omega | (simp only [np, nq, zs, zw]; first | done | omega)) only [go_sem, reduceAdd, qab, lss0, qad, hg', Nat.add_sub_cancel]
    unfold qw3
    simp (disch := first | omega | (simp only [np, nq, zs, zw]; first | done | omega)) only [go_sem, reduceAdd, qab, lss0, qad, Nat.add_sub_cancel]
    exact qzz hc hn k p (swp d (p + 1) p) _ (by omega) (by omega) (hS'.put2 (swp_size _ _ _)) (Fs.put2 (hF.trans f'.fs)) (by simpa [h] using hq)
  ·simp (disch := first | omega | (simp only [np, nq, zs, zw]; first | done | omega)) only [go_sem, reduceAdd, qab, lss0, qad, h]
   refine hq H ?_ hF
   cases j with
   | zero => exact hS
   | succ j => rw [insInner]; simpa [show ¬ a < j + 1 from h] using hS
theorem qhv (lt : E → E → Bool) (a : Nat) : ∀ (j : Nat) (d : Array E), (insInner lt a j d).size = d.size
 | 0, d => rfl
 | j + 1, d => by
  rw [insInner]
  split
  ·rw [qhv lt a j, swp_size]
  ·rfl
theorem qtc {call : Ev.Call} (hc : CmpL E call) {s : Sl} (hn : s.n < 900000) {a b : Nat} (hb : b ≤ s.n) {H0 : Hp} {q : Hp → R1} {Q : AV → Hp → Prop} :
  ∀ (k i : Nat) (d : Array E) (H : Hp), b - i < k → i ≤ 900001 → St s d H → Fs s H0 H → (∀ H', St s (insOuter ltE a b i d) H' → Fs s H0 H' → Ok (q H') Q) →
   Ok (qcx call q s.v (.int .i64 (.ofNat a)) (.int .i64 (.ofNat b)) k (.int .i64 (.ofNat i)) H) Q
 | 0, i, _, _, h, _, _, _, _ => by omega
 | k + 1, i, d, H, hk, hi, hS, hF, hq => by
  show Ok (qmc call _ _ _ _ (qcx call _ _ _ _ k) _ H) Q
  unfold qmc
  rw [insOuter] at hq
  by_cases h : i < b
  ·rw [if_pos h] at hq
   simp (disch := first | omega | (simp only [np, nq, zs, zw]; first | done | omega)) only [go_sem, reduceAdd, qab, lss0, qad, h]
   unfold qsk qw6
   rw [qam]
   refine qzz hc hn qak i d H (by rw [qag]; omega) (by omega) hS hF fun H' hS' hF' => ?_
   unfold qhp
   simp (disch := first | omega | (simp only [np, nq, zs, zw]; first | done | omega)) only [go_sem, reduceAdd, qab, lss0, qad]
   exact qtc hc hn hb k (i + 1) _ H' (by omega) (by omega) hS' hF' hq
  ·rw [if_neg h] at hq
   simp (disch := first | omega | (simp only [np, nq, zs, zw]; first | done | omega)) only [go_sem, reduceAdd, qab, lss0, qad, h]
   exact hq H hS hF
theorem zay {C : Nat → Ev.Call} (hC : qc9 C) {k : Nat} (hk : 1 ≤ k) (hc : CmpL E (C (k - 1))) {s : Sl} (hn : s.n < 900000) {a b : Nat} (ha : a ≤ b) (hb : b ≤ s.n) {d : Array E} {H : Hp} (hS : St s d H) :
  Ok (C k (.f qmo) [s.v, .int .i64 (.ofNat a), .int .i64 (.ofNat b)] H) fun r H' => r = .tup [] ∧ St s (insertionSort ltE d a b) H' ∧ Fs s H H' := by
 obtain ⟨j, rfl⟩ : ∃ j, k = j + 1 := ⟨k - 1, by omega⟩
 rw [(hC.1 j).o_ins]
 unfold o_ins qw4
 simp (disch := first | omega | (simp only [np, nq, zs, zw]; first | done | omega)) only [go_sem, reduceAdd, qab, lss0, qad]
 unfold qpv
 rw [qam]
 exact qtc hc hn hb qak (a + 1) d H (by rw [qag]; omega) (by omega) hS (Fm.refl _ _) fun H' hS' hF' => Ok.ret ⟨rfl, hS', hF'⟩
end Go.Di.O
end
noncomputable section
/-
 The sort: the pivot.
-/
namespace Go.Di.O
open Go.Ev Go.Sort
variable {C : Nat → Ev.Call} {E : Type} [El E]
theorem qky (hC : qc9 C) {k : Nat} (hk : 1 ≤ k) (hc : CmpL E (C (k - 1))) {s : Sl} {d : Array E} {pb w i j lo hi : Nat} {H : Hp} (hS : St s d H) (hp : Cnt E s pb w H) (hw : w < 900000)
  (hi1 : lo ≤ i ∧ i < hi) (hj1 : lo ≤ j ∧ j < hi) (hh : hi ≤ s.n) :
  Ok (C k (.f qg6) [s.v, .int .i64 (.ofNat i), .int .i64 (.ofNat j), .ptr pb 0] H) fun r H' =>
   ∃ i' j' w', r = .tup [.int .i64 (.ofNat i'), .int .i64 (.ofNat j')] ∧ (lo ≤ i' ∧ i' < hi) ∧ (lo ≤ j' ∧ j' < hi) ∧ w' ≤ w + 1 ∧ St s d H' ∧ Cnt E s pb w' H' ∧ Fp pb H H' := by
 obtain ⟨k, rfl⟩ : ∃ j, k = j + 1 := ⟨k - 1, by omega⟩
 rw [(hC.1 k).o_ord2]
 unfold o_ord2 qw0
 have hsz := hS.sz
 have hg := hS.get
 simp (disch := first | omega | (simp only [np, nq, zs, zw]; first | done | omega)) only [go_sem, reduceAdd, qab, lss0, qad, hg]
 refine Ok.deO (hc _ _ _ hS.iv) ?_
 rintro v H' ⟨rfl, f'⟩
 have hS' := hS.no f'
 have hp' := hp.no f'
 have hg' := hS'.get
 have hpg := hp'.get
 simp (disch := first | omega | (simp only [np, nq, zs, zw]; first | done | omega)) only [go_sem, reduceAdd, qab, lss0, qad, hg']
 cases hl : ltE d[j]! d[i]! with
 | true =>
  simp (disch := first | omega | (simp only [np, nq, zs, zw]; first | done | omega)) only [go_sem, reduceAdd, qab, lss0, qad, hpg]
  have fp : Fp pb H' (H'.put pb (qae 0 [.int .i64 (.ofNat (w + 1))])) := (Fm.refl _ _).put _ _ fun _ => rfl
  exact Ok.ret ⟨j, i, w + 1, rfl, hj1, hi1, Nat.le_refl _, hS'.fp fp hp.ne hp.nh, ⟨qai _ _ _, hp'.lt, hp.ne, hp.nh⟩, f'.fp.trans fp⟩
 | false =>
  simp (disch := first | omega | (simp only [np, nq, zs, zw]; first | done | omega)) only [go_sem, reduceAdd, qab, lss0, qad]
  unfold qsj
  exact Ok.ret ⟨i, j, w, rfl, hi1, hj1, Nat.le_succ _, hS', hp', f'.fp⟩
theorem qzu (hC : qc9 C) {k : Nat} (hk : 2 ≤ k) (hc : CmpL E (C (k - 2))) {s : Sl} {d : Array E} {pb w a b c lo hi : Nat} {H : Hp} (hS : St s d H) (hp : Cnt E s pb w H) (hw : w < 900)
  (ha : lo ≤ a ∧ a < hi) (hb : lo ≤ b ∧ b < hi) (hc1 : lo ≤ c ∧ c < hi) (hh : hi ≤ s.n) :
  Ok (C k (.f qmn) [s.v, .int .i64 (.ofNat a), .int .i64 (.ofNat b), .int .i64 (.ofNat c), .ptr pb 0] H) fun r H' =>
   ∃ i' w', r = .int .i64 (.ofNat i') ∧ (lo ≤ i' ∧ i' < hi) ∧ w' ≤ w + 3 ∧ St s d H' ∧ Cnt E s pb w' H' ∧ Fp pb H H' := by
 obtain ⟨k, rfl⟩ : ∃ j, k = j + 2 := ⟨k - 2, by omega⟩
 rw [(hC.1 (k + 1)).o_med]
 unfold o_med q14
 refine Ok.ve (qky hC (k := k + 1) (by omega) hc hS hp (by omega) ha hb hh) ?_
 rintro r H1 ⟨a1, b1, w1, rfl, ha1, hb1, hw1, hS1, hp1, f1⟩
 simp (disch := omega) only [go_sem, reduceAdd]
 refine Ok.ve (qky hC (k := k + 1) (by omega) hc hS1 hp1 (by omega) hb1 hc1 hh) ?_
 rintro r H2 ⟨b2, c2, w2, rfl, hb2, hc2, hw2, hS2, hp2, f2⟩
 simp (disch := omega) only [go_sem, reduceAdd]
 refine Ok.ve (qky hC (k := k + 1) (by omega) hc hS2 hp2 (by omega) ha1 hb2 hh) ?_
 rintro r H3 ⟨a3, b3, w3, rfl, ha3, hb3, hw3, hS3, hp3, f3⟩
 simp (disch := omega) only [go_sem, reduceAdd]
 exact Ok.ret ⟨b3, w3, rfl, hb3, by omega, hS3, hp3, (f1.trans f2).trans f3⟩
theorem qfc (hC : qc9 C) {k : Nat} (hk : 3 ≤ k) (hc : CmpL E (C (k - 3))) {s : Sl} (hn : s.n < 900000) {d : Array E} {pb w a lo hi : Nat} {H : Hp} (hS : St s d H) (hp : Cnt E s pb w H) (hw : w < 900)
  (ha : lo + 1 ≤ a ∧ a + 1 < hi) (hh : hi ≤ s.n) :
  Ok (C k (.f qds) [s.v, .int .i64 (.ofNat a), .ptr pb 0] H) fun r H' =>
   ∃ i' w', r = .int .i64 (.ofNat i') ∧ (lo ≤ i' ∧ i' < hi) ∧ w' ≤ w + 3 ∧ St s d H' ∧ Cnt E s pb w' H' ∧ Fp pb H H' := by
 obtain ⟨k, rfl⟩ : ∃ j, k = j + 3 := ⟨k - 3, by omega⟩
 rw [(hC.1 (k + 2)).o_medadj]
 unfold o_medadj qoe
 simp (disch := omega) only [go_sem, reduceAdd]
 refine Ok.ve (qzu hC (k := k + 2) (by omega) hc hS hp hw (lo := lo) (hi := hi) ⟨by omega, by omega⟩ ⟨by omega, by omega⟩ ⟨by omega, by omega⟩ hh) ?_
 rintro r H1 ⟨a1, w1, rfl, ha1, hw1, hS1, hp1, f1⟩
 exact Ok.ret ⟨a1, w1, rfl, ha1, hw1, hS1, hp1, f1⟩
theorem qru {call : Ev.Call} {s : Sl} {d : Array E} {pb w i lo hi : Nat} {H0 H : Hp} (hS : St s d H) (hp : Cnt E s pb w H) (hi1 : lo ≤ i ∧ i < hi) (hF : Fm No H0 H) :
  Ok (qit call (.ptr pb 0) (.int .i64 (.ofNat i)) H) fun r H' => ∃ i' h, r = .tup [.int .i64 (.ofNat i'), .int .i64 (.ofNat h)] ∧ (lo ≤ i' ∧ i' < hi) ∧ h < 3 ∧ St s d H' ∧ Fm No H0 H' := by
 unfold qit
 have hg := hp.get
 by_cases h0 : w = 0
 ·simp (disch := omega) only [go_sem, reduceAdd, hg, h0]
  exact Ok.ret ⟨i, 1, rfl, hi1, by omega, hS, hF⟩
 ·by_cases h1 : w = 12
  ·simp (disch := omega) only [go_sem, reduceAdd, hg, h0, h1]
   exact Ok.ret ⟨i, 2, rfl, hi1, by omega, hS, hF⟩
  ·simp (disch := omega) only [go_sem, reduceAdd, hg, h0, h1]
   exact Ok.ret ⟨i, 0, rfl, hi1, by omega, hS, hF⟩
theorem q9s (hC : qc9 C) {k : Nat} (hk : 4 ≤ k) (hc : CmpL E (C (k - 4))) (hc2 : CmpL E (C (k - 3))) {s : Sl} (hn : s.n < 900000) {d : Array E} {a b : Nat} {H : Hp} (hS : St s d H) (ha : a < b) (hb : b ≤ s.n) :
  Ok (C k (.f qqd) [s.v, .int .i64 (.ofNat a), .int .i64 (.ofNat b)] H) fun r H' =>
   ∃ i h, r = .tup [.int .i64 (.ofNat i), .int .i64 (.ofNat h)] ∧ (a ≤ i ∧ i < b) ∧ h < 3 ∧ St s d H' ∧ Fm No H H' := by
 obtain ⟨k, rfl⟩ : ∃ j, k = j + 4 := ⟨k - 4, by omega⟩
 rw [(hC.1 (k + 3)).o_piv]
 unfold o_piv q1y
 have fH : Fm No H (qaw H (qae 0 [.int .i64 (.ofNat 0)])) := (Fm.refl _ _).push _
 have hS0 := hS.no fH
 have hp0 : Cnt E s H.nx 0 (qaw H (qae 0 [.int .i64 (.ofNat 0)])) := ⟨qar _ _, Nat.lt_succ_self _, Nat.ne_of_lt hS.lt, fun h => Nat.lt_irrefl _ (El.homeLt hS.iv h)⟩
 have back : ∀ {H'}, Fp H.nx (qaw H (qae 0 [.int .i64 (.ofNat 0)])) H' → Fm No H H' := fun f => fH.then f fun c h1 h2 => by omega
 have fin : ∀ {i j m w : Nat} {H1 : Hp}, a ≤ i ∧ i < b → a ≤ j ∧ j < b → a ≤ m ∧ m < b → w < 900 → St s d H1 → Cnt E s H.nx w H1 → Fm No H H1 →
   Ok (qis (C (k + 3)) s.v (.ptr H.nx 0) (.int .i64 (.ofNat i)) (.int .i64 (.ofNat j)) (.int .i64 (.ofNat m)) H1) fun r H' =>
    ∃ i h, r = .tup [.int .i64 (.ofNat i), .int .i64 (.ofNat h)] ∧ (a ≤ i ∧ i < b) ∧ h < 3 ∧ St s d H' ∧ Fm No H H' := by
  intro i j m w H1 hi hj hm hw hS1 hp1 f1
  unfold qis
  refine Ok.ve (qzu hC (k := k + 3) (by omega) hc2 hS1 hp1 hw hi hj hm hb) ?_
  rintro r H2 ⟨i2, w2, rfl, hi2, hw2, hS2, hp2, f2⟩
  exact qru hS2 hp2 hi2 (f1.then f2 fun c h1 h2 => by omega)
 by_cases h8 : 8 ≤ b - a
 ·by_cases h50 : 50 ≤ b - a
  ·simp (disch := omega) only [go_sem, reduceAdd, h8, h50]
   refine Ok.ve (qfc hC (k := k + 3) (by omega) hc hn hS0 hp0 (by omega) (lo := a) (hi := b) ⟨by omega, by omega⟩ hb) ?_
   rintro r H1 ⟨i1, w1, rfl, hi1, hw1, hS1, hp1, f1⟩
   refine Ok.ve (qfc hC (k := k + 3) (by omega) hc hn hS1 hp1 (by omega) (lo := a) (hi := b) ⟨by omega, by omega⟩ hb) ?_
   rintro r H2 ⟨i2, w2, rfl, hi2, hw2, hS2, hp2, f2⟩
   refine Ok.ve (qfc hC (k := k + 3) (by omega) hc hn hS2 hp2 (by omega) (lo := a) (hi := b) ⟨by omega, by omega⟩ hb) ?_
   rintro r H3 ⟨i3, w3, rfl, hi3, hw3, hS3, hp3, f3⟩
   exact fin hi1 hi2 hi3 (by omega) hS3 hp3 (back ((f1.trans f2).trans f3))
  ·simp (disch := omega) only [go_sem, reduceAdd, h8, h50]
   exact fin ⟨by omega, by omega⟩ ⟨by omega, by omega⟩ ⟨by omega, by omega⟩ (w := 0) (by omega) hS0 hp0 fH
 ·simp (disch := omega) only [go_sem, reduceAdd, h8]
  exact qru hS0 hp0 ⟨by omega, by omega⟩ fH
end Go.Di.O
end
noncomputable section
/-
 The sort: the heap.
-/
namespace Go.Di.O
open Go.Ev Go.Sort
variable {C : Nat → Ev.Call} {E : Type} [El E]
theorem qkb {call : Ev.Call} (hc : CmpL E call) {s : Sl} (hn : s.n < 900000) {first root c : Nat} (h1 : first + root < s.n) (h2 : first + c < s.n) {d : Array E} {H0 H : Hp} {qr : Hp → R1} {g0 : AV → Hp → R1} {Q : AV → Hp → Prop}
  (hS : St s d H) (hF : Fs s H0 H) (hr : ltE d[first + root]! d[first + c]! = false → ∀ H', St s d H' → Fs s H0 H' → Ok (qr H') Q)
  (hg0 : ltE d[first + root]! d[first + c]! = true → ∀ H', St s (swp d (first + root) (first + c)) H' → Fs s H0 H' → Ok (g0 (.int .i64 (.ofNat c)) H') Q) :
  Ok (qgx call qr g0 s.v (.int .i64 (.ofNat first)) (.int .i64 (.ofNat root)) (.int .i64 (.ofNat c)) H) Q := by
 unfold qgx
 have hsz := hS.sz
 have hg := hS.get
 simp (disch := first | omega | (simp only [np, nq, zs, zw]; first | done | omega)) only [go_sem, reduceAdd, qab, lss0, qad, hg]
 refine Ok.deO (hc _ _ _ hS.iv) ?_
 rintro v H' ⟨rfl, f'⟩
 have hS' := hS.no f'
 have hg' := hS'.get
 simp (disch := first | omega | (simp only [np, nq, zs, zw]; first | done | omega)) only [go_sem, reduceAdd, qab, lss0, qad, hg']
 cases hl : ltE d[first + root]! d[first + c]! with
 | false =>
  simp (disch := first | omega | (simp only [np, nq, zs, zw]; first | done | omega)) only [go_sem, reduceAdd, qab, lss0, qad]
  exact hr hl H' hS' (hF.trans f'.fs)
 | true =>
  simp (disch := first | omega | (simp only [np, nq, zs, zw]; first | done | omega)) only [go_sem, reduceAdd, qab, lss0, qad]
  unfold qny
  simp (disch := first | omega | (simp only [np, nq, zs, zw]; first | done | omega)) only [go_sem, reduceAdd, qab, lss0, qad, hg']
  exact hg0 hl _ (hS'.put2 (swp_size _ _ _)) (Fs.put2 (hF.trans f'.fs))
theorem qhf {call : Ev.Call} (hc : CmpL E call) {s : Sl} (hn : s.n < 900000) {first hi : Nat} (hh : first + hi ≤ s.n) {H0 : Hp} {qe qr : Hp → R1} {Q : AV → Hp → Prop} :
  ∀ (k root : Nat) (d : Array E) (H : Hp), hi - root < k → root < 900000 → St s d H → Fs s H0 H →
   (∀ H', St s (siftDown ltE hi first root d) H' → Fs s H0 H' → Ok (qe H') Q) → (∀ H', St s (siftDown ltE hi first root d) H' → Fs s H0 H' → Ok (qr H') Q) →
   Ok (qe5 call qe qr s.v (.int .i64 (.ofNat hi)) (.int .i64 (.ofNat first)) k (.int .i64 (.ofNat root)) H) Q
 | 0, _, _, _, h, _, _, _, _, _ => by omega
 | k + 1, root, d, H, hk, hr1, hS, hF, hqe, hqr => by
  show Ok (qr5 call _ _ _ _ _ (qe5 call _ _ _ _ _ k) _ H) Q
  unfold qr5
  have hsz := hS.sz
  have hg := hS.get
  by_cases h : hi ≤ 2 * root + 1
  ·simp (disch := first | omega | (simp only [np, nq, zs, zw]; first | done | omega)) only [go_sem, reduceAdd, qab, lss0, qad, h]
   exact hqe H (by rw [siftDown]; simpa [h] using hS) hF
  ·simp (disch := first | omega | (simp only [np, nq, zs, zw]; first | done | omega)) only [go_sem, reduceAdd, qab, lss0, qad, h]
   unfold qnx
   by_cases h2 : 2 * root + 1 + 1 < hi
   ·simp (disch := first | omega | (simp only [np, nq, zs, zw]; first | done | omega)) only [go_sem, reduceAdd, qab, lss0, qad, hg, h2]
    refine Ok.deO (hc _ _ _ hS.iv) ?_
    rintro v H' ⟨rfl, f'⟩
    have hS' := hS.no f'
    have hg' := hS'.get
    simp (disch := first | omega | (simp only [np, nq, zs, zw]; first | done | omega)) only [go_sem, reduceAdd, qab, lss0, qad, hg']
    have h3 : 2 * root + 2 < hi := h2
    cases hl : ltE d[first + (2 * root + 1)]! d[first + (2 * root + 1) + 1]! with
    | true =>
     simp (disch := first | omega | (simp only [np, nq, zs, zw]; first | done | omega)) only [go_sem, reduceAdd, qab, lss0, qad]
     refine qkb hc hn (c := 2 * root + 2) (by omega) (by omega) hS' (hF.trans f'.fs) (fun hl2 H2 hS2 hF2 => hqr H2 ?_ hF2) fun hl2 H2 hS2 hF2 => ?_
     ·rw [siftDown, dif_neg (by omega), if_pos (by rw [hl]; simp [h3]), if_pos (by rw [hl2]; rfl)]
      exact hS2
     ·have e : siftDown ltE hi first root d = siftDown ltE hi first (2 * root + 2) (swp d (first + root) (first + (2 * root + 2))) := by
       rw [siftDown, dif_neg (by omega), if_pos (by rw [hl]; simp [h3]), if_neg (by rw [hl2]; simp), dif_pos h3]
      rw [e] at hqe hqr
      exact qhf hc hn hh k (2 * root + 2) _ H2 (by omega) (by omega) hS2 hF2 hqe hqr
    | false =>
     simp (disch := first | omega | (simp only [np, nq, zs, zw]; first | done | omega)) only [go_sem, reduceAdd, qab, lss0, qad]
     refine qkb hc hn (c := 2 * root + 1) (by omega) (by omega) hS' (hF.trans f'.fs) (fun hl2 H2 hS2 hF2 => hqr H2 ?_ hF2) fun hl2 H2 hS2 hF2 => ?_
     ·rw [siftDown, dif_neg (by omega), if_neg (by rw [hl]; simp), if_pos (by rw [hl2]; rfl)]
      exact hS2
     ·have e : siftDown ltE hi first root d = siftDown ltE hi first (2 * root + 1) (swp d (first + root) (first + (2 * root + 1))) := by
       rw [siftDown, dif_neg (by omega), if_neg (by rw [hl]; simp), if_neg (by rw [hl2]; simp)]
      rw [e] at hqe hqr
      exact qhf hc hn hh k (2 * root + 1) _ H2 (by omega) (by omega) hS2 hF2 hqe hqr
   ·simp (disch := first | omega | (simp only [np, nq, zs, zw]; first | done | omega)) only [go_sem, reduceAdd, qab, lss0, qad, hg, h2]
    have hcond : ¬ ((decide (2 * root + 1 + 1 < hi) && ltE d[first + (2 * root + 1)]! d[first + (2 * root + 1) + 1]!) = true) := by simp [h2]
    refine qkb hc hn (c := 2 * root + 1) (by omega) (by omega) hS hF (fun hl2 H2 hS2 hF2 => hqr H2 ?_ hF2) fun hl2 H2 hS2 hF2 => ?_
    ·rw [siftDown, dif_neg (by omega), if_neg hcond, if_pos (by rw [hl2]; rfl)]
     exact hS2
    ·have e : siftDown ltE hi first root d = siftDown ltE hi first (2 * root + 1) (swp d (first + root) (first + (2 * root + 1))) := by
      rw [siftDown, dif_neg (by omega), if_neg hcond, if_neg (by rw [hl2]; simp)]
     rw [e] at hqe hqr
     exact qhf hc hn hh k (2 * root + 1) _ H2 (by omega) (by omega) hS2 hF2 hqe hqr
theorem qqq (hC : qc9 C) {k : Nat} (hk : 1 ≤ k) (hc : CmpL E (C (k - 1))) {s : Sl} (hn : s.n < 900000) {root hi first : Nat} (hh : first + hi ≤ s.n) (hr : root < 900000) {d : Array E} {H : Hp} (hS : St s d H) :
  Ok (C k (.f qja) [s.v, .int .i64 (.ofNat root), .int .i64 (.ofNat hi), .int .i64 (.ofNat first)] H) fun r H' => r = .tup [] ∧ St s (siftDown ltE hi first root d) H' ∧ Fs s H H' := by
 obtain ⟨j, rfl⟩ : ∃ j, k = j + 1 := ⟨k - 1, by omega⟩
 rw [(hC.1 j).o_sift]
 unfold o_sift qwu qr6
 rw [qam]
 exact qhf hc hn hh qak root d H (by rw [qag]; omega) hr hS (Fm.refl _ _) (fun H' hS' hF' => Ok.ret ⟨rfl, hS', hF'⟩) fun H' hS' hF' => Ok.ret ⟨rfl, hS', hF'⟩
theorem qg8 (hC : qc9 C) {j : Nat} (hj : 1 ≤ j) (hc : CmpL E (C (j - 1))) {s : Sl} (hn : s.n < 900000) {first hi : Nat} (hh : first + hi ≤ s.n) {H0 : Hp} {q : Hp → R1} {Q : AV → Hp → Prop} :
  ∀ (k r : Nat) (d : Array E) (H : Hp), r < k → r < 900000 → St s d H → Fs s H0 H → (∀ H', St s (heapBuild ltE hi first r d) H' → Fs s H0 H' → Ok (q H') Q) →
   Ok (qdp (C j) q s.v (.int .i64 (.ofNat first)) (.int .i64 (.ofNat hi)) k (dn r) H) Q
 | 0, _, _, _, h, _, _, _, _ => by omega
 | k + 1, 0, d, H, hk, hr, hS, hF, hq => by
  show Ok (qg4 (C j) _ _ _ _ (qdp (C j) _ _ _ _ k) _ H) Q
  unfold qg4
  simp (disch := omega) only [go_sem, reduceAdd, dn]
  exact hq H hS hF
 | k + 1, r + 1, d, H, hk, hr, hS, hF, hq => by
  show Ok (qg4 (C j) _ _ _ _ (qdp (C j) _ _ _ _ k) _ H) Q
  unfold qg4
  simp (disch := omega) only [go_sem, reduceAdd, dn, Nat.zero_le]
  unfold qof
  refine Ok.ve (qqq hC hj hc hn hh (by omega) hS) ?_
  rintro v H' ⟨rfl, hS', hF'⟩
  unfold qog
  have e := quj r (by omega)
  simp only [e, qj3]
  exact qg8 hC hj hc hn hh k r _ H' (by omega) (by omega) hS' (hF.trans hF') hq
theorem qmr (hC : qc9 C) {j : Nat} (hj : 1 ≤ j) (hc : CmpL E (C (j - 1))) {s : Sl} (hn : s.n < 900000) {first : Nat} {H0 : Hp} {q : Hp → R1} {Q : AV → Hp → Prop} :
  ∀ (k r : Nat) (d : Array E) (H : Hp), r < k → first + r ≤ s.n → St s d H → Fs s H0 H → (∀ H', St s (heapPop ltE first r d) H' → Fs s H0 H' → Ok (q H') Q) →
   Ok (qfa (C j) q s.v (.int .i64 (.ofNat first)) (.int .i64 (.ofNat 0)) k (dn r) H) Q
 | 0, _, _, _, h, _, _, _, _ => by omega
 | k + 1, 0, d, H, hk, hr, hS, hF, hq => by
  show Ok (qiz (C j) _ _ _ _ (qfa (C j) _ _ _ _ k) _ H) Q
  unfold qiz
  simp (disch := omega) only [go_sem, reduceAdd, dn]
  exact hq H hS hF
 | k + 1, r + 1, d, H, hk, hr, hS, hF, hq => by
  show Ok (qiz (C j) _ _ _ _ (qfa (C j) _ _ _ _ k) _ H) Q
  unfold qiz
  have hsz := hS.sz
  have hg := hS.get
  simp (disch := omega) only [go_sem, reduceAdd, dn, Nat.zero_le]
  unfold qoh
  simp (disch := first | omega | (simp only [np, nq, zs, zw]; first | done | omega)) only [go_sem, reduceAdd, qab, lss0, qad, hg]
  have hS1 := hS.put2 (d1 := d.setIfInBounds first d[first + r]!) (swp_size d first (first + r))
  refine Ok.ve (qqq hC hj hc hn (by omega) (by omega) hS1) ?_
  rintro v H' ⟨rfl, hS', hF'⟩
  unfold qsm
  have e := quj r (by omega)
  simp only [e, qj3]
  exact qmr hC hj hc hn k r _ H' (by omega) (by omega) hS' ((Fs.put2 hF).trans hF') hq
theorem q2w (hC : qc9 C) {k : Nat} (hk : 2 ≤ k) (hc : CmpL E (C (k - 2))) {s : Sl} (hn : s.n < 900000) {a b : Nat} (ha : a < b) (hb : b ≤ s.n) {d : Array E} {H : Hp} (hS : St s d H) :
  Ok (C k (.f qmp) [s.v, .int .i64 (.ofNat a), .int .i64 (.ofNat b)] H) fun r H' => r = .tup [] ∧ St s (heapSort ltE d a b) H' ∧ Fs s H H' := by
 obtain ⟨j, rfl⟩ : ∃ j, k = j + 2 := ⟨k - 2, by omega⟩
 rw [(hC.1 (j + 1)).o_heap]
 unfold o_heap qw7 qoi
 rw [qam]
 have e1 : (b - a - 1) / 2 < 900000 := by omega
 simp (disch := omega) only [go_sem, reduceAdd]
 refine qg8 hC (j := j + 1) (by omega) hc hn (by omega) qak ((b - a - 1) / 2 + 1) d H (by rw [qag]; omega) (by omega) hS (Fm.refl _ _) fun H' hS' hF' => ?_
 unfold qdq qsn
 rw [qam]
 have e := quj (b - a) (by omega)
 simp only [e, qj3]
 exact qmr hC (j := j + 1) (by omega) hc hn qak (b - a) _ H' (by rw [qag]; omega) (by omega) hS' hF' fun H2 hS2 hF2 => Ok.ret ⟨rfl, hS2, hF2⟩
end Go.Di.O
end
noncomputable section
/-
 The sort: turning round, and insertion of a few.
-/
namespace Go.Di.O
open Go.Ev Go.Sort
variable {C : Nat → Ev.Call} {E : Type} [El E]
theorem qzb {call : Ev.Call} {s : Sl} (hn : s.n < 900000) {H0 : Hp} {q : Hp → R1} {Q : AV → Hp → Prop} :
  ∀ (k i j : Nat) (d : Array E) (H : Hp), j - i < k → i < 900000 → j < s.n → St s d H → Fs s H0 H → (∀ H', St s (reverseLoop i j d) H' → Fs s H0 H' → Ok (q H') Q) →
   Ok (ql9 call q s.v k (.int .i64 (.ofNat i)) (.int .i64 (.ofNat j)) H) Q
 | 0, _, _, _, _, h, _, _, _, _, _ => by omega
 | k + 1, i, j, d, H, hk, hi, hj, hS, hF, hq => by
  show Ok (qwv call _ _ (ql9 call _ _ k) _ _ H) Q
  unfold qwv
  have hsz := hS.sz
  have hg := hS.get
  rw [reverseLoop] at hq
  by_cases h : i < j
  ·rw [if_pos h] at hq
   simp (disch := first | omega | (simp only [np, nq, zs, zw]; first | done | omega)) only [go_sem, reduceAdd, qab, lss0, qad, h]
   unfold qr7
   simp (disch := first | omega | (simp only [np, nq, zs, zw]; first | done | omega)) only [go_sem, reduceAdd, qab, lss0, qad, hg]
   exact qzb hn k (i + 1) (j - 1) _ _ (by omega) (by omega) (by omega) (hS.put2 (swp_size _ _ _)) (Fs.put2 hF) hq
  ·rw [if_neg h] at hq
   simp (disch := first | omega | (simp only [np, nq, zs, zw]; first | done | omega)) only [go_sem, reduceAdd, qab, lss0, qad, h]
   exact hq H hS hF
theorem q87 (hC : qc9 C) {k : Nat} (hk : 1 ≤ k) {s : Sl} (hn : s.n < 900000) {a b : Nat} (ha : a < b) (hb : b ≤ s.n) {d : Array E} {H : Hp} (hS : St s d H) :
  Ok (C k (.f qqc) [s.v, .int .i64 (.ofNat a), .int .i64 (.ofNat b)] H) fun r H' => r = .tup [] ∧ St s (reverseRange d a b) H' ∧ Fs s H H' := by
 obtain ⟨j, rfl⟩ : ∃ j, k = j + 1 := ⟨k - 1, by omega⟩
 rw [(hC.1 j).o_rev]
 unfold o_rev q1x qww
 rw [qam]
 simp (disch := omega) only [go_sem, reduceAdd]
 exact qzb hn qak a (b - 1) d H (by rw [qag]; omega) (by omega) (by omega) hS (Fm.refl _ _) fun H' hS' hF' => Ok.ret ⟨rfl, hS', hF'⟩
theorem qio {call : Ev.Call} (hc : CmpL E call) {s : Sl} (hn : s.n < 900000) {b : Nat} (hb : b ≤ s.n) {d : Array E} {H0 : Hp} {q : AV → Hp → R1} {Q : AV → Hp → Prop} :
  ∀ (k i : Nat) (H : Hp), b - i < k → 1 ≤ i → i ≤ b → St s d H → Fs s H0 H → (∀ i' H', i ≤ i' → i' ≤ b → scanSorted ltE d b i = i' → St s d H' → Fs s H0 H' → Ok (q (.int .i64 (.ofNat i')) H') Q) →
   Ok (qe6 call q s.v (.int .i64 (.ofNat b)) k (.int .i64 (.ofNat i)) H) Q
 | 0, _, _, h, _, _, _, _, _ => by omega
 | k + 1, i, H, hk, h1, hib, hS, hF, hq => by
  show Ok (qk4 call _ _ _ (qe6 call _ _ _ k) _ H) Q
  unfold qk4
  have hsz := hS.sz
  have hg := hS.get
  rw [scanSorted] at hq
  by_cases h : i < b
  ·simp (disch := first | omega | (simp only [np, nq, zs, zw]; first | done | omega)) only [go_sem, reduceAdd, qab, lss0, qad, hg, h]
   refine Ok.deO (hc _ _ _ hS.iv) ?_
   rintro v H' ⟨rfl, f'⟩
   have hS' := hS.no f'
   have hg' := hS'.get
   simp (disch := first | omega | (simp only [np, nq, zs, zw]; first | done | omega)) only [go_sem, reduceAdd, qab, lss0, qad, hg']
   cases hl : ltE d[i]! d[i - 1]! with
   | true =>
    rw [hl] at hq
    simp (disch := first | omega | (simp only [np, nq, zs, zw]; first | done | omega)) only [go_sem, reduceAdd, qab, lss0, qad]
    exact hq i H' (Nat.le_refl _) hib (by simp) hS' (hF.trans f'.fs)
   | false =>
    rw [hl] at hq
    simp (disch := first | omega | (simp only [np, nq, zs, zw]; first | done | omega)) only [go_sem, reduceAdd, qab, lss0, qad]
    unfold qk0
    simp (disch := first | omega | (simp only [np, nq, zs, zw]; first | done | omega)) only [go_sem, reduceAdd, qab, lss0, qad]
    exact qio hc hn hb k (i + 1) H' (by omega) (by omega) (by omega) hS' (hF.trans f'.fs) fun i' H2 h2 h3 h4 => hq i' H2 (by omega) h3 (by simpa [h] using h4)
  ·simp (disch := first | omega | (simp only [np, nq, zs, zw]; first | done | omega)) only [go_sem, reduceAdd, qab, lss0, qad, h]
   exact hq i H (Nat.le_refl _) hib (by simp [h]) hS hF
theorem qip {call : Ev.Call} (hc : CmpL E call) {s : Sl} (hn : s.n < 900000) {H0 : Hp} {q : Hp → R1} {Q : AV → Hp → Prop} :
  ∀ (k j : Nat) (d : Array E) (H : Hp), j < k → j < s.n → St s d H → Fs s H0 H → (∀ H', St s (shiftDown ltE j d) H' → Fs s H0 H' → Ok (q H') Q) →
   Ok (qcs call q s.v k (.int .i64 (.ofNat j)) H) Q
 | 0, _, _, _, h, _, _, _, _ => by omega
 | k + 1, 0, d, H, hk, hj, hS, hF, hq => by
  show Ok (qgy call _ _ (qcs call _ _ k) _ H) Q
  unfold qgy
  simp (disch := omega) only [go_sem, reduceAdd, Nat.not_succ_le_zero]
  exact hq H hS hF
 | k + 1, j + 1, d, H, hk, hj, hS, hF, hq => by
  show Ok (qgy call _ _ (qcs call _ _ k) _ H) Q
  unfold qgy
  have hsz := hS.sz
  have hg := hS.get
  have h1 : 1 ≤ j + 1 := by omega
  rw [shiftDown] at hq
  simp (disch := first | omega | (simp only [np, nq, zs, zw]; first | done | omega)) only [go_sem, reduceAdd, qab, lss0, qad, h1]
  unfold qk3
  simp (disch := first | omega | (simp only [np, nq, zs, zw]; first | done | omega)) only [go_sem, reduceAdd, qab, lss0, qad, hg, Nat.add_sub_cancel]
  refine Ok.deO (hc _ _ _ hS.iv) ?_
  rintro v H' ⟨rfl, f'⟩
  have hS' := hS.no f'
  have hg' := hS'.get
  simp (disch := first | omega | (simp only [np, nq, zs, zw]; first | done | omega)) only [go_sem, reduceAdd, qab, lss0, qad, hg', Nat.add_sub_cancel]
  cases hl : ltE d[j + 1]! d[j]! with
  | false =>
   rw [hl] at hq
   simp (disch := first | omega | (simp only [np, nq, zs, zw]; first | done | omega)) only [go_sem, reduceAdd, qab, lss0, qad]
   exact hq H' (by simpa using hS') (hF.trans f'.fs)
  | true =>
   rw [hl] at hq
   simp (disch := first | omega | (simp only [np, nq, zs, zw]; first | done | omega)) only [go_sem, reduceAdd, qab, lss0, qad]
   unfold qnz
   simp (disch := first | omega | (simp only [np, nq, zs, zw]; first | done | omega)) only [go_sem, reduceAdd, qab, lss0, qad, hg', Nat.add_sub_cancel]
   unfold qn0
   simp (disch := first | omega | (simp only [np, nq, zs, zw]; first | done | omega)) only [go_sem, reduceAdd, qab, lss0, qad, Nat.add_sub_cancel]
   exact qip hc hn k j (swp d (j + 1) j) _ (by omega) (by omega) (hS'.put2 (swp_size _ _ _)) (Fs.put2 (hF.trans f'.fs)) (by simpa using hq)
theorem qrv {call : Ev.Call} (hc : CmpL E call) {s : Sl} (hn : s.n < 900000) {b : Nat} (hb : b ≤ s.n) {H0 : Hp} {q : Hp → R1} {Q : AV → Hp → Prop} :
  ∀ (k j : Nat) (d : Array E) (H : Hp), b - j < k → 1 ≤ j → j < 900000 → St s d H → Fs s H0 H → (∀ H', St s (shiftUp ltE b j d) H' → Fs s H0 H' → Ok (q H') Q) →
   Ok (qdk call q s.v (.int .i64 (.ofNat b)) k (.int .i64 (.ofNat j)) H) Q
 | 0, _, _, _, h, _, _, _, _, _ => by omega
 | k + 1, j, d, H, hk, h1, h2, hS, hF, hq => by
  show Ok (qn4 call _ _ _ (qdk call _ _ _ k) _ H) Q
  unfold qn4
  have hsz := hS.sz
  have hg := hS.get
  rw [shiftUp] at hq
  by_cases h : j < b
  ·rw [if_pos h] at hq
   simp (disch := first | omega | (simp only [np, nq, zs, zw]; first | done | omega)) only [go_sem, reduceAdd, qab, lss0, qad, h]
   unfold qn1
   simp (disch := first | omega | (simp only [np, nq, zs, zw]; first | done | omega)) only [go_sem, reduceAdd, qab, lss0, qad, hg]
   refine Ok.deO (hc _ _ _ hS.iv) ?_
   rintro v H' ⟨rfl, f'⟩
   have hS' := hS.no f'
   have hg' := hS'.get
   simp (disch := first | omega | (simp only [np, nq, zs, zw]; first | done | omega)) only [go_sem, reduceAdd, qab, lss0, qad, hg']
   cases hl : ltE d[j]! d[j - 1]! with
   | false =>
    rw [hl] at hq
    simp (disch := first | omega | (simp only [np, nq, zs, zw]; first | done | omega)) only [go_sem, reduceAdd, qab, lss0, qad]
    exact hq H' (by simpa using hS') (hF.trans f'.fs)
   | true =>
    rw [hl] at hq
    simp (disch := first | omega | (simp only [np, nq, zs, zw]; first | done | omega)) only [go_sem, reduceAdd, qab, lss0, qad]
    unfold qn2
    simp (disch := first | omega | (simp only [np, nq, zs, zw]; first | done | omega)) only [go_sem, reduceAdd, qab, lss0, qad, hg']
    unfold qn3
    simp (disch := first | omega | (simp only [np, nq, zs, zw]; first | done | omega)) only [go_sem, reduceAdd, qab, lss0, qad]
    exact qrv hc hn hb k (j + 1) (swp d j (j - 1)) _ (by omega) (by omega) (by omega) (hS'.put2 (swp_size _ _ _)) (Fs.put2 (hF.trans f'.fs)) (by simpa using hq)
  ·rw [if_neg h] at hq
   simp (disch := first | omega | (simp only [np, nq, zs, zw]; first | done | omega)) only [go_sem, reduceAdd, qab, lss0, qad, h]
   exact hq H hS hF
theorem qrw {call : Ev.Call} (hc : CmpL E call) {s : Sl} (hn : s.n < 900000) {a b : Nat} (hb : b ≤ s.n) {H0 : Hp} {qr : AV → Hp → R1} {qe : Hp → R1} {Q : AV → Hp → Prop} :
  ∀ (k st i : Nat) (d : Array E) (H : Hp), st < k → st ≤ 5 → a + 1 ≤ i → i ≤ b → St s d H → Fs s H0 H →
   (∀ r d' H', partialIns ltE a b st i d = (d', r) → St s d' H' → Fs s H0 H' → Ok (qr (.bool r) H') Q) → (∀ d' H', partialIns ltE a b st i d = (d', false) → St s d' H' → Fs s H0 H' → Ok (qe H') Q) →
   Ok (qaz call qr qe s.v (.int .i64 (.ofNat a)) (.int .i64 (.ofNat b)) k (.int .i64 (.ofNat i)) (.int .i64 (.ofNat (5 - st))) H) Q
 | 0, _, _, _, _, h, _, _, _, _, _, _, _ => by omega
 | k + 1, 0, i, d, H, hk, h5, hi, hib, hS, hF, hqr, hqe => by
  show Ok (qiu call _ _ _ _ _ (qaz call _ _ _ _ _ k) _ _ H) Q
  unfold qiu
  simp (disch := omega) only [go_sem, reduceAdd, show ¬ (5 < 5) by omega]
  exact hqe d H (by rw [partialIns]) hS hF
 | k + 1, st + 1, i, d, H, hk, h5, hi, hib, hS, hF, hqr, hqe => by
  show Ok (qiu call _ _ _ _ _ (qaz call _ _ _ _ _ k) _ _ H) Q
  unfold qiu
  rw [partialIns] at hqr hqe
  have h50 : 5 - (st + 1) < 5 := by omega
  simp (disch := omega) only [go_sem, reduceAdd, h50]
  unfold qkz qk5
  rw [qam]
  refine qio hc hn hb qak i H (by rw [qag]; omega) (by omega) hib hS hF fun i' H1 h1 h2 h3 hS1 hF1 => ?_
  simp only [h3] at hqr hqe
  unfold qdl
  by_cases hb1 : i' = b
  ·simp (disch := omega) only [go_sem, reduceAdd, hb1]
   exact hqr true d H1 (by simp [hb1]) hS1 hF1
  ·simp (disch := omega) only [go_sem, reduceAdd, hb1]
   unfold qk1
   by_cases hb2 : b - a < 50
   ·simp (disch := omega) only [go_sem, reduceAdd, hb2]
    exact hqr false d H1 (by simp [hb1, hb2]) hS1 hF1
   ·simp (disch := omega) only [go_sem, reduceAdd, hb2]
    simp only [if_neg hb1, if_neg hb2] at hqr hqe
    unfold qk2
    have hsz := hS1.sz
    have hg := hS1.get
    simp (disch := first | omega | (simp only [np, nq, zs, zw]; first | done | omega)) only [go_sem, reduceAdd, qab, lss0, qad, hg]
    have hS2 := hS1.put2 (d1 := d.setIfInBounds i' d[i' - 1]!) (swp_size d i' (i' - 1))
    have hF2 := Fs.put2 (d1 := d.setIfInBounds i' d[i' - 1]!) (d2 := swp d i' (i' - 1)) hF1
    have last : ∀ {d2 : Array E} {H2 : Hp}, St s d2 H2 → Fs s H0 H2 → (if b - i' ≥ 2 then shiftUp ltE b (i' + 1) (if i' - a ≥ 2 then shiftDown ltE (i' - 1) (swp d i' (i' - 1)) else swp d i' (i' - 1)) else (if i' - a ≥ 2 then shiftDown ltE (i' - 1) (swp d i' (i' - 1)) else swp d i' (i' - 1))) = d2 →
      Ok (qcb call (qaz call qr qe s.v (.int .i64 (.ofNat a)) (.int .i64 (.ofNat b)) k) (.int .i64 (.ofNat i')) (.int .i64 (.ofNat (5 - (st + 1)))) H2) Q := by
     intro d2 H2 hS2 hF2 e
     unfold qcb
     have e5 : 5 - (st + 1) + 1 = 5 - st := by omega
     simp (disch := omega) only [go_sem, reduceAdd, e5]
     subst e
     exact qrw hc hn hb k st i' _ H2 (by omega) (by omega) (by omega) h2 hS2 hF2 hqr hqe
    have mid : ∀ {d2 : Array E} {H2 : Hp}, St s d2 H2 → Fs s H0 H2 → (if i' - a ≥ 2 then shiftDown ltE (i' - 1) (swp d i' (i' - 1)) else swp d i' (i' - 1)) = d2 →
      Ok (qbx call (qaz call qr qe s.v (.int .i64 (.ofNat a)) (.int .i64 (.ofNat b)) k) s.v (.int .i64 (.ofNat b)) (.int .i64 (.ofNat i')) (.int .i64 (.ofNat (5 - (st + 1)))) H2) Q := by
     intro d2 H2 hS2 hF2 e
     unfold qbx
     rw [e] at last
     by_cases h3 : 2 ≤ b - i'
     ·simp (disch := omega) only [go_sem, reduceAdd, h3]
      unfold qn6
      rw [qam]
      exact qrv hc hn hb qak (i' + 1) _ H2 (by rw [qag]; omega) (by omega) (by omega) hS2 hF2 fun H3 hS3 hF3 => last hS3 hF3 (by simp [h3])
     ·simp (disch := omega) only [go_sem, reduceAdd, h3]
      exact last hS2 hF2 (by simp [h3])
    by_cases h3 : 2 ≤ i' - a
    ·simp (disch := omega) only [go_sem, reduceAdd, h3]
     unfold qn5
     rw [qam]
     exact qip hc hn qak (i' - 1) _ _ (by rw [qag]; omega) (by omega) hS2 hF2 fun H3 hS3 hF3 => mid hS3 hF3 (by simp [h3])
    ·simp (disch := omega) only [go_sem, reduceAdd, h3]
     exact mid hS2 hF2 (by simp [h3, swp])
theorem q1t (hC : qc9 C) {k : Nat} (hk : 1 ≤ k) (hc : CmpL E (C (k - 1))) {s : Sl} (hn : s.n < 900000) {a b : Nat} (ha : a < b) (hb : b ≤ s.n) {d : Array E} {H : Hp} (hS : St s d H) :
  Ok (C k (.f qjb) [s.v, .int .i64 (.ofNat a), .int .i64 (.ofNat b)] H) fun r H' => r = .bool (partialInsertionSort ltE d a b).2 ∧ St s (partialInsertionSort ltE d a b).1 H' ∧ Fs s H H' := by
 obtain ⟨j, rfl⟩ : ∃ j, k = j + 1 := ⟨k - 1, by omega⟩
 rw [(hC.1 j).o_pins]
 unfold o_pins qwx qr8
 rw [qam]
 simp (disch := omega) only [go_sem, reduceAdd]
 refine qrw hc hn hb qak 5 (a + 1) d H (by rw [qag]; omega) (by omega) (by omega) (by omega) hS (Fm.refl _ _) (fun r d' H' e hS' hF' => ?_) fun d' H' e hS' hF' => ?_
 ·have e' : partialInsertionSort ltE d a b = (d', r) := e
  rw [e']
  exact Ok.ret ⟨rfl, hS', hF'⟩
 ·have e' : partialInsertionSort ltE d a b = (d', false) := e
  rw [e']
  unfold qa1
  exact Ok.ret ⟨rfl, hS', hF'⟩
end Go.Di.O
end
noncomputable section
/-
 The sort: the scans.
-/
namespace Go.Di.O
open Go.Ev Go.Sort
variable {C : Nat → Ev.Call} {E : Type} [El E]
theorem ql4 {call : Ev.Call} (hc : CmpL E call) {s : Sl} (hn : s.n < 900000) {a j : Nat} (ha : a < s.n) (hj : j < s.n) {d : Array E} {H0 : Hp} {q : AV → Hp → R1} {Q : AV → Hp → Prop} :
  ∀ (k i : Nat) (H : Hp), j + 1 - i < k → i ≤ 900001 → St s d H → Fs s H0 H → (∀ i' H', i ≤ i' → (i ≤ j → i' ≤ j + 1) → (j < i → i' = i) → scanUp (fun x => ltE x d[a]!) d j i = i' → St s d H' → Fs s H0 H' → Ok (q (.int .i64 (.ofNat i')) H') Q) →
   Ok (qe8 call q s.v (.int .i64 (.ofNat a)) (.int .i64 (.ofNat j)) k (.int .i64 (.ofNat i)) H) Q
 | 0, _, _, h, _, _, _, _ => by omega
 | k + 1, i, H, hk, hi, hS, hF, hq => by
  show Ok (qla call _ _ _ _ (qe8 call _ _ _ _ k) _ H) Q
  unfold qla
  have hsz := hS.sz
  have hg := hS.get
  rw [scanUp] at hq
  by_cases h : i ≤ j
  ·simp (disch := first | omega | (simp only [np, nq, zs, zw]; first | done | omega)) only [go_sem, reduceAdd, qab, lss0, qad, hg, h]
   refine Ok.deO (hc _ _ _ hS.iv) ?_
   rintro v H' ⟨rfl, f'⟩
   have hS' := hS.no f'
   have hg' := hS'.get
   simp (disch := first | omega | (simp only [np, nq, zs, zw]; first | done | omega)) only [go_sem, reduceAdd, qab, lss0, qad, hg']
   cases hl : ltE d[i]! d[a]! with
   | false =>
    simp (disch := first | omega | (simp only [np, nq, zs, zw]; first | done | omega)) only [go_sem, reduceAdd, qab, lss0, qad]
    exact hq i H' (Nat.le_refl _) (fun _ => by omega) (fun _ => rfl) (by simp [hl]) hS' (hF.trans f'.fs)
   | true =>
    simp (disch := first | omega | (simp only [np, nq, zs, zw]; first | done | omega)) only [go_sem, reduceAdd, qab, lss0, qad]
    unfold qk6
    simp (disch := first | omega | (simp only [np, nq, zs, zw]; first | done | omega)) only [go_sem, reduceAdd, qab, lss0, qad]
    exact ql4 hc hn ha hj k (i + 1) H' (by omega) (by omega) hS' (hF.trans f'.fs) fun i' H2 h1 h2 h3 h4 => hq i' H2 (by omega) (fun _ => by by_cases hij : i + 1 ≤ j; exact h2 hij; have := h3 (by omega); omega) (fun _ => by omega) (by simpa [h, hl] using h4)
  ·simp (disch := first | omega | (simp only [np, nq, zs, zw]; first | done | omega)) only [go_sem, reduceAdd, qab, lss0, qad, h]
   exact hq i H (Nat.le_refl _) (fun hh => absurd hh h) (fun _ => rfl) (by simp [h]) hS hF
theorem ql3 {call : Ev.Call} (hc : CmpL E call) {s : Sl} (hn : s.n < 900000) {a j : Nat} (ha : a < s.n) (hj : j < s.n) {d : Array E} {H0 : Hp} {q : AV → Hp → R1} {Q : AV → Hp → Prop} :
  ∀ (k i : Nat) (H : Hp), j + 1 - i < k → i ≤ 900001 → St s d H → Fs s H0 H → (∀ i' H', i ≤ i' → (i ≤ j → i' ≤ j + 1) → (j < i → i' = i) → scanUp (fun x => ltE x d[a]!) d j i = i' → St s d H' → Fs s H0 H' → Ok (q (.int .i64 (.ofNat i')) H') Q) →
   Ok (qg2 call q s.v (.int .i64 (.ofNat a)) (.int .i64 (.ofNat j)) k (.int .i64 (.ofNat i)) H) Q
 | 0, _, _, h, _, _, _, _ => by omega
 | k + 1, i, H, hk, hi, hS, hF, hq => by
  show Ok (qn9 call _ _ _ _ (qg2 call _ _ _ _ k) _ H) Q
  unfold qn9
  have hsz := hS.sz
  have hg := hS.get
  rw [scanUp] at hq
  by_cases h : i ≤ j
  ·simp (disch := first | omega | (simp only [np, nq, zs, zw]; first | done | omega)) only [go_sem, reduceAdd, qab, lss0, qad, hg, h]
   refine Ok.deO (hc _ _ _ hS.iv) ?_
   rintro v H' ⟨rfl, f'⟩
   have hS' := hS.no f'
   have hg' := hS'.get
   simp (disch := first | omega | (simp only [np, nq, zs, zw]; first | done | omega)) only [go_sem, reduceAdd, qab, lss0, qad, hg']
   cases hl : ltE d[i]! d[a]! with
   | false =>
    simp (disch := first | omega | (simp only [np, nq, zs, zw]; first | done | omega)) only [go_sem, reduceAdd, qab, lss0, qad]
    exact hq i H' (Nat.le_refl _) (fun _ => by omega) (fun _ => rfl) (by simp [hl]) hS' (hF.trans f'.fs)
   | true =>
    simp (disch := first | omega | (simp only [np, nq, zs, zw]; first | done | omega)) only [go_sem, reduceAdd, qab, lss0, qad]
    unfold qk9
    simp (disch := first | omega | (simp only [np, nq, zs, zw]; first | done | omega)) only [go_sem, reduceAdd, qab, lss0, qad]
    exact ql3 hc hn ha hj k (i + 1) H' (by omega) (by omega) hS' (hF.trans f'.fs) fun i' H2 h1 h2 h3 h4 => hq i' H2 (by omega) (fun _ => by by_cases hij : i + 1 ≤ j; exact h2 hij; have := h3 (by omega); omega) (fun _ => by omega) (by simpa [h, hl] using h4)
  ·simp (disch := first | omega | (simp only [np, nq, zs, zw]; first | done | omega)) only [go_sem, reduceAdd, qab, lss0, qad, h]
   exact hq i H (Nat.le_refl _) (fun hh => absurd hh h) (fun _ => rfl) (by simp [h]) hS hF
theorem qzj {call : Ev.Call} (hc : CmpL E call) {s : Sl} (hn : s.n < 900000) {a j : Nat} (ha : a < s.n) (hj : j < s.n) {d : Array E} {H0 : Hp} {q : AV → Hp → R1} {Q : AV → Hp → Prop} :
  ∀ (k i : Nat) (H : Hp), j + 1 - i < k → i ≤ 900001 → St s d H → Fs s H0 H → (∀ i' H', i ≤ i' → (i ≤ j → i' ≤ j + 1) → (j < i → i' = i) → scanUp (fun x => !ltE d[a]! x) d j i = i' → St s d H' → Fs s H0 H' → Ok (q (.int .i64 (.ofNat i')) H') Q) →
   Ok (qiv call q s.v (.int .i64 (.ofNat a)) (.int .i64 (.ofNat j)) k (.int .i64 (.ofNat i)) H) Q
 | 0, _, _, h, _, _, _, _ => by omega
 | k + 1, i, H, hk, hi, hS, hF, hq => by
  show Ok (qsc call _ _ _ _ (qiv call _ _ _ _ k) _ H) Q
  unfold qsc
  have hsz := hS.sz
  have hg := hS.get
  rw [scanUp] at hq
  by_cases h : i ≤ j
  ·simp (disch := first | omega | (simp only [np, nq, zs, zw]; first | done | omega)) only [go_sem, reduceAdd, qab, lss0, qad, hg, h]
   refine Ok.deO (hc _ _ _ hS.iv) ?_
   rintro v H' ⟨rfl, f'⟩
   have hS' := hS.no f'
   have hg' := hS'.get
   simp (disch := first | omega | (simp only [np, nq, zs, zw]; first | done | omega)) only [go_sem, reduceAdd, qab, lss0, qad, hg']
   cases hl : ltE d[a]! d[i]! with
   | true =>
    simp (disch := first | omega | (simp only [np, nq, zs, zw]; first | done | omega)) only [go_sem, reduceAdd, qab, lss0, qad]
    exact hq i H' (Nat.le_refl _) (fun _ => by omega) (fun _ => rfl) (by simp [hl]) hS' (hF.trans f'.fs)
   | false =>
    simp (disch := first | omega | (simp only [np, nq, zs, zw]; first | done | omega)) only [go_sem, reduceAdd, qab, lss0, qad]
    unfold qr9
    simp (disch := first | omega | (simp only [np, nq, zs, zw]; first | done | omega)) only [go_sem, reduceAdd, qab, lss0, qad]
    exact qzj hc hn ha hj k (i + 1) H' (by omega) (by omega) hS' (hF.trans f'.fs) fun i' H2 h1 h2 h3 h4 => hq i' H2 (by omega) (fun _ => by by_cases hij : i + 1 ≤ j; exact h2 hij; have := h3 (by omega); omega) (fun _ => by omega) (by simpa [h, hl] using h4)
  ·simp (disch := first | omega | (simp only [np, nq, zs, zw]; first | done | omega)) only [go_sem, reduceAdd, qab, lss0, qad, h]
   exact hq i H (Nat.le_refl _) (fun hh => absurd hh h) (fun _ => rfl) (by simp [h]) hS hF
theorem ql6 {call : Ev.Call} (hc : CmpL E call) {s : Sl} (hn : s.n < 900000) {a i : Nat} (ha : a < s.n) (hi : 1 ≤ i) {d : Array E} {H0 : Hp} {q : AV → Hp → R1} {Q : AV → Hp → Prop} :
  ∀ (k j : Nat) (H : Hp), j < k → j < s.n → St s d H → Fs s H0 H → (∀ j' H', j' ≤ j → (i ≤ j → i ≤ j' + 1) → (j < i → j' = j) → scanDown (fun x => !ltE x d[a]!) d i j = j' → St s d H' → Fs s H0 H' → Ok (q (.int .i64 (.ofNat j')) H') Q) →
   Ok (qdm call q s.v (.int .i64 (.ofNat a)) (.int .i64 (.ofNat i)) k (.int .i64 (.ofNat j)) H) Q
 | 0, _, _, h, _, _, _, _ => by omega
 | k + 1, 0, H, hk, hj, hS, hF, hq => by
  show Ok (qe9 call _ _ _ _ (qdm call _ _ _ _ k) _ H) Q
  unfold qe9
  have h : ¬ i ≤ 0 := by omega
  simp (disch := first | omega | (simp only [np, nq, zs, zw]; first | done | omega)) only [go_sem, reduceAdd, qab, lss0, qad, h]
  exact hq 0 H (Nat.le_refl _) (fun _ => by omega) (fun _ => rfl) rfl hS hF
 | k + 1, j + 1, H, hk, hj, hS, hF, hq => by
  show Ok (qe9 call _ _ _ _ (qdm call _ _ _ _ k) _ H) Q
  unfold qe9
  have hsz := hS.sz
  have hg := hS.get
  rw [scanDown] at hq
  by_cases h : i ≤ j + 1
  ·simp (disch := first | omega | (simp only [np, nq, zs, zw]; first | done | omega)) only [go_sem, reduceAdd, qab, lss0, qad, hg, h]
   refine Ok.deO (hc _ _ _ hS.iv) ?_
   rintro v H' ⟨rfl, f'⟩
   have hS' := hS.no f'
   have hg' := hS'.get
   simp (disch := first | omega | (simp only [np, nq, zs, zw]; first | done | omega)) only [go_sem, reduceAdd, qab, lss0, qad, hg']
   cases hl : ltE d[j + 1]! d[a]! with
   | true =>
    simp (disch := first | omega | (simp only [np, nq, zs, zw]; first | done | omega)) only [go_sem, reduceAdd, qab, lss0, qad]
    exact hq (j + 1) H' (Nat.le_refl _) (fun _ => by omega) (fun _ => rfl) (by simp [hl]) hS' (hF.trans f'.fs)
   | false =>
    simp (disch := first | omega | (simp only [np, nq, zs, zw]; first | done | omega)) only [go_sem, reduceAdd, qab, lss0, qad]
    unfold qk7
    simp (disch := first | omega | (simp only [np, nq, zs, zw]; first | done | omega)) only [go_sem, reduceAdd, qab, lss0, qad, Nat.add_sub_cancel]
    exact ql6 hc hn ha hi k j H' (by omega) (by omega) hS' (hF.trans f'.fs) fun j' H2 h1 h2 h3 h4 => hq j' H2 (by omega) (fun _ => by by_cases hij : i ≤ j; exact h2 hij; have := h3 (by omega); omega) (fun _ => by omega) (by simpa [h, hl] using h4)
  ·simp (disch := first | omega | (simp only [np, nq, zs, zw]; first | done | omega)) only [go_sem, reduceAdd, qab, lss0, qad, h]
   exact hq (j + 1) H (Nat.le_refl _) (fun hh => absurd hh h) (fun _ => rfl) (by simp [h]) hS hF
theorem ql5 {call : Ev.Call} (hc : CmpL E call) {s : Sl} (hn : s.n < 900000) {a i : Nat} (ha : a < s.n) (hi : 1 ≤ i) {d : Array E} {H0 : Hp} {q : AV → Hp → R1} {Q : AV → Hp → Prop} :
  ∀ (k j : Nat) (H : Hp), j < k → j < s.n → St s d H → Fs s H0 H → (∀ j' H', j' ≤ j → (i ≤ j → i ≤ j' + 1) → (j < i → j' = j) → scanDown (fun x => !ltE x d[a]!) d i j = j' → St s d H' → Fs s H0 H' → Ok (q (.int .i64 (.ofNat j')) H') Q) →
   Ok (qep call q s.v (.int .i64 (.ofNat a)) (.int .i64 (.ofNat i)) k (.int .i64 (.ofNat j)) H) Q
 | 0, _, _, h, _, _, _, _ => by omega
 | k + 1, 0, H, hk, hj, hS, hF, hq => by
  show Ok (qg3 call _ _ _ _ (qep call _ _ _ _ k) _ H) Q
  unfold qg3
  have h : ¬ i ≤ 0 := by omega
  simp (disch := first | omega | (simp only [np, nq, zs, zw]; first | done | omega)) only [go_sem, reduceAdd, qab, lss0, qad, h]
  exact hq 0 H (Nat.le_refl _) (fun _ => by omega) (fun _ => rfl) rfl hS hF
 | k + 1, j + 1, H, hk, hj, hS, hF, hq => by
  show Ok (qg3 call _ _ _ _ (qep call _ _ _ _ k) _ H) Q
  unfold qg3
  have hsz := hS.sz
  have hg := hS.get
  rw [scanDown] at hq
  by_cases h : i ≤ j + 1
  ·simp (disch := first | omega | (simp only [np, nq, zs, zw]; first | done | omega)) only [go_sem, reduceAdd, qab, lss0, qad, hg, h]
   refine Ok.deO (hc _ _ _ hS.iv) ?_
   rintro v H' ⟨rfl, f'⟩
   have hS' := hS.no f'
   have hg' := hS'.get
   simp (disch := first | omega | (simp only [np, nq, zs, zw]; first | done | omega)) only [go_sem, reduceAdd, qab, lss0, qad, hg']
   cases hl : ltE d[j + 1]! d[a]! with
   | true =>
    simp (disch := first | omega | (simp only [np, nq, zs, zw]; first | done | omega)) only [go_sem, reduceAdd, qab, lss0, qad]
    exact hq (j + 1) H' (Nat.le_refl _) (fun _ => by omega) (fun _ => rfl) (by simp [hl]) hS' (hF.trans f'.fs)
   | false =>
    simp (disch := first | omega | (simp only [np, nq, zs, zw]; first | done | omega)) only [go_sem, reduceAdd, qab, lss0, qad]
    unfold qn7
    simp (disch := first | omega | (simp only [np, nq, zs, zw]; first | done | omega)) only [go_sem, reduceAdd, qab, lss0, qad, Nat.add_sub_cancel]
    exact ql5 hc hn ha hi k j H' (by omega) (by omega) hS' (hF.trans f'.fs) fun j' H2 h1 h2 h3 h4 => hq j' H2 (by omega) (fun _ => by by_cases hij : i ≤ j; exact h2 hij; have := h3 (by omega); omega) (fun _ => by omega) (by simpa [h, hl] using h4)
  ·simp (disch := first | omega | (simp only [np, nq, zs, zw]; first | done | omega)) only [go_sem, reduceAdd, qab, lss0, qad, h]
   exact hq (j + 1) H (Nat.le_refl _) (fun hh => absurd hh h) (fun _ => rfl) (by simp [h]) hS hF
theorem qzl {call : Ev.Call} (hc : CmpL E call) {s : Sl} (hn : s.n < 900000) {a i : Nat} (ha : a < s.n) (hi : 1 ≤ i) {d : Array E} {H0 : Hp} {q : AV → Hp → R1} {Q : AV → Hp → Prop} :
  ∀ (k j : Nat) (H : Hp), j < k → j < s.n → St s d H → Fs s H0 H → (∀ j' H', j' ≤ j → (i ≤ j → i ≤ j' + 1) → (j < i → j' = j) → scanDown (fun x => ltE d[a]! x) d i j = j' → St s d H' → Fs s H0 H' → Ok (q (.int .i64 (.ofNat j')) H') Q) →
   Ok (qgz call q s.v (.int .i64 (.ofNat a)) (.int .i64 (.ofNat i)) k (.int .i64 (.ofNat j)) H) Q
 | 0, _, _, h, _, _, _, _ => by omega
 | k + 1, 0, H, hk, hj, hS, hF, hq => by
  show Ok (qiw call _ _ _ _ (qgz call _ _ _ _ k) _ H) Q
  unfold qiw
  have h : ¬ i ≤ 0 := by omega
  simp (disch := first | omega | (simp only [np, nq, zs, zw]; first | done | omega)) only [go_sem, reduceAdd, qab, lss0, qad, h]
  exact hq 0 H (Nat.le_refl _) (fun _ => by omega) (fun _ => rfl) rfl hS hF
 | k + 1, j + 1, H, hk, hj, hS, hF, hq => by
  show Ok (qiw call _ _ _ _ (qgz call _ _ _ _ k) _ H) Q
  unfold qiw
  have hsz := hS.sz
  have hg := hS.get
  rw [scanDown] at hq
  by_cases h : i ≤ j + 1
  ·simp (disch := first | omega | (simp only [np, nq, zs, zw]; first | done | omega)) only [go_sem, reduceAdd, qab, lss0, qad, hg, h]
   refine Ok.deO (hc _ _ _ hS.iv) ?_
   rintro v H' ⟨rfl, f'⟩
   have hS' := hS.no f'
   have hg' := hS'.get
   simp (disch := first | omega | (simp only [np, nq, zs, zw]; first | done | omega)) only [go_sem, reduceAdd, qab, lss0, qad, hg']
   cases hl : ltE d[a]! d[j + 1]! with
   | false =>
    simp (disch := first | omega | (simp only [np, nq, zs, zw]; first | done | omega)) only [go_sem, reduceAdd, qab, lss0, qad]
    exact hq (j + 1) H' (Nat.le_refl _) (fun _ => by omega) (fun _ => rfl) (by simp [hl]) hS' (hF.trans f'.fs)
   | true =>
    simp (disch := first | omega | (simp only [np, nq, zs, zw]; first | done | omega)) only [go_sem, reduceAdd, qab, lss0, qad]
    unfold qsa
    simp (disch := first | omega | (simp only [np, nq, zs, zw]; first | done | omega)) only [go_sem, reduceAdd, qab, lss0, qad, Nat.add_sub_cancel]
    exact qzl hc hn ha hi k j H' (by omega) (by omega) hS' (hF.trans f'.fs) fun j' H2 h1 h2 h3 h4 => hq j' H2 (by omega) (fun _ => by by_cases hij : i ≤ j; exact h2 hij; have := h3 (by omega); omega) (fun _ => by omega) (by simpa [h, hl] using h4)
  ·simp (disch := first | omega | (simp only [np, nq, zs, zw]; first | done | omega)) only [go_sem, reduceAdd, qab, lss0, qad, h]
   exact hq (j + 1) H (Nat.le_refl _) (fun hh => absurd hh h) (fun _ => rfl) (by simp [h]) hS hF
end Go.Di.O
end
noncomputable section
/-
 The sort: the partitions.
-/
namespace Go.Di.O
open Go.Ev Go.Sort
variable {C : Nat → Ev.Call} {E : Type} [El E]
theorem partLoop_eq (a i j i2 j2 : Nat) (d : Array E) (h1 : scanUp (fun x => ltE x d[a]!) d j i = i2) (h2 : scanDown (fun x => !ltE x d[a]!) d i2 j = j2) (h3 : i ≤ i2) (h4 : j2 ≤ j) (h5 : 1 ≤ i) :
  partLoop ltE a i j d = if i2 > j2 then (j2, d) else partLoop ltE a (i2 + 1) (j2 - 1) (swp d i2 j2) := by
 rw [partLoop]
 simp only [h1, h2]
 by_cases h : i2 > j2
 ·rw [if_pos h, if_pos h]
 ·rw [if_neg h, if_neg h, dif_pos (by omega)]
theorem partEqLoop_eq (a i j i2 j2 : Nat) (d : Array E) (h1 : scanUp (fun x => !ltE d[a]! x) d j i = i2) (h2 : scanDown (fun x => ltE d[a]! x) d i2 j = j2) (h3 : i ≤ i2) (h4 : j2 ≤ j) (h5 : 1 ≤ i) :
  partEqLoop ltE a i j d = if i2 > j2 then (i2, d) else partEqLoop ltE a (i2 + 1) (j2 - 1) (swp d i2 j2) := by
 rw [partEqLoop]
 simp only [h1, h2]
 by_cases h : i2 > j2
 ·rw [if_pos h, if_pos h]
 ·rw [if_neg h, if_neg h, dif_pos (by omega)]
theorem qrz {call : Ev.Call} (hc : CmpL E call) {s : Sl} (hn : s.n < 900000) {a : Nat} (ha : a < s.n) {H0 : Hp} {q : AV → Hp → R1} {Q : AV → Hp → Prop} :
  ∀ (k i j : Nat) (d : Array E) (H : Hp), j + 1 - i < k → 1 ≤ i → i ≤ 900000 → j < s.n → St s d H → Fs s H0 H →
   (∀ j' d' H', partLoop ltE a i j d = (j', d') → j' < s.n → St s d' H' → Fs s H0 H' → Ok (q (.int .i64 (.ofNat j')) H') Q) →
   Ok (qbn call q s.v (.int .i64 (.ofNat a)) k (.int .i64 (.ofNat i)) (.int .i64 (.ofNat j)) H) Q
 | 0, _, _, _, _, h, _, _, _, _, _, _ => by omega
 | k + 1, i, j, d, H, hk, h1, hi, hj, hS, hF, hq => by
  show Ok (qoa call _ _ _ (qbn call _ _ _ k) _ _ H) Q
  unfold qoa qob
  rw [qam]
  refine ql3 hc hn ha hj qak i H (by rw [qag]; omega) (by omega) hS hF fun i2 H1 g1 g2 g3 g4 hS1 hF1 => ?_
  unfold qeq qoc
  rw [qam]
  refine ql5 hc hn ha (by omega) qak j H1 (by rw [qag]; omega) hj hS1 hF1 fun j2 H2 e1 e2 e3 e4 hS2 hF2 => ?_
  rw [partLoop_eq a i j i2 j2 d g4 e4 g1 e1 h1] at hq
  unfold qer
  by_cases h : j2 < i2
  ·rw [if_pos h] at hq
   simp (disch := first | omega | (simp only [np, nq, zs, zw]; first | done | omega)) only [go_sem, reduceAdd, qab, lss0, qad, h]
   exact hq j2 d H2 rfl (by omega) hS2 hF2
  ·rw [if_neg h] at hq
   simp (disch := first | omega | (simp only [np, nq, zs, zw]; first | done | omega)) only [go_sem, reduceAdd, qab, lss0, qad, h]
   unfold qn8
   have hsz := hS2.sz
   have hg := hS2.get
   have b1 : i2 ≤ 900000 := by omega
   simp (disch := first | omega | (simp only [np, nq, zs, zw]; first | done | omega)) only [go_sem, reduceAdd, qab, lss0, qad, hg]
   exact qrz hc hn ha k (i2 + 1) (j2 - 1) (swp d i2 j2) _ (by omega) (by omega) (by omega) (by omega) (hS2.put2 (swp_size _ _ _)) (Fs.put2 hF2) hq
theorem qga (hC : qc9 C) {k : Nat} (hk : 1 ≤ k) (hc : CmpL E (C (k - 1))) {s : Sl} (hn : s.n < 900000) {a b p : Nat} (ha : a < b) (hb : b ≤ s.n) (hp : a ≤ p ∧ p < b) {d : Array E} {H : Hp} (hS : St s d H) :
  Ok (C k (.f qmm) [s.v, .int .i64 (.ofNat a), .int .i64 (.ofNat b), .int .i64 (.ofNat p)] H) fun r H' =>
   ∃ m al d', partition ltE d a b p = (m, al, d') ∧ r = .tup [.int .i64 (.ofNat m), .bool al] ∧ St s d' H' ∧ Fs s H H' := by
 obtain ⟨k, rfl⟩ : ∃ j, k = j + 1 := ⟨k - 1, by omega⟩
 have hc : CmpL E (C k) := hc
 rw [(hC.1 k).o_part]
 unfold o_part qwz
 have hsz := hS.sz
 have hg := hS.get
 have hpn : p < s.n := by omega
 simp (disch := first | omega | (simp only [np, nq, zs, zw]; first | done | omega)) only [go_sem, reduceAdd, qab, lss0, qad, hg]
 unfold qlb
 rw [qam]
 have hS0 : St s (swp d a p) _ := hS.put2 (d1 := d.setIfInBounds a d[p]!) (swp_size d a p)
 have hF0 : Fs s H _ := Fs.put2 (d1 := d.setIfInBounds a d[p]!) (d2 := swp d a p) (Fm.refl _ H)
 refine ql4 hc hn (by omega) (j := b - 1) (by omega) qak (a + 1) _ (by rw [qag]; omega) (by omega) hS0 hF0 fun i2 H1 g1 g2 g3 g4 hS1 hF1 => ?_
 unfold qdn qlc
 rw [qam]
 refine ql6 hc hn (by omega) (i := i2) (by omega) qak (b - 1) _ (by rw [qag]; omega) (by omega) hS1 hF1 fun j2 H2 e1 e2 e3 e4 hS2 hF2 => ?_
 unfold qdo
 have hsz2 := hS2.sz
 have hg2 := hS2.get
 by_cases h : j2 < i2
 ·simp (disch := first | omega | (simp only [np, nq, zs, zw]; first | done | omega)) only [go_sem, reduceAdd, qab, lss0, qad, h, hg2]
  exact Ok.ret ⟨j2, true, swp (swp d a p) j2 a, by unfold partition; simp only [g4, e4]; rw [if_pos h], rfl, hS2.put2 (swp_size _ _ _), Fs.put2 hF2⟩
 ·simp (disch := first | omega | (simp only [np, nq, zs, zw]; first | done | omega)) only [go_sem, reduceAdd, qab, lss0, qad, h]
  unfold qk8
  have b1 : i2 ≤ 900000 := by omega
  simp (disch := first | omega | (simp only [np, nq, zs, zw]; first | done | omega)) only [go_sem, reduceAdd, qab, lss0, qad, hg2]
  unfold qod
  rw [qam]
  refine qrz hc hn (by omega) qak (i2 + 1) (j2 - 1) (swp (swp d a p) i2 j2) _ (by rw [qag]; omega) (by omega) (by omega) (by omega) (hS2.put2 (swp_size _ _ _)) (Fs.put2 hF2) fun j3 d3 H3 e5 hj3 hS3 hF3 => ?_
  unfold qa4
  have hsz3 := hS3.sz
  have hg3 := hS3.get
  simp (disch := first | omega | (simp only [np, nq, zs, zw]; first | done | omega)) only [go_sem, reduceAdd, qab, lss0, qad, hg3]
  exact Ok.ret ⟨j3, false, swp d3 j3 a, by unfold partition; simp only [g4, e4]; rw [if_neg h, e5], rfl, hS3.put2 (swp_size _ _ _), Fs.put2 hF3⟩
theorem qzk {call : Ev.Call} (hc : CmpL E call) {s : Sl} (hn : s.n < 900000) {a : Nat} (ha : a < s.n) {H0 : Hp} {q : AV → Hp → R1} {Q : AV → Hp → Prop} :
  ∀ (k i j : Nat) (d : Array E) (H : Hp), j + 1 - i < k → 1 ≤ i → i ≤ 900000 → j < s.n → St s d H → Fs s H0 H →
   (∀ i' d' H', partEqLoop ltE a i j d = (i', d') → St s d' H' → Fs s H0 H' → Ok (q (.int .i64 (.ofNat i')) H') Q) →
   Ok (qby call q s.v (.int .i64 (.ofNat a)) k (.int .i64 (.ofNat i)) (.int .i64 (.ofNat j)) H) Q
 | 0, _, _, _, _, h, _, _, _, _, _, _ => by omega
 | k + 1, i, j, d, H, hk, h1, hi, hj, hS, hF, hq => by
  show Ok (qsd call _ _ _ (qby call _ _ _ k) _ _ H) Q
  unfold qsd qse
  rw [qam]
  refine qzj hc hn ha hj qak i H (by rw [qag]; omega) (by omega) hS hF fun i2 H1 g1 g2 g3 g4 hS1 hF1 => ?_
  unfold qg0 qsf
  rw [qam]
  refine qzl hc hn ha (by omega) qak j H1 (by rw [qag]; omega) hj hS1 hF1 fun j2 H2 e1 e2 e3 e4 hS2 hF2 => ?_
  rw [partEqLoop_eq a i j i2 j2 d g4 e4 g1 e1 h1] at hq
  unfold qg1
  by_cases h : j2 < i2
  ·rw [if_pos h] at hq
   simp (disch := first | omega | (simp only [np, nq, zs, zw]; first | done | omega)) only [go_sem, reduceAdd, qab, lss0, qad, h]
   exact hq i2 d H2 rfl hS2 hF2
  ·rw [if_neg h] at hq
   simp (disch := first | omega | (simp only [np, nq, zs, zw]; first | done | omega)) only [go_sem, reduceAdd, qab, lss0, qad, h]
   unfold qsb
   have hsz := hS2.sz
   have hg := hS2.get
   have b1 : i2 ≤ 900000 := by omega
   simp (disch := first | omega | (simp only [np, nq, zs, zw]; first | done | omega)) only [go_sem, reduceAdd, qab, lss0, qad, hg]
   exact qzk hc hn ha k (i2 + 1) (j2 - 1) (swp d i2 j2) _ (by omega) (by omega) (by omega) (by omega) (hS2.put2 (swp_size _ _ _)) (Fs.put2 hF2) hq
theorem q9u (hC : qc9 C) {k : Nat} (hk : 1 ≤ k) (hc : CmpL E (C (k - 1))) {s : Sl} (hn : s.n < 900000) {a b p : Nat} (ha : a < b) (hb : b ≤ s.n) (hp : a ≤ p ∧ p < b) {d : Array E} {H : Hp} (hS : St s d H) :
  Ok (C k (.f qqe) [s.v, .int .i64 (.ofNat a), .int .i64 (.ofNat b), .int .i64 (.ofNat p)] H) fun r H' =>
   ∃ m d', partitionEqual ltE d a b p = (m, d') ∧ r = .int .i64 (.ofNat m) ∧ St s d' H' ∧ Fs s H H' := by
 obtain ⟨k, rfl⟩ : ∃ j, k = j + 1 := ⟨k - 1, by omega⟩
 have hc : CmpL E (C k) := hc
 rw [(hC.1 k).o_peq]
 unfold o_peq q11
 have hsz := hS.sz
 have hg := hS.get
 have hpn : p < s.n := by omega
 simp (disch := first | omega | (simp only [np, nq, zs, zw]; first | done | omega)) only [go_sem, reduceAdd, qab, lss0, qad, hg]
 unfold qsg
 rw [qam]
 refine qzk hc hn (by omega) qak (a + 1) (b - 1) (swp d a p) _ (by rw [qag]; omega) (by omega) (by omega) (by omega) (hS.put2 (d1 := d.setIfInBounds a d[p]!) (swp_size d a p)) (Fs.put2 (Fm.refl _ H)) fun i' d' H' e hS' hF' => ?_
 unfold qa8
 exact Ok.ret ⟨i', d', e, rfl, hS', hF'⟩
end Go.Di.O
end
noncomputable section
/-
 The sort: how many bits a number has; breaking patterns.
-/
namespace Go.Di.O
open Go.Ev Go.Sort
variable {C : Nat → Ev.Call} {E : Type} [El E]
theorem q0i (hC : qc9 C) {j : Nat} (hj : 1 ≤ j) {s : Sl} (hn : s.n < 900000) {a b rb : Nat} (hab : a + 8 ≤ b) (hb : b ≤ s.n) {d0 : Array E} {H0 : Hp} (hrb : s.b ≠ rb) (hrn : ¬ El.home (E := E) rb) (hr0 : H0.nx ≤ rb) {q : Hp → R1} {Q : AV → Hp → Prop}
  (hq : ∀ d H, PermIn a b d0 d → St s d H → Fs s H0 H → Ok (q H) Q) :
  ∀ (k i : Nat) (d : Array E) (w : Int) (H : Hp), a + (b - a) / 4 * 2 + 2 - i < k → a ≤ i → i ≤ 900000 → PermIn a b d0 d → St s d H → Fs s H0 H → H.get rb = qae 0 [.int .u64 w] →
   Ok (qd2 (C j) q s.v (.int .i64 (.ofNat a)) (.int .i64 (.ofNat (b - a))) (.ptr rb 0) (.int .u64 (.ofNat (2 ^ bitsLen (b - a)))) k (.int .i64 (.ofNat i)) H) Q
 | 0, _, _, _, _, h, _, _, _, _, _, _ => by omega
 | k + 1, i, d, w, H, hk, hai, hi, hP, hS, hF, hw => by
  show Ok (qsq (C j) _ _ _ _ _ _ (qd2 (C j) _ _ _ _ _ _ k) _ H) Q
  unfold qsq
  have e0 : (b - a) / 4 * 2 ≤ 900000 := by omega
  by_cases h : i ≤ a + (b - a) / 4 * 2 + 1
  ·simp (disch := first | omega | exact ti rfl) only [go_sem, reduceAdd, h]
   unfold qso
   obtain ⟨w', H1, e1, e2, f1, e3⟩ := quh hC.2 hj hw
   have hpos : 0 < 2 ^ bitsLen (b - a) := Nat.two_pow_pos _
   have hle : 2 ^ bitsLen (b - a) ≤ 2 * (b - a) := two_pow_bitsLen_le (by omega)
   obtain ⟨o, ho, e4⟩ := zcp w' (2 ^ bitsLen (b - a) - 1) (by omega)
   have e5 := q8f (2 ^ bitsLen (b - a)) 1 (by omega) (by omega)
   have e6 := qx2 .u64 o (by omega)
   have hS1 := hS.fp f1 hrb hrn
   have hF1 : Fs s H0 H1 := hF.then f1 fun c h1 h2 => by omega
   have go : ∀ o, o < b - a → Ok (qi0 (C j) (qd2 (C j) q s.v (.int .i64 (.ofNat a)) (.int .i64 (.ofNat (b - a))) (.ptr rb 0) (.int .u64 (.ofNat (2 ^ bitsLen (b - a)))) k) s.v (.int .i64 (.ofNat a)) (.int .i64 (.ofNat i)) (.int .i64 (.ofNat o)) H1) Q := by
    intro o ho
    unfold qi0
    have hsz := hS1.sz
    have hg := hS1.get
    have hib : i < b := by omega
    simp (disch := first | omega | (simp only [np, nq, zs, zw]; first | done | omega)) only [go_sem, reduceAdd, qab, lss0, qad, hg]
    unfold qsp
    simp (disch := first | omega | exact ti rfl) only [go_sem, reduceAdd]
    have hg2 : ((H1.put s.b (s.blk (d.setIfInBounds i d[a + o]!))).put s.b (s.blk (swp d i (a + o)))).get rb = qae 0 [.int .u64 w'] := by
     rw [qan _ _ _ _ (Ne.symm hrb), qan _ _ _ _ (Ne.symm hrb), e2]
    exact q0i hC hj hn hab hb hrb hrn hr0 hq k (i + 1) (swp d i (a + o)) w' _ (by omega) (by omega) (by omega) (permIn_trans _ _ _ _ _ hP (swp_permIn _ _ _ _ _ hai hib (by omega) (by omega) (by omega))) (hS1.put2 (swp_size _ _ _)) (Fs.put2 hF1) hg2
   by_cases h3 : b - a ≤ o
   ·simp (disch := first | omega | exact ti rfl) only [go_sem, reduceAdd, e1, e4, e5, e6, h3]
    exact go (o - (b - a)) (by omega)
   ·simp (disch := first | omega | exact ti rfl) only [go_sem, reduceAdd, e1, e4, e5, e6, h3]
    exact go o (by omega)
  ·simp (disch := first | omega | exact ti rfl) only [go_sem, reduceAdd, h]
   exact hq d H hP hS hF
theorem zcj (hC : qc9 C) {k : Nat} (hk : 4 ≤ k) {s : Sl} (hn : s.n < 900000) {a b : Nat} (ha : a + 8 ≤ b) (hb : b ≤ s.n) {d : Array E} {H : Hp} (hS : St s d H) :
  Ok (C k (.f qqf) [s.v, .int .i64 (.ofNat a), .int .i64 (.ofNat b)] H) fun r H' => r = .tup [] ∧ ∃ d', PermIn a b d d' ∧ St s d' H' ∧ Fs s H H' := by
 obtain ⟨k, rfl⟩ : ∃ j, k = j + 4 := ⟨k - 4, by omega⟩
 rw [(hC.1 (k + 3)).o_brk]
 unfold o_brk q18
 have h8 : 8 ≤ b - a := by omega
 have e1 := qh3 .i64 (b - a) (by omega)
 have e2 := q93 hC.2 (k := k + 3) (by omega) (b - a) (by omega)
 have hlt := hS.lt
 have e0 : (b - a) / 4 * 2 ≤ 900000 := by omega
 have e3 : 1 ≤ (b - a) / 4 * 2 := by omega
 simp (disch := first | omega | exact ti rfl) only [go_sem, reduceAdd, h8, e1, e2]
 unfold qsr
 rw [qam]
 have f1 : Fm No H ((qaw H (qae 0 [.int .u64 (.ofNat 0)])).put H.nx (qae 0 [.int .u64 (.ofNat (b - a))])) := by (repeat (first | exact Fm.refl _ _ | assumption | refine Fm.push ?_ _ | refine Fm.up2 ?_ (by (first | omega | (simp only [np, nq]; omega))) | refine Fm.put_new ?_ _ _ (by (first | omega | (simp only [np, nq]; omega)))))
 refine q0i hC (j := k + 3) (by omega) hn ha hb (d0 := d) (H0 := H) (rb := H.nx) (by omega) (fun h => Nat.lt_irrefl _ (El.homeLt hS.iv h)) (Nat.le_refl _) (fun d' H' hP hS' hF' => Ok.ret ⟨rfl, d', hP, hS', hF'⟩) qak (a + (b - a) / 4 * 2 - 1) d (.ofNat (b - a)) _ (by rw [qag]; omega) (by omega) (by omega) (permIn_refl _ _ _) (hS.no f1) f1.fs ?_
 rw [qai]
end Go.Di.O
end
noncomputable section
/-
 The sort: pdqsort, and SortFunc.
-/
namespace Go.Di.O
open Go.Ev Go.Sort
variable {C : Nat → Ev.Call} {E : Type} [El E]
def Sd (a b : Nat) (d R : Array E) : Prop := PermIn a b d R ∧ SortedIn ltE a b R
theorem Sd.of {a b : Nat} {d d' R : Array E} (h : PermIn a b d d') (k : Sd a b d' R) : Sd a b d R := ⟨permIn_trans _ _ _ _ _ h k.1, k.2⟩
def PdqR (E : Type) [El E] (C : Nat → Ev.Call) (s : Sl) (k m : Nat) : Prop := ∀ (a b l : Nat) (d : Array E) (H : Hp), b - a < m → a ≤ b → b ≤ s.n → l < 900000 → Go.Sort.Below (ltE (E := E)) a b d → St s d H →
 Ok (C k (.f qhx) [s.v, .int .i64 (.ofNat a), .int .i64 (.ofNat b), .int .i64 (.ofNat l)] H) fun r H' => r = .tup [] ∧ ∃ R, Sd a b d R ∧ St s R H' ∧ Fs s H H'
theorem ql2 (hC : qc9 C) {j : Nat} (hj : 7 ≤ j) (hc : ∀ k, 3 ≤ k → CmpL E (C k)) {s : Sl} (hn : s.n < 900000) (hl : SWO (ltE (E := E))) {m : Nat} (hR : PdqR E C s j m) {H0 : Hp} {q : Hp → R1} {Q : AV → Hp → Prop} :
  ∀ (k a b l : Nat) (wb wp : Bool) (d : Array E) (H : Hp), b - a < k → b - a ≤ m → a ≤ b → b ≤ s.n → l < 900000 → Go.Sort.Below (ltE (E := E)) a b d → St s d H → Fs s H0 H → (∀ R H', Sd a b d R → St s R H' → Fs s H0 H' → Ok (q H') Q) →
   Ok (qbs (C j) q s.v k (.int .i64 (.ofNat a)) (.int .i64 (.ofNat b)) (.int .i64 (.ofNat l)) (.bool wb) (.bool wp) H) Q
 | 0, _, _, _, _, _, _, _, h, _, _, _, _, _, _, _, _ => by omega
 | k + 1, a, b, l, wb, wp, d, H, hk, hm, hab, hb, hln, hB, hS, hF, hq => by
  show Ok (qmb (C j) _ _ (qbs (C j) _ _ k) _ _ _ _ _ H) Q
  unfold qmb
  by_cases h12 : b - a ≤ 12
  ·simp (disch := omega) only [go_sem, reduceAdd, h12]
   refine Ok.ve (zay hC (by omega) (hc _ (by omega)) hn hab hb hS) ?_
   rintro r H1 ⟨rfl, hS1, hF1⟩
   have hi := insertionSort_holds (lt := ltE) hl d a b hab (by rw [hS.sz]; exact hb)
   exact hq _ H1 ⟨hi.1, hi.2⟩ hS1 (hF.trans hF1)
  ·simp (disch := omega) only [go_sem, reduceAdd, h12]
   unfold qsh
   by_cases hl0 : l = 0
   ·simp (disch := omega) only [go_sem, reduceAdd, hl0]
    refine Ok.ve (q2w hC (by omega) (hc _ (by omega)) hn (by omega) hb hS) ?_
    rintro r H1 ⟨rfl, hS1, hF1⟩
    have hi := heapSort_holds (lt := ltE) hl d a b hab (by rw [hS.sz]; exact hb)
    exact hq _ H1 ⟨hi.1, hi.2⟩ hS1 (hF.trans hF1)
   ·simp (disch := omega) only [go_sem, reduceAdd, hl0]
    -- the round's last part
    have j18 : ∀ (l p : Nat) (d3 : Array E) (H3 : Hp), l < 900000 → a ≤ p ∧ p < b → PermIn a b d d3 → St s d3 H3 → Fs s H0 H3 →
      Ok (qma (C j) (qbs (C j) q s.v k) s.v (.int .i64 (.ofNat a)) (.int .i64 (.ofNat b)) (.int .i64 (.ofNat l)) (.int .i64 (.ofNat (b - a))) (.int .i64 (.ofNat p)) H3) Q := by
     intro l p d3 H3 hl3 hp hP hS3 hF3
     have hb3 : b ≤ d3.size := by rw [hS3.sz]; exact hb
     have hB3 : Go.Sort.Below (ltE (E := E)) a b d3 := hB.perm (by rw [hS.sz]; exact hb) hP
     unfold qma
     refine Ok.ve (qga hC (by omega) (hc _ (by omega)) hn (by omega) hb hp hS3) ?_
     rintro r H4 ⟨mid, al, d4, hx, rfl, hS4, hF4⟩
     obtain ⟨h1, h2, h3, hBa, hBr, hL, hRt⟩ := round_part hl (partition_holds (lt := ltE)) hp.1 hp.2 hb3 hB3 hx
     have hF4' := hF3.trans hF4
     by_cases hlt : mid - a < b - mid
     ·simp (disch := omega) only [go_sem, reduceAdd, hlt]
      refine Ok.ve (hR a mid l d4 H4 (by omega) (by omega) (by omega) hl3 hBa hS4) ?_
      rintro r H5 ⟨rfl, L, hLs, hS5, hF5⟩
      obtain ⟨hB5, hfin⟩ := hL L hLs.1 hLs.2
      have hmn : mid < 900000 := by omega
      skip
      exact ql2 hC hj hc hn hl hR k (mid + 1) b l _ al L H5 (by omega) (by omega) (by omega) hb hl3 hB5 hS5 (hF4'.trans hF5) fun R H' hRs hS' hF' => hq R H' (Sd.of hP (hfin R hRs.1 hRs.2)) hS' hF'
     ·have hmn : mid < 900000 := by omega
      simp (disch := omega) only [go_sem, reduceAdd, hlt]
      refine Ok.ve (hR (mid + 1) b l d4 H4 (by omega) (by omega) (by omega) hl3 hBr hS4) ?_
      rintro r H5 ⟨rfl, L, hLs, hS5, hF5⟩
      obtain ⟨hB5, hfin⟩ := hRt L hLs.1 hLs.2
      exact ql2 hC hj hc hn hl hR k a mid l _ al L H5 (by omega) (by omega) (by omega) (by omega) hl3 hB5 hS5 (hF4'.trans hF5) fun R H' hRs hS' hF' => hq R H' (Sd.of hP (hfin R hRs.1 hRs.2)) hS' hF'
    have j38 : ∀ (l p : Nat) (d3 : Array E) (H3 : Hp), l < 900000 → a ≤ p ∧ p < b → PermIn a b d d3 → St s d3 H3 → Fs s H0 H3 →
      Ok (qe7 (C j) (qbs (C j) q s.v k) s.v (.int .i64 (.ofNat a)) (.int .i64 (.ofNat b)) (.int .i64 (.ofNat l)) (.bool wb) (.bool wp) (.int .i64 (.ofNat (b - a))) (.int .i64 (.ofNat p)) H3) Q := by
     intro l p d3 H3 hl3 hp hP hS3 hF3
     have hb3 : b ≤ d3.size := by rw [hS3.sz]; exact hb
     have hB3 : Go.Sort.Below (ltE (E := E)) a b d3 := hB.perm (by rw [hS.sz]; exact hb) hP
     have hsz := hS3.sz
     have hg := hS3.get
     have hpn : p < s.n := by omega
     unfold qe7
     by_cases ha0 : 0 < a
     ·simp (disch := first | omega | (simp only [np, nq, zs, zw]; first | done | omega)) only [go_sem, reduceAdd, qab, lss0, qad, hg, ha0]
      refine Ok.deO (hc j (by omega) _ _ _ hS3.iv) ?_
      rintro v H4 ⟨rfl, f4⟩
      have hS4 := hS3.no f4
      have hg4 := hS4.get
      simp (disch := first | omega | (simp only [np, nq, zs, zw]; first | done | omega)) only [go_sem, reduceAdd, qab, lss0, qad, hg4]
      cases hx : ltE d3[a - 1]! d3[p]! with
      | true =>
       simp (disch := first | omega | (simp only [np, nq, zs, zw]; first | done | omega)) only [go_sem, reduceAdd, qab, lss0, qad]
       exact j18 l p d3 H4 hl3 hp hP hS4 (hF3.trans f4.fs)
      | false =>
       simp (disch := first | omega | (simp only [np, nq, zs, zw]; first | done | omega)) only [go_sem, reduceAdd, qab, lss0, qad]
       refine Ok.ve (q9u hC (by omega) (hc _ (by omega)) hn (by omega) hb hp hS4) ?_
       rintro r H5 ⟨mid, d5, hx5, rfl, hS5, hF5⟩
       obtain ⟨h1, h2, h3, hB5, hfin⟩ := round_eq hl (partitionEqual_holds (lt := ltE)) ha0 hp.1 hp.2 hb3 hB3 hx hx5
       exact ql2 hC hj hc hn hl hR k mid b l wb wp d5 H5 (by omega) (by omega) h2 hb hl3 hB5 hS5 ((hF3.trans f4.fs).trans hF5) fun R H' hRs hS' hF' => hq R H' (Sd.of hP (hfin R hRs.1 hRs.2)) hS' hF'
     ·simp (disch := first | omega | (simp only [np, nq, zs, zw]; first | done | omega)) only [go_sem, reduceAdd, qab, lss0, qad, hg, ha0]
      exact j18 l p d3 H3 hl3 hp hP hS3 hF3
    have j45 : ∀ (l p hint : Nat) (d3 : Array E) (H3 : Hp), l < 900000 → a ≤ p ∧ p < b → PermIn a b d d3 → St s d3 H3 → Fs s H0 H3 →
      Ok (qiy (C j) q (qbs (C j) q s.v k) s.v (.int .i64 (.ofNat a)) (.int .i64 (.ofNat b)) (.int .i64 (.ofNat l)) (.bool wb) (.bool wp) (.int .i64 (.ofNat (b - a))) (.int .i64 (.ofNat p)) (.int .i64 (.ofNat hint)) H3) Q := by
     intro l p hint d3 H3 hl3 hp hP hS3 hF3
     have hb3 : b ≤ d3.size := by rw [hS3.sz]; exact hb
     have hB3 : Go.Sort.Below (ltE (E := E)) a b d3 := hB.perm (by rw [hS.sz]; exact hb) hP
     have goP : Ok (ve (C j (.f qjb) [s.v, .int .i64 (.ofNat a), .int .i64 (.ofNat b)] H3) fun a44 H => cd a44 (q H) (qe7 (C j) (qbs (C j) q s.v k) s.v (.int .i64 (.ofNat a)) (.int .i64 (.ofNat b)) (.int .i64 (.ofNat l)) (.bool wb) (.bool wp) (.int .i64 (.ofNat (b - a))) (.int .i64 (.ofNat p)) H)) Q := by
      refine Ok.ve (q1t hC (by omega) (hc _ (by omega)) hn (by omega) hb hS3) ?_
      rintro r H4 ⟨rfl, hS4, hF4⟩
      obtain ⟨h1, h2⟩ := partialInsertionSort_holds (lt := ltE) hl d3 a b (by omega) hb3 hB3
      cases hx : (partialInsertionSort ltE d3 a b).2 with
      | true =>
       simp (disch := omega) only [go_sem, reduceAdd]
       exact hq _ H4 (Sd.of hP ⟨h1, h2 hx⟩) hS4 (hF3.trans hF4)
      | false =>
       simp (disch := omega) only [go_sem, reduceAdd]
       exact j38 l p _ H4 hl3 hp (permIn_trans _ _ _ _ _ hP h1) hS4 (hF3.trans hF4)
     unfold qiy
     have no : Ok (qe7 (C j) (qbs (C j) q s.v k) s.v (.int .i64 (.ofNat a)) (.int .i64 (.ofNat b)) (.int .i64 (.ofNat l)) (.bool wb) (.bool wp) (.int .i64 (.ofNat (b - a))) (.int .i64 (.ofNat p)) H3) Q := j38 l p d3 H3 hl3 hp hP hS3 hF3
     cases wb with
     | false => simp (disch := omega) only [go_sem, reduceAdd]; exact no
     | true =>
      cases wp with
      | false => simp (disch := omega) only [go_sem, reduceAdd]; exact no
      | true =>
       by_cases h1 : hint = 1
       ·simp (disch := omega) only [go_sem, reduceAdd, h1]; exact goP
       ·simp (disch := omega) only [go_sem, reduceAdd, h1]; exact no
    have j51 : ∀ (l : Nat) (d3 : Array E) (H3 : Hp), l < 900000 → PermIn a b d d3 → St s d3 H3 → Fs s H0 H3 →
      Ok (qix (C j) q (qbs (C j) q s.v k) s.v (.int .i64 (.ofNat a)) (.int .i64 (.ofNat b)) (.int .i64 (.ofNat l)) (.bool wb) (.bool wp) (.int .i64 (.ofNat (b - a))) H3) Q := by
     intro l d3 H3 hl3 hP hS3 hF3
     unfold qix
     refine Ok.ve (q9s hC (by omega) (hc _ (by omega)) (hc _ (by omega)) hn hS3 (by omega) hb) ?_
     rintro r H4 ⟨p, hint, rfl, hp, hh, hS4, f4⟩
     by_cases h2 : hint = 2
     ·simp (disch := omega) only [go_sem, reduceAdd, h2]
      refine Ok.ve (q87 hC (by omega) hn (by omega) hb hS4) ?_
      rintro r H5 ⟨rfl, hS5, hF5⟩
      have hpb : p < b := hp.2
      have hpa : a ≤ p := hp.1
      have hbp : p - a ≤ b - 1 := by omega
      skip
      exact j45 l _ 1 _ H5 hl3 ⟨by omega, by omega⟩ (permIn_trans _ _ _ _ _ hP (reverseRange_holds _ a b hab (by rw [hS4.sz]; exact hb))) hS5 ((hF3.trans f4.fs).trans hF5)
     ·simp (disch := omega) only [go_sem, reduceAdd, h2]
      exact j45 l p hint d3 H4 hl3 hp hP hS4 (hF3.trans f4.fs)
    unfold qsi
    cases wb with
    | true =>
     simp (disch := omega) only [go_sem, reduceAdd]
     exact j51 l d H hln (permIn_refl _ _ _) hS hF
    | false =>
     simp (disch := omega) only [go_sem, reduceAdd]
     refine Ok.ve (zcj hC (by omega) hn (by omega) hb hS) ?_
     rintro r H4 ⟨rfl, d4, hP4, hS4, hF4⟩
     skip
     exact j51 (l - 1) d4 H4 (by omega) hP4 hS4 (hF.trans hF4)
theorem q9v (hC : qc9 C) (hc : ∀ k, 3 ≤ k → CmpL E (C k)) {s : Sl} (hn : s.n < 900000) (hl : SWO (ltE (E := E))) : ∀ (m k : Nat), m + 8 ≤ k → PdqR E C s k m
 | 0, k, hk => fun a b l d H h => by omega
 | m + 1, k, hk => by
  intro a b l d H h hab hb hln hB hS
  obtain ⟨k, rfl⟩ : ∃ j, k = j + 1 := ⟨k - 1, by omega⟩
  rw [(hC.1 k).o_pdq]
  unfold o_pdq qwy qpu
  rw [qam]
  exact ql2 hC (by omega) hc hn hl (q9v hC hc hn hl m k (by omega)) qak a b l true true d H (by rw [qag]; omega) (by omega) hab hb hln hB hS (Fm.refl _ _) fun R H' hs hS' hF' => Ok.ret ⟨rfl, R, hs, hS', hF'⟩
theorem Sort_ok (hC : qc9 C) {k : Nat} (hc : ∀ k, 3 ≤ k → CmpL E (C k)) {s : Sl} (hn : s.n < 900000) (hk : s.n + 10 ≤ k) (hl : SWO (ltE (E := E))) {d : Array E} {H : Hp} (hS : St s d H) :
  Ok (C k (.f qee) [s.v] H) fun r H' => r = .tup [] ∧ ∃ R, Sd 0 s.n d R ∧ St s R H' ∧ Fs s H H' := by
 obtain ⟨k, rfl⟩ : ∃ j, k = j + 1 := ⟨k - 1, by omega⟩
 rw [(hC.1 k).o_Sort]
 unfold o_Sort qpw
 have e0 : qa9 s.v = .val (.int .i64 (.ofNat s.n)) := rfl
 have e1 := qh3 .i64 s.n (by omega)
 have e2 := q0s hC.2 (k := k) (by omega) s.n (by omega) H
 have e3 : bitsLen s.n ≤ 20 := (bitsLen_le_iff s.n 20).2 (by omega)
 simp (disch := omega) only [go_sem, reduceAdd, e0, e1, e2]
 refine Ok.ve (q9v hC hc hn hl (s.n + 1) k (by omega) 0 s.n (bitsLen s.n) d H (by omega) (by omega) (by omega) (by omega) (Or.inl rfl) hS) ?_
 rintro r H1 ⟨rfl, R, h1, h2, h3⟩
 exact Ok.ret ⟨rfl, R, h1, h2, h3⟩
end Go.Di.O
end
