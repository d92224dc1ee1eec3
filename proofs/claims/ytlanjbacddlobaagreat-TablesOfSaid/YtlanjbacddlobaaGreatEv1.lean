/-
 For TablesOf: the evaluator and its soundness, part 1 of 4: what a run of the abstract evaluator answers, the model's run answers, in every world and on every schedule. No conditions beyond those that each theorem states.
-/
import GoSem.Step
import Derived.Below
import Derived.Calls
import Derived.Wp
import Derived.IntWalk
import Derived.Laws.Strings
import Derived.Laws.StructEq
namespace Go
theorem gp:type_of% @List.getElem?_eq_getElem:=List.getElem?_eq_getElem
theorem af:type_of% @Nat.lt_of_lt_of_le:=Nat.lt_of_lt_of_le
theorem lEO:type_of% @Nat.le_refl:=Nat.le_refl
theorem lEP:type_of% @List.length_append:=List.length_append
theorem lEQ:type_of% @List.getElem_mem:=List.getElem_mem
theorem lER:type_of% @List.take_succ_eq_append_getElem:=List.take_succ_eq_append_getElem
theorem lES:type_of% @List.getD_eq_getElem?_getD:=List.getD_eq_getElem?_getD
theorem lET:type_of% @List.length_map:=List.length_map
theorem lEU:type_of% @if_neg:=if_neg
theorem lEV:type_of% @Nat.zero_le:=Nat.zero_le
theorem lEW:type_of% @Nat.zero_add:=Nat.zero_add
theorem lEX:type_of% @List.length_cons:=List.length_cons
theorem lEY:type_of% @List.mem_append:=List.mem_append
theorem lEZ:type_of% @if_pos:=if_pos
theorem lI0:type_of% @Bool.and_eq_true:=Bool.and_eq_true
theorem lI1:type_of% @Nat.mul_one:=Nat.mul_one
theorem lI2:type_of% @List.getElem?_eq_some_iff:=List.getElem?_eq_some_iff
theorem lI3:type_of% @List.mem_singleton:=List.mem_singleton
theorem lI4:type_of% @Option.some.injEq:=Option.some.injEq
theorem lI5:type_of% @List.append_assoc:=List.append_assoc
theorem lI6:type_of% @List.length_take:=List.length_take
theorem lI7:type_of% @Nat.le_trans:=Nat.le_trans
theorem lI8:type_of% @List.mem_cons:=List.mem_cons
theorem lI9:type_of% @decide_eq_true:=decide_eq_true
theorem lIA:type_of% @Int.ofNat_eq_natCast:=Int.ofNat_eq_natCast
theorem lIB:type_of% @List.mem_map:=List.mem_map
theorem lIC:type_of% @List.flatMap_append:=List.flatMap_append
theorem lID:type_of% @List.map_append:=List.map_append
theorem lIE:type_of% @List.flatMap_singleton:=List.flatMap_singleton
theorem lIF:type_of% @decide_eq_false:=decide_eq_false
theorem lIG:type_of% @List.length_eq_zero_iff:=List.length_eq_zero_iff
theorem lIH:type_of% @List.mem_cons_self:=List.mem_cons_self
theorem lII:type_of% @cond_true:=cond_true
theorem lIJ:type_of% @List.getElem?_append_right:=List.getElem?_append_right
theorem lIK:type_of% @List.mem_of_getElem?:=List.mem_of_getElem?
theorem lIL:type_of% @Nat.eq_of_beq_eq_true:=Nat.eq_of_beq_eq_true
theorem lIM:type_of% @List.append_nil:=List.append_nil
theorem lIN:type_of% @List.take_length:=List.take_length
theorem lIO:type_of% @List.getElem?_append_left:=List.getElem?_append_left
theorem lIP:type_of% @Nat.add_assoc:=Nat.add_assoc
theorem lIQ:type_of% @List.flatMap_cons:=List.flatMap_cons
theorem lIR:type_of% @Classical.choose_spec:=Classical.choose_spec
theorem lIS:type_of% @List.mem_cons_of_mem:=List.mem_cons_of_mem
theorem lIT:type_of% @List.length_nil:=List.length_nil
theorem lIU:type_of% @List.drop_eq_getElem_cons:=List.drop_eq_getElem_cons
theorem lIV:type_of% @List.mem_filter:=List.mem_filter
theorem lIW:type_of% @List.take_of_length_le:=List.take_of_length_le
theorem lIX:type_of% @List.mem_map_of_mem:=List.mem_map_of_mem
theorem lIY:type_of% @List.mem_range:=List.mem_range
theorem lIZ:type_of% @List.length_drop:=List.length_drop
theorem lO0:type_of% @List.drop_eq_nil_of_le:=List.drop_eq_nil_of_le
theorem lO1:type_of% @List.length_set:=List.length_set
theorem lO2:type_of% @List.pairwise_iff_getElem:=List.pairwise_iff_getElem
theorem lO3:type_of% @Nat.min_le_right:=Nat.min_le_right
theorem lO4:type_of% @List.drop_append_of_le_length:=List.drop_append_of_le_length
theorem lO5:type_of% @eq_true:=eq_true
theorem lO6:type_of% @List.getElem?_map:=List.getElem?_map
theorem lO7:type_of% @Nat.add_zero:=Nat.add_zero
theorem lO8:type_of% @decide_eq_true_eq:=decide_eq_true_eq
theorem lO9:type_of% @Nat.mul_le_mul_right:=Nat.mul_le_mul_right
theorem lOA:type_of% @List.mem_append_left:=List.mem_append_left
theorem lOB:type_of% @Nat.lt_irrefl:=Nat.lt_irrefl
theorem lOC:type_of% @Bool.not_eq_true':=Bool.not_eq_true'
theorem lOD:type_of% @List.map_singleton:=List.map_singleton
theorem lOE:type_of% @Nat.min_eq_left:=Nat.min_eq_left
theorem lOF:type_of% @Nat.add_sub_cancel_left:=Nat.add_sub_cancel_left
theorem lOG:type_of% @decide_eq_false_iff_not:=decide_eq_false_iff_not
theorem lOH:type_of% @Nat.ble_eq_true_of_le:=Nat.ble_eq_true_of_le
theorem lOI:type_of% @Nat.lt_or_ge:=Nat.lt_or_ge
theorem lOJ:type_of% @List.mem_append_right:=List.mem_append_right
theorem lOK:type_of% @Nat.mod_lt:=Nat.mod_lt
theorem lOL:type_of% @List.pairwise_append:=List.pairwise_append
theorem lOM:type_of% @List.nodup_append:=List.nodup_append
theorem lON:type_of% @Nat.le_of_lt:=Nat.le_of_lt
theorem lOO:type_of% @List.getElem_of_mem:=List.getElem_of_mem
theorem lOP:type_of% @List.mem_of_find?_eq_some:=List.mem_of_find?_eq_some
theorem lOQ:type_of% @List.all_eq_true:=List.all_eq_true
theorem lOR:type_of% @List.flatten_cons:=List.flatten_cons
theorem lOS:type_of% @Nat.add_mul:=Nat.add_mul
theorem lOT:type_of% @Array.getD_eq_getD_getElem?:=Array.getD_eq_getD_getElem?
theorem lOU:type_of% @List.take_length_add_append:=List.take_length_add_append
theorem lOV:type_of% @List.drop_length_add_append:=List.drop_length_add_append
theorem lOW:type_of% @Nat.le_of_ble_eq_true:=Nat.le_of_ble_eq_true
theorem lOX:type_of% @List.nil_append:=List.nil_append
theorem lOY:type_of% @Array.getElem?_eq_some_iff:=Array.getElem?_eq_some_iff
theorem lOZ:type_of% @cond_false:=cond_false
theorem lU0:type_of% @Array.getElem?_eq_getElem:=Array.getElem?_eq_getElem
theorem lU1:type_of% @List.getElem?_drop:=List.getElem?_drop
theorem lU2:type_of% @List.length_filter_le:=List.length_filter_le
theorem lU3:type_of% @List.getElem?_cons_succ:=List.getElem?_cons_succ
theorem lU4:type_of% @List.pairwise_singleton:=List.pairwise_singleton
theorem lU5:type_of% @List.filter_append:=List.filter_append
theorem lU6:type_of% @Nat.lt_succ_self:=Nat.lt_succ_self
theorem lU7:type_of% @List.mem_flatMap:=List.mem_flatMap
theorem lU8:type_of% @if_true:=if_true
theorem lU9:type_of% @List.take_append_drop:=List.take_append_drop
theorem lUA:type_of% @List.length_replicate:=List.length_replicate
theorem lUB:type_of% @Nat.one_mul:=Nat.one_mul
theorem lUC:type_of% @Bool.or_eq_true:=Bool.or_eq_true
theorem lUD:type_of% @Nat.not_lt_zero:=Nat.not_lt_zero
theorem lUE:type_of% @Bool.false_eq_true:=Bool.false_eq_true
theorem lUF:type_of% @decide_eq_true_iff:=decide_eq_true_iff
theorem lUG:type_of% @List.mem_of_mem_take:=List.mem_of_mem_take
theorem lUH:type_of% @List.any_eq_true:=List.any_eq_true
theorem lUI:type_of% @List.mem_flatten:=List.mem_flatten
theorem lUJ:type_of% @List.map_cons:=List.map_cons
theorem lUK:type_of% @List.map_map:=List.map_map
theorem lUL:type_of% @Nat.min_le_left:=Nat.min_le_left
theorem lUM:type_of% @List.getElem?_eq_none:=List.getElem?_eq_none
theorem lUN:type_of% @List.filter_cons:=List.filter_cons
theorem lUO:type_of% @List.pairwise_cons:=List.pairwise_cons
theorem lUP:type_of% @List.take_succ_cons:=List.take_succ_cons
theorem lUQ:type_of% @List.flatten_append:=List.flatten_append
theorem lUR:type_of% @List.length_pos_iff:=List.length_pos_iff
theorem lUS:type_of% @List.cons_append:=List.cons_append
theorem lUT:type_of% @List.getElem_map:=List.getElem_map
theorem lUU:type_of% @List.mem_or_eq_of_mem_set:=List.mem_or_eq_of_mem_set
theorem lUV:type_of% @Nat.sub_self:=Nat.sub_self
theorem lUW:type_of% @Nat.lt_trichotomy:=Nat.lt_trichotomy
theorem lUX:type_of% @List.take_append_of_le_length:=List.take_append_of_le_length
theorem lUY:type_of% @List.map_congr_left:=List.map_congr_left
theorem lUZ:type_of% @Array.toList_map:=Array.toList_map
theorem lX0:type_of% @Bool.not_false:=Bool.not_false
theorem lX1:type_of% @List.take_zero:=List.take_zero
theorem lX2:type_of% @List.drop_zero:=List.drop_zero
theorem lX3:type_of% @Nat.add_sub_cancel:=Nat.add_sub_cancel
theorem lX4:type_of% @List.range_succ:=List.range_succ
theorem lX5:type_of% @List.any_append:=List.any_append
theorem lX6:type_of% @List.mem_iff_getElem?:=List.mem_iff_getElem?
theorem lX7:type_of% @if_false:=if_false
theorem lX8:type_of% @Bool.not_true:=Bool.not_true
theorem lX9:type_of% @Option.ne_none_iff_exists':=Option.ne_none_iff_exists'
theorem lXA:type_of% @List.getElem?_set:=List.getElem?_set
theorem lXB:type_of% @Bool.eq_false_iff:=Bool.eq_false_iff
theorem lXC:type_of% @List.length_range:=List.length_range
theorem lXD:type_of% @Bool.or_eq_false_iff:=Bool.or_eq_false_iff
theorem lXE:type_of% @List.drop_drop:=List.drop_drop
theorem lXF:type_of% @Option.isSome_iff_exists:=Option.isSome_iff_exists
theorem lXG:type_of% @Nat.le_of_not_lt:=Nat.le_of_not_lt
theorem lXH:type_of% @List.getElem_append_left:=List.getElem_append_left
theorem lXI:type_of% @List.flatMap_map:=List.flatMap_map
theorem lXJ:type_of% @List.drop_length:=List.drop_length
theorem lXK:type_of% @List.all_cons:=List.all_cons
theorem lXL:type_of% @Nat.eq_zero_or_pos:=Nat.eq_zero_or_pos
theorem lXM:type_of% @List.getElem?_take:=List.getElem?_take
theorem lXN:type_of% @List.set_cons_succ:=List.set_cons_succ
theorem lXO:type_of% @List.nodup_cons:=List.nodup_cons
theorem lXP:type_of% @Nat.lt_of_le_of_lt:=Nat.lt_of_le_of_lt
theorem lXQ:type_of% @Nat.lt_of_lt_of_eq:=Nat.lt_of_lt_of_eq
theorem lXR:type_of% @Array.getElem?_eq_none:=Array.getElem?_eq_none
theorem lXS:type_of% @Nat.mul_comm:=Nat.mul_comm
theorem lXT:type_of% @Int.negSucc_eq:=Int.negSucc_eq
theorem lXU:type_of% @List.any_map:=List.any_map
theorem lXV:type_of% @List.mem_of_mem_drop:=List.mem_of_mem_drop
theorem lXW:type_of% @List.mem_iff_getElem:=List.mem_iff_getElem
theorem lXX:type_of% @List.ext_getElem:=List.ext_getElem
theorem lXY:type_of% @List.getElem_set:=List.getElem_set
theorem lXZ:type_of% @List.take_append:=List.take_append
theorem lY0:type_of% @Option.map_some:=Option.map_some
theorem lY1:type_of% @List.find?_some:=List.find?_some
theorem lY2:type_of% @Nat.lt_trans:=Nat.lt_trans
theorem lY3:type_of% @Nat.beq_refl:=Nat.beq_refl
theorem lY4:type_of% @Nat.zero_mul:=Nat.zero_mul
theorem lY5:type_of% @List.map_set:=List.map_set
end Go
noncomputable section
namespace Go.Ev
structure Q(α:Type) where
 (c0 c1 c2 c3 c4 c5 c6 c7:α)
def TT(α:Type):Nat->Type
 |0=>α
 |d+1=>Q (TT α d)
structure yT(α:Type)(d:Nat) where f:TT α d->α
structure yC(α:Type)(d:Nat) where f:TT α d->α->TT α d
structure lK(α:Type) where f:Q α->α
structure lF(α:Type) where f:(α->α)->Q α->Q α
def bCw(α:Type):lK α:=⟨fun t=>Q.rec (motive:=fun _=>α) (fun c0 _ _ _ _ _ _ _=>c0) t⟩
def bF2(α:Type):lK α:=⟨fun t=>Q.rec (motive:=fun _=>α) (fun _ c1 _ _ _ _ _ _=>c1) t⟩
def bIP(α:Type):lK α:=⟨fun t=>Q.rec (motive:=fun _=>α) (fun _ _ c2 _ _ _ _ _=>c2) t⟩
def bE3(α:Type):lK α:=⟨fun t=>Q.rec (motive:=fun _=>α) (fun _ _ _ c3 _ _ _ _=>c3) t⟩
def bHq(α:Type):lK α:=⟨fun t=>Q.rec (motive:=fun _=>α) (fun _ _ _ _ c4 _ _ _=>c4) t⟩
def aWg(α:Type):lK α:=⟨fun t=>Q.rec (motive:=fun _=>α) (fun _ _ _ _ _ c5 _ _=>c5) t⟩
def bCP(α:Type):lK α:=⟨fun t=>Q.rec (motive:=fun _=>α) (fun _ _ _ _ _ _ c6 _=>c6) t⟩
def bBT(α:Type):lK α:=⟨fun t=>Q.rec (motive:=fun _=>α) (fun _ _ _ _ _ _ _ c7=>c7) t⟩
def bHs(α:Type):lF α:=⟨fun f t=>Q.rec (motive:=fun _=>Q α) (fun c0 c1 c2 c3 c4 c5 c6 c7=>⟨f c0,c1,c2,c3,c4,c5,c6,c7⟩) t⟩
def aYq(α:Type):lF α:=⟨fun f t=>Q.rec (motive:=fun _=>Q α) (fun c0 c1 c2 c3 c4 c5 c6 c7=>⟨c0,f c1,c2,c3,c4,c5,c6,c7⟩) t⟩
def aWt(α:Type):lF α:=⟨fun f t=>Q.rec (motive:=fun _=>Q α) (fun c0 c1 c2 c3 c4 c5 c6 c7=>⟨c0,c1,f c2,c3,c4,c5,c6,c7⟩) t⟩
def aWX(α:Type):lF α:=⟨fun f t=>Q.rec (motive:=fun _=>Q α) (fun c0 c1 c2 c3 c4 c5 c6 c7=>⟨c0,c1,c2,f c3,c4,c5,c6,c7⟩) t⟩
def aZq(α:Type):lF α:=⟨fun f t=>Q.rec (motive:=fun _=>Q α) (fun c0 c1 c2 c3 c4 c5 c6 c7=>⟨c0,c1,c2,c3,f c4,c5,c6,c7⟩) t⟩
def bEB(α:Type):lF α:=⟨fun f t=>Q.rec (motive:=fun _=>Q α) (fun c0 c1 c2 c3 c4 c5 c6 c7=>⟨c0,c1,c2,c3,c4,f c5,c6,c7⟩) t⟩
def bDU(α:Type):lF α:=⟨fun f t=>Q.rec (motive:=fun _=>Q α) (fun c0 c1 c2 c3 c4 c5 c6 c7=>⟨c0,c1,c2,c3,c4,c5,f c6,c7⟩) t⟩
def aWj(α:Type):lF α:=⟨fun f t=>Q.rec (motive:=fun _=>Q α) (fun c0 c1 c2 c3 c4 c5 c6 c7=>⟨c0,c1,c2,c3,c4,c5,c6,f c7⟩) t⟩
def sel(α:Type)(k:Nat):lK α:=Nat.rec (motive:=fun _=>lK α) (bCw α) (fun k _=>Nat.rec (motive:=fun _=>lK α) (bF2 α) (fun k _=>Nat.rec (motive:=fun _=>lK α) (bIP α) (fun k _=>Nat.rec (motive:=fun _=>lK α) (bE3 α) (fun k _=>Nat.rec (motive:=fun _=>lK α) (bHq α) (fun k _=>Nat.rec (motive:=fun _=>lK α) (aWg α) (fun k _=>Nat.rec (motive:=fun _=>lK α) (bCP α) (fun _ _=>bBT α) k) k) k) k) k) k) k
def aOL(α:Type)(k:Nat):lF α:=Nat.rec (motive:=fun _=>lF α) (bHs α) (fun k _=>Nat.rec (motive:=fun _=>lF α) (aYq α) (fun k _=>Nat.rec (motive:=fun _=>lF α) (aWt α) (fun k _=>Nat.rec (motive:=fun _=>lF α) (aWX α) (fun k _=>Nat.rec (motive:=fun _=>lF α) (aZq α) (fun k _=>Nat.rec (motive:=fun _=>lF α) (bEB α) (fun k _=>Nat.rec (motive:=fun _=>lF α) (bDU α) (fun _ _=>aWj α) k) k) k) k) k) k) k
def dW{α:Type}(d:Nat):Nat->yT α d:=
 Nat.rec (motive:=fun d=>Nat->yT α d) (fun _=>⟨fun t=>t⟩)
  (fun d ih i=>yT.rec (motive:=fun _=>yT α (d+1)) (fun g=>lK.rec (motive:=fun _=>yT α (d+1)) (fun s=>⟨fun t=>g (s t)⟩) (sel (TT α d) (Nat.land i 7))) (ih (Nat.shiftRight i 3))) d
def setter{α:Type}(d:Nat):Nat->yC α d:=
 Nat.rec (motive:=fun d=>Nat->yC α d) (fun _=>⟨fun _ v=>v⟩)
  (fun d ih i=>yC.rec (motive:=fun _=>yC α (d+1)) (fun g=>lF.rec (motive:=fun _=>yC α (d+1)) (fun s=>⟨fun t v=>s (fun c=>g c v) t⟩) (aOL (TT α d) (Nat.land i 7))) (ih (Nat.shiftRight i 3))) d
def same{α:Type}(a:α):(d:Nat)->TT α d
 |0=>a
 |d+1=>(⟨same a d,same a d,same a d,same a d,same a d,same a d,same a d,same a d⟩:Q (TT α d))
inductive AV where
 |undef
 |lit (v:Value)
 |bool (b:Bool)
 |int (k:IntKind) (n:Int)
 |str (len bits:Nat)
 |ptr (b o:Nat)
 |bS
 |sl (b o len cap:Nat) (ex:Bool)
 |aA
 |sle
 |map (m:Nat)
 |eP
 |fn (f:FuncId) (first cap:List AV)
 |yield (l:Nat)
 |jE
 |iface (t:TypeId) (v:AV)
 |oW
 |agg (l:List AV)
 |bB (l:List AV)
structure oC where
 (key val:AV)
 born:Nat
inductive bX where
 |dead
 |cells (d n:Nat) (c:TT AV d) (ro:Bool) (z:Nat)
 |map (es:List oC) (clock:Nat)
 |rE (len bits pos:Nat)
 |loop (ready:Bool) (pending:Option Code) (d n:Nat) (L:TT AV d) (params:List Tmp) (assign body:Code)
def bX.wr:bX->Bool
 | .dead=>false
 | .cells _ _ _ ro _=> !ro
 |_=>true
def HD:Nat:=7
structure Mem where
 t:TT bX HD
 x:Nat->bX
def Mem.get(m:Mem)(i:Nat):bX:=bif Nat.blt i 2097152 then(dW HD i).f m.t else m.x i
def Mem.put(m:Mem)(i:Nat)(b:bX):Mem:=bif Nat.blt i 2097152 then⟨(setter HD i).f m.t b,m.x⟩else⟨m.t,fun c=>bif Nat.beq c i then b else m.x c⟩
structure Hp where
 t:Mem
 nx:Nat
def Hp.get(H:Hp)(i:Nat):bX:=H.t.get i
def Hp.put(H:Hp)(i:Nat)(b:bX):Hp:=⟨H.t.put i b,H.nx⟩
def Hp.empty:Hp:=⟨⟨same .dead HD,fun _=>.dead⟩,0⟩
inductive Ex where
 |normal|exit (id:Nat)|goto (l:Nat)|ret
inductive R0 where
 |bad
 |val (v:AV)
 |new (v:AV) (b:bX)
inductive R1 where
 |bad
 |ok (v:AV) (H:Hp)
inductive Rc(d:Nat) where
 |bad
 |ok (e:Ex) (L:TT AV d) (H:Hp)
inductive Cl where
 |f (id:FuncId)
 |y (l:Nat)
 |d (id:FuncId)
abbrev Call:=Cl->List AV->Hp->R1
def eF(n:Nat):Nat:=
 bif Nat.ble n 8 then 1 else bif Nat.ble n 64 then 2 else bif Nat.ble n 512 then 3 else bif Nat.ble n 4096 then 4 else bif Nat.ble n 32768 then 5 else bif Nat.ble n 262144 then 6 else n
def xO{d:Nat}(c:TT AV d)(k:Nat):Nat->List AV:=
 Nat.rec (motive:=fun _=>Nat->List AV) (fun _=>[]) (fun _ ih o=>(dW d o).f c::ih (Nat.succ o)) k
def pE{d:Nat}(l:List AV):Nat->TT AV d->TT AV d:=
 List.rec (motive:=fun _=>Nat->TT AV d->TT AV d) (fun _ c=>c) (fun v _ ih o c=>ih (Nat.succ o) ((setter d o).f c v)) l
def aB(z:Nat)(l:List AV):bX:=.cells (eF l.length) l.length (pE l 0 (same .undef _)) false z
def jY(l:List UInt8):Nat:=l.foldr (fun b acc=>acc*256+b.toNat) 0
def qrn:Value->AV
 | .bool b=>.bool b
 | .int k n=>.int k n
 | .string s=>.str s.data.toList.length (jY s.data.toList)
 | .pointer none=>.bS
 | .slice none 0 0=>.aA
 | .map none=>.eP
 | .nilFunc=>.jE
 | .nilIface=>.oW
 |v=>.lit v
def aBO:Value->Bool
 | .agg _| .tuple _=>false
 |_=>true
def zfb:Value->AV
 | .agg cs=>bif cs.toList.all aBO then .agg (cs.toList.map qrn)else .lit (.agg cs)
 | .tuple ⟨[]⟩=>.undef
 |v=>qrn v
def AV.cells:AV->List AV
 | .agg l=>l
 |v=>[v]
def qM(P:Program)(t:TypeId):Option Bool:=(P.underlying t).map fun| .struct _| .array _ _=>true|_=>false
def iM(P:Program)(t:TypeId):Option Nat:=(P.info? t).map (·.size)
def qkb(P:Program)(t:TypeId):Option Nat:=(P.info? t).map (·.bytes)
def qln:Value->Option (List AV)
 | .agg cs=>bif cs.toList.all aBO then some (cs.toList.map qrn)else none
 | .tuple _=>none
 |v=>some [qrn v]
def qkg(P:Program)(t:TypeId):Option (List AV):=((P.info? t).bind (·.zero)).bind qln
/- numbers -/
def qzp(k:IntKind)(n:Int):Bool:=
 match n with
 | .ofNat m=>Nat.blt m (match k with| .i8=>128| .i16=>32768| .i32=>2147483648| .i64=>9223372036854775808| .u8=>256| .u16=>65536| .u32=>4294967296| .u64=>18446744073709551616)
 | .negSucc m=>match k with| .i8=>Nat.blt m 128| .i16=>Nat.blt m 32768| .i32=>Nat.blt m 2147483648| .i64=>Nat.blt m 9223372036854775808|_=>false
def vZ(k:IntKind)(n:Int):Int:=bif qzp k n then n else k.wrap n
def p9(a b:Int):Bool:=
 match a,b with
 | .ofNat m,.ofNat n=>Nat.blt m n
 | .negSucc m,.negSucc n=>Nat.blt n m
 | .negSucc _,.ofNat _=>true
 | .ofNat _,.negSucc _=>false
def sK(a b:Int):Bool:=
 match a,b with
 | .ofNat m,.ofNat n=>Nat.beq m n
 | .negSucc m,.negSucc n=>Nat.beq m n
 |_,_=>false
def zqr:IntKind->Nat
 | .i8=>0| .i16=>1| .i32=>2| .i64=>3| .u8=>4| .u16=>5| .u32=>6| .u64=>7
def xW(a b:IntKind):Bool:=Nat.beq (zqr a) (zqr b)
structure B2 where f:IntKind->Int->Int->R0
def lS:BinOp->B2
 | .add=>⟨fun k a b=>.val (.int k (vZ k (a+b)))⟩
 | .sub=>⟨fun k a b=>.val (.int k (vZ k (a-b)))⟩
 | .mul=>⟨fun k a b=>.val (.int k (vZ k (a*b)))⟩
 | .quo=>⟨fun k a b=>bif sK b 0 then .bad else .val (.int k (vZ k (a.tdiv b)))⟩
 | .rem=>⟨fun k a b=>bif sK b 0 then .bad else .val (.int k (a.tmod b))⟩
 | .and=>⟨fun k a b=>.val (.int k (k.wrap (BitVec.ofInt k.bits a &&& BitVec.ofInt k.bits b).toNat))⟩
 | .or=>⟨fun k a b=>.val (.int k (k.wrap (BitVec.ofInt k.bits a ||| BitVec.ofInt k.bits b).toNat))⟩
 | .xor=>⟨fun k a b=>.val (.int k (k.wrap (BitVec.ofInt k.bits a ^^^ BitVec.ofInt k.bits b).toNat))⟩
 | .andNot=>⟨fun k a b=>.val (.int k (k.wrap (BitVec.ofInt k.bits a &&& ~~~ BitVec.ofInt k.bits b).toNat))⟩
 | .eql=>⟨fun _ a b=>.val (.bool (sK a b))⟩
 | .neq=>⟨fun _ a b=>.val (.bool (!sK a b))⟩
 | .lss=>⟨fun _ a b=>.val (.bool (p9 a b))⟩
 | .leq=>⟨fun _ a b=>.val (.bool (!p9 b a))⟩
 | .gtr=>⟨fun _ a b=>.val (.bool (p9 b a))⟩
 | .geq=>⟨fun _ a b=>.val (.bool (!p9 a b))⟩
 |_=>⟨fun _ _ _=>.bad⟩
def qjt:BinOp->B2
 | .shl=>⟨fun k a b=>bif p9 b 0 then .bad else .val (.int k (vZ k (a*2 ^ (min b.toNat k.bits))))⟩
 | .shr=>⟨fun k a b=>bif p9 b 0 then .bad else .val (.int k (a.fdiv (2 ^ (min b.toNat k.bits))))⟩
 |_=>⟨fun _ _ _=>.bad⟩
/- strings: length, and the bytes packed from the first on -/
def qsg(bits i:Nat):Nat:=Nat.land (Nat.shiftRight bits (Nat.mul 8 i)) 255
def qew(f:Nat):(n a m b:Nat)->Bool:=
 Nat.rec (motive:=fun _=>Nat->Nat->Nat->Nat->Bool) (fun n _ m _=>Nat.blt n m)
  (fun _ ih n a m b=>bif Nat.beq m 0 then false else bif Nat.beq n 0 then true else
   bif Nat.beq (Nat.land a 255) (Nat.land b 255)then ih (Nat.pred n) (Nat.shiftRight a 8) (Nat.pred m) (Nat.shiftRight b 8)
   else Nat.blt (Nat.land a 255) (Nat.land b 255)) f
def eqS(n a m b:Nat):Bool:=Nat.beq n m&&Nat.beq a b
structure S2 where f:Nat->Nat->Nat->Nat->R0
def nC:BinOp->S2
 | .add=>⟨fun n a m b=>bif Nat.ble (n+m) 1099511627776 then .val (.str (n+m) (Nat.add a (Nat.shiftLeft b (Nat.mul 8 n))))else .bad⟩
 | .eql=>⟨fun n a m b=>.val (.bool (eqS n a m b))⟩
 | .neq=>⟨fun n a m b=>.val (.bool (!eqS n a m b))⟩
 | .lss=>⟨fun n a m b=>.val (.bool (qew n n a m b))⟩
 | .leq=>⟨fun n a m b=>.val (.bool (qew n n a m b||eqS n a m b))⟩
 | .gtr=>⟨fun n a m b=>.val (.bool (!(qew n n a m b||eqS n a m b)))⟩
 | .geq=>⟨fun n a m b=>.val (.bool (!qew n n a m b))⟩
 |_=>⟨fun _ _ _ _=>.bad⟩
/- parts of aggregates -/
structure P1 where f:List AV->Nat->Option AV
def ql4(P:Program)(t:TypeId):P1:=
 match qM P t,iM P t with
 |some true,some k=>⟨fun cs off=>some (.agg ((cs.drop off).take k))⟩
 |some false,_=>⟨fun cs off=>cs[off]?⟩
 |_,_=>⟨fun _ _=>none⟩
/- equality at a type -/
structure E2 where f:AV->AV->Option Bool
def andThen(a b:Option Bool):Option Bool:=
 match a with|some true=>b|some false=>some false|none=>none
def qv4(p:P1)(e:E2)(xs ys:List AV)(off:Nat):Option Bool:=
 match p.f xs off,p.f ys off with
 |some a,some b=>e.f a b
 |_,_=>none
def xQ:AV->AV->Option Bool
 | .bool a,.bool b=>some (a==b)
 |_,_=>none
def ql7:AV->AV->Option Bool
 | .int k a,.int k' b=>bif xW k k' then some (sK a b)else none
 |_,_=>none
def iA:AV->AV->Option Bool
 | .str n a,.str m b=>some (eqS n a m b)
 |_,_=>none
def qg3:AV->AV->Option Bool
 | .bS,.bS=>some true
 | .bS,.ptr _ _=>some false
 | .ptr _ _,.bS=>some false
 |_,_=>none
def qQ:AV->AV->Option Bool
 | .aA,.aA=>some true
 | .aA,.sl .. =>some false
 | .aA,.sle=>some false
 | .sl ..,.aA=>some false
 | .sle,.aA=>some false
 |_,_=>none
def zy4:AV->AV->Option Bool
 | .eP,.eP=>some true
 | .eP,.map _=>some false
 | .map _,.eP=>some false
 |_,_=>none
def eqFn:AV->AV->Option Bool
 | .jE,.jE=>some true
 | .jE,.fn .. =>some false
 | .fn ..,.jE=>some false
 |_,_=>none
def aEv:AV->AV->Option Bool
 | .oW,.iface .. =>some false
 | .iface ..,.oW=>some false
 |_,_=>none
def kU(f:List AV->List AV->Option Bool):AV->AV->Option Bool
 | .agg xs,.agg ys=>f xs ys
 |_,_=>none
def eqFields(fs:List (P1×E2×Nat))(xs ys:List AV):Option Bool:=
 fs.foldr (fun f r=>andThen (qv4 f.1 f.2.1 xs ys f.2.2) r) (some true)
def xH(p:P1)(e:E2)(z:Nat)(xs ys:List AV):Nat->Nat->Option Bool
 |0,_=>some true
 |k+1,i=>andThen (qv4 p e xs ys (i*z)) (xH p e z xs ys k (i+1))
def eqT(P:Program):Nat->TypeId->E2
 |0,_=>⟨fun _ _=>none⟩
 |d+1,t=>
  match P.underlying t with
  |some .bool=>⟨xQ⟩
  |some (.int _)=>⟨ql7⟩
  |some .string=>⟨iA⟩
  |some (.struct fs)=>
   if P.stoodInHeld t then⟨fun _ _=>none⟩else
   let l:=(fs.toList.filter fun f=>f.name != "_").map fun f=>(ql4 P f.type,eqT P d f.type,f.offset)
   ⟨kU (eqFields l)⟩
  |some (.array len e)=>
   match iM P e with
   |some z=>let p:=ql4 P e;let q:=eqT P d e;⟨kU fun xs ys=>xH p q z xs ys len 0⟩
   |none=>⟨fun _ _=>none⟩
  |some (.pointer _)=>⟨qg3⟩
  |some (.slice _)=>⟨qQ⟩
  |some (.map ..)=>⟨zy4⟩
  |some (.func ..)=>⟨eqFn⟩
  |some (.interface _)=>⟨aEv⟩
  |_=>⟨fun _ _=>none⟩
def qcq:Nat:=20
/- operations on values -/
def dH(c a b:AV):R0:=
 match c with
 | .bool true=>.val a
 | .bool false=>.val b
 |_=>.bad
def fO(g:IntKind->Int->Int->R0)(x y:AV):R0:=
 match x,y with
 | .int k a,.int k' b=>bif xW k k' then g k a b else .bad
 |_,_=>.bad
def q1x(g:IntKind->Int->Int->R0)(x y:AV):R0:=
 match x,y with
 | .int k a,.int _ b=>g k a b
 |_,_=>.bad
def gN(g:Nat->Nat->Nat->Nat->R0)(x y:AV):R0:=
 match x,y with
 | .str n a,.str m b=>g n a m b
 |_,_=>.bad
def jR(neg:Bool)(r:Option Bool):R0:=
 match r with
 |some b=>.val (.bool (bif neg then !b else b))
 |none=>.bad
structure V2 where f:AV->AV->R0
def xU(P:Program)(op:BinOp)(t:TypeId):V2:=
 match P.underlying t with
 |some (.int _)=>
  match op with
  | .shl| .shr=>match qjt op with|⟨g⟩=>⟨q1x g⟩
  |_=>match lS op with|⟨g⟩=>⟨fO g⟩
 |some .string=>match nC op with|⟨g⟩=>⟨gN g⟩
 |some .bool|some (.pointer _)|some (.slice _)|some (.map ..)|some (.func ..)|some (.interface _)=>
  match op,eqT P qcq t with
  | .eql,⟨e⟩=>⟨fun x y=>jR false (e x y)⟩
  | .neq,⟨e⟩=>⟨fun x y=>jR true (e x y)⟩
  |_,_=>⟨fun _ _=>.bad⟩
 |some (.struct _)|some (.array ..)=>
  if P.eqGuardType P.depth t then⟨fun _ _=>.bad⟩else
  match op,eqT P qcq t with
  | .eql,⟨e⟩=>⟨fun x y=>jR false (e x y)⟩
  | .neq,⟨e⟩=>⟨fun x y=>jR true (e x y)⟩
  |_,_=>⟨fun _ _=>.bad⟩
 |_=>⟨fun _ _=>.bad⟩
structure V1 where f:AV->R0
def kE:UnOp->V1
 | .not=>⟨fun x=>match x with| .bool b=>.val (.bool !b)|_=>.bad⟩
 | .neg=>⟨fun x=>match x with| .int k n=>.val (.int k (vZ k (0-n)))|_=>.bad⟩
 |_=>⟨fun _=>.bad⟩
/- memory -/
def bI(b:bX)(o:Nat):R0:=
 match b with
 | .cells d n c _ _=>bif Nat.blt o n then .val ((dW d o).f c)else .bad
 |_=>.bad
def aN(H:Hp)(a:AV):R0:=
 match a with
 | .ptr b o=>bI (H.get b) o
 |_=>.bad
def iF(b:bX)(o k:Nat):Option (List AV):=
 match b with
 | .cells _ n c _ _=>bif Nat.ble (o+k) n then some (xO c k o)else none
 |_=>none
def aDr(r:Option (List AV)):R0:=match r with|some l=>.val (.agg l)|none=>.bad
def dB(k:Nat)(H:Hp)(a:AV):R0:=
 match a with
 | .ptr b o=>aDr (iF (H.get b) o k)
 |_=>.bad
def xZ(b:bX)(o:Nat)(l:List AV):Option bX:=
 match b with
 | .cells d n c false z=>bif Nat.ble (o+l.length) n then some (.cells d n (pE l o c) false z)else none
 |_=>none
def storeAt(H:Hp)(b o:Nat)(l:List AV)(v:AV):R1:=
 match xZ (H.get b) o l with
 |some blk=>.ok v (H.put b blk)
 |none=>.bad
def jN(H:Hp)(a x:AV):R1:=
 match a,x with
 | .ptr _ _,.agg _=>.bad
 | .ptr _ _,.bB _=>.bad
 | .ptr _ _,.undef=>.bad
 | .ptr _ _,.lit _=>.bad
 | .ptr b o,v=>storeAt H b o [v] .undef
 |_,_=>.bad
def qdc(k:Nat)(H:Hp)(a x:AV):R1:=
 match a,x with
 | .ptr b o,.agg l=>bif Nat.beq l.length k then storeAt H b o l .undef else .bad
 |_,_=>.bad
def mX(nm:Nat)(x:AV):R0:=
 match x with
 | .agg _| .bB _| .undef| .lit _=>.bad
 |v=>.new (.ptr nm 0) (aB 0 [v])
def zG(k:Nat)(nm:Nat)(x:AV):R0:=
 match x with
 | .agg l=>bif Nat.beq l.length k then .new (.ptr nm 0) (aB 0 l)else .bad
 |_=>.bad
def aP(off:Nat)(x:AV):R0:=match x with| .ptr b o=>.val (.ptr b (Nat.add o off))|_=>.bad
def zdu(p:P1)(off:Nat)(x:AV):R0:=
 match x with
 | .agg l=>match p.f l off with|some v=>.val v|none=>.bad
 |_=>.bad
def aG(z:Nat)(x i:AV):R0:=
 match x,i with
 | .sl b o len _ _,.int _ (.ofNat i)=>bif Nat.blt i len then .val (.ptr b (Nat.add o (Nat.mul i z)))else .bad
 |_,_=>.bad
def gH(len z:Nat)(x i:AV):R0:=
 match x,i with
 | .ptr b o,.int _ (.ofNat i)=>bif Nat.blt i len then .val (.ptr b (Nat.add o (Nat.mul i z)))else .bad
 |_,_=>.bad
def zde(x i:AV):R0:=
 match x,i with
 | .str n a,.int _ (.ofNat i)=>bif Nat.blt i n then .val (.int .u8 (.ofNat (qsg a i)))else .bad
 |_,_=>.bad
def aHP(p:P1)(len z:Nat)(x i:AV):R0:=
 match x,i with
 | .agg l,.int _ (.ofNat i)=>bif Nat.blt i len then(match p.f l (Nat.mul i z)with|some v=>.val v|none=>.bad)else .bad
 |_,_=>.bad
/- slices -/
def bnd(x:Option AV)(dflt y:Nat):Option Nat:=
 match x with
 |none=>some dflt
 |some (.int _ (.ofNat n))=>bif Nat.ble n y then some n else none
 |some _=>none
structure Bd where
 (l h m:Nat)
def bounds(len cap:Nat)(lo hi mx:Option AV):Option Bd:=
 match mx,hi with
 |some _,none=>none
 |_,_=>
  match bnd mx cap cap with
  |none=>none
  |some m=>match bnd hi len m with
   |none=>none
   |some h=>match bnd lo 0 h with
    |none=>none
    |some l=>some ⟨l,h,m⟩
def qyu(x:AV)(lo hi:Option AV):R0:=
 match x with
 | .str n a=>match bounds n n lo hi none with
  |some b=>.val (.str (b.h-b.l) (Nat.land (Nat.shiftRight a (Nat.mul 8 b.l)) (Nat.sub (Nat.shiftLeft 1 (Nat.mul 8 (b.h-b.l))) 1)))
  |none=>.bad
 |_=>.bad
def jF(b o z:Nat)(bd:Bd)(ex:Bool):R0:=
 bif Nat.beq bd.m bd.l then(bif ex then .val (.sl b o 0 0 true)else .val .sle)
 else .val (.sl b (Nat.add o (Nat.mul bd.l z)) (Nat.sub bd.h bd.l) (Nat.sub bd.m bd.l) ex)
def lC(z:Nat)(x:AV)(lo hi mx:Option AV):R0:=
 match x with
 | .aA=>match bounds 0 0 lo hi mx with|some _=>.val .aA|none=>.bad
 | .sl b o len cap ex=>match bounds len cap lo hi mx with
  |some bd=>jF b o z bd (match mx with|some _=>true|none=>ex)
  |none=>.bad
 |_=>.bad
def aZ(l:List AV)(n:Nat):List AV:=Nat.rec (motive:=fun _=>List AV) [] (fun _ r=>l++r) n
def gM:Nat:=1099511627776
def qer(z:List AV)(bytes:Nat)(nm:Nat)(l c:AV):R0:=
 match l,c with
 | .int _ (.ofNat n),.int _ (.ofNat m)=>bif Nat.ble n m&&Nat.ble (Nat.mul m bytes) gM&&Nat.ble m gM then .new (.sl nm 0 n m true) (aB 0 (aZ z m))else .bad
 |_,_=>.bad
/- building aggregates: parts in the order of their offsets -/
def qq3(c:List AV)(off size:Nat)(v:List AV):Option (List AV):=
 bif Nat.beq v.length size&&Nat.ble (off+size) c.length then some (c.take off++v++c.drop (off+size))else none
def wX:AV->Option (List AV)
 | .agg l=>some l
 | .bB _| .undef| .lit _=>none
 |v=>some [v]
def cB(c:List AV):List (Nat×Nat×AV)->Option (List AV)
 | []=>some c
 |(off,size,v)::r=>match wX v with
  |some l=>match qq3 c off size l with|some c'=>cB c' r|none=>none
  |none=>none
/- maps -/
structure Hit where
 i:Nat
 x:oC
def qj6(e:AV->AV->Option Bool)(k:AV)(es:List oC):Nat->Option (Option Hit):=
 List.rec (motive:=fun _=>Nat->Option (Option Hit)) (fun _=>some none)
  (fun x _ ih i=>match e k x.key with|some true=>some (some ⟨i,x⟩)|some false=>ih (Nat.succ i)|none=>none) es
def zxj:AV->AV->Bool
 | .int k a,.int k' b=>xW k k'&&sK a b
 | .str n a,.str m b=>eqS n a m b
 | .bool a,.bool b=>a==b
 |_,_=>false
def zex:List AV->List AV->Bool
 | [],[]=>true
 |a::l,b::m=>zxj a b&&zex l m
 |_,_=>false
def sameKey:AV->AV->Bool
 | .agg l,.agg m=>zex l m
 |a,b=>zxj a b
def qh0(s:Option Nat)(k:AV):Bool:=
 match s,k with
 |none,.agg _=>false
 |none,_=>true
 |some n,.agg l=>Nat.beq l.length n
 |some _,_=>false
def qzj(P:Program):Nat->TypeId->Bool
 |0,_=>false
 |d+1,t=>
  match P.underlying t,iM P t with
  |some (.int _),some _|some .string,some _|some .bool,some _=>true
  |some (.struct fs),some n=>fs.toList.all fun f=>match iM P f.type with
   |some m=>Nat.ble (f.offset+m) n&&qzj P d f.type&&Nat.blt 0 m
   |none=>false
  |some (.array len e),some n=>match iM P e with
   |some m=>Nat.ble (len*m) n&&qzj P d e&&Nat.blt 0 m
   |none=>false
  |_,_=>false
structure Ky where
 e:AV->AV->Option Bool
 s:Option Nat
def aBB(P:Program)(kt:TypeId):Option Ky:=
 match qzj P qcq kt,eqT P qcq kt,qM P kt,iM P kt with
 |true,⟨e⟩,some true,some n=>some ⟨e,some n⟩
 |true,⟨e⟩,some false,some _=>some ⟨e,none⟩
 |_,_,_,_=>none
def q8v(ky:Ky)(k:AV)(es:List oC):Option (Option Hit):=
 bif qh0 ky.s k then qj6 ky.e k es 0 else none
def z3h(H:Hp):AV->Option (List oC)
 | .eP=>some []
 | .map m=>match H.get m with| .map es _=>some es|_=>none
 |_=>none
def z9t(ok:Bool)(z:AV)(r:Option (Option Hit)):R0:=
 match r with
 |some (some h)=>.val (bif ok then .bB [h.x.val,.bool true]else h.x.val)
 |some none=>.val (bif ok then .bB [z,.bool false]else z)
 |none=>.bad
def tX(ky:Ky)(z:AV)(ok:Bool)(H:Hp)(m k:AV):R0:=
 match z3h H m with
 |some es=>z9t ok z (q8v ky k es)
 |none=>.bad
def qK(ky:Ky)(H:Hp)(m k v:AV):R1:=
 match m with
 | .map b=>match H.get b with
  | .map es clock=>match q8v ky k es with
   |some (some h)=>bif sameKey h.x.key k then .ok .undef (H.put b (.map (es.set h.i ⟨k,v,h.x.born⟩) clock))else .bad
   |some none=>.ok .undef (H.put b (.map (es++[⟨k,v,clock⟩]) (Nat.succ clock)))
   |none=>.bad
  |_=>.bad
 |_=>.bad
/- builtins -/
def i64(n:Nat):AV:=.int .i64 (.ofNat n)
def aA2(x:AV):R0:=match x with| .str n _=>.val (i64 n)|_=>.bad
def aD(x:AV):R0:=
 match x with
 | .sl _ _ n _ _=>.val (i64 n)
 | .aA=>.val (i64 0)
 | .sle=>.val (i64 0)
 |_=>.bad
def aA5(H:Hp)(x:AV):R0:=
 match x with
 | .eP=>.val (i64 0)
 | .map m=>match H.get m with| .map es _=>.val (i64 es.length)|_=>.bad
 |_=>.bad
def dA(x:AV):R0:=
 match x with
 | .sl _ _ _ c true=>.val (i64 c)
 | .aA=>.val (i64 0)
 |_=>.bad
def oO(x y:AV):R0:=
 match x,y with
 | .int k a,.int _ b=>.val (.int k (bif p9 b a then b else a))
 |_,_=>.bad
def pZ(x y:AV):R0:=
 match x,y with
 | .int k a,.int _ b=>.val (.int k (bif p9 a b then b else a))
 |_,_=>.bad
def qO(g:AV->AV->R0)(x:AV)(l:List AV):R0:=
 List.rec (motive:=fun _=>AV->R0) (fun x=>.val x) (fun y _ ih x=>match g x y with| .val z=>ih z|_=>.bad) l x
def zr5(bits n:Nat):List AV:=Nat.rec (motive:=fun _=>Nat->List AV) (fun _=>[]) (fun _ ih i=>.int .u8 (.ofNat (qsg bits i))::ih (Nat.succ i)) n 0
structure Src where
 n:Nat
 l:List AV
def zw9(z:Nat)(H:Hp)(x:AV):Option Src:=
 match x with
 | .aA| .sle=>some ⟨0,[]⟩
 | .sl b o n _ _=>match iF (H.get b) o (Nat.mul n z)with|some l=>some ⟨n,l⟩|none=>none
 | .str n a=>some ⟨n,zr5 a n⟩
 |_=>none
def pJ(z:Nat)(H:Hp)(x:AV):Option Src:=
 match x with
 | .str _ _=>bif Nat.beq z 1 then zw9 z H x else none
 |_=>zw9 z H x
def qwi(w:Nat)(zl:List AV)(x:AV):Option Src:=
 match x with
 | .int _ (.ofNat n)=>bif Nat.ble n gM&&Nat.ble (Nat.mul n w) gM then some ⟨n,aZ zl n⟩else none
 |_=>none
def aK(H:Hp)(b:bX):Hp:=⟨H.t.put H.nx b,Nat.succ H.nx⟩
def grow(z:Nat)(H:Hp)(old:List AV)(s:Src)(n:Nat):R1:=.ok (.sl H.nx 0 n n false) (aK H (aB z (old++s.l)))
def qg9(b:bX)(e z:Nat):Bool:=match b with| .cells _ n _ false z'=>Nat.beq n e&&Nat.beq z' z|_=>false
def kJ(z bytes:Nat)(H:Hp)(s:AV)(src:Option Src):R1:=
 match src with
 |none=>.bad
 |some x=>
  match s with
  | .aA=>bif Nat.beq x.n 0 then .ok .aA H else bif Nat.ble (Nat.mul x.n bytes) gM&&Nat.ble x.n gM then grow z H [] x x.n else .bad
  | .sl b o len cap ex=>
   bif Nat.ble (len+x.n) cap then storeAt H b (o+len*z) x.l (.sl b o (len+x.n) cap ex)
   else bif Nat.ble (Nat.mul (len+x.n) bytes) gM&&Nat.ble (len+x.n) gM then
    match iF (H.get b) o (Nat.mul len z)with
    |none=>.bad
    |some old=>bif ex then grow z H old x (len+x.n)else
     bif qg9 (H.get b) (o+cap*z) z then grow z (H.put b .dead) old x (len+x.n)else .bad
   else .bad
  |_=>.bad
def qh1(zl:List AV)(H:Hp)(x:AV):R1:=
 match x with
 | .aA=>.ok .undef H
 | .sl b o n _ _=>bif Nat.beq n 0 then .ok .undef H else storeAt H b o (aZ zl n) .undef
 |_=>.bad
def q80(k:IntKind)(x:AV):R0:=match x with| .int _ n=>.val (.int k (vZ k n))|_=>.bad
/- an operation, made ready once: quiet (it looks at the heap, or not), or with effects -/
inductive lI(d:Nat) where
 |q (looks:Bool) (f:Nat->TT AV d->Hp->R0)
 |e (f:Call->TT AV d->Hp->R1)
structure Rd(d:Nat) where f:TT AV d->AV
def aJ(d n:Nat):Operand->Rd d
 | .tmp t=>bif Nat.blt t n then(match dW (α:=AV) d t with|⟨g⟩=>⟨g⟩)else⟨fun _=>.undef⟩
 | .const v=>⟨fun _=>zfb v⟩
 | .global g=>⟨fun _=>.lit (.pointer (some ⟨g,0,none⟩))⟩
 | .func f=>⟨fun _=>.fn f [] []⟩
structure RdL(d:Nat) where f:TT AV d->List AV
def wK(d n:Nat):List Operand->RdL d
 | []=>⟨fun _=>[]⟩
 |x::r=>match aJ d n x,wK d n r with|⟨g⟩,⟨h⟩=>⟨fun L=>g L::h L⟩
structure RdO(d:Nat) where f:TT AV d->Option AV
def ql5(d n:Nat):Option Operand->RdO d
 |none=>⟨fun _=>none⟩
 |some x=>match aJ d n x with|⟨g⟩=>⟨fun L=>some (g L)⟩
structure RdP(d:Nat) where f:TT AV d->List (Nat×Nat×AV)
def qsx(d n:Nat)(place:Nat->Option (Nat×Nat)):List (Nat×Operand)->Option (RdP d)
 | []=>some ⟨fun _=>[]⟩
 |(i,x)::r=>
  match place i,aJ d n x,qsx d n place r with
  |some (off,size),⟨g⟩,some ⟨h⟩=>some ⟨fun L=>(off,size,g L)::h L⟩
  |_,_,_=>none
def gY(d:Nat):lI d:=.e fun _ _ _=>.bad
def bY(r:Option (List AV)):R0:=match r with|some l=>.val (.agg l)|none=>.bad
def vT(len:Nat)(nm:Nat)(r:Option (List AV)):R0:=match r with|some l=>.new (.sl nm 0 len len true) (aB 0 l)|none=>.bad
def qfa(P:Program)(fs:Array Field)(i:Nat):Option (Nat×Nat):=
 match fs[i]? with
 |some f=>(iM P f.type).map fun s=>(f.offset,s)
 |none=>none
def uF(O:Call)(f:AV)(args:List AV)(H:Hp):R1:=
 match f with
 | .fn g first cap=>O (.f g) (first++args++cap) H
 | .yield l=>O (.y l) args H
 |_=>.bad
def qj9(O:Call)(f:AV)(args:List AV)(H:Hp):R1:=
 match f with
 | .fn g first cap=>O (.f g) (first++args++cap) H
 |_=>.bad
def wW(P:Program)(d n:Nat)(args:List Operand)(types:List TypeId):lI d:=
 match args,types with
 | [x],[t]=>
  match P.underlying t with
  |some (.array n _)=>.q false fun _ _ _=>.val (i64 n)
  |some (.pointer arr)=>match P.underlying arr with|some (.array n _)=>.q false fun _ _ _=>.val (i64 n)|_=>gY d
  |some .string=>match aJ d n x with|⟨g⟩=>.q false fun _ L _=>aA2 (g L)
  |some (.slice _)=>match aJ d n x with|⟨g⟩=>.q false fun _ L _=>aD (g L)
  |some (.map ..)=>match aJ d n x with|⟨g⟩=>.q true fun _ L H=>aA5 H (g L)
  |_=>gY d
 |_,_=>gY d
def aAA(P:Program)(d n:Nat)(args:List Operand)(types:List TypeId):lI d:=
 match args,types with
 | [x],[t]=>
  match P.underlying t with
  |some (.array n _)=>.q false fun _ _ _=>.val (i64 n)
  |some (.slice _)=>match aJ d n x with|⟨g⟩=>.q false fun _ L _=>dA (g L)
  |_=>gY d
 |_,_=>gY d
def aAI(d n:Nat)(args:List Operand):lI d:=
 match args with
 |x::r=>match aJ d n x,wK d n r with|⟨g⟩,⟨h⟩=>.q false fun _ L _=>qO oO (g L) (h L)
 |_=>gY d
def aAk(d n:Nat)(args:List Operand):lI d:=
 match args with
 |x::r=>match aJ d n x,wK d n r with|⟨g⟩,⟨h⟩=>.q false fun _ L _=>qO pZ (g L) (h L)
 |_=>gY d
structure Ap where
 (z w:Nat)
 zl:List AV
def apS(P:Program)(e:TypeId):Option Ap:=
 match iM P e,qkb P e,qkg P e with
 |some z,some w,some zl=>bif Nat.beq zl.length z then some ⟨z,w,zl⟩else none
 |_,_,_=>none
def aAN(P:Program)(d n:Nat)(args:List Operand)(types:List TypeId):lI d:=
 match args,types with
 | [x,y],[t,u]=>
  match P.underlying t with
  |some (.slice e)=>
   match apS P e,P.underlying u with
   |some ap,some (.int _)=>match aJ d n x,aJ d n y with|⟨g⟩,⟨h⟩=>.e fun _ L H=>kJ ap.z ap.w H (g L) (qwi ap.w ap.zl (h L))
   |some ap,some (.slice _)=>match aJ d n x,aJ d n y with|⟨g⟩,⟨h⟩=>.e fun _ L H=>kJ ap.z ap.w H (g L) (pJ ap.z H (h L))
   |some ap,some .string=>match aJ d n x,aJ d n y with|⟨g⟩,⟨h⟩=>.e fun _ L H=>kJ ap.z ap.w H (g L) (pJ ap.z H (h L))
   |_,_=>gY d
  |_=>gY d
 |_,_=>gY d
def aAr(P:Program)(d n:Nat)(args:List Operand)(types:List TypeId):lI d:=
 match args,types with
 | [x],[t]=>
  match P.underlying t with
  |some (.slice e)=>match apS P e with
   |some ap=>match aJ d n x with|⟨g⟩=>.e fun _ L H=>qh1 ap.zl H (g L)
   |none=>gY d
  |_=>gY d
 |_,_=>gY d
def qd7(P:Program)(d n:Nat)(b:Builtin)(args:List Operand)(types:List TypeId):lI d:=
 match b with
 | .len=>wW P d n args types
 | .cap=>aAA P d n args types
 | .min=>aAI d n args
 | .max=>aAk d n args
 | .append=>aAN P d n args types
 | .clear=>aAr P d n args types
 |_=>gY d
def xce(d n:Nat)(x:Operand):lI d:=
 match aJ d n x with|⟨g⟩=>.q false fun _ L _=>.val (g L)
def z8p(d n:Nat)(c a b:Operand):lI d:=
 match aJ d n c,aJ d n a,aJ d n b with|⟨gc⟩,⟨ga⟩,⟨gb⟩=>.q false fun _ L _=>dH (gc L) (ga L) (gb L)
def zcl(P:Program)(d:Nat)(t:TypeId):lI d:=
 match qkg P t with
 |some z=>.q false fun nm _ _=>.new (.ptr nm 0) (aB 0 z)
 |none=>gY d
def aCW(P:Program)(d n:Nat)(t:TypeId)(x:Operand):lI d:=
 match qM P t,iM P t,aJ d n x with
 |some true,some k,⟨g⟩=>.q false fun nm L _=>zG k nm (g L)
 |some false,some _,⟨g⟩=>.q false fun nm L _=>mX nm (g L)
 |_,_,_=>gY d
def zck(P:Program)(d n:Nat)(t:TypeId)(ps:Array (Nat×Operand)):lI d:=
 match P.underlying t,qkg P t with
 |some (.struct fs),some z=>if fs.toList.all fun f=>(iM P f.type).isSome then match qsx d n (qfa P fs) ps.toList with
  |some ⟨h⟩=>.q false fun _ L _=>bY (cB z (h L))
  |none=>gY d
  else gY d
 |some (.array _ e),some z=>match iM P e with
  |some s=>match qsx d n (fun i=>some (i*s,s)) ps.toList with
   |some ⟨h⟩=>.q false fun _ L _=>bY (cB z (h L))
   |none=>gY d
  |none=>gY d
 |_,_=>gY d
def qez(P:Program)(d n:Nat)(t:TypeId)(len:Nat)(ps:Array (Nat×Operand)):lI d:=
 match P.underlying t with
 |some (.slice e)=>match iM P e,qkg P e with
  |some s,some z=>bif Nat.ble (len*s) 65536&&Nat.beq z.length s then match qsx d n (fun i=>some (i*s,s)) ps.toList with
   |some ⟨h⟩=>.q false fun nm L _=>vT len nm (cB (aZ z len) (h L))
   |none=>gY d
   else gY d
  |_,_=>gY d
 |_=>gY d
def zo4(P:Program)(d n:Nat)(t:TypeId)(a:Operand):lI d:=
 match qM P t,iM P t,aJ d n a with
 |some true,some k,⟨g⟩=>.q true fun _ L H=>dB k H (g L)
 |some false,some _,⟨g⟩=>.q true fun _ L H=>aN H (g L)
 |_,_,_=>gY d
def q15(P:Program)(d n:Nat)(t:TypeId)(a x:Operand):lI d:=
 match qM P t,iM P t,aJ d n a,aJ d n x with
 |some true,some k,⟨g⟩,⟨h⟩=>.e fun _ L H=>qdc k H (g L) (h L)
 |some false,some 1,⟨g⟩,⟨h⟩=>.e fun _ L H=>jN H (g L) (h L)
 |_,_,_,_=>gY d
def qq5(d n:Nat)(x:Operand):lI d:=
 match aJ d n x with
 |⟨g⟩=>.q false fun _ L _=>match g L with| .ptr b o=>.val (.ptr b o)| .fn a b c=>.val (.fn a b c)| .yield l=>.val (.yield l)|_=>.bad
def zo5(P:Program)(d n:Nat)(op:BinOp)(t:TypeId)(x y:Operand):lI d:=
 match xU P op t,aJ d n x,aJ d n y with
 |⟨e⟩,⟨g⟩,⟨h⟩=>.q false fun _ L _=>e (g L) (h L)
def xcc(d n:Nat)(op:UnOp)(x:Operand):lI d:=
 match kE op,aJ d n x with|⟨e⟩,⟨g⟩=>.q false fun _ L _=>e (g L)
def qn7(P:Program)(d n:Nat)(s t:TypeId)(x:Operand):lI d:=
 match P.underlying s,P.underlying t,aJ d n x with
 |some (.int _),some (.int k),⟨g⟩=>.q false fun _ L _=>q80 k (g L)
 |some .string,some .string,⟨g⟩=>.q false fun _ L _=>match g L with| .str n a=>.val (.str n a)|_=>.bad
 |_,_,_=>gY d
def qcu(P:Program)(d n:Nat)(t:TypeId)(x:Operand):lI d:=
 match P.underlying t,aJ d n x with
 |some (.interface _),_=>gY d
 |some _,⟨g⟩=>.q false fun _ L _=>.val (.iface t (g L))
 |none,_=>gY d
def q17(d n:Nat)(f:FuncId)(first cap:Array Operand):lI d:=
 match wK d n first.toList,wK d n cap.toList with
 |⟨g⟩,⟨h⟩=>.q false fun _ L _=>.val (.fn f (g L) (h L))
def zci(d:Nat)  :lI d:=
 .q false fun nm _ _=>.new (.map nm) (.map [] 0)
def qgn(P:Program)(d n:Nat)(t:TypeId)(l c:Operand):lI d:=
 match P.underlying t,aJ d n l,aJ d n c with
 |some (.slice e),⟨g⟩,⟨h⟩=>match qkg P e,qkb P e,iM P e with
  |some z,some w,some s=>bif Nat.beq z.length s then .q false fun nm L _=>qer z w nm (g L) (h L)else gY d
  |_,_,_=>gY d
 |_,_,_=>gY d
def zch(P:Program)(d n:Nat)(t:TypeId)(x:Operand)(lo hi mx:Option Operand):lI d:=
 match P.underlying t,aJ d n x,ql5 d n lo,ql5 d n hi,ql5 d n mx with
 |some .string,⟨g⟩,⟨l⟩,⟨h⟩,_=>match mx with
  |none=>.q false fun _ L _=>qyu (g L) (l L) (h L)
  |some _=>gY d
 |some (.slice e),⟨g⟩,⟨l⟩,⟨h⟩,⟨m⟩=>match iM P e with
  |some z=>.q false fun _ L _=>lC z (g L) (l L) (h L) (m L)
  |none=>gY d
 |_,_,_,_,_=>gY d
def qen(P:Program)(d n:Nat)(s:TypeId)(x:Operand)(f:Nat):lI d:=
 match P.underlying s,aJ d n x with
 |some (.struct fs),⟨g⟩=>match fs[f]? with
  |some fl=>match iM P fl.type with
   |some (_+1)=>.q false fun _ L _=>aP fl.offset (g L)
   |_=>gY d
  |none=>gY d
 |_,_=>gY d
def q19(P:Program)(d n:Nat)(t:TypeId)(x:Operand)(f:Nat):lI d:=
 match P.underlying t,aJ d n x with
 |some (.struct fs),⟨g⟩=>match fs[f]? with
  |some fl=>match ql4 P fl.type with|p=>.q false fun _ L _=>zdu p fl.offset (g L)
  |none=>gY d
 |_,_=>gY d
def qem(P:Program)(d n:Nat)(t:TypeId)(x i:Operand):lI d:=
 match P.underlying t,aJ d n x,aJ d n i with
 |some (.slice e),⟨g⟩,⟨h⟩=>match iM P e with
  |some z=>.q false fun _ L _=>aG z (g L) (h L)
  |none=>gY d
 |some (.array n e),⟨g⟩,⟨h⟩=>match iM P e with
  |some z=>.q false fun _ L _=>gH n z (g L) (h L)
  |none=>gY d
 |_,_,_=>gY d
def q18(P:Program)(d n:Nat)(t:TypeId)(x i:Operand):lI d:=
 match P.underlying t,aJ d n x,aJ d n i with
 |some .string,⟨g⟩,⟨h⟩=>.q false fun _ L _=>zde (g L) (h L)
 |some (.array n e),⟨g⟩,⟨h⟩=>match iM P e,ql4 P e with
  |some z,p=>.q false fun _ L _=>aHP p n z (g L) (h L)
  |none,_=>gY d
 |_,_,_=>gY d
def qyy(P:Program)(d n:Nat)(t:TypeId)(m k:Operand)(ok:Bool):lI d:=
 match P.underlying t,aJ d n m,aJ d n k with
 |some (.map kt et),⟨g⟩,⟨h⟩=>match aBB P kt,(P.info? et).bind (·.zero)with
  |some ky,some z=>.q true fun _ L H=>tX ky (zfb z) ok H (g L) (h L)
  |_,_=>gY d
 |_,_,_=>gY d
def qdl(P:Program)(d n:Nat)(t:TypeId)(m k x:Operand):lI d:=
 match P.underlying t,aJ d n m,aJ d n k,aJ d n x with
 |some (.map kt _),⟨g⟩,⟨h⟩,⟨i⟩=>match aBB P kt with
  |some ky=>.e fun _ L H=>qK ky H (g L) (h L) (i L)
  |none=>gY d
 |_,_,_,_=>gY d
/- ranges over maps of at most one entry: an iterator is a block; its map's name and one more (0: no map), the map's clock, and what was seen -/
def qyz(d n:Nat)(x:Operand)(i:Nat):lI d:=
 match aJ d n x with
 |⟨g⟩=>.q false fun _ L _=>match g L with
  | .bB l=>match l[i]? with|some v=>.val v|none=>.bad
  |_=>.bad
/- the one function without a body that is known: the comparison of two strings -/
def zcj(d n:Nat)(f:FuncId)(args:List Operand):lI d:=
 match wK d n args with
 |⟨g⟩=>.e fun O L H=>O (.f f) (g L) H
def iG(P:Program)(d n:Nat)(o:Oper):lI d:=
 match o.op with
 | .move x| .assign x=>xce d n x
 | .pick c a b=>z8p d n c a b
 | .alloc t=>zcl P d t
 | .box t x=>aCW P d n t x
 | .build t ps=>zck P d n t ps
 | .buildSlice t len ps=>qez P d n t len ps
 | .load t a=>zo4 P d n t a
 | .store t a x=>q15 P d n t a x
 | .nilCheck x=>qq5 d n x
 | .binOp op t x y _=>zo5 P d n op t x y
 | .unOp op _ x=>xcc d n op x
 | .convert s t x=>qn7 P d n s t x
 | .makeInterface t x=>qcu P d n t x
 | .makeFunc (.func f) first cap=>q17 d n f first cap
 | .makeMap _ none=>zci d
 | .makeSlice t l c=>qgn P d n t l c
 | .slice t x lo hi mx=>zch P d n t x lo hi mx
 | .fieldAddr s x f=>qen P d n s x f
 | .field t x f=>q19 P d n t x f
 | .indexAddr t x i=>qem P d n t x i
 | .index t x i=>q18 P d n t x i
 | .lookup t m k ok=>qyy P d n t m k ok
 | .mapUpdate t m k x| .insert t m k x=>qdl P d n t m k x
 | .extract x i=>qyz d n x i
 | .call {callee:=.builtin b,args,argTypes}=>qd7 P d n b args.toList argTypes.toList
 | .call {callee:=.value (.func f),args,..}=>zcj d n f args.toList
 | .call {callee:=.value x,args,..}=>match aJ d n x,wK d n args.toList with
  |⟨h⟩,⟨g⟩=>.e fun O L H=>uF O (h L) (g L) H
 |_=>gY d
/- running operations one behind the other -/
inductive Rs(d:Nat) where
 |bad
 |ok (L:TT AV d) (H:Hp)
structure Wd(d:Nat) where f:TT AV d->Option Bool
def uL(d n:Nat)(ops:Array Oper)(o:Oper):Wd d:=
 match o.guard with
 |none=>⟨fun _=>some true⟩
 |some (j,want)=>match(ops[j]?).bind (·.dst)with
  |some t=>bif Nat.blt t n then(match dW (α:=AV) d t with
   |⟨g⟩=>⟨fun L=>match g L with| .bool b=>some (b==want)| .undef=>some false|_=>none⟩)else⟨fun _=>none⟩
  |none=>⟨fun _=>none⟩
structure Pt(d:Nat) where f:TT AV d->AV->TT AV d
def eB(d n:Nat):Option Tmp->Pt d
 |some t=>bif Nat.blt t n then(match setter (α:=AV) d t with|⟨s⟩=>⟨s⟩)else⟨fun L _=>L⟩
 |none=>⟨fun L _=>L⟩
structure St(d:Nat) where f:Call->TT AV d->Hp->Rs d
def doQ{d:Nat}(put:TT AV d->AV->TT AV d)(L:TT AV d)(H:Hp)(r:R0):Rs d:=
 match r with
 | .bad=>.bad
 | .val v=>.ok (put L v) H
 | .new v b=>.ok (put L v) (aK H b)
def doE{d:Nat}(put:TT AV d->AV->TT AV d)(L:TT AV d)(r:R1):Rs d:=
 match r with
 | .bad=>.bad
 | .ok v H=>.ok (put L v) H
def ifW{d:Nat}(w:Option Bool)(a b:Rs d):Rs d:=
 match w with
 |some true=>a
 |some false=>b
 |none=>.bad
def qg1(P:Program)(d n:Nat)(ops:Array Oper)(o:Oper):St d:=
 match iG P d n o,o.guard,uL d n ops o,eB d n o.dst with
 | .q _ f,none,_,⟨put⟩=>⟨fun _ L H=>doQ put L H (f H.nx L H)⟩
 | .e f,none,_,⟨put⟩=>⟨fun O L H=>doE put L (f O L H)⟩
 | .q _ f,some _,⟨w⟩,⟨put⟩=>⟨fun _ L H=>ifW (w L) (doQ put L H (f H.nx L H)) (.ok (put L .undef) H)⟩
 | .e f,some _,⟨w⟩,⟨put⟩=>⟨fun O L H=>ifW (w L) (doE put L (f O L H)) (.ok (put L .undef) H)⟩
def zgg{d:Nat}(r:Rs d)(k:TT AV d->Hp->Rs d):Rs d:=match r with| .bad=>.bad| .ok L H=>k L H
/- deferred calls wait in the slot behind the temporaries -/
def rQ(o:Oper):Bool:=match o.op with| .defer _=>true|_=>false
structure DfC where
 x:Operand
 args:List Operand
def aAi(o:Oper):Option DfC:=
 match o.op,o.guard with
 | .defer {callee:=.value x,args,..},none=>some ⟨x,args.toList⟩
 |_,_=>none
def dl:AV->List AV
 | .bB l=>l
 |_=>[]
def doD{d:Nat}(n:Nat)(put:TT AV d->AV->TT AV d)(L:TT AV d)(H:Hp)(x:AV)(as:List AV):Rs d:=
 match x with
 | .fn f first cap=>.ok (put ((setter d n).f L (.bB (.fn f (first++as++cap) []::dl ((dW d n).f L)))) .undef) H
 |_=>.bad
def qjr(P:Program)(d n:Nat)(ops:Array Oper)(o:Oper):St d:=
 match aAi o with
 |none=>qg1 P d n ops o
 |some c=>match aJ d n c.x,wK d n c.args,eB d n o.dst with
  |⟨g⟩,⟨h⟩,⟨put⟩=>⟨fun _ L H=>doD n put L H (g L) (h L)⟩
def qF(P:Program)(d n:Nat)(ops:Array Oper):List Oper->St d
 | []=>⟨fun _ L H=>.ok L H⟩
 |o::r=>⟨fun O L H=>zgg ((qjr P d n ops o).f O L H) ((qF P d n ops r).f O)⟩
/- regions that draw their order -/
def hasB(m i:Nat):Bool:=Nat.beq (Nat.land (Nat.shiftRight m i) 1) 1
def uR(m i:Nat):Nat:=Nat.lor m (Nat.shiftLeft 1 i)
def aB6(m k:Nat):Bool:=Nat.beq (Nat.lor m k) k
def xN(o:Oper):List Nat:=(o.after.toList.filter (Region.binds .any)).map (·.on)
def qvv(ms:List Nat)(o:Oper):Nat:=(xN o).foldl (fun s j=>Nat.lor (uR s j) (ms.getD j 0)) 0
def qbm(ms:List Nat):List Oper->List Nat
 | []=>ms
 |o::r=>qbm (ms++[qvv ms o]) r
def xb1:Operand->Option Tmp
 | .tmp t=>some t
 |_=>none
def lQ(ops:Array Oper)(o:Oper):List Tmp:=
 o.op.operands.toList.filterMap xb1++(match o.guard with|some (j,_)=>((ops[j]?).bind (·.dst)).toList|none=>[])
def qha:Op->Bool
 | .alloc _| .box .. | .buildSlice .. | .convert .. | .makeMap .. | .makeSlice .. =>true
 |_=>false
structure Pj(d:Nat) where f:TT AV d->TT AV d
def nU(d n:Nat):List Tmp->Pj d
 | []=>⟨fun _=>same .undef d⟩
 |t::r=>bif Nat.blt t n then(match dW (α:=AV) d t,setter (α:=AV) d t,nU d n r with|⟨g⟩,⟨s⟩,⟨p⟩=>⟨fun L=>s (p L) (g L)⟩)else nU d n r
mutual
def oD:Nat->AV->AV->Bool
 |0,_,_=>false
 |k+1,x,y=>match x,y with
  | .undef,.undef| .bS,.bS| .aA,.aA| .sle,.sle| .eP,.eP| .jE,.jE| .oW,.oW=>true
  | .bool a,.bool b=>a==b
  | .int i a,.int j b=>decide (i=j)&&decide (a=b)
  | .str a b,.str c e=>Nat.beq a c&&Nat.beq b e
  | .ptr a b,.ptr c e=>Nat.beq a c&&Nat.beq b e
  | .sl a b c e f,.sl a' b' c' e' f'=>Nat.beq a a'&&Nat.beq b b'&&Nat.beq c c'&&Nat.beq e e'&&f==f'
  | .map a,.map b=>Nat.beq a b
  | .yield a,.yield b=>Nat.beq a b
  | .fn f a b,.fn g c e=>Nat.beq f g&&rT k a c&&rT k b e
  | .iface t a,.iface u b=>Nat.beq t u&&oD k a b
  | .agg a,.agg b=>rT k a b
  | .bB a,.bB b=>rT k a b
  |_,_=>false
def rT:Nat->List AV->List AV->Bool
 |0,_,_=>false
 |_,[],[]=>true
 |k+1,x::l,y::m=>oD k x y&&rT k l m
 |_,_,_=>false
end
structure Pd where
 (i nm:Nat)
 b:bX
structure Wt where
 (i A:Nat)
 f:Hp->R0
 v:AV
inductive Rx(d:Nat) where
 |bad
 |ok (L:TT AV d) (H:Hp) (pend:List Pd) (jJ:List Wt)
structure Sx(d:Nat) where f:Call->Nat->TT AV d->Hp->List Pd->List Wt->Rx d
def fI(A:Nat)(pend:List Pd)(H:Hp):Hp:=
 List.rec (motive:=fun _=>Hp) H (fun p _ ih=>bif hasB A p.i then ih.put p.nm p.b else ih) pend
def nT(pend:List Pd)(H:Hp):Hp:=
 List.rec (motive:=fun _=>Hp) H (fun p _ ih=>ih.put p.nm p.b) pend
def qT(A:Nat)(pend:List Pd):List Pd:=
 List.rec (motive:=fun _=>List Pd) [] (fun p _ ih=>bif hasB A p.i then ih else p::ih) pend
def qV(A:Nat)(jJ:List Wt):List Wt:=
 List.rec (motive:=fun _=>List Wt) [] (fun p _ ih=>bif hasB A p.i then ih else p::ih) jJ
def zo3(r:R0)(v:AV):Bool:=match r with| .val u=>oD 64 u v|_=>false
def qjl(pend:List Pd)(H:Hp)(jJ:List Wt):Bool:=
 List.rec (motive:=fun _=>Bool) true (fun x _ ih=>zo3 (x.f (fI x.A pend H)) x.v&&ih) jJ
def qX{d:Nat}(put:TT AV d->AV->TT AV d)(lk al:Bool)(i A nm:Nat)(L:TT AV d)(H:Hp)(pend:List Pd)(jJ:List Wt)(f:Hp->R0)(w:Option Bool):Rx d:=
 match w with
 |none=>.bad
 |some false=>.ok (put L .undef) H pend jJ
 |some true=>match f (fI A pend H)with
  | .bad=>.bad
  | .val v=>.ok (put L v) H pend (bif lk then⟨i,A,f,v⟩::jJ else jJ)
  | .new v b=>bif al&&b.wr then .ok (put L v) H (⟨i,nm,b⟩::pend) jJ else .bad
def eX{d:Nat}(put:TT AV d->AV->TT AV d)(A:Nat)(L:TT AV d)(H:Hp)(pend:List Pd)(jJ:List Wt)(r:R1)(w:Option Bool):Rx d:=
 match w with
 |none=>.bad
 |some false=>.ok (put L .undef) H pend jJ
 |some true=>match r with
  | .bad=>.bad
  | .ok v H'=>bif qjl (qT A pend) H' (qV A jJ)then .ok (put L v) H' (qT A pend) (qV A jJ)else .bad
def q1l(P:Program)(d n:Nat)(ops:Array Oper)(i A:Nat)(o:Oper):Sx d:=
 match iG P d n o,nU d n (lQ ops o),uL d n ops o,eB d n o.dst with
 | .q lk f,⟨pj⟩,⟨w⟩,⟨put⟩=>⟨fun _ base L H pend jJ=>qX put lk (qha o.op&& !lk) i A (base+i) L H pend jJ (f (base+i) (pj L)) (w (pj L))⟩
 | .e f,⟨pj⟩,⟨w⟩,⟨put⟩=>⟨fun O _ L H pend jJ=>eX put A L H pend jJ (f O (pj L) (fI A pend H)) (w (pj L))⟩
def xav{d:Nat}(r:Rx d)(k:TT AV d->Hp->List Pd->List Wt->Rx d):Rx d:=match r with| .bad=>.bad| .ok L H p w=>k L H p w
def uO(P:Program)(d n:Nat)(ops:Array Oper)(ms:List Nat):List Nat->Sx d
 | []=>⟨fun _ _ L H p w=>.ok L H p w⟩
 |i::r=>match ops[i]? with
  |some o=>⟨fun O base L H p w=>xav ((q1l P d n ops i (ms.getD i 0) o).f O base L H p w) ((uO P d n ops ms r).f O base)⟩
  |none=>⟨fun _ _ _ _ _ _=>.bad⟩
def isE{d:Nat}:lI d->Bool
 | .e _=>true
 | .q .. =>false
def aEW{d:Nat}:lI d->Bool
 | .q lk _=>lk
 | .e _=>false
structure Kd where
 (i A:Nat)
 (mM lk:Bool)
def qvw(P:Program)(d n:Nat)(ms:List Nat):Nat->List Oper->List Kd
 |_,[]=>[]
 |i,o::r=>⟨i,ms.getD i 0,isE (iG P d n o),aEW (iG P d n o)⟩::qvw P d n ms (i+1) r
def zro(ks:List Kd):Nat:=ks.foldl (fun s k=>bif k.mM then uR s k.i else s) 0
def zpr(EM:Nat):Nat->Nat->List Kd->List Nat
 |0,_,ks=>ks.map (·.i)
 |k+1,E,ks=>
  match ks.filter (fun x=> !x.mM&&aB6 (Nat.land x.A EM) E),ks.filter (fun x=>x.mM|| !aB6 (Nat.land x.A EM) E)with
  |now,rest=>now.map (·.i) ++
   match rest.filter (fun x=>x.mM&&aB6 (Nat.land x.A EM) E)with
   |e::_=>e.i::zpr EM k (uR E e.i) (rest.filter fun x=> !(Nat.beq x.i e.i))
   | []=>rest.map (·.i)
def q2m(ops:Array Oper)(ks:List Kd):Nat->Nat->List Nat->Bool
 |_,_,[]=>true
 |D,E,i::r=>match ops[i]?,ks[i]? with
  |some o,some k=>(xN o).all (hasB D)&& !hasB D i&&(!(k.mM||k.lk)||aB6 E k.A)&&q2m ops ks (uR D i) (bif k.mM then uR E i else E) r
  |_,_=>false
def qwd:Nat->List Oper->Bool
 |_,[]=>true
 |i,o::r=>(xN o).all (fun j=>Nat.blt j i)&&qwd (i+1) r
def zb3(ops:Array Oper)(ms:List Nat):Bool:=
 (List.range ops.size).all fun k=>match ops[k]? with
  |none=>false
  |some o=>(List.range ops.size).all fun i=>match ops[i]? with
   |none=>false
   |some o'=>match o'.dst with
    |none=>true
    |some t=>Nat.beq i k||hasB (ms.getD k 0) i||hasB (ms.getD i 0) k|| !((lQ ops o).contains t||o.dst==some t)
structure Pln where
 ms:List Nat
 ord:List Nat
 up:Nat
def q8f(P:Program)(d n:Nat)(ops:Array Oper):Option Pln:=
 match qbm [] ops.toList with
 |ms=>match qvw P d n ms 0 ops.toList with
  |ks=>match zpr (zro ks) ks.length 0 ks with
   |ord=>bif qwd 0 ops.toList&&zb3 ops ms&&Nat.beq ord.length ops.size&&q2m ops ks 0 0 ord then
     some ⟨ms,ord,bif ops.toList.any (fun o=>qha o.op)then ops.size else 0⟩else none
def ql8(P:Program)(d n:Nat)(ops:Array Oper):St d:=
 match q8f P d n ops with
 |none=>⟨fun _ _ _=>.bad⟩
 |some pl=>match uO P d n ops pl.ms pl.ord with
  |⟨g⟩=>⟨fun O L H=>match g O H.nx L ⟨H.t,H.nx+pl.up⟩ [] []with| .bad=>.bad| .ok L' H' pend _=>.ok L' (nT pend H')⟩
/- code -/
structure Dn(d:Nat) where f:Call->TT AV d->Hp->Rc d
def nH{d:Nat}:Rs d->Rc d
 | .bad=>.bad
 | .ok L H=>.ok .normal L H
def sI{d:Nat}(r:Rc d)(k:TT AV d->Hp->Rc d):Rc d:=
 match r with
 | .ok .normal L H=>k L H
 |r=>r
def qwc{d:Nat}(id:Nat)(r:Rc d):Rc d:=
 match r with
 | .ok (.exit id') L H=>bif Nat.beq id' id then .ok .normal L H else .ok (.exit id') L H
 |r=>r
def condC{d:Nat}(c:AV)(a b:Rc d):Rc d:=
 match c with
 | .bool true=>a
 | .bool false=>b
 |_=>.bad
def qsz{d:Nat}(b:TT AV d->Hp->Rc d)(n:Nat):TT AV d->Hp->Rc d:=
 Nat.rec (motive:=fun _=>TT AV d->Hp->Rc d) (fun _ _=>.bad) (fun _ ih L H=>sI (b L H) ih) n
def bZ:Nat:=1000000
def endLoop{d:Nat}(l:Nat)(r:R1)(L:TT AV d):Rc d:=
 match r with
 | .bad=>.bad
 | .ok _ H=>match H.get l with
  | .loop true none .. =>.ok .normal L (H.put l .dead)
  | .loop false (some .ret) .. =>.ok .ret L (H.put l .dead)
  | .loop false (some (.exit id)) .. =>.ok (.exit id) L (H.put l .dead)
  |_=>.bad
def lD:Code->Bool
 | .region _ ops _=> !(ops.toList.any rQ)
 | .seq a b=>lD a&&lD b
 | .cond _ a b=>lD a&&lD b
 | .block _ b=>lD b
 | .loop b=>lD b
 | .scope _=>false
 | .rangeFunc .. =>false
 |_=>true
def den(P:Program)(d n:Nat):Code->Dn d
 | .skip| .label _=>⟨fun _ L H=>.ok .normal L H⟩
 | .region _ ops false=>⟨fun O L H=>nH ((qF P d n ops ops.toList).f O L H)⟩
 | .region _ ops true=>match ql8 P d n ops with|⟨g⟩=>⟨fun O L H=>nH (g O L H)⟩
 | .seq a b=>⟨fun O L H=>sI ((den P d n a).f O L H) ((den P d n b).f O)⟩
 | .cond x a b=>match aJ d n x with|⟨g⟩=>⟨fun O L H=>condC (g L) ((den P d n a).f O L H) ((den P d n b).f O L H)⟩
 | .block id b=>⟨fun O L H=>qwc id ((den P d n b).f O L H)⟩
 | .loop b=>⟨fun O L H=>qsz ((den P d n b).f O) bZ L H⟩
 | .scope b=>den P d n b
 | .exit id=>⟨fun _ L H=>.ok (.exit id) L H⟩
 | .goto _=>⟨fun _ _ _=>.bad⟩
 | .ret=>⟨fun _ L H=>.ok .ret L H⟩
 | .rangeFunc f ps assign body=>match aJ d n f,lD assign&&lD body with
  |_,false=>⟨fun _ _ _=>.bad⟩
  |⟨g⟩,true=>⟨fun O L H=>endLoop H.nx (qj9 O (g L) [.yield H.nx] (aK H (.loop true none d n L ps.toList assign body))) L⟩
 | .refuse _=>⟨fun _ _ _=>.bad⟩
/- functions -/
structure Rv(d:Nat) where f:TT AV d->Hp->Option AV
def aBL(P:Program)(d n:Nat):ResultVar->Rv d
 | .tmp t=>match aJ d n (.tmp t)with|⟨g⟩=>⟨fun L _=>some (g L)⟩
 | .cell a t=>match aJ d n (.tmp a),qM P t,iM P t with
  |⟨g⟩,some true,some k=>⟨fun L H=>match dB k H (g L)with| .val v=>some v|_=>none⟩
  |⟨g⟩,some false,some _=>⟨fun L H=>match aN H (g L)with| .val v=>some v|_=>none⟩
  |_,_,_=>⟨fun _ _=>none⟩
structure RvL(d:Nat) where f:TT AV d->Hp->Option (List AV)
def ze1(P:Program)(d n:Nat):List ResultVar->RvL d
 | []=>⟨fun _ _=>some []⟩
 |x::r=>match aBL P d n x,ze1 P d n r with
  |⟨g⟩,⟨h⟩=>⟨fun L H=>match g L H,h L H with|some v,some l=>some (v::l)|_,_=>none⟩
def qb7(P:Program)(d n:Nat)(rs:List ResultVar):Rv d:=
 match rs with
 | [x]=>aBL P d n x
 |l=>match ze1 P d n l with|⟨h⟩=>⟨fun L H=>match h L H with|some l=>some (.bB l)|none=>none⟩
def aBG(O:Call)(l:List AV):Hp->Option Hp:=
 List.rec (motive:=fun _=>Hp->Option Hp) (fun H=>some H) (fun x _ ih H=>match x with
  | .fn g all []=>match O (.d g) all H with| .ok _ H'=>ih H'| .bad=>none
  |_=>none) l
def cO(v:Option AV)(H:Hp):R1:=match v with|some v=>.ok v H|none=>.bad
def iP{d:Nat}(n:Nat)(O:Call)(res:TT AV d->Hp->Option AV)(L:TT AV d)(H:Hp):R1:=
 match aBG O (dl ((dW d n).f L)) H with
 |some H'=>cO (res L H') H'
 |none=>.bad
def aDw{d:Nat}(n:Nat)(O:Call)(res:TT AV d->Hp->Option AV)(r:Rc d):R1:=
 match r with
 | .ok .normal L H=>iP n O res L H
 | .ok .ret L H=>iP n O res L H
 |_=>.bad
structure Fd where f:Call->List AV->Hp->R1
def aO(P:Program)(f:FuncId):Fd:=
 match P.funcs[f]? with
 |none=>⟨fun _ _ _=>.bad⟩
 |some fn=>if fn.name == "runtime.NumGoroutine" then⟨fun _ _ _=> .bad⟩else match fn.body with
  |none=>⟨fun _ _ _=>.bad⟩
  |some c=>
   match qb7 P (eF (fn.ntmps+1)) fn.ntmps fn.results.toList with
   |⟨res⟩=>⟨fun O args H=>bif Nat.ble args.length fn.ntmps&&Nat.ble (fn.ntmps+1) 262144 then aDw fn.ntmps O res ((den P (eF (fn.ntmps+1)) fn.ntmps c).f O (pE args 0 (same .undef _)) H)else .bad⟩
def qrf(P:Program)(f:FuncId):Bool:=
 match P.funcs[f]? with
 |some fn=>(match fn.body with|some c=>lD c|none=>false)
 |none=>false
def qfg{d:Nat}(L:TT AV d)(ps:List Tmp)(args:List AV):TT AV d:=
 match ps,args with
 |p::ps,a::as=>qfg ((setter d p).f L a) ps as
 |_,_=>L
def z3d:Ex->Option (Option Code)
 | .normal=>some none
 | .ret=>some (some .ret)
 | .exit id=>some (some (.exit id))
 | .goto _=>none
def endRound{d:Nat}(l:Nat)(r:Rc d):R1:=
 match r with
 | .bad=>.bad
 | .ok e _ H=>match z3d e with
  |none=>.bad
  |some j=>match H.get l with
   | .loop false none d n L ps assign body=>.ok (.bool j.isNone) (H.put l (.loop j.isNone j d n L ps assign body))
   |_=>.bad
def qg5(P:Program)(O:Call)(l:Nat)(args:List AV)(H:Hp):R1:=
 match H.get l with
 | .loop true none d n L ps assign body=>
  bif Nat.beq ps.length args.length&&ps.all (fun p=>Nat.blt p n)then
   match(den P d n assign).f O (qfg ((setter d n).f L .undef) ps args) H with
   | .ok .normal L1 H1=>match H1.get l with
    | .loop true none d' n' L' ps' oI body'=>endRound l ((den P d n body).f O L1 (H1.put l (.loop false none d' n' L' ps' oI body')))
    |_=>.bad
   |_=>.bad
  else .bad
 |_=>.bad
def qvx:R1->Bool
 | .ok (.bool b) _=>b
 |_=>false
end Go.Ev
end
noncomputable section
namespace Go.Ev
variable {α:Type}
def qrg(k:Nat)(t:Q α):α:=
 match k with
 |0=>t.c0|1=>t.c1|2=>t.c2|3=>t.c3|4=>t.c4|5=>t.c5|6=>t.c6|_=>t.c7
def aG5(k:Nat)(t:Q α)(v:α):Q α:=
 match k with
 |0=>{t with c0:=v}|1=>{t with c1:=v}|2=>{t with c2:=v}|3=>{t with c3:=v}
 |4=>{t with c4:=v}|5=>{t with c5:=v}|6=>{t with c6:=v}|_=>{t with c7:=v}
theorem xdo(i:Nat):Nat.land i 7=i%8:=by have:=Nat.and_two_pow_sub_one_eq_mod i 3;omega
theorem aLP(i:Nat):Nat.shiftRight i 3=i / 8:=by have:=Nat.shiftRight_eq_div_pow i 3;omega
theorem lt8{k:Nat}(h:k<8):k=0\/k=1\/k=2\/k=3\/k=4\/k=5\/k=6\/k=7:=by omega
theorem qds(d i:Nat)(t:TT α (d+1)):(dW (d+1) i).f t=(dW d (i / 8)).f (qrg (i%8) t):=by have e:dW (α:=α) (d+1) i=yT.rec (motive:=fun _=>yT α (d+1)) (fun g=>lK.rec (motive:=fun _=>yT α (d+1)) (fun s=>⟨fun t=>g (s t)⟩) (sel (TT α d) (Nat.land i 7))) (dW d (Nat.shiftRight i 3)):=rfl;rw[e,xdo,aLP];generalize dW (α:=α) d (i / 8)=g;cases g;cases t;rcases lt8 (lOK i (by decide:8>0))with h|h|h|h|h|h|h|h<;>rw[h]<;>rfl
theorem q74(d i:Nat)(t:TT α (d+1))(v:α):(setter (d+1) i).f t v=aG5 (i%8) t ((setter d (i / 8)).f (qrg (i%8) t) v):=by have e:setter (α:=α) (d+1) i=yC.rec (motive:=fun _=>yC α (d+1)) (fun g=>lF.rec (motive:=fun _=>yC α (d+1)) (fun s=>⟨fun t v=>s (fun c=>g c v) t⟩) (aOL (TT α d) (Nat.land i 7))) (setter d (Nat.shiftRight i 3)):=rfl;rw[e,xdo,aLP];generalize setter (α:=α) d (i / 8)=g;cases g;cases t;rcases lt8 (lOK i (by decide:8>0))with h|h|h|h|h|h|h|h<;>rw[h]<;>rfl
theorem zx2(k j:Nat)(a:k<8)(b:j<8)(t:Q α)(v:α):qrg k (aG5 j t v)=if k=j then v else qrg k t:=by
 rcases lt8 a with rfl|rfl|rfl|rfl|rfl|rfl|rfl|rfl <;>
  rcases lt8 b with rfl|rfl|rfl|rfl|rfl|rfl|rfl|rfl<;>simp[qrg,aG5]
theorem qeg(d:Nat):∀(i j:Nat) (t:TT α d) (v:α),i<8 ^ d->j<8 ^ d -> (dW d i).f ((setter d j).f t v)=if i=j then v else(dW d i).f t:=by
 induction d with
 |zero=>
  intro i j t v b c;have:i=j:=by simp at b c;omega
  subst this;rw[lEZ rfl];rfl
 |succ d ih=>
  intro i j t v b c;have e:(dW (d+1) i).f ((setter (d+1) j).f t v)=(dW d (i / 8)).f (if i%8=j%8 then(setter d (j / 8)).f (qrg (j%8) (t:Q (TT α d))) v else qrg (i%8) (t:Q (TT α d))):=by rw[qds,q74];exact congrArg _ (zx2 _ _ (lOK _ (by decide)) (lOK _ (by decide)) _ _)
  rw[e,qds];by_cases a:i%8=j%8
  ·rw[lEZ a,ih _ _ _ _ (by omega) (by omega)];by_cases f:i / 8=j / 8
   ·rw[lEZ f,lEZ (by omega)]
   ·rw[lEU f,lEU (by omega),a]
  ·rw[lEU a,lEU (by omega)]
theorem qgu(a:α)(d:Nat):∀ i,(dW d i).f (same a d)=a:=by
 induction d with
 |zero=>intro i;rfl
 |succ d ih=>
  intro i;rw[qds];have:qrg (i%8) (same a (d+1):Q (TT α d))=same a d:=by rcases lt8 (lOK i (by decide:8>0))with h|h|h|h|h|h|h|h<;>rw[h]<;>rfl
  rw[this,ih]
theorem qbz(n:Nat):n<=8 ^ eF n:=by
 unfold eF;simp only[cond_eq_ite,Nat.ble_eq];split
 ·omega
 split
 ·omega
 split
 ·omega
 split
 ·omega
 split
 ·omega
 split
 ·omega
 ·exact lON (Nat.lt_pow_self (by decide))
theorem zd0(n:Nat)(_:n<=262144):n<=8 ^ eF n:=qbz n
theorem zxq{d:Nat}(c:TT AV d)(o:Nat):xO c 0 o=[]:=rfl
theorem qy4{d:Nat}(c:TT AV d)(k o:Nat):xO c (k+1) o=(dW d o).f c::xO c k (o+1):=rfl
theorem qgq{d:Nat}(c:TT AV d)(k:Nat):∀ o,(xO c k o).length=k:=by
 induction k with
 |zero=>intro o;rfl
 |succ k ih=>intro o;rw[qy4,lEX,ih]
theorem zpe{d:Nat}(c:TT AV d)(k:Nat):∀ o i,i<k->(xO c k o)[i]? =some ((dW d (o+i)).f c):=by
 induction k with
 |zero=>intro o i h;omega
 |succ k ih=>
  intro o i h;rw[qy4];cases i with
  |zero=>rfl
  |succ i=>rw[lU3,ih _ _ (by omega),show o+1+i=o+(i+1)by omega]
theorem z7u{d:Nat}(o:Nat)(c:TT AV d):pE [] o c=c:=rfl
theorem zwx{d:Nat}(v:AV)(l:List AV)(o:Nat)(c:TT AV d):pE (v::l) o c=pE l (o+1) ((setter d o).f c v):=rfl
theorem qhp{d:Nat}(l:List AV):∀(o:Nat) (c:TT AV d) (i:Nat),o+l.length<=8 ^ d->i<8 ^ d -> (dW d i).f (pE l o c)=if o<=i/\i<o+l.length then l.getD (i-o) .undef else(dW d i).f c:=by
 induction l with
 |nil=>intro o c i _ _;rw[z7u,lEU (by simp)]
 |cons v l ih=>
  intro o c i h a;rw[lEX]at h;rw[zwx,ih _ _ _ (by omega) a,qeg _ _ _ _ _ a (by omega)];simp only[lEX];by_cases b:o+1<=i/\i<o+1+l.length
  ·rw[lEZ b,lEZ (by omega)];obtain⟨j,e⟩:∃ j,i-o=j+1:=⟨i-o-1,by omega⟩;rw[e,List.getD_cons_succ];congr 1;omega
  ·rw[lEU b];by_cases f:i=o
   ·simp_all
   ·rw[lEU f,lEU (by omega)]
end Go.Ev
end
noncomputable section
namespace Go.Ev
open Go.RowKit
structure Loc where
 (blk base ext z:Nat)
abbrev Im:=Nat->Option Loc
def qeu(n a:Nat)(s:ByteArray):Prop:=s.data.toList.length=n/\jY s.data.toList=a
mutual
def aR(ι:Im):AV->Value->Prop
 | .undef,V=>V=.tuple #[]
 | .lit v,V=>V=v
 | .bool b,V=>V=.bool b
 | .int k n,V=>V=.int k n
 | .str n a,V=>∃ s,V=.string s/\qeu n a s
 | .ptr b o,V=>∃ l,ι b=some l/\V=.pointer (some ⟨l.blk,l.base+o,none⟩)
 | .bS,V=>V=.pointer none
 | .sl b o len cap ex,V=>len<=cap/\∃ l,ι b=some l/\V=.slice (some ⟨l.blk,l.base+o,none⟩) len (if ex then cap else cap+l.ext)
 | .aA,V=>V=.slice none 0 0
 | .sle,V=>∃ a c,V=.slice (some a) 0 c
 | .map b,V=>∃ l,ι b=some l/\V=.map (some l.blk)
 | .eP,V=>V=.map none
 | .fn f first cap,V=>∃ F C,aL ι first F/\aL ι cap C/\V=.func (.func f) F.toArray C.toArray
 | .yield b,V=>∃ l,ι b=some l/\V=.func (.yield l.blk) #[] #[]
 | .jE,V=>V=.nilFunc
 | .iface t v,V=>∃ X,aR ι v X/\V=.iface t X
 | .oW,V=>V=.nilIface
 | .agg l,V=>∃ vs,aL ι l vs/\V=.agg vs.toArray/\∀ v∈vs,v.oneCell=true
 | .bB l,V=>∃ vs,aL ι l vs/\V=.tuple vs.toArray
def aL(ι:Im):List AV->List Value->Prop
 | [],vs=>vs=[]
 |a::l,vs=>∃ v r,vs=v::r/\aR ι a v/\aL ι l r
end
def Im.le(ι ι':Im):Prop:=∀ b l,ι b=some l->ι' b=some l
theorem Im.le_refl(ι:Im):ι.le ι:=fun _ _ h=>h
theorem Im.le_trans{a b c:Im}(h:a.le b)(k:b.le c):a.le c:=fun x l e=>k x l (h x l e)
mutual
theorem aR.mono{ι d:Im}(h:ι.le d):(v:AV)->(V:Value)->aR ι v V->aR d v V
 | .undef,V,hr| .lit _,V,hr| .bool _,V,hr| .int _ _,V,hr| .str _ _,V,hr| .bS,V,hr| .aA,V,hr| .sle,V,hr
 | .eP,V,hr| .jE,V,hr| .oW,V,hr=>by simpa only[aR] using hr
 | .ptr b o,V,hr=>by simp only[aR]at *;obtain⟨l,a,c⟩:=hr;exact⟨l,h _ _ a,c⟩
 | .sl b o len cap ex,V,hr=>by simp only[aR]at *;obtain⟨e,l,a,c⟩:=hr;exact⟨e,l,h _ _ a,c⟩
 | .map b,V,hr=>by simp only[aR]at *;obtain⟨l,a,c⟩:=hr;exact⟨l,h _ _ a,c⟩
 | .yield b,V,hr=>by simp only[aR]at *;obtain⟨l,a,c⟩:=hr;exact⟨l,h _ _ a,c⟩
 | .fn f first cap,V,hr=>by simp only[aR]at *;obtain⟨F,C,a,c,g⟩:=hr;exact⟨F,C,aL.mono h first F a,aL.mono h cap C c,g⟩
 | .iface t v,V,hr=>by simp only[aR]at *;obtain⟨X,a,c⟩:=hr;exact⟨X,aR.mono h v X a,c⟩
 | .agg l,V,hr=>by simp only[aR]at *;obtain⟨vs,a,c⟩:=hr;exact⟨vs,aL.mono h l vs a,c⟩
 | .bB l,V,hr=>by simp only[aR]at *;obtain⟨vs,a,c⟩:=hr;exact⟨vs,aL.mono h l vs a,c⟩
theorem aL.mono{ι b:Im}(h:ι.le b):(l:List AV)->(vs:List Value)->aL ι l vs->aL b l vs
 | [],vs,hr=>by simpa only[aL] using hr
 |a::l,vs,hr=>by simp only[aL]at *;obtain⟨v,r,c,d,e⟩:=hr;exact⟨v,r,c,aR.mono h a v d,aL.mono h l r e⟩
end
theorem aL.length{ι:Im}:∀{l:List AV} {vs:List Value},aL ι l vs->vs.length=l.length
 | [],vs,h=>by simp only[aL]at h;simp[h]
 |a::l,vs,h=>by simp only[aL]at h;obtain⟨v,r,rfl,_,b⟩:=h;simp[aL.length b]
theorem aL.get{ι:Im}:∀{l:List AV} {vs:List Value},aL ι l vs->∀(i:Nat) (a:AV),l[i]? =some a->∃ v,vs[i]? =some v/\aR ι a v
 | [],vs,h,i,a,hi=>by simp at hi
 |x::l,vs,h,i,a,hi=>by
  simp only[aL]at h;obtain⟨v,r,rfl,b,c⟩:=h;cases i with
  |zero=>simp at hi;subst hi;exact⟨v,rfl,b⟩
  |succ i=>simp at hi;obtain⟨d,e,f⟩:=aL.get c i a hi;exact⟨d,by simpa using e,f⟩
theorem aL.append{ι:Im}:∀{l m:List AV} {vs a:List Value},aL ι l vs->aL ι m a->aL ι (l++m) (vs++a)
 | [],m,vs,a,h,k=>by simp only[aL]at h;subst h;simpa using k
 |x::l,m,vs,a,h,k=>by simp only[aL]at h;obtain⟨v,r,rfl,b,c⟩:=h;simp only[lUS,aL];exact⟨v,r++a,rfl,b,aL.append c k⟩
theorem aL.drop{ι:Im}:∀{l:List AV} {vs:List Value} (n:Nat),aL ι l vs->aL ι (l.drop n) (vs.drop n)
 |l,vs,0,h=>by simpa using h
 | [],vs,n+1,h=>by simp only[aL]at h;subst h;simp[aL]
 |x::l,vs,n+1,h=>by simp only[aL]at h;obtain⟨v,r,rfl,b,a⟩:=h;simpa using aL.drop n a
theorem aL.take{ι:Im}:∀{l:List AV} {vs:List Value} (n:Nat),aL ι l vs->aL ι (l.take n) (vs.take n)
 |l,vs,0,h=>by simp[aL]
 | [],vs,n+1,h=>by simp only[aL]at h;subst h;simp[aL]
 |x::l,vs,n+1,h=>by simp only[aL]at h;obtain⟨v,r,rfl,a,b⟩:=h;simp only[lUP,aL];exact⟨v,r.take n,rfl,a,aL.take n b⟩
theorem aL.aA3{ι:Im}:∀{l:List AV} {vs:List Value},vs.length=l.length->(∀(i:Nat) (a:AV),l[i]? =some a->∃ v,vs[i]? =some v/\aR ι a v)->aL ι l vs
 | [],vs,h,_=>by simp only[aL];exact lIG.1 (by simpa using h)
 |x::l,[],h,_=>by simp at h
 |x::l,v::r,h,k=>by
  simp only[aL];refine⟨v,r,rfl,?_,aL.aA3 (by simpa using h) fun i a e=>?_⟩
  ·obtain⟨d,b,c⟩:=k 0 x rfl;simp at b;subst b;exact c
  ·obtain⟨d,b,c⟩:=k (i+1) a (by simpa using e);exact⟨d,by simpa using b,c⟩
theorem aL.singleton{ι:Im}{a:AV}{v:Value}(h:aR ι a v):aL ι [a] [v]:=by simp only[aL];exact⟨v,[],rfl,h,rfl⟩
def dQ(ι:Im):List oC->List MapEntry->Prop
 | [],es=>es=[]
 |x::l,es=>∃ e r,es=e::r/\aR ι x.key e.key/\aR ι x.val e.val/\e.born=x.born/\dQ ι l r
theorem dQ.mono{ι a:Im}(h:ι.le a):∀(l:List oC) (es:List MapEntry),dQ ι l es->dQ a l es
 | [],es,k=>k
 |x::l,es,k=>by simp only[dQ]at *;obtain⟨e,r,b,c,d,f,g⟩:=k;exact⟨e,r,b,aR.mono h _ _ c,aR.mono h _ _ d,f,dQ.mono h _ _ g⟩
structure LR(ι:Im)(d n:Nat)(L:TT AV d)(tmps:Array Value):Prop where
 size:tmps.size=n
 fits:n<8 ^ d
 get:∀ i,i<n->aR ι ((dW d i).f L) (tmps.getD i Go.undef)
theorem LR.fit{ι:Im}{d n:Nat}{L:TT AV d}{tmps:Array Value}(k:LR ι d n L tmps):n<=8 ^ d:=lON k.fits
theorem LR.mono{ι a:Im}{d n:Nat}{L:TT AV d}{tmps:Array Value}(h:ι.le a)(k:LR ι d n L tmps):LR a d n L tmps:=
 ⟨k.size,k.fits,fun i b=>aR.mono h _ _ (k.get i b)⟩
theorem LR.set{ι:Im}{d n:Nat}{L:TT AV d}{tmps:Array Value}(k:LR ι d n L tmps){t:Nat}(b:t<n){v:AV}{V:Value}(c:aR ι v V):LR ι d n ((setter d t).f L v) (tmps.setIfInBounds t V):=by
 have a:=k.size;have f:=k.fits;refine⟨by simp[a],f,fun i e=>?_⟩;rw[qeg _ _ _ _ _ (by omega) (by omega)];by_cases h:i=t
 ·subst h;rw[lEZ rfl];simp[a,b];exact c
 ·rw[lEU h];have:=k.get i e;simpa [Array.getElem?_setIfInBounds_ne (Ne.symm h)] using this
def BR(ι:Im)(w:World)(b:Nat):bX->Prop
 | .dead=>True
 | .cells d n c ro z=>∃ l,ι b=some l/\(n<=8 ^ d/\l.z=z) /\
   (∀i,i<n->∃ V,w.cell? ⟨l.blk,l.base+i,none⟩=some V/\aR ι ((dW d i).f c) V/\V.oneCell=true/\(ro=false->w.frozen? ⟨l.blk,l.base+i,none⟩=false)) /\
   (ro=false->∀ j,j<l.ext*l.z->∃ V,w.cell? ⟨l.blk,l.base+(n+j),none⟩=some V/\w.frozen? ⟨l.blk,l.base+(n+j),none⟩=false/\V.oneCell=true)
 | .map es clock=>∃ l ES,ι b=some l/\w.heap[l.blk]? =some (.map ES.toArray clock)/\dQ ι es ES
 | .rE m since pos=>∃ l r,ι b=some l/\l.base=0/\w.heap[l.blk]? =some (.mapIter r since (match pos with|0=> #[]|p+1=> #[p]) since) /\
   (match m with|0=>r=none|m'+1=>∃ lm,ι m'=some lm/\r=some lm.blk)
 | .loop ready pending d n L params assign body=>∃ l lp,ι b=some l/\w.heap[l.blk]? =some (.loop lp) /\
   lp.state=(if ready then .ready else if pending.isSome then .done else .busy)/\lp.pending=pending/\lp.params.toList=params/\lp.assign=assign/\lp.body=body/\LR ι d n L lp.tmps/\lD assign=true/\lD body=true
def bX.dU:bX->Bool
 | .dead=>true
 |_=>false
theorem bX.bL{b:bX}(h:b.wr=true):b.dU=false:=by cases b<;>simp_all [bX.wr,bX.dU]
def iJ(_:Nat):Prop:=True
theorem qL{b:Nat}:iJ b:=trivial
structure HR(ι:Im)(H:Hp)(w:World):Prop where
 top:iJ (H.nx)
 blk:∀ b,iJ (b)->BR ι w b (H.get b)
 low:∀ b l,iJ (b)->(H.get b).dU=false->ι b=some l->l.blk<w.heap.size
 inj:∀ b c l m,iJ (b)->iJ (c)->(H.get b).wr=true->(H.get c).dU=false->ι b=some l->ι c=some m->l.blk=m.blk->b=c
 fresh:∀ b,H.nx<=b->ι b=none
 free:∀ b,H.nx<=b->iJ (b)->H.get b=.dead
theorem HR.lt{ι:Im}{H:Hp}{w:World}(_:HR ι H w){b:Nat}{l:Loc}(_:ι b=some l):iJ (b):=by exact qL
structure Fr(ι ι':Im)(H H':Hp)(w w':World):Prop where
 le:ι.le ι'
 nx:H.nx<=H'.nx
 dom:∀ b,ι b=none->ι' b≠none->H.nx<=b
 os:w'.os=w.os
 tape:w'.tape=w.tape
 output:w'.output=w.output
 size:w.heap.size<=w'.heap.size
 keep:∀ c,c<w.heap.size->(∀b l,iJ (b)->(H.get b).wr=true->ι b=some l->l.blk≠c)->w'.heap[c]? =w.heap[c]?
 new:∀ b l,iJ (b)->(H'.get b).wr=true->ι' b=some l->w.heap.size<=l.blk\/∃ b0 l0,iJ (b0)/\(H.get b0).wr=true/\ι b0=some l0/\l0.blk=l.blk
 live:∀ b l,iJ (b)->(H'.get b).dU=false->ι' b=some l->w.heap.size<=l.blk\/∃ b0 l0,iJ (b0)/\(H.get b0).dU=false/\ι b0=some l0/\l0.blk=l.blk
theorem Fr.refl(ι:Im)(H:Hp)(w:World):Fr ι ι H H w w:=
 ⟨Im.le_refl _,lEO _,fun _ h k=>absurd h k,rfl,rfl,rfl,lEO _,fun _ _ _=>rfl,fun b l a c d=>.inr ⟨b,l,a,c,d,rfl⟩,fun b l a c d=>.inr ⟨b,l,a,c,d,rfl⟩⟩
theorem Fr.trans{ι v e:Im}{H B i:Hp}{w w' j:World}(f:Fr ι v H B w w')(g:Fr v e B i w' j):Fr ι e H i w j:=by
 refine⟨Im.le_trans f.le g.le,lI7 f.nx g.nx,fun b h k=>?_,g.os.trans f.os,g.tape.trans f.tape,g.output.trans f.output,lI7 f.size g.size,fun c C D=>?_,fun b l m n o=>?_,fun b l m n o=>?_⟩
 ·cases E:v b with
  |none=>exact lI7 f.nx (g.dom b E k)
  |some l=>exact f.dom b h (by simp[E])
 ·rw[g.keep c (af C f.size) ?_,f.keep c C D];intro b l m n o F;rcases f.new b l m n o with a|⟨p,q,a,r,s,t⟩
  ·omega
  ·exact D p q a r s (t.trans F)
 ·rcases g.new b l m n o with a|⟨p,q,a,r,s,t⟩
  ·exact .inl (lI7 f.size a)
  ·rcases f.new p q a r s with u|⟨x,y,u,z,A,d⟩
   ·exact .inl (by omega)
   ·exact .inr ⟨x,y,u,z,A,d.trans t⟩
 ·rcases g.live b l m n o with a|⟨p,q,a,r,s,t⟩
  ·exact .inl (lI7 f.size a)
  ·rcases f.live p q a r s with u|⟨x,y,u,z,A,d⟩
   ·exact .inl (by omega)
   ·exact .inr ⟨x,y,u,z,A,d.trans t⟩
theorem Fr.below{ι a:Im}{H c:Hp}{w w':World}(f:Fr ι a H c w w')(B:Nat)(i:B<=w.heap.size)(h:∀ b l,iJ (b)->(H.get b).wr=true->ι b=some l->B<=l.blk):Below B w w':=
 ⟨f.os,f.tape,f.output,f.size,fun k j=>f.keep k (by omega) fun b l d e g m=>by have:=h b l d e g;omega⟩
end Go.Ev
end
noncomputable section
namespace Go.Ev
open Go.RowKit
theorem qwb{w w':World}{a:Addr}(h:w'.heap[a.block]? =w.heap[a.block]?):w'.cell? a=w.cell? a:=by unfold World.cell?;rw[h]
theorem ql2{w w':World}{a:Addr}(h:w'.heap[a.block]? =w.heap[a.block]?):w'.frozen? a=w.frozen? a:=by unfold World.frozen?;rw[h]
theorem BR.keep{ι:Im}{w w':World}{b:Nat}{k:bX}(h:BR ι w b k)(o:∀ l,k.dU=false->ι b=some l->w'.heap[l.blk]? =w.heap[l.blk]?):BR ι w' b k:=by
 cases k with
 |dead=>trivial
 |cells d n c ro z=>
  obtain⟨l,f,g,m,t⟩:=h;have e:=o l rfl f;refine⟨l,f,g,fun i q=>?_,fun p j s=>?_⟩
  ·obtain⟨V,a,b,c,d⟩:=m i q;exact⟨V,by rw[qwb (w:=w) e];exact a,b,c,fun p=>by rw[ql2 (w:=w) e];exact d p⟩
  ·obtain⟨V,a,b⟩:=t p j s;exact⟨V,by rw[qwb (w:=w) e];exact a,by rw[ql2 (w:=w) e];exact b⟩
 |map es clock=>obtain⟨l,u,f,g,m⟩:=h;exact⟨l,u,f,by rw[o l rfl f];exact g,m⟩
 |rE=>obtain⟨l,r,f,v,g,m⟩:=h;exact⟨l,r,f,v,by rw[o l rfl f];exact g,m⟩
 |loop=>obtain⟨l,x,f,g,m⟩:=h;exact⟨l,x,f,by rw[o l rfl f];exact g,m⟩
theorem BR.mono{ι p:Im}{w:World}{b:Nat}{k:bX}(e:ι.le p)(h:BR ι w b k):BR p w b k:=by
 cases k with
 |dead=>trivial
 |cells d n c ro z=>obtain⟨l,g,j,f,o⟩:=h;refine⟨l,e _ _ g,j,fun i s=>?_,o⟩;obtain⟨V,a,b,c,d⟩:=f i s;exact⟨V,a,aR.mono e _ _ b,c,d⟩
 |map es clock=>obtain⟨l,t,g,j,f⟩:=h;exact⟨l,t,e _ _ g,j,dQ.mono e _ _ f⟩
 |rE m=>
  obtain⟨l,r,g,u,j,f⟩:=h;refine⟨l,r,e _ _ g,u,j,?_⟩;cases m with
  |zero=>exact f
  |succ m=>obtain⟨v,x,k2⟩:=f;exact⟨v,e _ _ x,k2⟩
 |loop=>obtain⟨l,y,g,j,f,o,A,B,C,q⟩:=h;exact⟨l,y,e _ _ g,j,f,o,A,B,C,q.1.mono e,q.2⟩
theorem BR.some{ι:Im}{w:World}{b:Nat}{k:bX}(h:BR ι w b k)(e:k.dU=false):∃ l,ι b=some l:=by
 cases k with
 |dead=>simp[bX.dU]at e
 |cells d n c ro z=>obtain⟨l,a,_⟩:=h;exact⟨l,a⟩
 |map es clock=>obtain⟨l,_,a,_⟩:=h;exact⟨l,a⟩
 |rE=>obtain⟨l,_,a,_⟩:=h;exact⟨l,a⟩
 |loop=>obtain⟨l,_,a,_⟩:=h;exact⟨l,a⟩
theorem xe3:8 ^ HD=2097152:=by decide
theorem Mem.get_put(m:Mem)(b c:Nat)(k:bX):(m.put b k).get c=if c=b then k else m.get c:=by
 unfold Mem.put Mem.get;cases g:Nat.blt b 2097152 with
 |true=>
  have d:b<8 ^ HD:=by rw[xe3];simp[Nat.blt]at g;omega
  cases a:Nat.blt c 2097152 with
  |true=>
   have f:c<8 ^ HD:=by rw[xe3];simp[Nat.blt]at a;omega
   exact qeg _ _ _ _ _ f d
  |false=>
   have:c≠b:=fun e=>by subst e;rw[g]at a;cases a
   simp_all
 |false=>
  cases a:Nat.blt c 2097152 with
  |true=>
   have:c≠b:=fun e=>by subst e;rw[g]at a;cases a
   simp_all
  |false=>
   show(bif Nat.beq c b then k else m.x c)=if c=b then k else m.x c
   by_cases e:c=b
   ·simp
   ·rw[lEU e];have:Nat.beq c b=false:=by
     cases h:Nat.beq c b with
     |false=>rfl
     |true=>exact absurd (lIL h) e
    rw[this];rfl
theorem Hp.get_put(H:Hp)(b c:Nat)(k:bX)(_:iJ (b))(_:iJ (c)):(H.put b k).get c=if c=b then k else H.get c:=by exact Mem.get_put H.t b c k
theorem HR.put{ι:Im}{H:Hp}{w w':World}(h:HR ι H w){b:Nat}(n:iJ (b))(g:(H.get b).wr=true){l:Loc}(t:ι b=some l)(k:bX)(z:w'.os=w.os)(r:w'.tape=w.tape)(o:w'.output=w.output)(size:w'.heap.size=w.heap.size)(p:∀ c,c≠l.blk->w'.heap[c]? =w.heap[c]?)(C:BR ι w' b k):HR ι (H.put b k) w'/\Fr ι ι H (H.put b k) w w':=by
 have j:=bX.bL g;refine⟨⟨h.top,fun c a=>?_,fun c m a d f=>?_,fun c s m u a i d f v x y=>?_,h.fresh,fun c a i=>?_⟩,
  ⟨Im.le_refl _,lEO _,fun c d f=>absurd d f,z,r,o,by omega,fun c a d=>p c fun e=>d b l n g t e.symm,fun c m a d f=>?_,fun c m a d f=>?_⟩⟩
 ·rw[Hp.get_put _ _ _ _ n a];by_cases e:c=b
  ·simp_all
  ·rw[lEU e];exact(h.blk c a).keep fun m A B=>p _ fun q=>e (h.inj b c l m n a g A t B q.symm).symm
 ·rw[Hp.get_put _ _ _ _ n a]at d;rw[size];by_cases e:c=b
  ·subst e;rw[t]at f;cases f;exact h.low c l a j t
  ·rw[lEU e]at d;exact h.low c m a d f
 ·rw[Hp.get_put _ _ _ _ n a]at d;rw[Hp.get_put _ _ _ _ n i]at f;by_cases e:c=b
  ·subst e;by_cases q:s=c
   ·omega
   ·rw[lEU q]at f;exact h.inj c s m u a i g f v x y
  ·rw[lEU e]at d;by_cases q:s=b
   ·subst q;exact h.inj c s m u a i d j v x y
   ·rw[lEU q]at f;exact h.inj c s m u a i d f v x y
 ·have f:=h.free c a i;rw[Hp.get_put _ _ _ _ n i];have:c≠b:=fun e=>by subst e;rw[f]at g;simp[bX.wr]at g
  simp_all
 ·rw[Hp.get_put _ _ _ _ n a]at d;by_cases e:c=b
  ·subst e;exact .inr ⟨c,m,a,g,f,rfl⟩
  ·rw[lEU e]at d;exact .inr ⟨c,m,a,d,f,rfl⟩
 ·rw[Hp.get_put _ _ _ _ n a]at d;by_cases e:c=b
  ·subst e;exact .inr ⟨c,m,a,j,f,rfl⟩
  ·rw[lEU e]at d;exact .inr ⟨c,m,a,d,f,rfl⟩
theorem HR.kill{ι:Im}{H:Hp}{w:World}(h:HR ι H w){b:Nat}(c:iJ (b))(a:(H.get b).wr=true):HR ι (H.put b .dead) w/\Fr ι ι H (H.put b .dead) w w:=by obtain⟨l,d⟩:=(h.blk b c).some (bX.bL a);exact h.put c a d .dead rfl rfl rfl rfl (fun _ _=>rfl) trivial
def Im.set(ι:Im)(b:Nat)(l:Loc):Im:=fun c=>if c=b then some l else ι c
theorem Im.bQ(ι:Im)(b:Nat)(l:Loc):(ι.set b l) b=some l:=by simp[Im.set]
theorem Im.eU(ι:Im){b c:Nat}(l:Loc)(h:c≠b):(ι.set b l) c=ι c:=by simp[Im.set,h]
theorem Im.jG{ι:Im}{b:Nat}(l:Loc)(h:ι b=none):ι.le (ι.set b l):=fun c m a=>by rw[Im.eU];exact a;intro e;subst e;rw[h]at a;cases a
theorem HR.add{ι:Im}{H:Hp}{w w':World}(h:HR ι H w){b nx':Nat}(C:iJ (b))(A:ι b=none)(D:H.get b=.dead)(y:H.nx<=nx')(u:iJ (nx'))(B:b<nx')(l:Loc)(k:bX)(size:w.heap.size<=w'.heap.size)(o:∀ c m,iJ (c)->(H.get c).dU=false->ι c=some m->w'.heap[m.blk]? =w.heap[m.blk]?)(p:k.dU=false->l.blk<w'.heap.size)(q:∀ c m,iJ (c)->(H.get c).dU=false->ι c=some m->m.blk≠l.blk)(E:BR (ι.set b l) w' b k):HR (ι.set b l) ⟨H.t.put b k,nx'⟩ w':=by
 have x:=Im.jG l A;have t:∀ c,iJ (c)->Hp.get ⟨H.t.put b k,nx'⟩ c=if c=b then k else H.get c:=fun c a=>by exact Mem.get_put H.t b c k
 refine⟨u,fun c a=>?_,fun c m a f g=>?_,fun c r m z a d f g s j v=>?_,fun c a=>?_,fun c a d=>?_⟩
 ·rw[t c a];by_cases e:c=b
  ·simp_all
  ·rw[lEU e];exact((h.blk c a).keep fun m f g=>o c m a f g).mono x
 ·rw[t c a]at f;by_cases e:c=b
  ·subst e;rw[lEZ rfl]at f;rw[Im.bQ]at g;cases g;exact p f
  ·rw[lEU e]at f;rw[Im.eU _ _ e]at g;exact af (h.low c m a f g) size
 ·rw[t c a]at f;rw[t r d]at g;by_cases e:c=b
  ·subst e;by_cases n:r=c
   ·omega
   ·rw[lEU n]at g;rw[Im.bQ]at s;cases s;rw[Im.eU _ _ n]at j;exact absurd v.symm (q r z d g j)
  ·rw[lEU e]at f;rw[Im.eU _ _ e]at s;by_cases n:r=b
   ·subst n;rw[Im.bQ]at j;cases j;exact absurd v (q c m a (bX.bL f) s)
   ·rw[lEU n]at g;rw[Im.eU _ _ n]at j;exact h.inj c r m z a d f g s j v
 ·have i:c≠b:=by simp only at a;omega
  rw[Im.eU _ _ i];exact h.fresh c (lI7 y a)
 ·have i:c≠b:=by simp only at a;omega
  rw[t c d,lEU i];exact h.free c (lI7 y a) d
theorem HR.push{ι:Im}{H:Hp}{w w':World}(h:HR ι H w)(j:iJ (H.nx))(l:Loc)(k:bX)(p:w'.os=w.os)(i:w'.tape=w.tape)(d:w'.output=w.output)(size:w.heap.size<w'.heap.size)(g:∀ c,c<w.heap.size->w'.heap[c]? =w.heap[c]?)(s:l.blk=w.heap.size)(q:BR (ι.set H.nx l) w' H.nx k):HR (ι.set H.nx l) (aK H k) w'/\Fr ι (ι.set H.nx l) H (aK H k) w w':=by
 have o:=h.fresh H.nx (lEO _);have r:=h.free H.nx (lEO _) j;refine⟨h.add j o r (Nat.le_succ _) j (lU6 _) l k (lON size) (fun c m f b a=>g _ (h.low c m f b a)) (fun _=>by omega)
  (fun c m f b a=>by have:=h.low c m f b a;omega) q,
  ⟨Im.jG l o,Nat.le_succ _,fun c b a=>?_,p,i,d,lON size,fun c f _=>g c f,fun c m f b a=>?_,fun c m f b a=>?_⟩⟩
 ·by_cases e:c=H.nx
  ·omega
  ·rw[Im.eU _ _ e]at a;exact absurd b a
 ·have n:(aK H k).get c=if c=H.nx then k else H.get c:=by exact Mem.get_put H.t H.nx c k
  by_cases e:c=H.nx
  ·subst e;rw[Im.bQ]at a;cases a;exact .inl (by omega)
  ·rw[n,lEU e]at b;rw[Im.eU _ _ e]at a;exact .inr ⟨c,m,f,b,a,rfl⟩
 ·have n:(aK H k).get c=if c=H.nx then k else H.get c:=by exact Mem.get_put H.t H.nx c k
  by_cases e:c=H.nx
  ·subst e;rw[Im.bQ]at a;cases a;exact .inl (by omega)
  ·rw[n,lEU e]at b;rw[Im.eU _ _ e]at a;exact .inr ⟨c,m,f,b,a,rfl⟩
/- stores -/
structure Wrote(w w':World)(blk off:Nat)(vs:List Value):Prop where
 os:w'.os=w.os
 tape:w'.tape=w.tape
 output:w'.output=w.output
 size:w'.heap.size=w.heap.size
 keep:∀ c,c≠blk->w'.heap[c]? =w.heap[c]?
 cell:∀ i,w'.cell? ⟨blk,i,none⟩=if off<=i/\i<off+vs.length then some (vs.getD (i-off) Go.undef)else w.cell? ⟨blk,i,none⟩
 frozen:∀ a,w'.frozen? a=w.frozen? a
theorem addr_add(b o i:Nat):Addr.add ⟨b,o,none⟩ i=⟨b,o+i,none⟩:=by
 unfold Addr.add;split
 ·subst_vars;rfl
 ·rfl
theorem qy0(P:Program)(w:World)(a:Addr)(v:Value){u:Value}(b:w.cell? a=some u)(c:w.frozen? a=false)(d:v.oneCell=true):(Go.store a v).run P w=.ok () (w.setCell a v):=by unfold Go.store;cases v<;>first|(simp[Value.oneCell]at d;done)|(simp only[Sem.run,b,c];rfl)
theorem qg6(P:Program)(b:Nat):∀(vs:List Value) (w:World) (o i:Nat), (∀j,j<vs.length->∃ u,w.cell? ⟨b,o+i+j,none⟩=some u/\w.frozen? ⟨b,o+i+j,none⟩=false)->(∀v∈vs,v.oneCell=true) -> ∃w',(storeCells ⟨b,o,none⟩ vs i).run P w=.ok () w'/\Wrote w w' b (o+i) vs:=by
 intro vs
 induction vs with
 |nil=>intro w o i _ _;exact⟨w,rfl,rfl,rfl,rfl,rfl,fun _ _=>rfl,fun j=>by rw[lEU (by simp)],fun _=>rfl⟩
 |cons v vs ih=>
  intro w o i l m;obtain⟨u,f,n⟩:=l 0 (by simp);simp only[lO7]at f n;obtain⟨w',t,d⟩:=ih (w.setCell ⟨b,o+i,none⟩ v) o (i+1) (fun j r=>by obtain⟨y,g,h⟩:=l (j+1) (by simpa using r);rw[show o+(i+1)+j=o+i+(j+1)by omega];refine⟨y,?_,by rw[World.frozen?_setCell];exact h⟩;rw[World.cell?_setCell_other];exact g;intro e;simp at e) (fun x s=>m x (by simp[s]));refine⟨w',?_,d.os,d.tape,d.output,by rw[d.size];simp,fun c k=>?_,fun j=>?_,fun a=>by rw[d.frozen];simp⟩
  ·unfold storeCells;rw[addr_add,Sem.run_bind,qy0 P w _ v f n (m v (by simp))];exact t
  ·rw[d.keep c k];exact Below.heap_setCell _ _ _ _ k
  ·rw[d.cell j];simp only[lEX];by_cases p:o+(i+1)<=j/\j<o+(i+1)+vs.length
   ·rw[lEZ p,lEZ (by omega)];obtain⟨q,z⟩:∃ q,j-(o+i)=q+1:=⟨j-(o+i)-1,by omega⟩;rw[z,List.getD_cons_succ,show j-(o+(i+1))=q by omega]
   ·rw[lEU p];by_cases A:j=o+i
    ·subst A;rw[lEZ (by omega),World.cell?_setCell_same w _ v f];simp
    ·rw[lEU (by omega),World.cell?_setCell_other];intro e;simp at e;omega
theorem run_loadCellsFrom(P:Program)(w:World)(b o:Nat):∀(vs:List Value) (i:Nat) (a:Array Value), (∀j (v:Value),vs[j]? =some v->w.cell? ⟨b,o+i+j,none⟩=some v) -> (loadCellsFrom ⟨b,o,none⟩ i vs.length a).run P w=.ok (a++vs.toArray) w:=by
 intro vs
 induction vs with
 |nil=>intro i a _;simp[loadCellsFrom]
 |cons v vs ih=>intro i a h;have c:=h 0 v rfl;simp only[lO7]at c;simp only[lEX,loadCellsFrom,Sem.run_bind,addr_add,run_load,c,Result.andThen_ok];rw[ih (i+1) _ fun j u d=>by have:=h (j+1) u (by simpa using d);rw[show o+(i+1)+j=o+i+(j+1)by omega];exact this];simp
theorem run_loadCells(P:Program)(w:World)(a o:Nat)(vs:List Value)(h:∀ j (v:Value),vs[j]? =some v->w.cell? ⟨a,o+j,none⟩=some v):(loadCells ⟨a,o,none⟩ vs.length).run P w=.ok vs.toArray w:=by unfold loadCells;rw[run_loadCellsFrom P w a o vs 0 #[] (by simpa using h)];simp
end Go.Ev
end
noncomputable section
namespace Go.Ev
open Go.RowKit
variable {P:Program} {w:World} {ι:Im}
theorem xA{a b:Nat}(h:Nat.blt a b=true):a<b:=lOW h
theorem zge{a b:Nat}(h:Nat.blt a b=false):¬ a<b:=fun k=>by have:Nat.blt a b=true:=lOH k;simp_all
theorem pM{a b:Nat}(h:Nat.ble a b=true):a<=b:=lOW h
theorem xen{a b:Nat}(h:Nat.ble a b=false):¬ a<=b:=fun k=>by have:=lOH k;simp_all
theorem yG{a b:Nat}(h:Nat.beq a b=true):a=b:=lIL h
theorem q85{a b:Nat}(h:Nat.beq a b=false):a≠b:=Nat.ne_of_beq_eq_false h
theorem dZ{t:TypeId}{d:TypeDesc}(h:P.underlying t=some d):(underlying t).run P w=.ok d w:=by simp[underlying,h]
theorem zph{t:TypeId}{i:TypeInfo}(h:P.info? t=some i):(typeInfo t).run P w=.ok i w:=by simp[typeInfo,h]
theorem qA{t:TypeId}{n:Nat}(h:iM P t=some n):(sizeOf t).run P w=.ok n w:=by
 unfold iM at h;cases a:P.info? t with
 |none=>simp[a]at h
 |some i=>simp[a]at h;simp[sizeOf,zph a,h]
theorem qy5{t:TypeId}{n:Nat}(h:qkb P t=some n):∃ i,(∀w,(typeInfo t).run P w=.ok i w)/\i.bytes=n:=by
 unfold qkb at h;cases a:P.info? t with
 |none=>simp[a]at h
 |some i=>simp[a]at h;exact⟨i,fun _=>zph a,h⟩
theorem qfz{t:TypeId}{b:Bool}(h:qM P t=some b):(isAgg t).run P w=.ok b w:=by
 unfold qM at h;cases a:P.underlying t with
 |none=>simp[a]at h
 |some d=>simp only[a,lY0,lI4]at h;unfold isAgg;rw[Sem.run_bind,dZ a];subst h;cases d<;>rfl
theorem qc8{t:TypeId}{z:Value}(h:(P.info? t).bind (·.zero)=some z):(zeroValue t).run P w=.ok z w:=by
 cases a:P.info? t with
 |none=>simp[a]at h
 |some i=>simp[a]at h;simp[zeroValue,zph a,h]
theorem zpw(v:Value)(h:aBO v=true):v.oneCell=true:=by cases v<;>simp_all [aBO,Value.oneCell]
theorem qle(v:Value):aR ι (qrn v) v:=by
 unfold qrn;split<;>simp only[aR]
 ·exact⟨_,rfl,rfl,rfl⟩
theorem qld:∀ l:List Value,aL ι (l.map qrn) l
 | []=>by simp[aL]
 |v::l=>by simp only[lUJ,aL];exact⟨v,l,rfl,qle v,qld l⟩
theorem qrm(v:Value):aR ι (zfb v) v:=by
 unfold zfb;split
 ·rename_i cs;cases h:cs.toList.all aBO with
  |false=>simp[aR]
  |true=>exact⟨cs.toList,qld _,by simp,fun v a=>zpw v (lOQ.1 h v a)⟩
 ·rfl
 ·exact qle _
theorem qs0{z:Value}{l:List AV}(h:qln z=some l):aL ι l z.cells.toList/\∀ v∈z.cells.toList,v.oneCell=true:=by
 unfold qln at h;split at h
 ·rename_i cs;cases b:cs.toList.all aBO with
  |false=>simp[b]at h
  |true=>simp[b]at h;subst h;exact⟨by simpa [Value.cells] using qld cs.toList,fun v a=>zpw v (lOQ.1 b v (by simpa [Value.cells] using a))⟩
 ·simp at h
 ·rename_i c d;simp at h;subst h;have e:z.cells= #[z]:=by unfold Value.cells;split<;>first|rfl|simp_all
  rw[e];refine⟨aL.singleton (qle z),fun v a=>?_⟩;simp at a;subst a;cases v<;>simp_all [Value.oneCell]
theorem qci{t:TypeId}{l:List AV}(h:qkg P t=some l):∃ z,(P.info? t).bind (·.zero)=some z/\aL ι l z.cells.toList/\∀ v∈z.cells.toList,v.oneCell=true:=by
 unfold qkg at h;cases a:(P.info? t).bind (·.zero)with
 |none=>simp[a]at h
 |some z=>rw[a]at h;exact⟨z,rfl,qs0 h⟩
theorem qzd{a:Im}{w':World}{nm:Nat}{l:List AV}{vs:List Value}{loc:Loc}(e:a nm=some loc)(f:aL a l vs)(g:∀ v∈vs,v.oneCell=true)(h:∀(i:Nat) (v:Value),vs[i]? =some v->w'.cell? ⟨loc.blk,loc.base+i,none⟩=some v/\w'.frozen? ⟨loc.blk,loc.base+i,none⟩=false)(k:∀ j,j<loc.ext*loc.z->∃ V,w'.cell? ⟨loc.blk,loc.base+(l.length+j),none⟩=some V/\w'.frozen? ⟨loc.blk,loc.base+(l.length+j),none⟩=false/\V.oneCell=true):BR a w' nm (aB loc.z l):=by
 have c:l.length<=8 ^ eF l.length:=qbz _;refine⟨loc,e,⟨c,rfl⟩,fun i b=>?_,fun _=>k⟩;rw[qhp _ _ _ _ (by omega) (by omega),lEZ (by omega)];have m:l[i]? =some (l.getD i .undef):=by simp[b]
 obtain⟨v,d,n⟩:=f.get i _ m;obtain⟨o,p⟩:=h i v d;exact⟨v,o,by simpa using n,g v (lIK d),fun _=>p⟩
structure New(w w':World)(l:Loc):Prop where
 os:w'.os=w.os
 tape:w'.tape=w.tape
 output:w'.output=w.output
 size:w'.heap.size=w.heap.size+1
 keep:∀ c,c<w.heap.size->w'.heap[c]? =w.heap[c]?
 blk:l.blk=w.heap.size
theorem New.alloc(w:World)(o:Obj)(e z:Nat):New w (w.alloc o) ⟨w.heap.size,0,e,z⟩:=
 ⟨rfl,rfl,rfl,by simp,fun c a=>Below.heap_alloc w o c a,rfl⟩
def iX(P:Program)(o:Oper)(ρ:Operand->Value)(ι:Im)(w:World)(nm:Nat):R0->Prop
 | .bad=>True
 | .val v=>∃ V,(execOp ρ o).run P w=.ok (.value V) w/\aR ι v V
 | .new v k=>∃ V w' l,(execOp ρ o).run P w=.ok (.value V) w'/\New w w' l/\∀ ι',ι.le ι'->ι' nm=some l->aR ι' v V/\BR ι' w' nm k
theorem qf4{l:List AV}{vs:List Value}(c:aL ι l vs)(d:∀ v∈vs,v.oneCell=true)(t:TypeId)(nm z:Nat):∀a,ι.le a->a nm=some ⟨w.heap.size,0,0,z⟩->BR a (w.alloc (.cells vs.toArray t)) nm (aB z l):=by intro a b g;refine qzd (loc:=⟨w.heap.size,0,0,z⟩) g (aL.mono b _ _ c) d (fun i v e=>?_) (fun j f=>by simp at f);simp[e]
theorem gJ{d n:Nat}{L:TT AV d}{a:Act}(h:LR ι d n L a.tmps)(x:Operand):aR ι ((aJ d n x).f L) (a.eval x):=by
 cases x with
 |tmp t=>
  simp only[aJ];cases c:Nat.blt t n with
  |true=>have b:=xA c;have:=h.get t b;trivial
  |false=>
   have b:=zge c;simp only[lOZ,aR,Act.eval];have:a.tmps.size<=t:=by rw[h.size];omega
   simp[lXR this,Go.undef]
 |const v=>exact qrm v
 |global g=>simp[aJ,aR,Act.eval]
 |func f=>simp only[aJ,aR,Act.eval];exact⟨[],[],by simp[aL],by simp[aL],rfl⟩
theorem qcz{d n:Nat}{L:TT AV d}{a:Act}(h:LR ι d n L a.tmps):∀ l:List Operand,aL ι ((wK d n l).f L) (l.map a.eval)
 | []=>by simp[wK,aL]
 |x::l=>by exact⟨_,_,rfl,gJ h x,qcz h l⟩
theorem z2v{o:Oper}{a:Act}{x:Operand}{nm:Nat}(b:o.op=.move x\/o.op=.assign x){d n:Nat}{L:TT AV d}(h:LR ι d n L a.tmps):iX P o a.eval ι w nm (.val ((aJ d n x).f L)):=by refine⟨a.eval x,?_,gJ h x⟩;rcases b with b|b<;>simp[execOp,b]
theorem xcr{o:Oper}{a:Act}{c x y:Operand}{nm:Nat}(f:o.op=.pick c x y){d n:Nat}{L:TT AV d}(h:LR ι d n L a.tmps):iX P o a.eval ι w nm (dH ((aJ d n c).f L) ((aJ d n x).f L) ((aJ d n y).f L)):=by
 have b:=gJ h c;unfold dH;split
 ·rename_i e;rw[e]at b;simp only[aR]at b;exact⟨_,by simp[execOp,f,asBool,b],gJ h x⟩
 ·rename_i e;rw[e]at b;simp only[aR]at b;exact⟨_,by simp[execOp,f,asBool,b],gJ h y⟩
 ·trivial
theorem z9g{o:Oper}{ρ:Operand->Value}{t:TypeId}{nm:Nat}(c:o.op=.alloc t){z:List AV}(d:qkg P t=some z):iX P o ρ ι w nm (.new (.ptr nm 0) (aB 0 z)):=by
 obtain⟨f,g,h,i⟩:=qci (ι:=ι) d;refine⟨.pointer (some ⟨w.heap.size,0,none⟩),_,⟨w.heap.size,0,0,0⟩,?_,New.alloc w (.cells f.cells.toList.toArray t) 0 0,fun e a b=>⟨?_,qf4 h i t nm 0 e a b⟩⟩
 ·simp only[execOp,c,Instr.alloc,Sem.run_bind,qc8 g,Result.andThen_ok,newVar,newRow];simp
 ·simp only[aR];exact⟨_,b,rfl⟩
def AV.plain:AV->Bool
 | .agg _| .bB _| .undef| .lit _=>false
 |_=>true
theorem aR.one{v:AV}{V:Value}(h:aR ι v V)(a:v.plain=true):V.oneCell=true/\V.cells= #[V]:=by
 cases v<;>first|(simp[AV.plain]at a;done)|skip
 all_goals simp only[aR]at h
 all_goals first
  |(subst h;exact⟨rfl,rfl⟩)
  |(obtain⟨_,rfl,_⟩:=h;exact⟨rfl,rfl⟩)
  |(obtain⟨_,_,rfl⟩:=h;exact⟨rfl,rfl⟩)
  |(obtain⟨_,_,_,rfl⟩:=h;exact⟨rfl,rfl⟩)
  |(obtain⟨_,_,_,_,rfl⟩:=h;exact⟨rfl,rfl⟩)
theorem xcx{o:Oper}{a:Act}{t:TypeId}{x:Operand}{nm:Nat}(f:o.op=.box t x){d n:Nat}{L:TT AV d}(h:LR ι d n L a.tmps):iX P o a.eval ι w nm (mX nm ((aJ d n x).f L)):=by
 have e:=gJ h x;unfold mX;split<;>first|trivial|skip
 rename_i j k q l;have i:((aJ d n x).f L).plain=true:=by
  unfold AV.plain;split
  ·simp_all
  ·simp_all
  ·trivial
  ·simp_all
  ·rfl
 obtain⟨m,p⟩:=e.one i;refine⟨.pointer (some ⟨w.heap.size,0,none⟩),_,⟨w.heap.size,0,0,0⟩,?_,New.alloc w (.cells [a.eval x].toArray t) 0 0,fun g b c=>⟨?_,qf4 (aL.singleton e) (by simpa using m) t nm 0 g b c⟩⟩
 ·simp[execOp,f,Instr.box,newVar,newRow,p]
 ·simp only[aR];exact⟨_,c,rfl⟩
end Go.Ev
end
noncomputable section
namespace Go.Ev
open Go.RowKit
variable {P:Program} {w:World} {ι:Im} {o:Oper} {a:Act} {nm:Nat} {d n:Nat} {L:TT AV d} {H:Hp}
theorem xcw{t:TypeId}{x:Operand}(g:o.op=.box t x)(k:Nat)(h:LR ι d n L a.tmps):iX P o a.eval ι w nm (zG k nm ((aJ d n x).f L)):=by
 have c:=gJ h x;unfold zG;split
 ·rename_i l e;rw[e]at c;simp only[aR]at c;obtain⟨vs,j,m,p⟩:=c;cases Nat.beq l.length k with
  |false=>trivial
  |true=>
   refine⟨.pointer (some ⟨w.heap.size,0,none⟩),_,⟨w.heap.size,0,0,0⟩,?_,New.alloc w (.cells vs.toArray t) 0 0,fun i b f=>⟨?_,qf4 j p t nm 0 i b f⟩⟩
   ·simp[execOp,g,Instr.box,newVar,newRow,m,Value.cells]
   ·simp only[aR];exact⟨_,f,rfl⟩
 ·trivial
/- loads -/
theorem q2h{b:Nat}{k:bX}(e:BR ι w b k){i:Nat}{v:AV}(h:bI k i=.val v):∃ l V,ι b=some l/\w.cell? ⟨l.blk,l.base+i,none⟩=some V/\aR ι v V/\V.oneCell=true:=by
 cases k with
 |cells d n c ro z=>
  obtain⟨l,g,j,f,_⟩:=e;simp only[bI]at h;cases a:Nat.blt i n with
  |false=>rw[a]at h;cases h
  |true=>rw[a]at h;simp only[lII,R0.val.injEq]at h;subst h;obtain⟨V,m,o,p,_⟩:=f i (xA a);simp_all
 |_=>simp[bI]at h
theorem q8b(k:bX)(i:Nat):bI k i=.bad\/∃ v,bI k i=.val v:=by
 cases k with
 |cells d n c ro z=>
  cases a:Nat.blt i n with
  |false=>left;simp[bI,a]
  |true=>right;exact⟨_,by simp[bI,a];rfl⟩
 |_=>left;rfl
theorem qfy{b:Nat}{k:bX}(s:BR ι w b k){i m:Nat}{l:List AV}(h:iF k i m=some l):l.length=m/\(m=0\/∃ loc vs,ι b=some loc/\aL ι l vs/\vs.length=m/\(∀v∈vs,v.oneCell=true)/\∀(j:Nat) (v:Value),vs[j]? =some v->w.cell? ⟨loc.blk,loc.base+i+j,none⟩=some v):=by
 cases k with
 |cells d n c ro z=>
  obtain⟨loc,u,D,y,_⟩:=s;simp only[iF]at h;cases q:Nat.ble (i+m) n with
  |false=>rw[q]at h;cases h
  |true=>
   rw[q]at h;simp only[lII,lI4]at h;subst h;refine⟨qgq _ _ _,.inr ?_⟩;have t:=pM q;have o:∀ j,j<m->∃ V,w.cell? ⟨loc.blk,loc.base+(i+j),none⟩=some V/\aR ι ((dW d (i+j)).f c) V/\V.oneCell=true:=fun j a=>by obtain⟨V,A,B,C,_⟩:=y (i+j) (by omega);exact⟨V,A,B,C⟩
   obtain⟨f,r⟩:∃ f:Nat->Value,∀j,j<m->w.cell? ⟨loc.blk,loc.base+(i+j),none⟩=some (f j)/\aR ι ((dW d (i+j)).f c) (f j)/\(f j).oneCell=true:=by refine⟨fun j=>if a:j<m then Classical.choose (o j a)else .nilFunc,fun j a=>?_⟩;simp only[a,dif_pos];exact lIR (o j a)
   refine⟨loc,(List.range m).map f,u,aL.aA3 (by simp[qgq]) fun j x p=>?_,by simp,fun v g=>?_,fun j v g=>?_⟩
   ·have a:j<m:=by
     rcases lOI j m with e|e
     ·exact e
     ·rw[lUM (by rw[qgq];exact e)]at p;cases p
    rw[zpe _ _ _ _ a]at p;cases p;simp_all
   ·simp at g;obtain⟨j,a,rfl⟩:=g;exact(r j a).2.2
   ·have a:j<m:=by
     rcases lOI j m with e|e
     ·exact e
     ·simp_all
    simp[a]at g;subst g;rw[lIP];exact(r j a).1
 |_=>simp[iF]at h
theorem z9a{t:TypeId}{x:Operand}(m:o.op=.load t x)(p:qM P t=some false)(g:HR ι H w)(h:LR ι d n L a.tmps):iX P o a.eval ι w nm (aN H ((aJ d n x).f L)):=by
 have f:=gJ h x;unfold aN;split
 ·rename_i b i e;rw[e]at f;simp only[aR]at f;obtain⟨l,j,q⟩:=f;rcases q8b (H.get b) i with c|⟨v,c⟩
  ·rw[c];trivial
  ·rw[c];obtain⟨u,V,k,r,s,_⟩:=q2h (g.blk b (g.lt j)) c;rw[j]at k;cases k;exact⟨V,by simp[execOp,m,Instr.loadAt,q,Instr.sureAddr,loadVar,qfz p,r],s⟩
 ·trivial
theorem z88{t:TypeId}{x:Operand}(s:o.op=.load t x)(u:qM P t=some true){k:Nat}(y:iM P t=some k)(q:HR ι H w)(h:LR ι d n L a.tmps):iX P o a.eval ι w nm (dB k H ((aJ d n x).f L)):=by
 have p:=gJ h x;unfold dB;split
 ·rename_i b i e;rw[e]at p;simp only[aR]at p;obtain⟨l,r,z⟩:=p;cases E:iF (H.get b) i k with
  |none=>trivial
  |some cs=>
   obtain⟨f,A⟩:=qfy (q.blk b (q.lt r)) E;have c:∀ vs:List Value,vs.length=k->(∀(j:Nat) (v:Value),vs[j]? =some v->w.cell? ⟨l.blk,l.base+i+j,none⟩=some v)->(execOp a.eval o).run P w=.ok (.value (.agg vs.toArray)) w:=fun vs g m=>by have:=run_loadCells P w l.blk (l.base+i) vs m;rw[g]at this;simp[execOp,s,Instr.loadAt,z,Instr.sureAddr,loadVar,qfz u,qA y,this]
   rcases A with rfl|⟨loc,vs,g,m,B,C,D⟩
   ·have:cs=[]:=lIG.1 f;subst this;exact⟨_,c [] rfl (by simp),by simp only[aR];exact⟨[],by simp[aL],rfl,by simp⟩⟩
   ·rw[r]at g;cases g;exact⟨_,c vs B D,by simp only[aR];exact⟨vs,m,rfl,C⟩⟩
 ·trivial
theorem ze5{x:Operand}(i:o.op=.nilCheck x)(h:LR ι d n L a.tmps):iX P o a.eval ι w nm (match(aJ d n x).f L with| .ptr b o=>.val (.ptr b o)| .fn a b c=>.val (.fn a b c)| .yield l=>.val (.yield l)|_=>.bad):=by
 have f:=gJ h x;split
 ·rename_i e;rw[e]at f;refine⟨a.eval x,?_,f⟩;simp only[aR]at f;obtain⟨l,_,g⟩:=f;simp[execOp,i,g]
 ·rename_i e;rw[e]at f;refine⟨a.eval x,?_,f⟩;simp only[aR]at f;obtain⟨F,C,_,_,g⟩:=f;simp[execOp,i,g]
 ·rename_i e;rw[e]at f;refine⟨a.eval x,?_,f⟩;simp only[aR]at f;obtain⟨l,_,g⟩:=f;simp[execOp,i,g]
 ·trivial
theorem q8c{s:TypeId}{x:Operand}{f:Nat}(k:o.op=.fieldAddr s x f){j:Array Field}(m:P.underlying s=some (.struct j)){c:Field}(p:j[f]? =some c){z:Nat}(q:iM P c.type=some (z+1))(h:LR ι d n L a.tmps):iX P o a.eval ι w nm (aP c.offset ((aJ d n x).f L)):=by
 have g:=gJ h x;unfold aP;split
 ·rename_i b i e;rw[e]at g;simp only[aR]at g;obtain⟨l,r,t⟩:=g;refine⟨.pointer (some ⟨l.blk,l.base+(i+c.offset),none⟩),?_,by simp only[aR];exact⟨l,r,rfl⟩⟩;simp[execOp,k,Instr.fieldAt,dZ m,p,t,Instr.sureAddr,fieldPlace,qA q,addr_add,lIP]
 ·trivial
theorem xcu{t e:TypeId}{x y:Operand}(m:o.op=.indexAddr t x y)(p:P.underlying t=some (.slice e)){z:Nat}(q:iM P e=some z)(h:LR ι d n L a.tmps):iX P o a.eval ι w nm (aG z ((aJ d n x).f L) ((aJ d n y).f L)):=by
 have c:=gJ h x;have f:=gJ h y;unfold aG;split
 ·rename_i b i len r C k j s u;rw[s]at c;rw[u]at f;simp only[aR]at c f;obtain⟨_,l,v,A⟩:=c;cases B:Nat.blt j len with
  |false=>trivial
  |true=>have g:=xA B;refine⟨.pointer (some ⟨l.blk,l.base+(i+j*z),none⟩),?_,by simp only[aR];exact⟨l,v,rfl⟩⟩;simp[execOp,m,Instr.indexAt,f,A,asIntOf,dZ p,qA q,g,addr_add,lIP]
 ·trivial
theorem xcv{t e:TypeId}{x y:Operand}(m:o.op=.indexAddr t x y){len:Nat}(p:P.underlying t=some (.array len e)){z:Nat}(q:iM P e=some z)(h:LR ι d n L a.tmps):iX P o a.eval ι w nm (gH len z ((aJ d n x).f L) ((aJ d n y).f L)):=by
 have c:=gJ h x;have f:=gJ h y;unfold gH;split
 ·rename_i b i k j r s;rw[r]at c;rw[s]at f;simp only[aR]at c f;obtain⟨l,u,v⟩:=c;cases A:Nat.blt j len with
  |false=>trivial
  |true=>have g:=xA A;refine⟨.pointer (some ⟨l.blk,l.base+(i+j*z),none⟩),?_,by simp only[aR];exact⟨l,u,rfl⟩⟩;simp[execOp,m,Instr.indexAt,f,v,asIntOf,dZ p,qA q,g,addr_add,lIP,Instr.sureAddr]
 ·trivial
theorem zy5{a b:IntKind}(h:xW a b=true):a=b:=by cases a<;>cases b<;>first|rfl|(simp[xW,zqr]at h)
theorem qes(a b:Int):sK a b=(a==b):=by rw[Bool.eq_iff_iff];cases a<;>cases b<;>simp[sK,Nat.beq_eq];omega
theorem zP(k:IntKind)(n:Int):aR ι (.int k n) (.int k n):=by simp only[aR]
theorem qy2(b:Bool):aR ι (.bool b) (.bool b):=by simp only[aR]
theorem qd4(a b:Int):p9 a b=decide (a<b):=by
 have c:∀ m n:Nat,Nat.blt m n=decide (m<n):=fun m n=>by
  cases h:Nat.blt m n with
  |true=>simp[xA h]
  |false=>simp[zge h]
 cases a with
 |ofNat m=>cases b with
  |ofNat n=>simp[p9,c]
  |negSucc n=>simp[p9];omega
 |negSucc m=>cases b with
  |ofNat n=>simp[p9];omega
  |negSucc n=>simp only[p9,c];congr 1;simp;omega
theorem zq1{k:IntKind}{n:Int}(h:qzp k n=true):k.wrap n=n:=by
 cases n with
 |ofNat m=>
  cases k<;>simp only[qzp]at h<;>have h:=xA h
  ·exact IntWalk.i8_in _ (by simp only[lIA];omega)
  ·exact IntWalk.i16_in _ (by simp only[lIA];omega)
  ·exact IntWalk.i32_in _ (by simp only[lIA];omega)
  ·exact IntWalk.i64_in _ (by simp only[lIA];omega)
  ·exact IntWalk.u8_in _ (by simp only[lIA];omega)
  ·exact IntWalk.u16_in _ (by simp only[lIA];omega)
  ·exact IntWalk.u32_in _ (by simp only[lIA];omega)
  ·exact IntWalk.u64_in _ (by simp only[lIA];omega)
 |negSucc m=>
  cases k<;>simp only[qzp]at h<;>first|(cases h;done)|have h:=xA h
  ·exact IntWalk.i8_in _ (by omega)
  ·exact IntWalk.i16_in _ (by omega)
  ·exact IntWalk.i32_in _ (by omega)
  ·exact IntWalk.i64_in _ (by omega)
theorem qkc(k:IntKind)(n:Int):vZ k n=k.wrap n:=by
 unfold vZ;cases h:qzp k n with
 |true=>simp[zq1 h]
 |false=>rfl
theorem q76{b:BinOp}{t ty:TypeId}{x y:Operand}(c:o.op=.binOp b t x y ty){k:IntKind}{m p:Int}(d:a.eval x=.int k m)(e:a.eval y=.int k p):(execOp a.eval o).run P w=((binOp b t (.int k m) (.int k p)).run P w).andThen fun v w=>.ok (.value v) w:=by simp only[execOp,c,d,e,eqGuard];simp
theorem zqu{b:BinOp}{t ty:TypeId}{x y:Operand}(g:o.op=.binOp b t x y ty)(c:b≠ .shl/\b≠ .shr){k:IntKind}{m p:Int}(h:a.eval x=.int k m)(i:a.eval y=.int k p):iX P o a.eval ι w nm ((lS b).f k m p):=by
 have e:=q76 (P:=P) (w:=w) g h i;cases b<;>simp only[lS]
 case shl=>exact absurd rfl c.1
 case shr=>exact absurd rfl c.2
 case quo|rem=>
  cases f:sK p 0 with
  |true=>trivial
  |false=>
   have d:p≠0:=by rw[qes]at f;simpa using f
   refine⟨_,?_,zP _ _⟩;rw[e];simp[binOp,Op.intDiv,d,qkc]
 all_goals
  refine⟨_,?_,by first|exact zP _ _|exact qy2 _⟩;rw[e];simp[binOp,Op.intArith,Op.intBits,Op.intCmp,qkc,qes,qd4]
 all_goals first|rfl|(rw[<-decide_not];congr 1;simp)
theorem aKB{b:BinOp}{t ty:TypeId}{x y:Operand}(g:o.op=.binOp b t x y ty)(c:b≠ .shl/\b≠ .shr)(h:LR ι d n L a.tmps):iX P o a.eval ι w nm (fO (lS b).f ((aJ d n x).f L) ((aJ d n y).f L)):=by
 have e:=gJ h x;have f:=gJ h y;unfold fO;split
 ·rename_i k m i p j l;rw[j]at e;rw[l]at f;simp only[aR]at e f;cases q:xW k i with
  |false=>trivial
  |true=>have:=zy5 q;subst this;exact zqu g c e f
 ·trivial
theorem zpk{b:BinOp}{t ty:TypeId}{x y:Operand}(j:o.op=.binOp b t x y ty)(c:b=.shl\/b=.shr)(h:LR ι d n L a.tmps):iX P o a.eval ι w nm (q1x (qjt b).f ((aJ d n x).f L) ((aJ d n y).f L)):=by
 have e:=gJ h x;have f:=gJ h y;unfold q1x;split
 ·rename_i k m q p r s;rw[r]at e;rw[s]at f;simp only[aR]at e f;have l:(execOp a.eval o).run P w=((binOp b t (.int k m) (.int q p)).run P w).andThen fun v w=>.ok (.value v) w:=by
   simp only[execOp,j,e,f,eqGuard];simp
  rcases c with rfl|rfl<;>simp only[qjt]
  all_goals
   cases i:p9 p 0 with
   |true=>trivial
   |false=>
    have g:¬ p<0:=by rw[qd4]at i;simpa using i
    refine⟨_,?_,zP _ _⟩;rw[l];simp[binOp,Op.shift,g,qkc]
 ·trivial
theorem aYF{c:UnOp}{t:TypeId}{x:Operand}(f:o.op=.unOp c t x)(h:LR ι d n L a.tmps):iX P o a.eval ι w nm ((kE c).f ((aJ d n x).f L)):=by
 have b:=gJ h x;cases c<;>simp only[kE]<;>first|trivial|skip
 ·split
  ·rename_i e;rw[e]at b;simp only[aR]at b;exact⟨_,by simp[execOp,f,b,Op.unary,Op.intArith,qkc],zP _ _⟩
  ·trivial
 ·split
  ·rename_i e;rw[e]at b;simp only[aR]at b;exact⟨_,by simp[execOp,f,b,Op.unary],qy2 _⟩
  ·trivial
theorem z9e{s t:TypeId}{x:Operand}(c:o.op=.convert s t x){ds:TypeDesc}(f:P.underlying s=some ds){k:IntKind}(g:P.underlying t=some (.int k))(h:LR ι d n L a.tmps):iX P o a.eval ι w nm (q80 k ((aJ d n x).f L)):=by
 have b:=gJ h x;unfold q80;split
 ·rename_i e;rw[e]at b;simp only[aR]at b;exact⟨_,by simp[execOp,c,b,convert,dZ f,dZ g,Conv.intToInt,qkc],zP _ _⟩
 ·trivial
theorem z9d{s t:TypeId}{x:Operand}(c:o.op=.convert s t x)(f:P.underlying s=some .string)(g:P.underlying t=some .string)(h:LR ι d n L a.tmps):iX P o a.eval ι w nm (match(aJ d n x).f L with| .str n a=>.val (.str n a)|_=>.bad):=by
 have b:=gJ h x;split
 ·rename_i e;rw[e]at b;refine⟨a.eval x,?_,b⟩;obtain⟨z,i,_⟩:=b;simp[execOp,c,i,convert,dZ f,dZ g]
 ·trivial
theorem qra{t:TypeId}{x:Operand}(c:o.op=.makeInterface t x){b:TypeDesc}(e:P.underlying t=some b)(f:∀ ms,b≠ .interface ms)(h:LR ι d n L a.tmps):iX P o a.eval ι w nm (.val (.iface t ((aJ d n x).f L))):=by refine⟨.iface t (a.eval x),?_,by simp only[aR];exact⟨_,gJ h x,rfl⟩⟩;simp only[execOp,c,Instr.makeInterface,Sem.run_bind,dZ e,Result.andThen_ok];rfl
theorem ze6{f:FuncId}{first b:Array Operand}(c:o.op=.makeFunc (.func f) first b)(h:LR ι d n L a.tmps):iX P o a.eval ι w nm (.val (.fn f ((wK d n first.toList).f L) ((wK d n b.toList).f L))):=by refine⟨.func (.func f) (first.map a.eval) (b.map a.eval),by simp[execOp,c,Instr.makeFunc],?_⟩;exact⟨_,_,qcz h _,qcz h _,by rw[<-lUZ,<-lUZ]⟩
theorem zpl{t:TypeId}(c:o.op=.makeMap t none):iX P o a.eval ι w nm (.new (.map nm) (.map [] 0)):=by
 refine⟨.map (some w.heap.size),w.alloc (.map #[] 0),⟨w.heap.size,0,0,0⟩,?_,New.alloc w _ 0 0,fun e d b=>⟨by simp only[aR];exact⟨_,b,rfl⟩,⟨_,[],b,?_,by simp[dQ]⟩⟩⟩
 ·simp[execOp,c,Instr.makeMap]
 ·show(w.heap.push _)[w.heap.size]? =_;simp
theorem zpm{x:Operand}{i:Nat}(c:o.op=.extract x i)(h:LR ι d n L a.tmps):iX P o a.eval ι w nm (match(aJ d n x).f L with
   | .bB l=>match l[i]? with|some v=>.val v|none=>.bad
   |_=>.bad):=by
 have b:=gJ h x;split
 ·rename_i l e;rw[e]at b;simp only[aR]at b;obtain⟨vs,f,g⟩:=b;split
  ·rename_i v j;obtain⟨V,k,m⟩:=f.get i v j;exact⟨V,by simp[execOp,c,g,Instr.extract,k],m⟩
  ·trivial
 ·trivial
theorem qgl(s:ByteArray):s.toList=s.data.toList:=ByteArray.toList_eq s
theorem qbw(b:UInt8)(l:List UInt8):jY (b::l)=jY l*256+b.toNat:=rfl
theorem qoc:jY []=0:=rfl
theorem qlo(b:UInt8):b.toNat<256:=b.toNat_lt
theorem pack_inj:∀{l m:List UInt8},l.length=m.length->jY l=jY m->l=m
 | [],[],_,_=>rfl
 | [],_::_,h,_=>by simp at h
 |_::_,[],h,_=>by simp at h
 |b::l,c::m,h,k=>by
  rw[qbw,qbw]at k;have e:=qlo b;have f:=qlo c;have a:b.toNat=c.toNat:=by omega
  have d:jY l=jY m:=by omega
  rw[UInt8.toNat_inj.1 a,pack_inj (by simpa using h) d]
theorem qrk:∀ l m:List UInt8,jY (l++m)=jY l+256 ^ l.length*jY m
 | [],m=>by simp[qoc]
 |b::l,m=>by rw[lUS,qbw,qbw,qrk l m,lEX,Nat.pow_succ,lOS,Nat.mul_assoc,Nat.mul_assoc,lXS (jY m) 256];omega
theorem qrj:∀(l:List UInt8) (k:Nat),jY (l.drop k)=jY l / 256 ^ k
 |l,0=>by simp
 | [],k+1=>by simp[qoc]
 |b::l,k+1=>by have:=qlo b;rw[List.drop_succ_cons,qrj l k,qbw,Nat.pow_succ,lXS (256 ^ k) 256,<-Nat.div_div_eq_div_mul];congr 1;omega
theorem q2n:∀(l:List UInt8) (k:Nat),jY (l.take k)=jY l%256 ^ k
 |l,0=>by simp[qoc,Nat.mod_one]
 | [],k+1=>by simp[qoc]
 |b::l,k+1=>by have:=qlo b;rw[lUP,qbw,qbw,q2n l k,Nat.pow_succ,lXS (256 ^ k) 256,Nat.mod_mul,show(jY l*256+b.toNat) / 256=jY l by omega,show(jY l*256+b.toNat)%256=b.toNat by omega];omega
theorem zpq(k:Nat):256 ^ k=2 ^ (8*k):=by rw[Nat.pow_mul]
theorem q8m(x:Nat):Nat.land x 255=x%256:=by have:=Nat.and_two_pow_sub_one_eq_mod x 8;omega
theorem aED(x k:Nat):Nat.shiftRight x (Nat.mul 8 k)=x / 256 ^ k:=by have:=Nat.shiftRight_eq_div_pow x (8*k);rw[zpq];exact this
theorem aLl(x k:Nat):Nat.shiftLeft x (Nat.mul 8 k)=256 ^ k*x:=by have:=Nat.shiftLeft_eq x (8*k);rw[zpq,lXS];exact this
theorem aPI(x k:Nat):Nat.land x (Nat.sub (Nat.shiftLeft 1 (Nat.mul 8 k)) 1)=x%256 ^ k:=by rw[aLl,lI1,zpq];simp
theorem q34(l:List UInt8)(i:Nat)(h:i<l.length):qsg (jY l) i=(l[i]).toNat:=by unfold qsg;rw[q8m,aED,<-qrj,lIU h,qbw];simp
theorem qeu.eq{n a m b:Nat}{s t:ByteArray}(h:qeu n a s)(k:qeu m b t):eqS n a m b=(s.data.toList==t.data.toList):=by obtain⟨rfl,rfl⟩:=h;obtain⟨rfl,rfl⟩:=k;unfold eqS;rw[Bool.eq_iff_iff];simp only[lI0,Nat.beq_eq,beq_iff_eq];exact⟨fun⟨c,d⟩=>pack_inj c d,fun h=>by rw[h];exact⟨rfl,rfl⟩⟩
theorem qeu.append{n a m b:Nat}{s t:ByteArray}(h:qeu n a s)(k:qeu m b t):qeu (n+m) (Nat.add a (Nat.shiftLeft b (Nat.mul 8 n))) (s++t):=by
 obtain⟨rfl,rfl⟩:=h;obtain⟨rfl,rfl⟩:=k;have e:(s++t).data.toList=s.data.toList++t.data.toList:=by simp
 exact⟨by rw[e,lEP],by rw[e,qrk,aLl];rfl⟩
theorem zqk:∀(l m:List UInt8),qew l.length l.length (jY l) m.length (jY m)=Op.bytesLess l m
 | [],[]=>rfl
 | [],c::m=>by simp[qew,Op.bytesLess];rfl
 |b::l,[]=>by simp[qew,Op.bytesLess]
 |b::l,c::m=>by
  have ih:=zqk l m;have n:=qlo b;have o:=qlo c;have g:Nat.land (jY (b::l)) 255=b.toNat:=by rw[q8m,qbw];omega
  have h:Nat.land (jY (c::m)) 255=c.toNat:=by rw[q8m,qbw];omega
  have i:Nat.shiftRight (jY (b::l)) 8=jY l:=by have:=aED (jY (b::l)) 1;rw[this,qbw];omega
  have j:Nat.shiftRight (jY (c::m)) 8=jY m:=by have:=aED (jY (c::m)) 1;rw[this,qbw];omega
  show(bif Nat.beq (m.length+1) 0 then false else bif Nat.beq (l.length+1) 0 then true else
   bif Nat.beq (Nat.land (jY (b::l)) 255) (Nat.land (jY (c::m)) 255)then qew l.length (Nat.pred (l.length+1)) (Nat.shiftRight (jY (b::l)) 8) (Nat.pred (m.length+1)) (Nat.shiftRight (jY (c::m)) 8)
   else Nat.blt (Nat.land (jY (b::l)) 255) (Nat.land (jY (c::m)) 255))=_
  rw[g,h,i,j];simp only[Nat.pred_succ,Op.bytesLess,ih];have d:∀ k,Nat.beq (k+1) 0=false:=fun _=>rfl;rw[d,d,lOZ,lOZ];cases a:Nat.beq b.toNat c.toNat with
  |true=>have e:=UInt8.toNat_inj.1 (yG a);subst e;simp
  |false=>
   have e:b≠c:=fun e=>q85 a (by rw[e]);cases f:Nat.blt b.toNat c.toNat with
   |true=>have:=xA f;simp[UInt8.lt_iff_toNat_lt,this]
   |false=>have:=zge f;simp[UInt8.lt_iff_toNat_lt,this,e]
theorem qeu.less{n a m b:Nat}{s t:ByteArray}(h:qeu n a s)(k:qeu m b t):qew n n a m b=Op.bytesLess s.data.toList t.data.toList:=by obtain⟨rfl,rfl⟩:=h;obtain⟨rfl,rfl⟩:=k;exact zqk _ _
theorem zpa{n a:Nat}{s:ByteArray}(h:qeu n a s):aR ι (.str n a) (.string s):=by simp only[aR];exact⟨s,rfl,h⟩
theorem zxr{c:BinOp}{t ty:TypeId}{x y:Operand}(q:o.op=.binOp c t x y ty)(h:LR ι d n L a.tmps):iX P o a.eval ι w nm (gN (nC c).f ((aJ d n x).f L) ((aJ d n y).f L)):=by
 have g:=gJ h x;have i:=gJ h y;unfold gN;split
 ·rename_i m A p B k l;rw[k]at g;rw[l]at i;simp only[aR]at g i;obtain⟨s,r,e⟩:=g;obtain⟨u,z,f⟩:=i;have j:(execOp a.eval o).run P w=((binOp c t (.string s) (.string u)).run P w).andThen fun v w=>.ok (.value v) w:=by
   simp only[execOp,q,r,z,eqGuard];simp
  cases c<;>simp only[nC]<;>first|trivial|skip
  case add=>
   cases b:Nat.ble (m+p) 1099511627776 with
   |false=>trivial
   |true=>
    have b:=pM b;refine⟨_,?_,zpa (e.append f)⟩;rw[j];have k:s.size=m:=e.1;have l:u.size=p:=f.1;have:¬(((s.size+u.size:Nat):Int)>IntKind.i64.max):=by
     have:IntKind.i64.max=9223372036854775807:=by decide
     omega
    simp only[binOp,Op.stringOp,lEU this,Sem.run_pure,Result.andThen_ok]
  all_goals
   refine⟨_,?_,qy2 _⟩;rw[j];simp[binOp,Op.stringOp,qgl,e.eq f,e.less f]
 ·trivial
theorem zxv{t:TypeId}{x y:Operand}(g:o.op=.index t x y)(i:P.underlying t=some .string)(h:LR ι d n L a.tmps):iX P o a.eval ι w nm (zde ((aJ d n x).f L) ((aJ d n y).f L)):=by
 have b:=gJ h x;have c:=gJ h y;unfold zde;split
 ·rename_i f B k j q r;rw[q]at b;rw[r]at c;simp only[aR]at b c;obtain⟨s,u,v,z⟩:=b;cases A:Nat.blt j f with
  |false=>trivial
  |true=>
   have l:=xA A;have e:j<s.data.toList.length:=by omega
   refine⟨_,?_,zP _ _⟩;have m:s.size=f:=v;have p:s[j]? =some (s.data.toList[j]):=by
    have:j<s.size:=by omega
    rw[getElem?_pos s j this];simp;rfl
   rw[<-z,q34 _ _ e];simp[execOp,g,Instr.index,u,c,asIntOf,dZ i,p]
 ·trivial
def aAx(ι:Im):Option AV->Option Value->Prop
 |none,none=>True
 |some a,some v=>aR ι a v
 |_,_=>False
theorem qf1(h:LR ι d n L a.tmps)(x:Option Operand):aAx ι ((ql5 d n x).f L) (x.map a.eval):=by
 cases x with
 |none=>simp[ql5,aAx]
 |some x=>simp only[ql5,lY0,aAx];exact gJ h x
theorem q38{x:AV}{X:Value}(d:aR ι x X){f y k Y:Nat}(h:bnd (some x) f y=some k)(g:y<=Y)(c:BoundsCode):(Instr.sliceBound X Y c).run P w=.ok k w/\k<=y:=by
 unfold bnd at h;split at h
 ·simp_all
 ·rename_i i m e;cases e;cases b:Nat.ble m y with
  |false=>rw[b]at h;cases h
  |true=>
   rw[b]at h;simp only[lII,lI4]at h;subst h;have:=pM b;have a:(m:Int)<=Y:=by omega
   subst d;exact⟨by simp[Instr.sliceBound,asIntOf,a],this⟩
 ·cases h
theorem qsh{lo g j:Option AV}{b i m:Option Value}(k:aAx ι lo b)(n:aAx ι g i)(p:aAx ι j m){len a C:Nat}{d:Bd}(h:bounds len a lo g j=some d)(u:a<=C)(q:len<=a)(e:Bool):(Instr.sliceBounds e len C b i m).run P w=.ok (d.l,d.h,if j.isSome then d.m else C) w/\d.l<=d.h/\d.h<=d.m/\d.m<=a/\(j=none->d.m=a):=by
 cases j with
 |none=>
  cases m with
  |some _=>exact p.elim
  |none=>
   unfold bounds at h;have y:bnd none a a=some a:=rfl;rw[y]at h;simp only at h;cases f:bnd g len a with
   |none=>rw[f]at h;cases h
   |some hh'=>
    rw[f]at h;simp only at h;cases c:bnd lo 0 hh' with
    |none=>rw[c]at h;cases h
    |some ll=>
     rw[c]at h;simp only[lI4]at h;subst h;have r:hh'<=a/\(Instr.sliceBounds e len C b i none).run P w=((match b with|some v=>Instr.sliceBound v hh' .sliceB|none=>pure 0).run P w).andThen fun l w=>.ok (l,hh',C) w:=by
      cases g with
      |none=>
       cases i with
       |some _=>exact n.elim
       |none=>simp only[bnd,lI4]at f;subst f;refine⟨q,?_⟩;cases b<;>simp[Instr.sliceBounds]
      |some g=>
       cases i with
       |none=>exact n.elim
       |some i=>obtain⟨o,s⟩:=q38 (P:=P) (w:=w) (ι:=ι) n f u (if e then .sliceAcap else .sliceAlen);refine⟨s,?_⟩;cases b<;>simp[Instr.sliceBounds,o]
     rw[r.2];cases lo with
     |none=>
      cases b with
      |some _=>exact k.elim
      |none=>simp only[bnd,lI4]at c;subst c;simp;omega
     |some lo=>
      cases b with
      |none=>exact k.elim
      |some b=>obtain⟨o,s⟩:=q38 (P:=P) (w:=w) (ι:=ι) k c (lEO _) .sliceB;simp_all
 |some j=>
  cases m with
  |none=>exact p.elim
  |some m=>
   cases g with
   |none=>simp[bounds]at h
   |some g=>
    cases i with
    |none=>exact n.elim
    |some i=>
     unfold bounds at h;cases t:bnd (some j) a a with
     |none=>rw[t]at h;cases h
     |some mm=>
      rw[t]at h;simp only at h;cases f:bnd (some g) len mm with
      |none=>rw[f]at h;cases h
      |some hh'=>
       rw[f]at h;simp only at h;cases c:bnd lo 0 hh' with
       |none=>rw[c]at h;cases h
       |some ll=>
        rw[c]at h;simp only[lI4]at h;subst h;obtain⟨x,A⟩:=q38 (P:=P) (w:=w) (ι:=ι) p t u (if e then .slice3Acap else .slice3Alen);obtain⟨o,s⟩:=q38 (P:=P) (w:=w) (ι:=ι) n f (lEO _) .slice3B;cases lo with
        |none=>
         cases b with
         |some _=>exact k.elim
         |none=>simp only[bnd,lI4]at c;subst c;simp[Instr.sliceBounds,x,o];omega
        |some lo=>
         cases b with
         |none=>exact k.elim
         |some b=>obtain⟨z,B⟩:=q38 (P:=P) (w:=w) (ι:=ι) k c (lEO _) .slice3C;simp[Instr.sliceBounds,x,o,z];omega
theorem ze4{t:TypeId}{x:Operand}{lo c:Option Operand}(j:o.op=.slice t x lo c none)(k:P.underlying t=some .string)(h:LR ι d n L a.tmps):iX P o a.eval ι w nm (qyu ((aJ d n x).f L) ((ql5 d n lo).f L) ((ql5 d n c).f L)):=by
 have f:=gJ h x;unfold qyu;split
 ·rename_i m i e;rw[e]at f;simp only[aR]at f;obtain⟨s,l,p,q⟩:=f;split
  ·rename_i b u;obtain⟨r,v,y,z,A⟩:=qsh (P:=P) (w:=w) (ι:=ι) (qf1 h lo) (qf1 h c) (show aAx ι none none from trivial) u (lEO _) (lEO _) false;have g:s.size=m:=p;refine⟨.string (s.extract b.l b.h),?_,zpa ⟨?_,?_⟩⟩
   ·simp only[execOp,j,Instr.sliceAt,Sem.run_bind,dZ k,Result.andThen_ok,Instr.slice,l,Option.map_none,g];simp[r]
   ·have:(s.extract b.l b.h).size=min b.h s.size-b.l:=by simp
    show(s.extract b.l b.h).size=_;omega
   ·have:(s.extract b.l b.h).data.toList=(s.data.toList.drop b.l).take (b.h-b.l):=by simp
    rw[this,q2n,qrj,aPI,aED,q]
  ·trivial
 ·trivial
theorem zpj{t e:TypeId}{x:Operand}{lo y u:Option Operand}(M:o.op=.slice t x lo y u)(N:P.underlying t=some (.slice e)){z:Nat}(O:iM P e=some z)(h:LR ι d n L a.tmps):iX P o a.eval ι w nm (lC z ((aJ d n x).f L) ((ql5 d n lo).f L) ((ql5 d n y).f L) ((ql5 d n u).f L)):=by
 have s:=gJ h x;have H:=qf1 h lo;have p:=qf1 h y;have I:=qf1 h u;have v:∀(b:Option Addr) (len C l p m:Nat),a.eval x=.slice b len C->(Instr.sliceBounds true len C (lo.map a.eval) (y.map a.eval) (u.map a.eval)).run P w=.ok (l,p,m) w ->
   (execOp a.eval o).run P w=.ok (.value (.slice (if m=l then b else b.map (·.add (l*z))) (p-l) (m-l))) w:=fun b len C l p m q B=>by
  simp[execOp,M,Instr.sliceAt,dZ N,Instr.slice,q,B,qA O]
 unfold lC;split
 ·rename_i E;rw[E]at s;simp only[aR]at s;split
  ·rename_i f F;obtain⟨r,S,A,T,J⟩:=qsh (P:=P) (w:=w) (ι:=ι) H p I F (lEO _) (lEO _) true;refine⟨.slice none 0 0,?_,by simp only[aR]⟩;rw[v _ _ _ _ _ _ s r];simp_all
  ·trivial
 ·rename_i b i len j K E;rw[E]at s;simp only[aR]at s;obtain⟨G,l,q,B⟩:=s;split
  ·rename_i f F;have Q:j<=(if K=true then j else j+l.ext):=by split<;>omega
   obtain⟨r,S,A,T,J⟩:=qsh (P:=P) (w:=w) (ι:=ι) H p I F Q G true;have g:=v _ _ _ _ _ _ B r;simp only[lY0,addr_add]at g;unfold jF;cases k:(ql5 d n u).f L with
   |some mv=>
    simp only[k,Option.isSome_some,lU8]at g;cases c:Nat.beq f.m f.l with
    |true=>have:=yG c;refine⟨_,g,?_⟩;simp only[aR];refine⟨lEO _,l,q,?_⟩;rw[lEZ this,show f.h-f.l=0 by omega,show f.m-f.l=0 by omega];simp
    |false=>have:=q85 c;refine⟨_,g,?_⟩;refine⟨Nat.sub_le_sub_right A _,l,q,?_⟩;rw[lEU this];simp[lIP]
   |none=>
    have D:=J k;simp only[k,Option.isSome_none,lUE,lX7]at g;cases K with
    |true=>
     simp only[lU8]at g;cases c:Nat.beq f.m f.l with
     |true=>have:=yG c;refine⟨_,g,?_⟩;simp only[aR];simp_all
     |false=>have:=q85 c;refine⟨_,g,?_⟩;refine⟨Nat.sub_le_sub_right A _,l,q,?_⟩;rw[lEU (by omega)];simp[lIP,D]
    |false=>
     simp only[lUE,lX7]at g;cases c:Nat.beq f.m f.l with
     |true=>
      have:=yG c;refine⟨_,g,?_⟩;rw[show f.h-f.l=0 by omega];split
      ·exact⟨_,_,rfl⟩
      ·exact⟨_,_,rfl⟩
     |false=>
      have:=q85 c;refine⟨_,g,?_⟩;refine⟨Nat.sub_le_sub_right A _,l,q,?_⟩;rw[lEU (by omega)];have R:j+l.ext-f.l=f.m-f.l+l.ext:=by omega
      simp[lIP,R]
  ·trivial
 ·trivial
end Go.Ev
end
noncomputable section
namespace Go.Ev
open Go.RowKit
variable {P:Program} {ι:Im} {o:Oper} {a:Act} {nm:Nat} {d n:Nat} {L:TT AV d} {H:Hp}
theorem qlc{t:TypeId}{xs:List AV}{b:List Value}(d:aL ι xs b)(e:∀ v∈b,v.oneCell=true){a:Nat}{v:AV}(h:(ql4 P t).f xs a=some v):∃V,(∀w,(part t b.toArray a).run P w=.ok V w)/\aR ι v V:=by
 unfold ql4 at h;split at h
 ·rename_i k c g;simp only[lI4]at h;subst h;refine⟨.agg (b.toArray.extract a (a+k)),fun w=>?_,?_⟩
  ·simp[part,qfz c,qA g]
  ·simp only[aR];refine⟨(b.drop a).take k,(d.drop a).take k,?_,fun v f=>e v (lXV (lUG f))⟩;simp
 ·rename_i c;obtain⟨V,i,j⟩:=d.get a v h;exact⟨V,fun w=>by simp[part,qfz c,i],j⟩
 ·cases h
def aIB(P:Program)(ι:Im)(D:Nat)(t:TypeId)(e:E2):Prop:=
 ∀x y X Y b,e.f x y=some b->aR ι x X->aR ι y Y->∀ D',D<=D'->∀ w,(Op.equalIn D' t X Y).run P w=.ok b w
theorem qdw{l:List AV}{X:Value}(h:aR ι (.agg l) X):∃ vs,aL ι l vs/\X=.agg vs.toArray/\∀ v∈vs,v.oneCell=true:=by simpa only[aR] using h
theorem zfu{D g:Nat}(u:D<=g){e:TypeId}{p:P1}{q:E2}(x:p=ql4 P e)(y:aIB P ι D e q){xs o:List AV}{l m:List Value}(C:aL ι xs l)(E:aL ι o m)(F:∀ v∈l,v.oneCell=true)(G:∀ v∈m,v.oneCell=true)(z:Nat):∀(k i:Nat) (b:Bool),xH p q z xs o k i=some b->∀ w, ∃r:Option Bool×Unit,(forIn (List.range' i k) ((none,()):Option Bool×Unit) fun j _=>do
    let a<-part e l.toArray (j*z)
    let c<-part e m.toArray (j*z)
    let t<-Op.equalIn g e a c
    if(!t)=true then pure (ForInStep.done (some false,()))else pure (ForInStep.yield (none,()))).run P w=.ok r w/\(b=true->r.fst=none)/\(b=false->r.fst=some false):=by
 intro k
 induction k with
 |zero=>intro i b h w;simp only[xH,lI4]at h;subst h;exact⟨(none,()),by simp,by simp,by simp⟩
 |succ k ih=>
  intro i b h w;simp only[xH]at h;unfold andThen at h;have f:∀ t:Bool,qv4 p q xs o (i*z)=some t->∃ A B,(∀w,(part e l.toArray (i*z)).run P w=.ok A w)/\(∀w,(part e m.toArray (i*z)).run P w=.ok B w)/\∀ w,(Op.equalIn g e A B).run P w=.ok t w:=by
   intro t n;unfold qv4 at n;split at n
   ·rename_i a c d s;rw[x]at d s;obtain⟨A,H,I⟩:=qlc C F d;obtain⟨B,J,K⟩:=qlc E G s;exact⟨A,B,H,J,y _ _ _ _ _ n I K g u⟩
   ·cases n
  split at h
  ·rename_i d;obtain⟨A,B,L,M,N⟩:=f _ d;obtain⟨r,Q,O⟩:=ih (i+1) b h w;refine⟨r,?_,O⟩;rw[List.range'_succ,List.forIn_cons];simp_all
  ·rename_i d;simp only[lI4]at h;subst h;obtain⟨A,B,L,M,N⟩:=f _ d;refine⟨(some false,()),?_,by simp,by simp⟩;rw[List.range'_succ,List.forIn_cons];simp_all
  ·cases h
theorem q8y{D D':Nat}(hD:D<=D'){xs ys:List AV}{XS YS:List Value}(hx:aL ι xs XS)(hy:aL ι ys YS)(h1:∀ v∈XS,v.oneCell=true)(h2:∀ v∈YS,v.oneCell=true)(q:TypeId->E2):∀(fs:List Field),(∀f∈fs,aIB P ι D f.type (q f.type))->∀ b,
  eqFields ((fs.filter fun f=>f.name != "_").map fun f=>(ql4 P f.type,q f.type,f.offset)) xs ys=some b->∀ w,
  (Op.eqFields D' XS.toArray YS.toArray fs).run P w=.ok b w:=by
 intro fs
 induction fs with
 |nil=>intro _ b h w;simp[eqFields]at h;subst h;simp[Op.eqFields]
 |cons f fs ih=>
  intro hq b h w;have ihf:=ih (fun g hg=>hq g (by simp[hg]));unfold Op.eqFields
  by_cases hn:f.name = "_"
  ·simp_all
  ·have hb:(f.name != "_")=true:=by simp[hn]
   rw[List.filter_cons_of_pos (by simpa using hb),lUJ]at h;rw[lEZ hn];unfold eqFields at h;rw[List.foldr_cons]at h;unfold andThen at h;have key:∀ t:Bool,qv4 (ql4 P f.type) (q f.type) xs ys f.offset=some t->∃ A B,(∀w,(part f.type XS.toArray f.offset).run P w=.ok A w)/\(∀w,(part f.type YS.toArray f.offset).run P w=.ok B w)/\∀ w,(Op.equalIn D' f.type A B).run P w=.ok t w:=by
    intro t ht;unfold qv4 at ht;split at ht
    ·rename_i a c e1 e2;obtain⟨A,a1,a2⟩:=qlc hx h1 e1;obtain⟨B,b1,b2⟩:=qlc hy h2 e2;exact⟨A,B,a1,b1,hq f (by simp) _ _ _ _ _ ht a2 b2 D' hD⟩
    ·cases ht
   split at h
   ·rename_i e1;obtain⟨A,B,r1,r2,r3⟩:=key _ e1;simp only[Sem.run_bind,r1,r2,r3,Result.andThen_ok,lX8,lUE,lX7];exact ihf b h w
   ·rename_i e1;obtain⟨A,B,r1,r2,r3⟩:=key _ e1;simp only[lI4]at h;subst h;simp only[Sem.run_bind,r1,r2,r3,Result.andThen_ok,lX0,lU8,Sem.run_pure]
   ·cases h
theorem z3g:∀(D:Nat) (t:TypeId),aIB P ι D t (eqT P D t):=by
 intro D
 induction D with
 |zero=>intro t x y X Y b h;simp[eqT]at h
 |succ D ih=>
  intro t x y X Y b h c d C Q w;obtain⟨E,rfl⟩:∃ E,C=E+1:=⟨C-1,by omega⟩;rw[eqT]at h;split at h
  ·rename_i a;change xQ x y=some b at h;unfold xQ at h;split at h
   ·simp only[aR]at c d;subst c d;simp only[lI4]at h;subst h;simp[Op.equalIn,dZ a]
   ·cases h
  ·rename_i a;change ql7 x y=some b at h;unfold ql7 at h;split at h
   ·rename_i k m F p;simp only[aR]at c d;subst c d;cases A:xW k F with
    |false=>rw[A]at h;cases h
    |true=>rw[A]at h;simp only[lII,lI4]at h;subst h;have:=zy5 A;subst this;simp[Op.equalIn,dZ a,qes]
   ·cases h
  ·rename_i a;change iA x y=some b at h;unfold iA at h;split at h
   ·simp only[aR]at c d;obtain⟨s,rfl,G⟩:=c;obtain⟨u,rfl,H⟩:=d;simp only[lI4]at h;subst h;rw[run_equalIn_string w E t s u a,qgl,qgl,G.eq H]
   ·cases h
  ·rename_i I a;split at h
   ·cases h
   ·rename_i J;have g:P.stoodInHeld t=false:=by simpa using J
    simp only at h;unfold kU at h;split at h
    ·rename_i xs K;obtain⟨L,i,rfl,j⟩:=qdw c;obtain⟨M,n,rfl,o⟩:=qdw d;have B:P.fieldsOf t=I:=by simp[Program.fieldsOf,a]
     rw[run_equalIn_struct w E t _ _ (by rw[B];exact a) g,B];exact q8y (by omega) i n j o (eqT P D) _ (fun f _=>ih f.type) b h w
    ·cases h
  ·rename_i len e a;split at h
   ·rename_i z N;simp only at h;unfold kU at h;split at h
    ·rename_i xs K;obtain⟨L,i,rfl,j⟩:=qdw c;obtain⟨M,n,rfl,o⟩:=qdw d;obtain⟨r,O,q,v⟩:=zfu (P:=P) (show D<=E by omega) rfl (ih e) i n j o z len 0 b h w;simp only[Op.equalIn,Sem.run_bind,dZ a,Result.andThen_ok,qA N,Std.Legacy.Range.forIn_eq_forIn_range',Std.Legacy.Range.size];simp only[Nat.sub_zero,lX3,Nat.div_one];rw[O];cases b with
     |true=>rw[Result.andThen_ok,q rfl];rfl
     |false=>rw[Result.andThen_ok,v rfl];rfl
    ·cases h
   ·cases h
  ·rename_i a;change qg3 x y=some b at h;unfold qg3 at h;split at h<;>first|(cases h;done)|skip
   all_goals (simp only[lI4]at h;subst h;simp only[aR]at c d)
   ·subst c d;simp[Op.equalIn,dZ a]
   ·obtain⟨l,_,rfl⟩:=d;subst c;simp[Op.equalIn,dZ a]
   ·obtain⟨l,_,rfl⟩:=c;subst d;simp[Op.equalIn,dZ a]
  ·rename_i a;change qQ x y=some b at h;unfold qQ at h;split at h<;>first|(cases h;done)|skip
   all_goals (simp only[lI4]at h;subst h;simp only[aR]at c d)
   ·subst c d;simp[Op.equalIn,dZ a]
   ·obtain⟨_,l,_,rfl⟩:=d;subst c;simp[Op.equalIn,dZ a]
   ·obtain⟨_,l,rfl⟩:=d;subst c;simp[Op.equalIn,dZ a]
   ·obtain⟨_,l,_,rfl⟩:=c;subst d;simp[Op.equalIn,dZ a]
   ·obtain⟨_,l,rfl⟩:=c;subst d;simp[Op.equalIn,dZ a]
  ·rename_i a;change zy4 x y=some b at h;unfold zy4 at h;split at h<;>first|(cases h;done)|skip
   all_goals (simp only[lI4]at h;subst h;simp only[aR]at c d)
   ·subst c d;simp[Op.equalIn,dZ a]
   ·obtain⟨l,_,rfl⟩:=d;subst c;simp[Op.equalIn,dZ a]
   ·obtain⟨l,_,rfl⟩:=c;subst d;simp[Op.equalIn,dZ a]
  ·rename_i a;change eqFn x y=some b at h;unfold eqFn at h;split at h<;>first|(cases h;done)|skip
   all_goals (simp only[lI4]at h;subst h;simp only[aR]at c d)
   ·subst c d;simp[Op.equalIn,dZ a]
   ·obtain⟨_,_,_,_,rfl⟩:=d;subst c;simp[Op.equalIn,dZ a]
   ·obtain⟨_,_,_,_,rfl⟩:=c;subst d;simp[Op.equalIn,dZ a]
  ·rename_i a;change aEv x y=some b at h;unfold aEv at h;split at h<;>first|(cases h;done)|skip
   all_goals (simp only[lI4]at h;subst h;simp only[aR]at c d)
   ·obtain⟨_,_,rfl⟩:=d;subst c;simp[Op.equalIn,dZ a]
   ·obtain⟨_,_,rfl⟩:=c;subst d;simp[Op.equalIn,dZ a]
  ·cases h
end Go.Ev
end
noncomputable section
namespace Go.Ev
open Go.RowKit
variable {P:Program} {w:World} {ι:Im} {o:Oper} {a:Act} {nm:Nat} {d n:Nat} {L:TT AV d} {H:Hp}
/- copies of a zero value -/
theorem zo8(l:List AV):aZ l 0=[]:=rfl
theorem zo9(l:List AV)(k:Nat):aZ l (k+1)=l++aZ l k:=rfl
def gW(l:List Value):Nat->List Value
 |0=>[]
 |k+1=>l++gW l k
theorem qd2{l:List AV}{vs:List Value}(h:aL ι l vs):∀ k,aL ι (aZ l k) (gW vs k)
 |0=>by simp[zo8,gW,aL]
 |k+1=>by rw[zo9,gW];exact h.append (qd2 h k)
theorem qb2(l:List Value):∀ k,(gW l k).length=k*l.length
 |0=>by simp[gW]
 |k+1=>by rw[gW,lEP,qb2 l k,lOS];omega
theorem qgo{l:List Value}:∀{k:Nat} {v:Value},v∈gW l k->v∈l
 |0,v,h=>by simp[gW]at h
 |k+1,v,h=>by
  rw[gW,lEY]at h;rcases h with h|h
  ·exact h
  ·exact qgo h
theorem zcq(l:List Value):∀(k i:Nat),i<k*l.length->(gW l k)[i]? =l[i%l.length]?
 |0,i,h=>by simp at h
 |k+1,i,h=>by
  rw[lOS,lUB]at h;rw[gW];by_cases a:i<l.length
  ·rw[lIO a,Nat.mod_eq_of_lt a]
  ·rw[lIJ (by omega),zcq l k (i-l.length) (by omega)];congr 1;rw[<-Nat.mod_eq_sub_mod (by omega)]
theorem range_zero(Z:Array Value)(k s:Nat)(a:Z.size=s):(Array.range (k*s)).map (fun i=>Z[i%Z.size]!)=(gW Z.toList k).toArray:=by
 apply Array.ext';apply List.ext_getElem?;intro i;have d:(gW Z.toList k).toArray.toList=gW Z.toList k:=by simp
 by_cases c:i<k*s
 ·have e:Z.toList.length=s:=by simpa using a
  rw[d,zcq _ _ _ (by rw[e];exact c),e];have b:0<s:=by
   rcases lXL s with h|h
   ·simp[h]at c
   ·exact h
  have f:i%s<Z.size:=by rw[a];exact lOK _ b
  simp_all
 ·rw[lUM (by simpa using c),lUM (by rw[d,qb2];simp[a];omega)]
theorem zpi(b:Nat):(askRoom b).run P w=.ok () w:=by simp
theorem zxs{t e:TypeId}{x y:Operand}(J:o.op=.makeSlice t x y)(K:P.underlying t=some (.slice e)){z:List AV}(M:qkg P e=some z){b s:Nat}(N:qkb P e=some b)(O:iM P e=some s)(k:z.length=s)(h:LR ι d n L a.tmps):iX P o a.eval ι w nm (qer z b nm ((aJ d n x).f L) ((aJ d n y).f L)):=by
 have l:=gJ h x;have m:=gJ h y;unfold qer;split
 ·rename_i Z p k2 q V W;rw[V]at l;rw[W]at m;simp only[aR]at l m;cases I:(Nat.ble p q&&Nat.ble (Nat.mul q b) gM&&Nat.ble q gM)with
  |false=>trivial
  |true=>
   simp only[lI0]at I;obtain⟨⟨r,E⟩,F⟩:=I;have r:=pM r;have E:q*b<=1099511627776:=pM E;have F:q<=1099511627776:=pM F;obtain⟨j,X,H,Y⟩:=qci (ι:=ι) M;obtain⟨ti,A,B⟩:=qy5 (P:=P) N;have f:j.cells.toList.length=s:=by rw[H.length,k]
   have w1:IntKind.i64.wrap (p:Int)=p:=IntWalk.i64_in _ (by omega);have S:IntKind.i64.wrap (q:Int)=q:=IntWalk.i64_in _ (by omega);have G:(ti.bytes:Int)*(q:Int)<=281474976710656:=by
    rw[B];have:((b*q:Nat):Int)<=281474976710656:=by rw[lXS];omega
    omega
   refine⟨.slice (some ⟨w.heap.size,0,none⟩) p q,w.alloc (.cells (gW j.cells.toList q).toArray e),⟨w.heap.size,0,0,0⟩,?_,New.alloc w _ 0 0,fun Q c D=>⟨?_,qf4 (qd2 H q) (fun v R=>Y v (qgo R)) e nm 0 Q c D⟩⟩
   ·have u:¬((p:Int)<0):=by omega
    have g:¬((q:Int)<0):=by omega
    have c:¬((q:Int)<p):=by omega
    have i:¬((ti.bytes:Int)*(q:Int)>2 ^ 48):=by omega
    simp only[execOp,J,Instr.makeSlice,Sem.run_bind,dZ K,Result.andThen_ok,l,m,asInt,asIntOf,Sem.run_pure,A,lIA,w1,S];simp only[u,g,c,i,decide_false,Bool.or_false,lUE,lX7,gt_iff_lt,Sem.run_pure,Result.andThen_ok,Int.toNat_natCast,Sem.run_bind,zpi,qA O,Sem.run_ite];by_cases C:q*s=0
    ·have T:(gW j.cells.toList q)=[]:=lIG.1 (by rw[qb2,f,C]);have U:Array.map (fun _:Nat=>(default:Value)) (Array.range 0)= #[]:=by apply Array.ext';simp
     simp[C,T,newRow,U]
    ·simp only[C,lX7,qc8 X,Result.andThen_ok];rw[range_zero j.cells q s (by simpa using f)];rfl
   ·simp only[aR];exact⟨r,_,D,by simp⟩
 ·trivial
/- aggregates: parts laid in -/
theorem zf4{v:AV}{V:Value}(h:aR ι v V){l:List AV}(a:wX v=some l):aL ι l V.cells.toList/\∀ x∈V.cells.toList,x.oneCell=true:=by
 unfold wX at a;split at a
 ·simp only[lI4]at a;subst a;obtain⟨vs,b,rfl,i⟩:=qdw h;trivial
 ·cases a
 ·cases a
 ·cases a
 ·rename_i d e j f;simp only[lI4]at a;subst a;have c:v.plain=true:=by
   unfold AV.plain;split
   ·simp_all
   ·simp_all
   ·trivial
   ·simp_all
   ·rfl
  obtain⟨b,g⟩:=h.one c;rw[g];exact⟨aL.singleton h,by simpa using b⟩
theorem zyy:∀(l:List Value) (C:Array Value) (a k:Nat),a+k+l.length<=C.size -> ((l.zipIdx k).foldl (fun cs (x:Value×Nat)=>cs.setIfInBounds (a+x.2) x.1) C).toList=C.toList.take (a+k)++l++C.toList.drop (a+k+l.length):=by
 intro l
 induction l with
 |nil=>intro C a k h;simp
 |cons v l ih=>
  intro C a k h;rw[lEX]at h;rw[List.zipIdx_cons,List.foldl_cons,ih _ _ _ (by simp;omega)];simp only[Array.toList_setIfInBounds,lEX];have b:a+k<C.toList.length:=by simp;omega
  rw[List.drop_set_of_lt (by omega),show a+(k+1)=(a+k)+1 by omega,lER (by simpa using b)];rw[List.take_set_of_le (lEO _)];simp only[List.getElem_set_self,lI5,lUS,lOX];rw[show a+k+1+l.length=a+k+(l.length+1)by omega]
theorem zev{c:List AV}{C:Array Value}(e:aL ι c C.toList)(f:∀ v∈C.toList,v.oneCell=true){v:AV}{V:Value}(k:aR ι v V){l g:List AV}(m:wX v=some l){a size:Nat}(h:qq3 c a size l=some g):V.cells.size=size/\a+V.cells.size<=C.size/\aL ι g (V.cells.zipIdx.foldl (fun cs (x:Value×Nat)=>cs.setIfInBounds (a+x.2) x.1) C).toList /\ (∀x∈(V.cells.zipIdx.foldl (fun cs (x:Value×Nat)=>cs.setIfInBounds (a+x.2) x.1) C).toList,x.oneCell=true):=by
 obtain⟨j,p⟩:=zf4 k m;unfold qq3 at h;cases d:(Nat.beq l.length size&&Nat.ble (a+size) c.length)with
 |false=>rw[d]at h;cases h
 |true=>
  rw[d]at h;simp only[lII,lI4]at h;subst h;simp only[lI0]at d;have n:=yG d.1;have q:=pM d.2;have i:V.cells.size=size:=by have:=j.length;simpa [n] using this
  have r:C.size=c.length:=by simpa using e.length
  have o:(V.cells.zipIdx.foldl (fun cs (x:Value×Nat)=>cs.setIfInBounds (a+x.2) x.1) C).toList=C.toList.take a++V.cells.toList++C.toList.drop (a+size):=by rw[<-Array.foldl_toList,Array.toList_zipIdx,zyy _ _ _ _ (by simp;omega)];simp[i]
  rw[o];refine⟨i,by omega,(((e.take a).append j).append (e.drop (a+size))),fun x b=>?_⟩;simp only[lEY]at b;rcases b with(b|b)|b
  ·exact f x (lUG b)
  ·exact p x b
  ·exact f x (lXV b)
def aCQ(ι:Im)(place:Nat->Option (Nat×Nat)):List (Nat×Nat×AV)->List (Nat×Value)->Prop
 | [],ps=>ps=[]
 |(off,size,v)::l,ps=>∃ i V r,ps=(i,V)::r/\place i=some (off,size)/\aR ι v V/\aCQ ι place l r
theorem qjy(h:LR ι d n L a.tmps)(b:Nat->Option (Nat×Nat)):∀(ps:List (Nat×Operand)) (r:RdP d),qsx d n b ps=some r->aCQ ι b (r.f L) (ps.map fun(i,x)=>(i,a.eval x))
 | [],r,hr=>by simp only[qsx,lI4]at hr;subst hr;simp[aCQ]
 |(i,x)::ps,r,hr=>by
  simp only[qsx]at hr;split at hr
  ·rename_i c size g k e f j;simp only[lI4]at hr;subst hr;refine⟨i,a.eval x,_,rfl,e,?_,?_⟩
   ·have:=gJ h x;rw[f]at this;exact this
   ·exact qjy h b ps _ j
  ·cases hr
theorem qex{a:Nat->Option (Nat×Nat)}:∀{l:List (Nat×Nat×AV)} {ps:List (Nat×Value)} {c d:List AV} {C:Array Value},aCQ ι a l ps->aL ι c C.toList->(∀v∈C.toList,v.oneCell=true)->cB c l=some d -> ∃b,Instr.fill a C ps=some b/\aL ι d b.toList/\∀ v∈b.toList,v.oneCell=true
 | [],ps,c,d,C,hp,hc,h1,h=>by simp only[aCQ]at hp;subst hp;simp only[cB,lI4]at h;subst h;exact⟨C,rfl,hc,h1⟩
 |(off,size,v)::l,ps,c,d,C,hp,hc,h1,h=>by
  obtain⟨i,V,r,rfl,e,j,k⟩:=hp;simp only[cB]at h;split at h
  ·rename_i lv f;split at h
   ·rename_i q g;obtain⟨s,t,m,n⟩:=zev hc h1 j f g;obtain⟨b,u,o,p⟩:=qex k m n h;refine⟨b,?_,o,p⟩;simp only[Instr.fill,e];simp_all
   ·cases h
  ·cases h
theorem zxx{t e:TypeId}{ps:Array (Nat×Operand)}(b:o.op=.build t ps){len:Nat}(f:P.underlying t=some (.array len e)){z:List AV}(g:qkg P t=some z){s:Nat}(j:iM P e=some s){r:RdP d}(k:qsx d n (fun i=>some (i*s,s)) ps.toList=some r)(h:LR ι d n L a.tmps):iX P o a.eval ι w nm (bY (cB z (r.f L))):=by
 obtain⟨A,l,m,p⟩:=qci (ι:=ι) g;cases y:cB z (r.f L)with
 |none=>trivial
 |some c=>obtain⟨q,u,v,x⟩:=qex (qjy h _ _ _ k) m p y;refine⟨.agg q,?_,by simp only[aR];exact⟨_,v,by simp,x⟩⟩;simp only[execOp,b,Instr.build,Sem.run_bind,qc8 l,Result.andThen_ok,dZ f,qA j,lUZ,u];rfl
theorem qq7(b:List Field)(h:∀ f∈b,(iM P f.type).isSome=true):∀(a:Array (Nat×Nat)), (List.foldlM (fun(c:Array (Nat×Nat)) (f:Field)=>do let y<-(do pure (f.offset,<-sizeOf f.type):Sem (Nat×Nat));pure (c.push y)) a b).run P w =
   .ok (a++(b.map fun f=>(f.offset,(iM P f.type).getD 0)).toArray) w:=by
 induction b with
 |nil=>intro a;simp
 |cons f b ih=>intro a;obtain⟨s,d⟩:=lXF.1 (h f (by simp));rw[List.foldlM_cons];simp only[Sem.run_bind,qA d,Result.andThen_ok,Sem.run_pure];simp_all
theorem zxw{t:TypeId}{ps:Array (Nat×Operand)}(l:o.op=.build t ps){b:Array Field}(m:P.underlying t=some (.struct b)){z:List AV}(p:qkg P t=some z)(j:b.toList.all (fun f=>(iM P f.type).isSome)=true){r:RdP d}(q:qsx d n (qfa P b) ps.toList=some r)(h:LR ι d n L a.tmps):iX P o a.eval ι w nm (bY (cB z (r.f L))):=by
 obtain⟨G,x,y,A⟩:=qci (ι:=ι) p;cases F:cB z (r.f L)with
 |none=>trivial
 |some c=>
  have e:∀ f∈b.toList,(iM P f.type).isSome=true:=fun f k=>lOQ.1 j f k;obtain⟨B,H,C,D⟩:=qex (qjy h _ _ _ q) y A F;refine⟨.agg B,?_,by simp only[aR];exact⟨_,C,by simp,D⟩⟩;have u:(fun i=>(b.map fun f=>(f.offset,(iM P f.type).getD 0))[i]?)=qfa P b:=by
   funext i;unfold qfa;rw[Array.getElem?_map];cases k:b[i]? with
   |none=>rfl
   |some f=>
    have v:f∈b.toList:=by simpa using Array.mem_of_getElem? k
    obtain⟨s,E⟩:=lXF.1 (e f v);simp[E]
  have g:(b.mapM fun f=>(do pure (f.offset,<-sizeOf f.type):Sem (Nat×Nat))).run P w=.ok (b.map fun f=>(f.offset,(iM P f.type).getD 0)) w:=by rw[Array.mapM_eq_foldlM,<-Array.foldlM_toList];have:=qq7 (P:=P) (w:=w) b.toList e #[];simp only[bind_pure_comp]at this ⊢;rw[this];congr 1;apply Array.ext';simp
  simp only[execOp,l,Instr.build,Sem.run_bind,qc8 x,Result.andThen_ok,dZ m,g,lUZ];simp_all
end Go.Ev
end
